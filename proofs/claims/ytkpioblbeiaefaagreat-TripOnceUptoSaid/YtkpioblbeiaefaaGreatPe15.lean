/- Part 15 of the lemmas below the statements of this seat: TollAllL, TollSpan, R21B, R21C, R21W, AbsStr, SortLay. -/
import Derived.Test.YtkpioblbeiaefaaGreatPe14
import Derived.Shelf.SortM.Plain
import Derived.Shelf.SortM.SortNone
set_option linter.unusedSectionVars false
set_option linter.unusedVariables false
set_option linter.unusedSimpArgs false
set_option linter.unnecessarySimpa false
set_option maxRecDepth 100000
section
namespace Go.Toll
open Go Go.Abs
section
variable {α : Type} {lt : α → α → Bool}
theorem Kq (o:SWO lt)(p:α→Bool)(l:List α):(aP lt l).filter p=aP lt (l.filter p):=by
 refine uZ.eq o ⟨List.Pairwise.sublist List.filter_sublist (ib o l),fun a=> ?_⟩;have h:=(dO o l).2 a;rw [List.filter_filter,List.filter_filter];have e: ∀z:List α,z.filter (fun x=>gK lt a x && p x)=(z.filter (gK lt a)).filter p:=fun z=>by
  rw [List.filter_filter];exact List.filter_congr fun x _=>Bool.and_comm _ _
 rw [e,e,h]
theorem xy (o:SWO lt)(p:α→Bool)(l:List α):((aP lt l).filter p).length=(l.filter p).length:=by rw [Kq o,bq]
theorem jw (f:α→Bytes)(a:Bytes): ∀l:List α,(l.map f).count a=(l.filter fun x=>decide (f x=a)).length
 | []=>by simp
 | x::l=>by
  have ih:=jw f a l;by_cases c:f x=a
  ·simp [c,ih]
  ·simp [c,ih]
theorem ym (o:SWO lt)(f:α→Bytes)(a:Bytes)(l:List α):((aP lt l).map f).count a=(l.map f).count a:=by
 rw [jw,jw,xy o]
theorem Kr (o:SWO lt)(f:α→List Bytes)(a:Bytes)(l:List α):((aP lt l).flatMap f).count a=(l.flatMap f).count a:=by
 have key: ∀r acc:List α,((r.foldl (fun acc x=>iL lt x acc) acc).flatMap f).count a=(acc.flatMap f).count a+(r.flatMap f).count a:=by
  intro r
  induction r with
  | nil=>intro acc;simp
  | cons x r ih=>
   intro acc;rw [List.foldl_cons,ih,List.flatMap_cons,List.count_append];have:((iL lt x acc).flatMap f).count a=(acc.flatMap f).count a+(f x).count a:=by
    unfold iL;have hs:=List.take_append_drop (fA lt x acc acc.length) acc;have e:(acc.flatMap f).count a=((acc.take (fA lt x acc acc.length)).flatMap f).count a+((acc.drop (fA lt x acc acc.length)).flatMap f).count a:=by
     rw [←List.count_append,←List.flatMap_append,hs]
    rw [List.flatMap_append,List.flatMap_cons,List.count_append,List.count_append,e];omega
   omega
 have:=key l [];simpa [aP] using this
end
theorem Wj:SWO fun (a b:aA)=>decide (Gy a b<0):=M5.swo
theorem Vx:SWO fun (a b:bQ)=>decide (qH a b<0):=J4.swo
theorem Vw:SWO fun (a b:mP)=>decide (zV a b<0):=J3.swo
section
variable {t : aZ} {veh v : Bytes} {cls : Bytes → Int}
end
theorem Pf {l:List aA} {p:aA} (h:p∈bT l):p∈l:=by
 have:=lU h;rw [List.take_length] at this;exact (dL _).1 this
theorem QV (l:List aA):((bT l).map (·.id)).Nodup:=H8 _
theorem vZ (l:List aA):(bT l).length≤l.length:=by
 have:=sj (fH l) (fH l).length;rw [bT];rw [fH,bq] at this ⊢;exact this
theorem Pb {l:List aA} {p:aA} (h:p∈l):p.id∈(bT l).map (·.id):=by
 have h1:p∈fH l:=(dL _).2 h;have h2:=uH (S:=fH l) (p:=p) (fH l).length;have h3:yl (fH l) (fH l).length p=true:=by
  rw [yl,List.take_length,List.any_eq_true];exact⟨p,h1,by simp⟩
 rw [h3,List.any_eq_true] at h2;obtain⟨q,hq,e⟩:=h2;exact List.mem_map.2 ⟨q,hq,by simpa using e⟩
structure uX (t:aZ)(p:aA):Prop where
 pt:aG t.net.pts p.point=true
 time:bE p.time=true
 id:p.id≠[]
 veh:p.tag≠[]∨p.plate≠[]
theorem Nc {I:List Nat} {i:Nat} (h: ∀j∈I,j<i):kK I i=[]:=by
 rw [kK,List.filter_eq_nil_iff];intro j hj;have:=h j hj;simp;omega
theorem Ps {I:List Nat} {n:Nat} (h:I.Pairwise (· < ·))(hl: ∀j∈I,j<n):(List.range n).filter (fun j=>decide (j∈I))=I:=by
 have key: ∀k i,n - i=k→((List.range n).drop i).filter (fun j=>decide (j∈I))=kK I i:=by
  intro k
  induction k with
  | zero=>intro i hi;rw [zH (by simp;omega),Nc fun j hj=>by have:=hl j hj;omega];rfl
  | succ k ih=>
   intro i hi;have hg:(List.range n)[i]? =some i:=by rw [List.getElem?_range (by omega)]
   rw [bv hg,List.filter_cons,ih (i+1) (by omega),pJ (i:=i) h];by_cases c:i∈I <;> simp [c]
 have:=key n 0 (by omega);rwa [List.drop_zero,BD] at this
theorem QI {I:List Nat} {l:List aA} (h:I.Pairwise (· < ·))(hl: ∀j∈I,j<l.length):yF I l l.length=PM l I:=by
 rw [yF,Ps h hl];rfl
theorem OH (v:bg)(l:List aA):mi v l=PM l (Nu v l):=QI (KW.asc ol.1).1 ol.2.1
theorem MF (v:bg)(l:List aA):EN v (mi v l)=true:=by
 rw [OH];exact PN ol.1
theorem xV (I:List Nat)(l:List aA)(a:Bytes): ∀i:Nat,((yF I l i).map (·.id)).count a+((mF I l i).map (·.id)).count a=((l.take i).map (·.id)).count a
 | 0=>by simp [yF,mF]
 | i+1=>by
  have ih:=xV I l a i
  cases hg:l[i]? with
  | none=>
   have e1:yF I l (i+1)=yF I l i:=by rw [yF,yF,List.range_succ,List.filter_append,List.filterMap_append];by_cases c:i∈I <;> simp [c,hg]
   have e2:mF I l (i+1)=mF I l i:=by rw [mF,mF,List.range_succ,List.filter_append,List.filterMap_append];by_cases c:i∈I <;> simp [c,hg]
   rw [e1,e2,ih,zM,hg];simp
  | some p=>
   rw [G7 hg,D7 hg,zM,hg];by_cases c:i∈I
   ·rw [if_pos c,if_pos c];simp only [List.map_append,List.count_append,Option.toList_some,List.map_cons,List.map_nil];omega
   ·rw [if_neg c,if_neg c];simp only [List.map_append,List.count_append,Option.toList_some,List.map_cons,List.map_nil];omega
theorem LB {v:bg}: ∀ {l:List aA} {b:Option aA},(∀p∈l,aG v.pts p.point=true∧bE p.time=true)→EN v l=true→(∀a p,b=some a→l.head? =some p→a.time<p.time)→gZ v b l=0
 | [],_,_,_,_=>rfl
 | p::l,b,h1,h2,h3=>by
  obtain⟨q1,q2⟩:=h1 p (by simp);rw [gZ,if_neg (by simp [q1]),if_neg (by simp [q2]),if_neg]
  ·refine LB (fun x hx=>h1 x (by simp [hx])) ?_ ?_
   ·cases l with
    | nil=>rfl
    | cons x r=>rw [EN,Bool.and_eq_true] at h2;exact h2.2
   ·rintro a x ⟨⟩ hx
    cases l with
    | nil=>cases hx
    | cons y r=>
     cases hx
     rw [EN,Bool.and_eq_true] at h2;have:=h2.1;simp [fe,xO,ja] at this;exact this.1.2.2
  ·rintro⟨a,e,hle⟩;have:=h3 a p e rfl;omega
theorem Q7 {v:bg} {l:List aA} (h1: ∀p∈l,aG v.pts p.point=true∧bE p.time=true)(h2:EN v l=true)(hn:l.length≤1024):fV v l=0:=by
 rw [fV,if_neg (by omega)];exact LB h1 h2 (by rintro a p ⟨⟩)
theorem J7 (v:bg)(a p:aA):aQ (ma v a p)=[]:=by
 rw [aQ,List.map_eq_nil_iff,List.filter_eq_nil_iff];intro x hx;simp [Ug,Dm a p x hx]
theorem yc {v:bg} {l:List aA} (hid: ∀p∈l,p.id≠[]): ∀i:Nat,aQ (dS v l i)=(l.take i).map (·.id)
 | 0=>by simp [dS,aQ]
 | i+1=>by
  have ih:=yc (v:=v) hid i;have h0:aQ []=[]:=rfl;rw [dS,zM]
  cases hg:l[i]? with
  | none=>simp [ih]
  | some p=>
   have h1:aQ [mJ p]=[p.id]:=by simp [aQ,Ug,mJ,hid p (zF hg)]
   simp only;rw [sD,sD,ih,h1]
   cases i with
   | zero=>simp [h0]
   | succ j=>
    simp only;split
    ·rw [J7];simp
    ·rw [h0];simp
section
variable {t : aZ} (hz : bN t = 0)
theorem kP (hz:bN t=0):aI t=t:=by rw [aI,if_pos hz]
include hz
theorem Lh {s:Bytes} (h:aG t.net.pts s=true):kindOf t s≠0:=by
 have hv:=kP hz;have hn:=eQ t;rw [hv] at hn;rw [kindOf,hv,bS,if_pos hn]
 cases hf:t.net.pts.find? fun p=>decide (p.name=s) with
 | none=>
  obtain⟨p,hp,e⟩:=List.any_eq_true.1 h;exact absurd e (by simpa using List.find?_eq_none.1 hf p hp)
 | some p=>
  have h1:=(lJ hn p (List.mem_of_find?_eq_some hf)).2;simp;omega
theorem JA {l:List aA} (h: ∀p∈l,uX t p):iK t l=[]∧bB t l=l:=by
 constructor
 ·rw [iK,List.map_eq_nil_iff,List.filter_eq_nil_iff];intro p hp;simpa using Lh hz (h p hp).pt
 ·rw [bB,List.filter_eq_self];intro p hp;simpa using Lh hz (h p hp).pt
theorem MG {l:List aA} (h: ∀p∈l,uX t p)(hn:l.length≤1024):fV t.net (mi t.net l)=0:=
 Q7 (fun p hp=>⟨(h p (rY hp)).pt,(h p (rY hp)).time⟩) (MF _ _) (Nat.le_trans (Nat.le_trans (vP _ _ _) (Nat.le_refl _)) hn)
theorem Gu {l:List aA} (h: ∀p∈l,uX t p)(hn:l.length≤1024)(v a:Bytes):(oU (bR t l v)).count a=(l.map (·.id)).count a:=by
 obtain⟨f1,f2⟩:=JA hz h;have hk:=MG hz h hn;rw [bR,KU,kE,kP hz,f2,iD,if_neg (by simpa using hk)];simp only;rw [yc fun p hp=>(h p (rY hp)).id,List.take_length];have e:=xV (Nu t.net l) l a l.length;rw [List.take_length] at e;rw [←e];simp only [cK,f1,oU,aQ,List.nil_append,List.flatMap_nil,List.filter_nil,List.map_nil,List.count_nil];rw [fo,mi];omega
end
theorem Pg {l:List aA} {p:aA} (h:p.tag≠[]∨p.plate≠[]):bP l p≠[]:=by
 unfold bP;split
 ·rename_i c;rw [RJ];split
  ·exact c.2
  ·assumption
 ·rename_i c;intro e;rcases h with h | h
  ·exact h e
  ·exact c ⟨e,h⟩
theorem Bg {l:List aA} (q:aA→Bool): ∀V:List Bytes,V.Nodup→((V.flatMap fun v=>l.filter fun p=>decide (bP l p=v)).filter q).length=(l.filter fun p=>q p && decide (bP l p∈V)).length
 | [],_=>by
  have:(l.filter fun p=>q p && decide (bP l p∈([]:List Bytes)))=[]:=by rw [List.filter_eq_nil_iff];simp
  rw [this];rfl
 | v::V,hn=>by
  rw [List.nodup_cons] at hn;have ih:=Bg (l:=l) q V hn.2;rw [List.flatMap_cons,List.filter_append,List.length_append,ih,List.filter_filter];clear ih;generalize hL:l.filter (fun p=>q p && decide (bP l p∈v::V))=X;rw [←hL];have key: ∀r:List aA,(r.filter fun p=>q p && decide (bP l p=v)).length+(r.filter fun p=>q p && decide (bP l p∈V)).length=(r.filter fun p=>q p && decide (bP l p∈v::V)).length:=by
   intro r
   induction r with
   | nil=>rfl
   | cons p r ih=>
    by_cases c:q p=true
    ·by_cases d:bP l p=v
     ·have d2:bP l p∉V:=by rw [d];exact hn.1
      simp [c,d,hn.1];simp at ih;omega
     ·by_cases e:bP l p∈V
      ·simp [c,d,e];simp at ih;omega
      ·simp [c,d,e];simpa using ih
    ·simp [c];simpa using ih
  exact key l
theorem zx {t:aZ} (hz:bN t=0) {l:List aA} (h: ∀p∈l,uX t p)(hn:l.length≤1024)(a:Bytes):
  ((allT t l).flatMap fun x=>aQ x.stops).count a+((qy t l).map (·.id)).count a=((bT l).map (·.id)).count a:=by
 have hall: ∀p∈bT l,uX t p:=fun p hp=>h p (Pf hp);have hlen:=vZ l;have hb: ∀v,(oU (bR t (vW (bT l) v) v)).count a=((vW (bT l) v).map (·.id)).count a:=fun v=>
  Gu hz (fun p hp=>hall p (Fw hp).1) (Nat.le_trans (vX _ _) (by omega)) v a
 have e1:((allT t l).flatMap fun x=>aQ x.stops).count a+((qy t l).map (·.id)).count a=((Jc t l).flatMap oU).count a:=by
  rw [allT,qy];generalize Jc t l=W
  induction W with
  | nil=>simp
  | cons w W ih=>
   simp only [List.flatMap_cons,List.flatMap_append,List.map_append,List.count_append,oU] at ih ⊢;omega
 rw [e1,Jc,List.flatMap_map];generalize bT l=L at*;have e2:((gQ L).flatMap fun v=>oU (bR t (vW L v) v)).count a=(((gQ L).flatMap fun v=>L.filter fun p=>decide (bP L p=v)).filter fun p=>decide (p.id=a)).length:=by
  rw [←jw];have: ∀V:List Bytes,(∀v∈V,v≠[])→(V.flatMap fun v=>oU (bR t (vW L v) v)).count a=((V.flatMap fun v=>L.filter fun p=>decide (bP L p=v)).map (·.id)).count a:=by
   intro V
   induction V with
   | nil=>intro _;simp
   | cons v V ih=>
    intro hV;rw [List.flatMap_cons,List.flatMap_cons,List.map_append,List.count_append,List.count_append,hb,ih fun x hx=>hV x (by simp [hx])];have hv:=hV v (by simp);rw [vW,if_neg hv,fH,ym Wj,I8,List.take_length]
  exact this _ fun v hv=>((Ew L v).1 hv).1
 rw [e2,Bg _ _ (P8 L),jw];congr 1
 refine List.filter_congr fun p hp=> ?_;have:bP L p∈gQ L:=(Ew L _).2 ⟨Pg (hall p hp).veh,p,hp,rfl⟩;simp [this]
theorem N9 {t:aZ} (hz:bN t=0) {l:List aA} (h: ∀p∈l,uX t p)(hn:l.length≤1024) {p:aA} (hp:p∈l):
  ((gP (allT t l)).flatMap fun x=>aQ x.stops).count p.id+((jb (qy t l)).map (·.id)).count p.id=1:=by
 rw [gP,jb,Kr Vx,ym Vw,zx hz h hn];have h1:=List.nodup_iff_count.1 (QV l) p.id;have h2:=List.count_pos_iff.2 (Pb hp);omega
end Go.Toll
end
section
section
namespace Go.Toll
open Go Go.Abs
theorem lG {n lo lo':Nat} {h:ae} {x:AV} {es:List (List AV)} (r:Ls n lo h x es)(hl:lo'≤lo):Ls n lo' h x es:=by
 obtain⟨h1,h2⟩:=r;rcases h1 with e | ⟨b,e,hb,hg⟩
 ·exact⟨.inl e,h2⟩
 ·exact⟨.inr ⟨b,e,by omega,hg⟩,h2⟩
theorem Vk {n lo:Nat} {h:ae} {x:AV} {es:List (List AV)} (r:Ls n lo h x es) {b off len:Nat} (e:x= .own b off len):b<h.length:=by
 rcases r.1 with⟨e1,_⟩ | ⟨b',e1,_,hg⟩
 ·rw [e1] at e;cases e
 ·rw [e1] at e;injection e with e2;subst e2;exact aK hg
end Go.Toll
end
section
namespace Go.Toll
open Go Go.Abs
structure VS where
 name:Bytes
 point:Bytes
 kind:Int
 lane:Int
 offs:List (List AV)
 down:List Iv
end Go.Toll
end
section
namespace Go.Toll
open Go Go.Abs
section
variable {L : List VS} {cuts : List Int} {a b : Int} {out : List Iv}
end
end Go.Toll
end
end
section
namespace Go.Proofs.YtkpioblbeiaefaaGreat
open Go Go.Abs Go.Toll
variable {gl : aM} {h : ae}
theorem RP (l:List bn): ∀e∈l.map af,e.length=3:=fun e he=>by
 obtain⟨m,_,rfl⟩:=List.mem_map.1 he;rfl
theorem KE (l:List Bytes): ∀e∈l.map aR,∀y∈e,y.Data:=fun e he y hy=>by
 obtain⟨m,_,rfl⟩:=List.mem_map.1 he;simp [aR] at hy;rw [hy];simp
theorem Rs.keepB {n:Nat} {h h':ae} {x:AV} {es:List (List AV)} (r:Rs n h x es)(hb: ∃g,h'=h++g):Rs n h' x es:=by
 obtain⟨g,rfl⟩:=hb;exact r.append g
theorem CY (t:aZ)(s:Bytes)(hp:t.net.pts.length≤1000)(hl:t.net.lks.length≤1000)(hs:t.sys.length≤1000):
  aa Tryz.prog gl 49 [.agg (ay t),.str s] h fun v h'=>v= .bool (decide (kindOf t s=0))∧h'=h:=by
 refine aa.data (by simp) (aa.body Tryz.f49 _ mixed Tryz.func49 rfl rfl (by simp [Tryz.ntmps49]) ?_);simp [ay];refine ax.pure _ (fun _=>by simpa [ay] using Bz t s hp hl hs) ?_;simp;rfl
def eX (x:bQ)(y:AV):List AV:=[.str x.id,.str x.veh,.str x.sys,.int .i64 x.cls,y]
theorem NG (x:bQ):eX x (.ro (x.stops.map af))=aB x:=rfl
set_option maxHeartbeats 1000000 in
theorem Iw (x:bQ) {y:AV} (hy:Rs 3 h y (x.stops.map af))(hn:x.stops.length≤1000000):aa Tryz.prog gl 23 [.agg (eX x y)] h fun v h'=>v= .str (JF x)∧h'=h:=by
 refine aa.data (by simp) (aa.body Tryz.f23 _ mixed Tryz.func23 rfl rfl (by simp [Tryz.ntmps23]) ?_);have hyf:=hy.fix;simp [eX,hyf];refine aT.up mixed x.stops.length (fun i fr H=>fr 1= .ptr h.length 0 0∧fr 3= .int .i64 i∧aQ (x.stops.take i)=[]∧h++[.cells 5 [eX x y]]=H) 0 (by omega)
  ⟨by simp,by simp,by simp [aQ],rfl⟩ ?_
 rintro i fr H hi ⟨e1,e3,hpl,rfl⟩;have hyH:=hy.append [.cells 5 [eX x y]];have lyH:=hyH.len2;simp only [eX] at lyH;rcases zN i x.stops.length with hlt | hge
 ·obtain⟨s,hs,hs'⟩:=aN hlt;have ew:=aC (i:=i) (by omega);have hltI:(i:Int)<x.stops.length:=by omega
  have ra:=Rs.ix Tryz.prog hyH i (by omega) (y:=af s) (by simp [hs]);simp only [af,eX] at ra;have hsuc:=pE hs;rw [hpl] at hsuc;by_cases c:s.pass=[]
  ·rw [if_pos c] at hsuc;simp [eX,e1,e3,hlt,hltI,lyH,ra,hyf,c,ew];exact⟨i+1,by omega,by omega,by omega,hsuc⟩
  ·rw [if_neg c] at hsuc;have hid:JF x=s.pass:=by
    have e:aQ x.stops=aQ (x.stops.take (i+1))++aQ (x.stops.drop (i+1)):=by
     rw [aQ,aQ,aQ,←List.map_append,←List.filter_append,List.take_append_drop]
    rw [JF,e,hsuc];rfl
   simp [eX,e1,e3,hlt,hltI,lyH,ra,hyf,c,ew,hid]
 ·obtain rfl:i=x.stops.length:=by omega
  rw [List.take_length] at hpl;have hid:JF x=x.id:=by rw [JF,hpl];rfl
  simp [eX,e1,e3,lyH,hyf,hid]
set_option maxHeartbeats 1000000 in
theorem BA (x:bQ)(hn:x.stops.length≤1000000):aa Tryz.prog gl 21 [.agg (aB x)] h fun v h'=>v= .ro ((aQ x.stops).map aR)∧h'=h:=by
 refine aa.fresh' (aa.body Tryz.f21 _ mixed Tryz.func21 rfl rfl (by simp [Tryz.ntmps21]) ?_);simp [aB];refine aT.up mixed x.stops.length (fun i fr H=>fr 1= .ptr h.length 0 0∧fr 4= .int .i64 i∧(∃g,H=(h++[.cells 5 [aB x]])++g)∧ ∃z,fr 3=z∧Ls 1 (h.length+1) H z ((aQ (x.stops.take i)).map aR)) 0 (by omega)
  ⟨by simp,by simp,⟨[.cells 1 []],by simp [aB]⟩,_,rfl,Ls.own (by simp [aQ]) (by simp) (by simp [aQ]) (by simp [aQ])⟩ ?_
 rintro i fr H hi ⟨e1,e4,hB,z,e3,hz⟩;have hzf:=hz.rs.fix;have hlH:=cu hB;simp at hlH;have hT:H[h.length]? =some (.cells 5 [aB x]):=by obtain⟨g,rfl⟩:=hB;simp
 have hT3:=at3 hT;simp only [aB] at hT3;rcases zN i x.stops.length with hlt | hge
 ·obtain⟨s,hs,hs'⟩:=aN hlt;have ew:=aC (i:=i) (by omega);have hsuc:=pE hs;have hpl:=lV (x.stops.take i);have htl:=List.length_take_le i x.stops;have hltI:(i:Int)<x.stops.length:=by omega
  by_cases c:s.pass=[]
  ·rw [if_pos c] at hsuc;simp [af,e1,e3,e4,hlt,hltI,hT3,hs,hs',c,ew,hzf];exact⟨i+1,by omega,by omega,by omega,by simpa using hB,by rw [hsuc];exact hz⟩
  ·rw [if_neg c] at hsuc;simp [-ak,-av,-ai,-AV.solid,af,e1,e3,e4,hlt,hltI,hT3,hs,hs',c,hzf];refine aO (lo:=h.length+1) (n:=1) (es:=(aQ (x.stops.take i)).map aR) (ys:=[aR s.pass]) (by simpa [aR] using hz.more _) (by simp;omega) (by simp [bF,aR]) (by simp;omega) ?_;intro s1 H1 hs1 hg1 hn1;have hs1f:=hs1.rs.fix;have hB1:=hg1.base (h++[.cells 5 [aB x]]) (by simp) (aF hB _);simp [-ak,-av,-ai,-AV.solid,e1,e4,hs1f,ew];refine⟨i+1,by omega,by omega,by omega,by simpa using hB1,by rw [hsuc];simpa using hs1⟩
 ·obtain rfl:i=x.stops.length:=by omega
  rw [List.take_length] at hz;simp [e1,e3,e4,hT3,hzf];obtain⟨g,hg⟩:=hB;exact⟨⟨_,by rw [hg,zK]⟩,hz.frz (by omega) (KE _)⟩
theorem Kc (x:bQ)(hn:x.stops.length≤1000000):aa Tryz.prog gl 25 [.agg (aB x)] h fun v h'=>v= .agg (pX (p8 x))∧h'=h:=by
 refine aa.data (by simp) (aa.body Tryz.f25 _ mixed Tryz.func25 rfl rfl (by simp [Tryz.ntmps25]) ?_)
 cases hp:x.stops with
 | nil=>
  have hsp:p8 x=⟨0,0⟩:=by unfold p8;rw [hp]
  rw [hsp];simp [aB,hp,pX]
 | cons a r=>
  have hlen:x.stops.length=r.length+1:=by rw [hp];rfl
  have h0: ¬((x.stops.length:Int)=0):=by omega
  have hne: ¬x.stops=[]:=by rw [hp];simp
  have hpos:0<x.stops.length:=by omega
  have w1:IntKind.i64.wrap ((x.stops.length:Int) - 1)=((x.stops.length - 1:Nat):Int):=by rw [aD (by omega) (by omega)];omega
  obtain⟨b,hb,hb'⟩:=aN (l:=x.stops) (i:=x.stops.length - 1) (by omega);obtain⟨a',ha,ha'⟩:=aN hpos;have e1:a'=a:=by rw [←ha'];simp [hp]
  subst e1;have hlt:x.stops.length - 1<x.stops.length:=by omega
  have hl:(a'::r).getLastD a'=b:=by
   rw [←hp,List.getLastD_eq_getLast?,List.getLast?_eq_getElem?,hb];rfl
  have hsp:p8 x=⟨a'.time,IntKind.i64.wrap (b.time+1)⟩:=by
   unfold p8;rw [hp];show Iv.mk a'.time (IntKind.i64.wrap (((a'::r).getLastD a').time+1))=_;rw [hl]
  rw [hsp];simp [aB,af,pX,h0,hne,hpos,w1,ha,ha',hb,hb',hlt];decide
set_option maxHeartbeats 1000000 in
theorem Nb (x:bQ) {y:AV} (hy:Rs 3 h y (x.stops.map af))(hn:x.stops.length≤1000000):aa Tryz.prog gl 33 [.agg (aB x),.agg (eX x y)] h fun v h'=>v= .bool true∧h'=h:=by
 refine aa.data (by simp) (aa.body Tryz.f33 _ mixed Tryz.func33 rfl rfl (by simp [Tryz.ntmps33]) ?_);have hyf:=hy.fix;have hyH:=hy.append [.cells 5 [aB x],.cells 5 [eX x y]];have lyH:=hyH.len2;simp only [eX,aB] at lyH;simp [au,eX,aB,hyf,lyH];refine aT.up mixed x.stops.length (fun i fr H=>fr 2= .ptr h.length 0 0∧fr 3= .ptr (h.length+1) 0 0∧fr 5= .int .i64 i∧h++[.cells 5 [aB x],.cells 5 [eX x y]]=H) 0 (by omega)
  ⟨by simp,by simp,by simp,rfl⟩ ?_
 rintro i fr H hi ⟨e2,e3,e5,rfl⟩;rcases zN i x.stops.length with hlt | hge
 ·obtain⟨s,hs,hs'⟩:=aN hlt;have ew:=aC (i:=i) (by omega);have hltI:(i:Int)<x.stops.length:=by omega
  have ra:=Rs.ix Tryz.prog hyH i (by omega) (y:=af s) (by simp [hs]);simp only [af,eX,aB] at ra;simp [au,eX,aB,af,e2,e3,e5,hlt,hltI,lyH,ra,hyf,hs,hs',ew];refine⟨by decide,?_⟩;exact⟨i+1,by omega,by omega,by omega⟩
 ·obtain rfl:i=x.stops.length:=by omega
  simp [au,eX,aB,e2,e3,e5,lyH,hyf]
theorem Kt (A:List bQ):(gP A).length=A.length:=bq _ _
end Go.Proofs.YtkpioblbeiaefaaGreat
end
section
namespace Go.Proofs.YtkpioblbeiaefaaGreat
open Go Go.Abs Go.Toll
variable {gl : aM} {h : ae}
section
variable {t : aZ} (hz : bN t = 0)
include hz
variable {veh : Bytes} {cls : Bytes → Int} {w : dh} {s : bn} {p : Pt}
end
theorem Ky (l:List bn): ∀e∈l.map af,∀y∈e,y.Data:=fun e he y hy=>by
 obtain⟨s,_,rfl⟩:=List.mem_map.1 he;simp [af] at hy;rcases hy with rfl | rfl | rfl <;> simp
end Go.Proofs.YtkpioblbeiaefaaGreat
end
section
namespace Go.Abs
open Go Go.Proofs Go.Shelf
theorem GU {gl:aM} {h:ae} {J:List dH} {w:World} (hh:bI gl h J w)(os:Array Obj):bI gl h J (Sort.grow w os)∧ik h J w h J (Sort.grow w os):=by
 have hk: ∀r,r<w.heap.size→(Sort.grow w os).heap[r]? =w.heap[r]? :=fun r hr=>by
  show (w.heap++os)[r]? =_;rw [Array.getElem?_append_left hr]
 have ev:ik h J w h J (Sort.grow w os):=⟨⟨[],by simp⟩,by simp [Sort.grow],fun r hr n=>⟨hk r hr,n⟩,rfl,rfl,rfl⟩;exact⟨hh.step ev hh.len hh.inj (fun b k hb=>Nat.lt_of_lt_of_le (hh.lt b k hb) ev.size) (fun b k o h1 h2 _=> .inl ⟨h1,h2,hk _ (hh.lt b k h1)⟩),ev⟩
theorem PT {P:Program} {ρ:Ren} {gl:aM} {h:ae} (Ly:SlLaysM.n6 P ρ)(b:Nat)(ss:List (List UInt8))(hb:h[b]? =some (.cells 1 (ss.map aR)))(hl:ss.length<4611686018427387904):
  aa P gl (ρ.f 6) [.own b 0 ss.length] h fun v h'=>v= .tup []∧h'=h.set b (.cells 1 ((jD ss).map aR)):=by
 refine⟨?_,fun J w vs hh hv=> ?_⟩
 ·obtain⟨nm,hn,hf⟩:=Ly.f6;exact⟨_,hf,rfl,hn⟩
 ·obtain⟨hvl,hvr⟩:=hv
  match vs,hvl with
  | [v],_=>
   have hr:=hvr 0 _ v rfl rfl
   cases hr with
   | own _ _ _ k a cap hk ha hle hcap=>
    by_cases h0:ss=[]
    ·subst h0;refine Calls.mono' (AnyM.slices_Sort_string_none Ly (some a) cap w) ?_;rintro e w' ⟨rfl,rfl⟩;have hset:h.set b (.cells 1 ((jD []).map aR))=h:=by
      refine List.ext_getElem? fun i=> ?_;rw [List.getElem?_set];split
      ·rename_i e;subst e
       rw [if_pos (zA.1 hb).1,hb,show jD []=[] from List.mergeSort_nil]
      ·rfl
     exact⟨.tup [],_,J,h,rfl,hh,.tup [] [] rfl (by simp),ik.refl _ _ _,rfl,hset.symm⟩
    ·have hpos:0<ss.length:=List.length_pos_iff.2 h0;have ha':=ha (by omega);subst ha';obtain⟨o1,o2,o3,o4,vs0,T,o5,o6,o7⟩:=hh.obj b k _ hk hb;have hkn:k.n=1:=o1;have cellv: ∀(i:Nat) (s:List UInt8),ss[i]? =some s→vs0[k.base+i]? =some (encStr s):=fun i s hs=>by
      obtain⟨u,p1,p2,p3⟩:=o7 i (aR s) 0 (.str s) (by rw [List.getElem?_map,hs];rfl) rfl;rw [hkn] at p1;cases p3
      simpa using p1
     have hH:Sort.Holds encStr w k.r (k.base+0*k.n) ss.toArray:=fun j hj=>by
      have hj':j<ss.length:=by simpa using hj
      obtain⟨s,hs,hs'⟩: ∃s,ss[j]? =some s∧ss[j]=s:=⟨_,zB hj',rfl⟩;have e:ss.toArray[j]! =s:=by rw [getElem!_pos ss.toArray j hj];simpa using hs'
      rw [e,Nat.zero_mul,Nat.add_zero];refine⟨?_,?_⟩
      ·rw [cell_of_heap o5];exact cellv j s hs
      ·simp [World.frozen?,o5]
     refine Calls.mono' (AnyM.slices_Sort_string Ly k.r (k.base+0*k.n) cap ss w hH (hh.lt b k hk) hl) ?_;rintro e w' ⟨rfl,n,os,rfl⟩;obtain⟨d,hd⟩: ∃d,d=jD ss:=⟨_,rfl⟩;have hdl:d.length=ss.length:=by rw [hd,jD,List.length_mergeSort]
     rw [show (ss.mergeSort fun x y=>decide (x≤y))=d from hd.symm,←hd];have hw1:(Sort.putRow encStr (Sort.ahead w n) k.r (k.base+0*k.n) d.toArray).heap[k.r]? =some (.cells (Sort.putCells encStr (k.base+0*k.n) d.toArray vs0) T (0,0)):=by
      show (w.heap.modify k.r _)[k.r]? =_;rw [Array.getElem?_modify,if_pos rfl,o5];rfl
     have key:=hh.set (w':=Sort.putRow encStr (Sort.ahead w n) k.r (k.base+0*k.n) d.toArray) (.cells 1 (d.map aR)) hk hb (by simp) (by show (w.heap.modify k.r _).size=_;rw [Array.size_modify]) (fun r hr=>by
       show (w.heap.modify k.r _)[r]? =_;rw [Array.getElem?_modify,if_neg (Ne.symm hr)]) rfl rfl rfl (fun O' hm=>by
      refine⟨hkn,by omega,by rw [List.length_map,hdl];simpa using o3,fun i e he=> ?_,_,T,hw1,?_,fun i e c x he hx=> ?_⟩
      ·obtain⟨s,_,rfl⟩:=List.mem_map.1 (zF he);exact hkn.symm
      ·rw [Sort.putCells,Array.size_mapIdx];exact o6
      ·rw [List.getElem?_map,Option.map_eq_some_iff] at he;obtain⟨s,hs,rfl⟩:=he;have hil:=(zA.1 hs).1
       cases c with
       | zero=>
        obtain rfl:=Option.some.inj hx;refine⟨encStr s,?_,rfl,.str s⟩;obtain⟨s0,hs0,_⟩: ∃s0,ss[i]? =some s0∧True:=⟨_,zB (by omega),trivial⟩;rw [Sort.putCells,Array.getElem?_mapIdx,hkn,show k.base+(i*1+0)=k.base+i by omega,cellv i s0 hs0,Option.map_some,if_pos (by simp;omega)];have e1:k.base+i - (k.base+0*1)=i:=by omega
        have e2:d.toArray[i]! =s:=by
         rw [getElem!_pos d.toArray i (by simpa using hil)];simpa using (zA.1 hs).2
        rw [e1,e2]
       | succ c=>simp [aR] at hx)
     obtain⟨r1,ev1⟩:=key;obtain⟨r2,ev2⟩:=GU r1 os;exact⟨.tup [],_,J,_,rfl,r2,.tup [] [] rfl (by simp),ev1.trans ev2,rfl,rfl⟩
theorem Q5 {P:Program} {ρ:Ren} {gl:aM} {h:ae} (Ly:SlLaysM.n6 P ρ) {lo:Nat} {x:AV} (ss:List (List UInt8))(hx:Ls 1 lo h x (ss.map aR))(hl:ss.length<4611686018427387904):
  aa P gl (ρ.f 6) [x] h fun v h'=>v= .tup []∧Ls 1 lo h' x ((jD ss).map aR)∧h'.length=h.length∧ ∀(b:Nat) (o:bU),h[b]? =some o→(∀off len,x≠ .own b off len)→h'[b]? =some o:=by
 rcases hx.1 with⟨rfl,he⟩ | ⟨b,rfl,hlb,hb⟩
 ·have he:ss=[]:=by simpa using he
  subst he;refine⟨?_,fun J w vs hh hv=> ?_⟩
  ·obtain⟨nm,hn,hf⟩:=Ly.f6;exact⟨_,hf,rfl,hn⟩
  ·obtain⟨hvl,hvr⟩:=hv
   match vs,hvl with
   | [v],_=>
    have hr:=hvr 0 _ v rfl rfl
    cases hr with
    | nil=>
     refine Calls.mono' (AnyM.slices_Sort_string_none Ly none 0 w) ?_;rintro e w' ⟨rfl,rfl⟩;exact⟨.tup [],_,J,h,rfl,hh,.tup [] [] rfl (by simp),ik.refl _ _ _,rfl,by rw [show jD []=[] from List.mergeSort_nil];simpa using Ls.nil,rfl,fun _ _ ho _=>ho⟩
 ·rw [List.length_map] at*;refine (PT Ly b ss hb hl).mono ?_;rintro v h' ⟨rfl,rfl⟩;refine⟨rfl,?_,by simp,fun b' o ho hne=> ?_⟩
  ·refine Ls.own (zI (zA.1 hb).1) hlb (by simp [jD]) fun e he=> ?_;obtain⟨s,_,rfl⟩:=List.mem_map.1 he;rfl
  ·rw [zJ (by rintro rfl;exact hne _ _ rfl)];exact ho
end Go.Abs
end
section
namespace Go.Proofs.YtkpioblbeiaefaaGreat
open Go Go.Abs Go.Shelf Go.Proofs
def PS:Ren:=⟨fun | 6=>84 | 8=>122 | 9=>121 | 19=>159 | 20=>160 | 21=>150 | 22=>151 | 23=>152 | 24=>153 | 25=>154 | 26=>155 | 27=>156 | 28=>157 | 29=>158 | 36=>174 | 31=>175 | 32=>176 | 37=>177 | 38=>178 | 39=>104 | 41=>192 | n=>n,fun | 27=>46 | 29=>9 | 3=>3 | 32=>160 | 26=>46 | 0=>0 | 44=>198 | 46=>200 | 4=>4 | 36=>191 | 35=>190 | 41=>195 | 5=>5 | 9=>9 | 53=>213 | 57=>217 | 63=>234 | 64=>235 | n=>n,fun n=>n⟩
theorem Ns:SlLaysM.n6 Tryz.prog PS:= {
 mixed:=by kernel_rfl,
 f6:=⟨Tryz.f84.name,by decide,Tryz.func84.trans (congrArg some (by kernel_rfl))⟩,
 f8:=Tryz.func122.trans (congrArg some (by kernel_rfl)),
 f9:=⟨Tryz.f121.name,by decide,Tryz.func121.trans (congrArg some (by kernel_rfl))⟩,
 f19:=Tryz.func159.trans (congrArg some (by kernel_rfl)),
 f20:=Tryz.func160.trans (congrArg some (by kernel_rfl)),
 f21:=⟨Tryz.f150.name,by decide,Tryz.func150.trans (congrArg some (by kernel_rfl))⟩,
 f22:=⟨Tryz.f151.name,by decide,Tryz.func151.trans (congrArg some (by kernel_rfl))⟩,
 f23:=⟨Tryz.f152.name,by decide,Tryz.func152.trans (congrArg some (by kernel_rfl))⟩,
 f24:=⟨Tryz.f153.name,by decide,Tryz.func153.trans (congrArg some (by kernel_rfl))⟩,
 f25:=⟨Tryz.f154.name,by decide,Tryz.func154.trans (congrArg some (by kernel_rfl))⟩,
 f26:=⟨Tryz.f155.name,by decide,Tryz.func155.trans (congrArg some (by kernel_rfl))⟩,
 f27:=⟨Tryz.f156.name,by decide,Tryz.func156.trans (congrArg some (by kernel_rfl))⟩,
 f28:=⟨Tryz.f157.name,by decide,Tryz.func157.trans (congrArg some (by kernel_rfl))⟩,
 f29:=⟨Tryz.f158.name,by decide,Tryz.func158.trans (congrArg some (by kernel_rfl))⟩,
 f31:=Tryz.func175.trans (congrArg some (by kernel_rfl)),
 f32:=Tryz.func176.trans (congrArg some (by kernel_rfl)),
 f36:=⟨Tryz.f174.name,by decide,Tryz.func174.trans (congrArg some (by kernel_rfl))⟩,
 f37:=⟨Tryz.f177.name,by decide,Tryz.func177.trans (congrArg some (by kernel_rfl))⟩,
 f38:=⟨Tryz.f178.name,by decide,Tryz.func178.trans (congrArg some (by kernel_rfl))⟩,
 f39:=⟨Tryz.f104.name,by decide,Tryz.func104.trans (congrArg some (by kernel_rfl))⟩,
 f41:=⟨Tryz.f192.name,by decide,Tryz.func192.trans (congrArg some (by kernel_rfl))⟩,
 t0:=Tryz.underlying0,
 a0:=Tryz.isAgg0,
 z0:=Tryz.sizeOf0,
 v0:=Tryz.zeroValue0,
 t3:=Tryz.underlying3,
 a3:=Tryz.isAgg3,
 z3:=Tryz.sizeOf3,
 v3:=Tryz.zeroValue3,
 t4:=Tryz.underlying4,
 a4:=Tryz.isAgg4,
 z4:=Tryz.sizeOf4,
 v4:=Tryz.zeroValue4,
 t5:=Tryz.underlying5,
 a5:=Tryz.isAgg5,
 z5:=Tryz.sizeOf5,
 v5:=Tryz.zeroValue5,
 t9:=Tryz.underlying9,
 a9:=Tryz.isAgg9,
 z9:=Tryz.sizeOf9,
 v9:=Tryz.zeroValue9,
 t26:=Tryz.underlying46,
 a26:=Tryz.isAgg46,
 z26:=Tryz.sizeOf46,
 v26:=Tryz.zeroValue46,
 t27:=Tryz.underlying46,
 a27:=Tryz.isAgg46,
 z27:=Tryz.sizeOf46,
 v27:=Tryz.zeroValue46,
 t29:=Tryz.underlying9,
 a29:=Tryz.isAgg9,
 z29:=Tryz.sizeOf9,
 v29:=Tryz.zeroValue9,
 t32:=Tryz.underlying160,
 a32:=Tryz.isAgg160,
 z32:=Tryz.sizeOf160,
 v32:=Tryz.zeroValue160,
 t35:=Tryz.underlying190,
 a35:=Tryz.isAgg190,
 z35:=Tryz.sizeOf190,
 v35:=Tryz.zeroValue190,
 t36:=Tryz.underlying191,
 a36:=Tryz.isAgg191,
 z36:=Tryz.sizeOf191,
 v36:=Tryz.zeroValue191,
 t41:=Tryz.underlying195,
 a41:=Tryz.isAgg195,
 z41:=Tryz.sizeOf195,
 v41:=Tryz.zeroValue195,
 t44:=Tryz.underlying198,
 a44:=Tryz.isAgg198,
 z44:=Tryz.sizeOf198,
 v44:=Tryz.zeroValue198,
 t46:=Tryz.underlying200,
 a46:=Tryz.isAgg200,
 z46:=Tryz.sizeOf200,
 v46:=Tryz.zeroValue200,
 t53:=Tryz.underlying213,
 a53:=Tryz.isAgg213,
 z53:=Tryz.sizeOf213,
 v53:=Tryz.zeroValue213,
 t57:=Tryz.underlying217,
 a57:=Tryz.isAgg217,
 z57:=Tryz.sizeOf217,
 v57:=Tryz.zeroValue217,
 t63:=Tryz.underlying234,
 a63:=Tryz.isAgg234,
 z63:=Tryz.sizeOf234,
 v63:=Tryz.zeroValue234,
 t64:=Tryz.underlying235,
 a64:=Tryz.isAgg235,
 z64:=Tryz.sizeOf235,
 v64:=Tryz.zeroValue235
}
theorem wE {gl:aM} {h:ae} {lo:Nat} {x:AV} (ss:List (List UInt8))(hx:Ls 1 lo h x (ss.map aR))(hl:ss.length<4611686018427387904):
  aa Tryz.prog gl 84 [x] h fun v h'=>v= .tup []∧Ls 1 lo h' x ((jD ss).map aR)∧h'.length=h.length∧ ∀(b:Nat) (o:bU),h[b]? =some o→(∀off len,x≠ .own b off len)→h'[b]? =some o:=Q5 Ns ss hx hl
end Go.Proofs.YtkpioblbeiaefaaGreat
end
