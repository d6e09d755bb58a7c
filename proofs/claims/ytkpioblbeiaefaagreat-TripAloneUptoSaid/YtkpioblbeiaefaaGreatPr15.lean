/- Part 15 of the lemmas below the statements of this seat: TollAllL, TollSpan, R21P, R21B, R21C, R21W. -/
import Derived.Test.YtkpioblbeiaefaaGreatPr14
set_option linter.unusedSectionVars false
set_option linter.unusedVariables false
set_option linter.unusedSimpArgs false
set_option linter.unnecessarySimpa false
set_option maxRecDepth 100000
section
namespace Go.Toll
open Go Go.Abs
section
variable {α : Type} {lt : α → α → Bool}
theorem Dp (o:SWO lt)(p:α→Bool)(l:List α):(aQ lt l).filter p=aQ lt (l.filter p):=by
 refine wI.eq o ⟨List.Pairwise.sublist List.filter_sublist (fZ o l),fun a=> ?_⟩;have h:=(dU o l).2 a;rw [List.filter_filter,List.filter_filter];have e: ∀z:List α,z.filter (fun x=>iw lt a x && p x)=(z.filter (iw lt a)).filter p:=fun z=>by
  rw [List.filter_filter];exact List.filter_congr fun x _=>Bool.and_comm _ _
 rw [e,e,h]
theorem Md (o:SWO lt)(l:List α):aQ lt (aQ lt l)=aQ lt l:=kr o (fZ o l)
theorem Me (A:List α)(x:α):aQ lt (A++[x])=iQ lt x (aQ lt A):=by
 unfold aQ;rw [List.foldl_append];rfl
theorem yL (o:SWO lt)(p:α→Bool)(l:List α):((aQ lt l).filter p).length=(l.filter p).length:=by rw [Dp o,bz]
theorem gG (f:α→Bytes)(a:Bytes): ∀l:List α,(l.map f).count a=(l.filter fun x=>decide (f x=a)).length
 | []=>by simp
 | x::l=>by
  have ih:=gG f a l;by_cases c:f x=a
  ·simp [c,ih]
  ·simp [c,ih]
theorem zR (o:SWO lt)(f:α→Bytes)(a:Bytes)(l:List α):((aQ lt l).map f).count a=(l.map f).count a:=by
 rw [gG,gG,yL o]
end
theorem Vq:SWO fun (a b:ay)=>decide (rX a b<0):=pF.swo
theorem Xx:SWO fun (a b:bW)=>decide (qU a b<0):=LB.swo
def wo (v:Bytes)(x:bW):bW:= { x with veh:=v }
def Cn (v:Bytes)(w:bS):bS:= { w with trips:=w.trips.map (wo v) }
section
variable {t : aY} {veh v : Bytes} {cls : Bytes → Int}
theorem Sb (w:bS)(s:aX):lC t v cls (Cn v w) s=Cn v (lC t veh cls w s):=by
 have h:mh t (Cn v w).opn s=mh t w.opn s:=rfl;unfold lC;rw [h];split <;> simp [Cn,kz,wo]
theorem RA (w:bS)(s:aX):bV t v cls (Cn v w) s=Cn v (bV t veh cls w s):=by
 unfold bV;rw [Sb (veh:=veh)];split <;> rfl
theorem I9: ∀(l:List aX) (w:bS),l.foldl (bV t v cls) (Cn v w)=Cn v (l.foldl (bV t veh cls) w)
 | [],w=>rfl
 | s::l,w=>by rw [List.foldl_cons,List.foldl_cons,RA (veh:=veh),I9 l]
end
theorem EP (t:aY)(l:List ay)(u v:Bytes):bI t l v=Cn v (bI t l u):=by
 unfold bI Ky;have e:bP t l (bT (aH t).net (bC t l))=Cn v (bP t l (bT (aH t).net (bC t l))):=rfl
 conv=>lhs;rw [e]
 rw [I9 (veh:=u)];rfl
theorem rU (t:aY)(l:List ay)(v:Bytes): ∀x∈(bI t l v).trips,x.veh=v:=by
 rw [EP t l v v];intro x hx;obtain⟨y,_,rfl⟩:=List.mem_map.1 hx;rfl
theorem Fx {S:List ay} (h:(S.map (·.id)).Nodup): ∀i:Nat,i≤S.length→dX S i=S.take i
 | 0,_=>by simp [dX]
 | i+1,hi=>by
  have ih:=Fx h i (by omega);obtain⟨p,hp,_⟩:=aJ (l:=S) (i:=i) (by omega);rw [vT hp,ih,zM,hp,if_neg]
  ·rfl
  ·intro c;obtain⟨q,hq,e⟩:=List.any_eq_true.1 c;obtain⟨j,hj⟩:=List.getElem?_of_mem hq;have hj':j<i:=by
    rcases zN j i with c | c
    ·exact c
    ·rw [List.getElem?_take_eq_none c] at hj;cases hj
   rw [List.getElem?_take_of_lt hj'] at hj;have:=pz h (i:=j) (j:=i) (a:=p.id) (by rw [List.getElem?_map,hj];simpa using e) (by rw [List.getElem?_map,hp];rfl);omega
theorem nG {l:List ay} {p:ay} (h:p∈aW l):p∈l:=by
 have:=kU h;rw [List.take_length] at this;exact (dB _).1 this
theorem Hl (l:List ay):((aW l).map (·.id)).Nodup:=JG _
theorem j6 (l:List ay):(aW l).length≤l.length:=by
 have:=pE (dC l) (dC l).length;rw [aW];rw [dC,bz] at this ⊢;exact this
theorem QK {l:List ay} (h:(l.map (·.id)).Nodup)(v:Bytes):((jM l v).map (·.id)).Nodup:=by
 unfold jM;split
 ·simp
 ·rw [List.nodup_iff_count];intro a;rw [dC,zR Vq,gG];refine Nat.le_trans ?_ (List.nodup_iff_count.1 h a);rw [gG,Hd,List.take_length];exact ((List.filter_sublist).filter _).length_le
theorem SY {l:List ay} (h:(l.map (·.id)).Nodup)(v:Bytes):aW (jM l v)=jM l v:=by
 have hs:dC (jM l v)=jM l v:=by
  unfold jM;split
  ·rfl
  ·exact Md Vq _
 rw [aW,hs,Fx (QK h v) _ (Nat.le_refl _),List.take_length]
structure nu (t:aY)(p:ay):Prop where
 pt:aF t.net.pts p.point=true
 time:bK p.time=true
 id:p.id≠[]
 veh:p.tag≠[]∨p.plate≠[]
theorem O3 {I:List Nat} {i:Nat} (h: ∀j∈I,j<i):lL I i=[]:=by
 rw [lL,List.filter_eq_nil_iff];intro j hj;have:=h j hj;simp;omega
theorem Q5 {I:List Nat} {n:Nat} (h:I.Pairwise (· < ·))(hl: ∀j∈I,j<n):(List.range n).filter (fun j=>decide (j∈I))=I:=by
 have key: ∀k i,n - i=k→((List.range n).drop i).filter (fun j=>decide (j∈I))=lL I i:=by
  intro k
  induction k with
  | zero=>intro i hi;rw [zH (by simp;omega),O3 fun j hj=>by have:=hl j hj;omega];rfl
  | succ k ih=>
   intro i hi;have hg:(List.range n)[i]? =some i:=by rw [List.getElem?_range (by omega)]
   rw [bq hg,List.filter_cons,ih (i+1) (by omega),qJ (i:=i) h];by_cases c:i∈I <;> simp [c]
 have:=key n 0 (by omega);rwa [List.drop_zero,De] at this
theorem SE {I:List Nat} {l:List ay} (h:I.Pairwise (· < ·))(hl: ∀j∈I,j<l.length):yn I l l.length=Rm l I:=by
 rw [yn,Q5 h hl];rfl
theorem Qn (v:bn)(l:List ay):jV v l=Rm l (Ib v l):=SE (MJ.asc pq.1).1 pq.2.1
theorem Fa (v:bn)(l:List ay):qY v (jV v l)=true:=by
 rw [Qn];exact Ro pq.1
theorem zi (I:List Nat)(l:List ay)(a:Bytes): ∀i:Nat,((yn I l i).map (·.id)).count a+((lH I l i).map (·.id)).count a=((l.take i).map (·.id)).count a
 | 0=>by simp [yn,lH]
 | i+1=>by
  have ih:=zi I l a i
  cases hg:l[i]? with
  | none=>
   have e1:yn I l (i+1)=yn I l i:=by rw [yn,yn,List.range_succ,List.filter_append,List.filterMap_append];by_cases c:i∈I <;> simp [c,hg]
   have e2:lH I l (i+1)=lH I l i:=by rw [lH,lH,List.range_succ,List.filter_append,List.filterMap_append];by_cases c:i∈I <;> simp [c,hg]
   rw [e1,e2,ih,zM,hg];simp
  | some p=>
   rw [BX hg,FB hg,zM,hg];by_cases c:i∈I
   ·rw [if_pos c,if_pos c];simp only [List.map_append,List.count_append,Option.toList_some,List.map_cons,List.map_nil];omega
   ·rw [if_neg c,if_neg c];simp only [List.map_append,List.count_append,Option.toList_some,List.map_cons,List.map_nil];omega
theorem Nj {v:bn}: ∀ {l:List ay} {b:Option ay},(∀p∈l,aF v.pts p.point=true∧bK p.time=true)→qY v l=true→(∀a p,b=some a→l.head? =some p→a.time<p.time)→gZ v b l=0
 | [],_,_,_,_=>rfl
 | p::l,b,h1,h2,h3=>by
  obtain⟨q1,q2⟩:=h1 p (by simp);rw [gZ,if_neg (by simp [q1]),if_neg (by simp [q2]),if_neg]
  ·refine Nj (fun x hx=>h1 x (by simp [hx])) ?_ ?_
   ·cases l with
    | nil=>rfl
    | cons x r=>rw [qY,Bool.and_eq_true] at h2;exact h2.2
   ·rintro a x ⟨⟩ hx
    cases l with
    | nil=>cases hx
    | cons y r=>
     cases hx
     rw [qY,Bool.and_eq_true] at h2;have:=h2.1;simp [fe,sD,gH] at this;exact this.1.2.2
  ·rintro⟨a,e,hle⟩;have:=h3 a p e rfl;omega
theorem Tm {v:bn} {l:List ay} (h1: ∀p∈l,aF v.pts p.point=true∧bK p.time=true)(h2:qY v l=true)(hn:l.length≤1024):ed v l=0:=by
 rw [ed,if_neg (by omega)];exact Nj h1 h2 (by rintro a p ⟨⟩)
theorem LF (v:bn)(a p:ay):bu (l8 v a p)=[]:=by
 rw [bu,List.map_eq_nil_iff,List.filter_eq_nil_iff];intro x hx;simp [Vd,EL a p x hx]
theorem zu {v:bn} {l:List ay} (hid: ∀p∈l,p.id≠[]): ∀i:Nat,bu (dH v l i)=(l.take i).map (·.id)
 | 0=>by simp [dH,bu]
 | i+1=>by
  have ih:=zu (v:=v) hid i;have h0:bu []=[]:=rfl;rw [dH,zM]
  cases hg:l[i]? with
  | none=>simp [ih]
  | some p=>
   have h1:bu [ll p]=[p.id]:=by simp [bu,Vd,ll,hid p (zF hg)]
   simp only;rw [uo,uo,ih,h1]
   cases i with
   | zero=>simp [h0]
   | succ j=>
    simp only;split
    ·rw [LF];simp
    ·rw [h0];simp
section
variable {t : aY} (hz : bX t = 0)
theorem gD (hz:bX t=0):aH t=t:=by rw [aH,if_pos hz]
include hz
theorem GU {s:Bytes} (h:aF t.net.pts s=true):kindOf t s≠0:=by
 have hv:=gD hz;have hn:=fE t;rw [hv] at hn;rw [kindOf,hv,dF,if_pos hn]
 cases hf:t.net.pts.find? fun p=>decide (p.name=s) with
 | none=>
  obtain⟨p,hp,e⟩:=List.any_eq_true.1 h;exact absurd e (by simpa using List.find?_eq_none.1 hf p hp)
 | some p=>
  have h1:=(jY hn p (List.mem_of_find?_eq_some hf)).2;simp;omega
theorem vF {l:List ay} (h: ∀p∈l,nu t p):jc t l=[]∧bC t l=l:=by
 constructor
 ·rw [jc,List.map_eq_nil_iff,List.filter_eq_nil_iff];intro p hp;simpa using GU hz (h p hp).pt
 ·rw [bC,List.filter_eq_self];intro p hp;simpa using GU hz (h p hp).pt
theorem Fb {l:List ay} (h: ∀p∈l,nu t p)(hn:l.length≤1024):ed t.net (jV t.net l)=0:=
 Tm (fun p hp=>⟨(h p (ui hp)).pt,(h p (ui hp)).time⟩) (Fa _ _) (Nat.le_trans (Nat.le_trans (xe _ _ _) (Nat.le_refl _)) hn)
theorem rT {l:List ay} (h: ∀p∈l,nu t p)(hn:l.length≤1024)(v a:Bytes):(nN (bI t l v)).count a=(l.map (·.id)).count a:=by
 obtain⟨f1,f2⟩:=vF hz h;have hk:=Fb hz h hn;rw [bI,MI,gK,gD hz,f2,iE,if_neg (by simpa using hk)];simp only;rw [zu fun p hp=>(h p (ui hp)).id,List.take_length];have e:=zi (Ib t.net l) l a l.length;rw [List.take_length] at e;rw [←e];simp only [bP,f1,nN,bu,List.nil_append,List.flatMap_nil,List.filter_nil,List.map_nil,List.count_nil];rw [bT,jV];omega
end
theorem QO {l:List ay} {p:ay} (h:p.tag≠[]∨p.plate≠[]):bG l p≠[]:=by
 unfold bG;split
 ·rename_i c;rw [OQ];split
  ·exact c.2
  ·assumption
 ·rename_i c;intro e;rcases h with h | h
  ·exact h e
  ·exact c ⟨e,h⟩
theorem CG {l:List ay} (q:ay→Bool): ∀V:List Bytes,V.Nodup→((V.flatMap fun v=>l.filter fun p=>decide (bG l p=v)).filter q).length=(l.filter fun p=>q p && decide (bG l p∈V)).length
 | [],_=>by
  have:(l.filter fun p=>q p && decide (bG l p∈([]:List Bytes)))=[]:=by rw [List.filter_eq_nil_iff];simp
  rw [this];rfl
 | v::V,hn=>by
  rw [List.nodup_cons] at hn;have ih:=CG (l:=l) q V hn.2;rw [List.flatMap_cons,List.filter_append,List.length_append,ih,List.filter_filter];clear ih;generalize hL:l.filter (fun p=>q p && decide (bG l p∈v::V))=X;rw [←hL];have key: ∀r:List ay,(r.filter fun p=>q p && decide (bG l p=v)).length+(r.filter fun p=>q p && decide (bG l p∈V)).length=(r.filter fun p=>q p && decide (bG l p∈v::V)).length:=by
   intro r
   induction r with
   | nil=>rfl
   | cons p r ih=>
    by_cases c:q p=true
    ·by_cases d:bG l p=v
     ·have d2:bG l p∉V:=by rw [d];exact hn.1
      simp [c,d,hn.1];simp at ih;omega
     ·by_cases e:bG l p∈V
      ·simp [c,d,e];simp at ih;omega
      ·simp [c,d,e];simpa using ih
    ·simp [c];simpa using ih
  exact key l
theorem KH {t:aY} (hz:bX t=0) {l:List ay} (h: ∀p∈l,nu t p)(hn:l.length≤1024)(a:Bytes):
  ((allT t l).flatMap fun x=>bu x.stops).count a+((og t l).map (·.id)).count a=((aW l).map (·.id)).count a:=by
 have hall: ∀p∈aW l,nu t p:=fun p hp=>h p (nG hp);have hlen:=j6 l;have hb: ∀v,(nN (bI t (jM (aW l) v) v)).count a=((jM (aW l) v).map (·.id)).count a:=fun v=>
  rT hz (fun p hp=>hall p (jZ hp).1) (Nat.le_trans (lv _ _) (by omega)) v a
 have e1:((allT t l).flatMap fun x=>bu x.stops).count a+((og t l).map (·.id)).count a=((Eb t l).flatMap nN).count a:=by
  rw [allT,og];generalize Eb t l=W
  induction W with
  | nil=>simp
  | cons w W ih=>
   simp only [List.flatMap_cons,List.flatMap_append,List.map_append,List.count_append,nN] at ih ⊢;omega
 rw [e1,Eb,List.flatMap_map];generalize aW l=L at*;have e2:((dI L).flatMap fun v=>nN (bI t (jM L v) v)).count a=(((dI L).flatMap fun v=>L.filter fun p=>decide (bG L p=v)).filter fun p=>decide (p.id=a)).length:=by
  rw [←gG];have: ∀V:List Bytes,(∀v∈V,v≠[])→(V.flatMap fun v=>nN (bI t (jM L v) v)).count a=((V.flatMap fun v=>L.filter fun p=>decide (bG L p=v)).map (·.id)).count a:=by
   intro V
   induction V with
   | nil=>intro _;simp
   | cons v V ih=>
    intro hV;rw [List.flatMap_cons,List.flatMap_cons,List.map_append,List.count_append,List.count_append,hb,ih fun x hx=>hV x (by simp [hx])];have hv:=hV v (by simp);rw [jM,if_neg hv,dC,zR Vq,Hd,List.take_length]
  exact this _ fun v hv=>((yU L v).1 hv).1
 rw [e2,CG _ _ (DY L),gG];congr 1
 refine List.filter_congr fun p hp=> ?_;have:bG L p∈dI L:=(yU L _).2 ⟨QO (hall p hp).veh,p,hp,rfl⟩;simp [this]
theorem Pp {v:bn} (ok:aV v) {l:List ay} (h:ed v l=0):(dH v l l.length).Pairwise fun x y=>x.time≤y.time:=by
 cases hl:l.length with
 | zero=>simp [dH]
 | succ n=>
  obtain⟨p,hp,_⟩:=aJ (l:=l) (i:=n) (by omega);exact (Dx ok h n p hp).1
theorem IP {t:aY} (hz:bX t=0) {l:List ay} (h: ∀p∈l,nu t p)(hn:l.length≤1024) {v:Bytes} (hv:v≠[]): ∀x∈(bI t l v).trips,eP t x=0:=by
 obtain⟨f1,f2⟩:=vF hz h;have hk:=Fb hz h hn;have ok:aV t.net:=by have:=SV t;rwa [gD hz] at this
 have hs:gK t l=dH t.net (jV t.net l) (jV t.net l).length:=by rw [gK,gD hz,f2,iE,if_neg (by simpa using hk)]
 have hw:=RQ (t:=t) (cls:=rW (jL l l.length)) hv (gK t l) (bP t l (bT (aH t).net (bC t l))) ⟨by simp [bP],Cy t,by simp [bP],by simp [bP]⟩
  (by
   rw [hs];intro s hs;have:=uw ok hk _ s hs;exact⟨GU hz this.point,this.time⟩)
  (by rw [hs];exact Pp ok hk) (by simp [bP])
 exact hw.trips
theorem NC {t:aY} (hz:bX t=0) {l:List ay} (h: ∀p∈l,nu t p)(hn:l.length≤1024): ∀x∈dK (allT t l),eP t x=0:=by
 intro x hx;rw [dK,dB,allT,List.mem_flatMap] at hx;obtain⟨w,hw,hx⟩:=hx;rw [Eb,List.mem_map] at hw;obtain⟨v,hv,rfl⟩:=hw;have hlen:=j6 l;exact IP hz (fun p hp=>h p (nG (jZ hp).1)) (Nat.le_trans (lv _ _) (by omega)) ((yU _ _).1 hv).1 x hx
theorem oQ (why:Int)(l:List aX): ∀e∈eB why l,e.why=why:=by
 intro e he;obtain⟨s,_,rfl⟩:=List.mem_map.1 he;rfl
theorem Rz {t:aY} {veh:Bytes} {cls:Bytes→Int} (w:bS)(s:aX): ∃y,(bV t veh cls w s).out=w.out++y∧ ∀e∈y,e.why=10∨e.why=11∨e.why=12:=by
 have key: ∃y,(lC t veh cls w s).out=w.out++y∧ ∀e∈y,e.why=10∨e.why=11∨e.why=12:=by
  unfold lC;split
  ·exact⟨[],by simp,by simp⟩
  ·exact⟨eB 11 w.opn,rfl,fun e he=> .inr (.inl (oQ _ _ e he))⟩
  ·exact⟨[],by simp,by simp⟩
  ·exact⟨[],by simp,by simp⟩
  ·refine⟨eB 11 w.opn++eB 10 [s],by simp,fun e he=> ?_⟩;rcases List.mem_append.1 he with he | he
   ·exact .inr (.inl (oQ _ _ e he))
   ·exact .inl (oQ _ _ e he)
  ·exact⟨eB 12 [s],rfl,fun e he=> .inr (.inr (oQ _ _ e he))⟩
 unfold bV;split <;> exact key
theorem I8 {t:aY} {veh:Bytes} {cls:Bytes→Int}: ∀(l:List aX) (w:bS),∃y,(l.foldl (bV t veh cls) w).out=w.out++y∧ ∀e∈y,e.why=10∨e.why=11∨e.why=12
 | [],w=>⟨[],by simp,by simp⟩
 | s::l,w=>by
  obtain⟨y,h1,h2⟩:=Rz (t:=t) (veh:=veh) (cls:=cls) w s;obtain⟨z,h3,h4⟩:=I8 (t:=t) (veh:=veh) (cls:=cls) l (bV t veh cls w s);refine⟨y++z,by rw [List.foldl_cons,h3,h1,zK],fun e he=> ?_⟩;rcases List.mem_append.1 he with he | he
  ·exact h2 e he
  ·exact h4 e he
def fo (x:kD)(p:ay):Bool:=decide (x.id=p.id) && (decide (x.why=3) || decide (x.why=9))
theorem NY {t:aY} (hz:bX t=0) {l:List ay} (h: ∀p∈l,nu t p)(v:Bytes)(p:ay):(bI t l v).out.any (fun x=>fo x p)=(bT t.net l).any fun x=>decide (x.id=p.id):=by
 obtain⟨f1,f2⟩:=vF hz h;have ho:(bP t l (bT (aH t).net (bC t l))).out=bT t.net l:=by rw [bP,f1,f2,gD hz];rfl
 obtain⟨y,h1,h2⟩:=I8 (t:=t) (veh:=v) (cls:=rW (jL l l.length)) (gK t l) (bP t l (bT (aH t).net (bC t l)));have e:(bI t l v).out=bT t.net l++(y++eB 11 ((gK t l).foldl (bV t v (rW (jL l l.length))) (bP t l (bT (aH t).net (bC t l)))).opn):=by
  rw [bI,Ky,uO];simp only;rw [h1,ho,zK]
 rw [e,List.any_append,List.any_append];have z1:y.any (fun x=>fo x p)=false:=by
  rw [List.any_eq_false];intro x hx;have:=h2 x hx;simp [fo];omega
 have z2: ∀L:List aX,(eB 11 L).any (fun x=>fo x p)=false:=by
  intro L;rw [List.any_eq_false];intro x hx;have:=oQ _ _ x hx;simp [fo];omega
 rw [z1,z2,Bool.or_false,Bool.or_false];have z3: ∀x∈bT t.net l,fo x p=decide (x.id=p.id):=by
  intro x hx;rw [bT,lH,List.mem_filterMap] at hx;obtain⟨j,_,hj⟩:=hx
  cases hg:l[j]? with
  | none=>rw [hg] at hj;cases hj
  | some q=>rw [hg] at hj;cases hj;simp [fo]
 rw [Bool.eq_iff_iff,List.any_eq_true,List.any_eq_true];exact⟨fun ⟨x,hx,hy⟩=>⟨x,hx,by rw [←z3 x hx];exact hy⟩,fun ⟨x,hx,hy⟩=>⟨x,hx,by rw [z3 x hx];exact hy⟩⟩
theorem Jq {v:bn} {l:List ay} (hd:(l.map (·.id)).Nodup):l.filter (fun p=> !(bT v l).any fun x=>decide (x.id=p.id))=jV v l:=by
 have key: ∀i≤l.length,(l.take i).filter (fun p=> !(bT v l).any fun x=>decide (x.id=p.id))=yn (Ib v l) l i:=by
  intro i
  induction i with
  | zero=>intro _;simp [yn]
  | succ i ih=>
   intro hi;obtain⟨p,hp,_⟩:=aJ (l:=l) (i:=i) (by omega);rw [zM,hp,List.filter_append,ih (by omega),BX hp];have e:(bT v l).any (fun x=>decide (x.id=p.id))= !decide (i∈Ib v l):=by
    rw [Bool.eq_iff_iff,List.any_eq_true];constructor
    ·rintro⟨x,hx,hy⟩;rw [bT,lH,List.mem_filterMap] at hx;obtain⟨j,hj,hx⟩:=hx
     cases hg:l[j]? with
     | none=>rw [hg] at hx;cases hx
     | some q=>
      rw [hg] at hx;cases hx
      have:j=i:=pz hd (a:=p.id) (by rw [List.getElem?_map,hg];simpa using hy) (by rw [List.getElem?_map,hp];rfl);subst this;simpa using (List.mem_filter.1 hj).2
    ·intro c;refine⟨⟨p.id,9⟩,?_,by simp⟩;rw [bT,lH,List.mem_filterMap];exact⟨i,List.mem_filter.2 ⟨List.mem_range.2 (by omega),c⟩,by rw [hp];rfl⟩
   simp only [Option.toList_some,List.filter_cons,List.filter_nil,e,Bool.not_not];by_cases c:i∈Ib v l <;> simp [c]
 have:=key l.length (Nat.le_refl _);rwa [List.take_length] at this
theorem PS {t:aY} (hz:bX t=0) {l:List ay} (h: ∀p∈l,nu t p)(hn:l.length≤1024) {v:Bytes} (hv:v∈dI (aW l)):
  qY t.net ((jM (aW l) v).filter fun p=> !(iC (og t l)).any fun x=>fo x p)=true:=by
 have hall: ∀p∈aW l,nu t p:=fun p hp=>h p (nG hp);have hd:=QK (Hl l) v;have hof: ∀p∈jM (aW l) v,nu t p:=fun p hp=>hall p (jZ hp).1;have e:(jM (aW l) v).filter (fun p=> !(iC (og t l)).any fun x=>fo x p)=jV t.net (jM (aW l) v):=by
  rw [←Jq hd];refine List.filter_congr fun p hp=> ?_;rw [←NY hz hof v p];congr 1
  rw [Bool.eq_iff_iff,List.any_eq_true,List.any_eq_true];constructor
  ·rintro⟨x,hx,hy⟩;rw [iC,dB] at hx;have hx':=hx;rw [og,List.mem_flatMap] at hx;obtain⟨w,hw,hx⟩:=hx;rw [Eb,List.mem_map] at hw;obtain⟨u,hu,rfl⟩:=hw;have hlen:=j6 l;have hxid:x.id=p.id:=by simp [fo] at hy;exact hy.1
   by_cases c:u=v
   ·subst c;exact⟨x,hx,hy⟩
   ·exfalso
    have hcnt:=rT hz (fun q hq=>hall q (jZ hq).1) (Nat.le_trans (lv (aW l) u) (by omega)) u x.id;have hpos:0<((jM (aW l) u).map (·.id)).count x.id:=by
     rw [←hcnt,List.count_pos_iff,nN];exact List.mem_append_right _ (List.mem_map.2 ⟨x,hx,rfl⟩)
    obtain⟨q,hq,eq⟩:=List.mem_map.1 (List.count_pos_iff.1 hpos);obtain⟨q1,q2⟩:=jZ hq;obtain⟨p1,p2⟩:=jZ hp;have:q=p:=OL (Hl l) q1 p1 (eq.trans hxid);rw [this,p2] at q2;exact c q2.symm
  ·rintro⟨x,hx,hy⟩;refine⟨x,?_,hy⟩;rw [iC,dB,og,List.mem_flatMap];exact⟨_,List.mem_map.2 ⟨v,hv,rfl⟩,hx⟩
 rw [e];exact Fa _ _
theorem NA (t:aY)(l:List ay) {v:Bytes} (hv:v∈dI (aW l)):
  (dK (allT t l)).filter (fun x=>decide (x.veh=v))=(dK (iN t (jM (aW l) v)).trips).map (wo v):=by
 have e1:(allT t l).filter (fun x=>decide (x.veh=v))=(bI t (jM (aW l) v) v).trips:=by
  have hnd:=DY (aW l);rw [allT,Eb,List.flatMap_map];generalize dI (aW l)=V at hv hnd
  induction V with
  | nil=>cases hv
  | cons u V ih=>
   rw [List.flatMap_cons,List.filter_append];rw [List.nodup_cons] at hnd;have other: ∀u,u≠v→(bI t (jM (aW l) u) u).trips.filter (fun x=>decide (x.veh=v))=[]:=by
    intro u hu;rw [List.filter_eq_nil_iff];intro x hx;rw [rU _ _ _ x hx];simpa using hu
   by_cases c:u=v
   ·subst c;have:(V.flatMap fun w=>(bI t (jM (aW l) w) w).trips).filter (fun x=>decide (x.veh=u))=[]:=by
     rw [List.filter_eq_nil_iff];intro x hx;obtain⟨w,hw,hx⟩:=List.mem_flatMap.1 hx;have hne:w≠u:=fun e=>hnd.1 (e▸hw);rw [rU _ _ _ x hx];simpa using hne
    rw [this,List.append_nil,List.filter_eq_self];intro x hx;rw [rU _ _ _ x hx];simp
   ·rw [other u c,List.nil_append];rcases List.mem_cons.1 hv with e | hv
    ·exact absurd e.symm c
    ·exact ih hv hnd.2
 have e2:bI t (jM (aW l) v) v=Cn v (iN t (jM (aW l) v)):=by
  rw [iN,SY (Hl l),EP t _ (xO (jM (aW l) v)) v]
 rw [dK,Dp Xx,e1,e2,dK];exact yM (lt:=fun x y=>decide (qU x y<0)) (fun _ _=>rfl) _
end Go.Toll
end
section
section
namespace Go.Toll
open Go Go.Abs
theorem jW {n lo lo':Nat} {h:af} {x:AV} {es:List (List AV)} (r:Ls n lo h x es)(hl:lo'≤lo):Ls n lo' h x es:=by
 obtain⟨h1,h2⟩:=r;rcases h1 with e | ⟨b,e,hb,hg⟩
 ·exact⟨.inl e,h2⟩
 ·exact⟨.inr ⟨b,e,by omega,hg⟩,h2⟩
theorem Xh {n lo:Nat} {h:af} {x:AV} {es:List (List AV)} (r:Ls n lo h x es) {b off len:Nat} (e:x= .own b off len):b<h.length:=by
 rcases r.1 with⟨e1,_⟩ | ⟨b',e1,_,hg⟩
 ·rw [e1] at e;cases e
 ·rw [e1] at e;injection e with e2;subst e2;exact aK hg
end Go.Toll
end
section
namespace Go.Toll
open Go Go.Abs
structure XQ where
 name:Bytes
 point:Bytes
 kind:Int
 lane:Int
 offs:List (List AV)
 down:List Iv
end Go.Toll
end
section
namespace Go.Toll
open Go Go.Abs
section
variable {L : List XQ} {cuts : List Int} {a b : Int} {out : List Iv}
end
end Go.Toll
end
end
section
namespace Go.Proofs.YtkpioblbeiaefaaGreat
open Go Go.Abs Go.Toll
variable {gl : aM} {h : af}
set_option maxHeartbeats 8000000 in
theorem CZ (l:List ay) {x:AV} (hx:Rs 8 h x (l.map ae))(hok: ∀p∈l,p.Ok)(hn:l.length≤1000000):
  aa Tryz.prog gl 53 [x] h fun v h'=>v= .ro ((dC l).map ae)∧h'=h:=by
 refine aa.fresh' (aa.body Tryz.f53 _ mixed Tryz.func53 rfl rfl (by simp [Tryz.ntmps53]) ?_);have fx:=hx.fix;simp [fx];refine aT.up mixed l.length (fun i fr H=>fr 0=x∧fr 4= .int .i64 i∧(∃g,H=h++g)∧ ∃y,fr 3=y∧Ls 8 h.length H y ((dC (l.take i)).map ae)) 0 (by omega)
  ⟨by simp,by simp,⟨[],by simp⟩,.nil,by simp,by simpa [dC,aQ] using Ls.nil⟩ ?_
 rintro i fr H hi ⟨e0,e4,hB,y,e3,hy⟩;have hxH:Rs 8 H x (l.map ae):=by obtain⟨g,rfl⟩:=hB;exact hx.append _
 have lxH:=hxH.len2;have hlB:=bJ hB;rcases zN i l.length with hlt | hge
 ·obtain⟨p,hp,hp'⟩:=aJ hlt;have ew:=aB (i:=i) (by omega);have hltI:(i:Int)<l.length:=by omega
  have rp:=Rs.ix Tryz.prog hxH i (by omega) (y:=ae p) (by simp [hp]);simp only [ae] at rp;have hS:dC (l.take (i+1))=U6 p (dC (l.take i)):=by rw [dC,zM,hp];exact Me _ _
  have hSl:(dC (l.take i)).length≤i:=by rw [mZ];exact List.length_take_le _ _
  have hSo: ∀q∈dC (l.take i),q.Ok:=fun q hq=>hok q (List.mem_of_mem_take (lh.1 hq));have hSs:pU (fun a b=>decide (rX a b<0)) (dC (l.take i)):=fZ pF.swo _;generalize dC (l.take i)=S at*;have hyr:=hy.rs;have fy:=hyr.fix;have ly:=hyr.len2;simp [e0,e3,e4,hlt,hltI,lxH,fx];refine aT.up mixed S.length (fun j fr H'=>fr 0=x∧fr 3=y∧fr 4= .int .i64 i∧fr 5= .int .i64 j∧(∀k q,k<j→S[k]? =some q→decide (rX p q<0)=false)∧H=H') 0 (by omega)
   ⟨by simp [e0],by simp [e3],by simp [e4],by simp,by omega,rfl⟩ ?_
  clear e0 e3 e4;rintro j fr H' hj ⟨e0,e3,e4,e5,hk1,rfl⟩;have ewj:=aB (i:=j) (by omega);have hsl:ib (S.map ae).length none (some (j:Int)):=by simp [ib,xm,fG] <;> omega
  have hsr:ib (S.map ae).length (some (j:Int)) none:=by simp [ib,xm,fG] <;> omega
  have q1:=hyr.cut Tryz.prog (by omega) none (some (j:Int)) hsl;have q1f:=q1.1.fix;have q1o:=q1.2 57 (by decide) (by decide);have sl1:Rs 8 H (bA y none (some (j:Int))) ((S.take j).map ae):=by rw [List.map_take];simpa [fG,-bA,-List.map_take] using q1.1
  by_cases hjl:j<S.length
  ·obtain⟨q,hq,hq'⟩:=aJ hjl;have hjlI:(j:Int)<S.length:=by omega
   have rq:=Rs.ix Tryz.prog hyr j (by omega) (y:=ae q) (by simp [hq]);simp only [ae] at rq;have hcmp:=Ex (gl:=gl) (h:=H) q p (hSo q (zF hq)) (hok p (zF hp));have anti:=pF.anti p q;simp [av,iA,-aj,-au,-ah,-AV.solid,-bA,-bD,e0,e3,e4,e5,hjl,hjlI,lxH,ly,rq,rp,fx,fy];refine⟨by decide,?_⟩;refine ax.pure _ (fun _=>by simpa [ae] using hcmp) ?_;by_cases c:rX q p≤0
   ·simp [av,iA,-aj,-au,-ah,-AV.solid,-bA,-bD,e0,e3,e4,e5,c,ewj];refine⟨j+1,by omega,by omega,by omega,fun k q' hk hq2=> ?_⟩;rcases zN k j with r | r
    ·simpa using hk1 k q' r hq2
    ·obtain rfl:k=j:=by omega
     rw [hq] at hq2;cases hq2;omega
   ·have hk2: ∀q',S[j]? =some q'→decide (rX p q'<0)=true:=fun q' hq2=>by rw [hq] at hq2;cases hq2;simpa using anti.2 (by omega)
    simp [av,iA,-aj,-au,-ah,-AV.solid,-bA,-bD,e0,e3,e4,e5,c,fy,q1f,q1o];refine aN (lo:=H.length) (n:=8) (es:=[]) (ys:=(S.take j).map ae) Ls.nil (by simp) (jQ sl1 (by simp) (by simp) (by simp)) (by simp <;> omega) ?_;intro s1 H1 hs1 hg1 hn1;have hs1f:=hs1.rs.fix;have hB1:=hg1.base H (by omega) ⟨[],by simp⟩;have hx1:Rs 8 H1 x (l.map ae):=by obtain⟨g,rfl⟩:=hB1;exact hxH.append _
    have rp1:=Rs.ix Tryz.prog hx1 i (by omega) (y:=ae p) (by simp [hp]);simp only [ae] at rp1;simp [av,iA,-aj,-au,-ah,-AV.solid,-bA,-bD,-List.map_append,e0,e3,e4,e5,hs1f,fx,rp1];refine aN (lo:=H.length) (n:=8) (es:=(S.take j).map ae) (ys:=[ae p]) (by simpa using hs1.more _) (by have:=bJ hB1;simp <;> omega) (by simp [bE,ae]) (by simp <;> omega) ?_;intro s2 H2 hs2 hg2 hn2;have hs2f:=hs2.rs.fix;have hB2:=hg2.base H (by omega) (aI hB1 _);have hy2:Rs 8 H2 y (S.map ae):=by obtain⟨g,rfl⟩:=hB2;exact hyr.append _
    have q2:=hy2.cut Tryz.prog (by omega) (some (j:Int)) none hsr;have q2o:=q2.2 57 (by decide) (by decide);have sl2:Rs 8 H2 (bA y (some (j:Int)) none) ((S.drop j).map ae):=by
     have e:(S.map ae).take S.length=S.map ae:=zG (by simp);rw [List.map_drop];simpa [fG,-bA,e,-List.map_drop] using q2.1
    have sl2f:=sl2.fix;simp [av,iA,-aj,-au,-ah,-AV.solid,-bA,-bD,-List.map_append,e0,e3,e4,e5,fy,hs2f,sl2f,q2o];refine aN (lo:=H.length) (n:=8) (es:=(S.take j).map ae++[ae p]) (ys:=(S.drop j).map ae) hs2 (by have:=bJ hB2;omega) (jQ sl2 (by simp) (by simp) (by simp)) (by simp <;> omega) ?_;intro s3 H3 hs3 hg3 hn3;have hB3:=hg3.base H (by omega) hB2;have hs3f:=hs3.rs.fix;simp [av,iA,-aj,-au,-ah,-AV.solid,-bA,-bD,-List.map_append,e0,e3,e4,e5,hs3f,ew];have e:U6 p S=S.take j++p::S.drop j:=M5 pF.swo hSs hj hk1 hk2;have hl3:Ls 8 h.length H3 s3 ((dC (l.take (i+1))).map ae):=by rw [hS,e];exact jW (by simpa using hs3) hlB
    obtain⟨g,rfl⟩:=hB;obtain⟨g3,rfl⟩:=hB3;exact⟨i+1,by omega,by omega,by omega,⟨g++g3,by rw [zK]⟩,hl3⟩
  ·have hjlI: ¬(j:Int)<S.length:=by omega
   have hk2: ∀q',S[j]? =some q'→decide (rX p q'<0)=true:=fun q' hq2=>absurd (aK hq2) hjl;simp [av,iA,-aj,-au,-ah,-AV.solid,-bA,-bD,e0,e3,e4,e5,hjl,hjlI,lxH,ly,fx,fy];refine⟨by decide,?_⟩;refine ax.pure (.int .i64 0) (fun c=>by cases c) ?_;simp [av,iA,-aj,-au,-ah,-AV.solid,-bA,-bD,e0,e3,e4,e5,fy,q1f,q1o];refine aN (lo:=H.length) (n:=8) (es:=[]) (ys:=(S.take j).map ae) Ls.nil (by simp) (jQ sl1 (by simp) (by simp) (by simp)) (by simp <;> omega) ?_;intro s1 H1 hs1 hg1 hn1;have hs1f:=hs1.rs.fix;have hB1:=hg1.base H (by omega) ⟨[],by simp⟩;have hx1:Rs 8 H1 x (l.map ae):=by obtain⟨g,rfl⟩:=hB1;exact hxH.append _
   have rp1:=Rs.ix Tryz.prog hx1 i (by omega) (y:=ae p) (by simp [hp]);simp only [ae] at rp1;simp [av,iA,-aj,-au,-ah,-AV.solid,-bA,-bD,-List.map_append,e0,e3,e4,e5,hs1f,fx,rp1];refine aN (lo:=H.length) (n:=8) (es:=(S.take j).map ae) (ys:=[ae p]) (by simpa using hs1.more _) (by have:=bJ hB1;simp <;> omega) (by simp [bE,ae]) (by simp <;> omega) ?_;intro s2 H2 hs2 hg2 hn2;have hs2f:=hs2.rs.fix;have hB2:=hg2.base H (by omega) (aI hB1 _);have hy2:Rs 8 H2 y (S.map ae):=by obtain⟨g,rfl⟩:=hB2;exact hyr.append _
   have q2:=hy2.cut Tryz.prog (by omega) (some (j:Int)) none hsr;have q2o:=q2.2 57 (by decide) (by decide);have sl2:Rs 8 H2 (bA y (some (j:Int)) none) ((S.drop j).map ae):=by
    have e:(S.map ae).take S.length=S.map ae:=zG (by simp);rw [List.map_drop];simpa [fG,-bA,e,-List.map_drop] using q2.1
   have sl2f:=sl2.fix;simp [av,iA,-aj,-au,-ah,-AV.solid,-bA,-bD,-List.map_append,e0,e3,e4,e5,fy,hs2f,sl2f,q2o];refine aN (lo:=H.length) (n:=8) (es:=(S.take j).map ae++[ae p]) (ys:=(S.drop j).map ae) hs2 (by have:=bJ hB2;omega) (jQ sl2 (by simp) (by simp) (by simp)) (by simp <;> omega) ?_;intro s3 H3 hs3 hg3 hn3;have hB3:=hg3.base H (by omega) hB2;have hs3f:=hs3.rs.fix;simp [av,iA,-aj,-au,-ah,-AV.solid,-bA,-bD,-List.map_append,e0,e3,e4,e5,hs3f,ew];have e:U6 p S=S.take j++p::S.drop j:=M5 pF.swo hSs hj hk1 hk2;have hl3:Ls 8 h.length H3 s3 ((dC (l.take (i+1))).map ae):=by rw [hS,e];exact jW (by simpa using hs3) hlB
   obtain⟨g,rfl⟩:=hB;obtain⟨g3,rfl⟩:=hB3;exact⟨i+1,by omega,by omega,by omega,⟨g++g3,by rw [zK]⟩,hl3⟩
 ·obtain rfl:i=l.length:=by omega
  rw [List.take_length] at hy;have fy:=hy.rs.fix;simp [e0,e3,e4,lxH,fx,fy];exact⟨hB,hy.frz (Nat.le_refl _) (pI fun p hp=>hok p (lh.1 hp))⟩
theorem J9 (l:List aX): ∀e∈l.map ak,e.length=3:=fun e he=>by
 obtain⟨m,_,rfl⟩:=List.mem_map.1 he;rfl
theorem Tu (l:List bW): ∀e∈l.map aD,e.length=5:=fun e he=>by
 obtain⟨m,_,rfl⟩:=List.mem_map.1 he;rfl
theorem Tt (l:List Bytes): ∀e∈l.map aO,e.length=1:=fun e he=>by
 obtain⟨m,_,rfl⟩:=List.mem_map.1 he;rfl
theorem Mq (l:List Bytes): ∀e∈l.map aO,∀y∈e,y.Data:=fun e he y hy=>by
 obtain⟨m,_,rfl⟩:=List.mem_map.1 he;simp [aO] at hy;rw [hy];simp
theorem Rs.keepB {n:Nat} {h h':af} {x:AV} {es:List (List AV)} (r:Rs n h x es)(hb: ∃g,h'=h++g):Rs n h' x es:=by
 obtain⟨g,rfl⟩:=hb;exact r.append g
def gB (x:bW)(y:AV):List AV:=[.str x.id,.str x.veh,.str x.sys,.int .i64 x.cls,y]
set_option maxHeartbeats 1000000 in
theorem Xo (x:bW) {y:AV} (hy:Rs 3 h y (x.stops.map ak))(hn:x.stops.length≤1000000):aa Tryz.prog gl 23 [.agg (gB x y)] h fun v h'=>v= .str (Le x)∧h'=h:=by
 refine aa.data (by simp) (aa.body Tryz.f23 _ mixed Tryz.func23 rfl rfl (by simp [Tryz.ntmps23]) ?_);have hyf:=hy.fix;simp [gB,hyf];refine aT.up mixed x.stops.length (fun i fr H=>fr 1= .ptr h.length 0 0∧fr 3= .int .i64 i∧bu (x.stops.take i)=[]∧h++[.cells 5 [gB x y]]=H) 0 (by omega)
  ⟨by simp,by simp,by simp [bu],rfl⟩ ?_
 rintro i fr H hi ⟨e1,e3,hpl,rfl⟩;have hyH:=hy.append [.cells 5 [gB x y]];have lyH:=hyH.len2;simp only [gB] at lyH;rcases zN i x.stops.length with hlt | hge
 ·obtain⟨s,hs,hs'⟩:=aJ hlt;have ew:=aB (i:=i) (by omega);have hltI:(i:Int)<x.stops.length:=by omega
  have ra:=Rs.ix Tryz.prog hyH i (by omega) (y:=ak s) (by simp [hs]);simp only [ak,gB] at ra;have hsuc:=vV hs;rw [hpl] at hsuc;by_cases c:s.pass=[]
  ·rw [if_pos c] at hsuc;simp [gB,e1,e3,hlt,hltI,lyH,ra,hyf,c,ew];exact⟨i+1,by omega,by omega,by omega,hsuc⟩
  ·rw [if_neg c] at hsuc;have hid:Le x=s.pass:=by
    have e:bu x.stops=bu (x.stops.take (i+1))++bu (x.stops.drop (i+1)):=by
     rw [bu,bu,bu,←List.map_append,←List.filter_append,List.take_append_drop]
    rw [Le,e,hsuc];rfl
   simp [gB,e1,e3,hlt,hltI,lyH,ra,hyf,c,ew,hid]
 ·obtain rfl:i=x.stops.length:=by omega
  rw [List.take_length] at hpl;have hid:Le x=x.id:=by rw [Le,hpl];rfl
  simp [gB,e1,e3,lyH,hyf,hid]
set_option maxHeartbeats 1000000 in
theorem FL (x:bW) {y:AV} (hy:Rs 3 h y (x.stops.map ak))(hn:x.stops.length≤1000000):aa Tryz.prog gl 33 [.agg (aD x),.agg (gB x y)] h fun v h'=>v= .bool true∧h'=h:=by
 refine aa.data (by simp) (aa.body Tryz.f33 _ mixed Tryz.func33 rfl rfl (by simp [Tryz.ntmps33]) ?_);have hyf:=hy.fix;have hyH:=hy.append [.cells 5 [aD x],.cells 5 [gB x y]];have lyH:=hyH.len2;simp only [gB,aD] at lyH;simp [av,gB,aD,hyf,lyH];refine aT.up mixed x.stops.length (fun i fr H=>fr 2= .ptr h.length 0 0∧fr 3= .ptr (h.length+1) 0 0∧fr 5= .int .i64 i∧h++[.cells 5 [aD x],.cells 5 [gB x y]]=H) 0 (by omega)
  ⟨by simp,by simp,by simp,rfl⟩ ?_
 rintro i fr H hi ⟨e2,e3,e5,rfl⟩;rcases zN i x.stops.length with hlt | hge
 ·obtain⟨s,hs,hs'⟩:=aJ hlt;have ew:=aB (i:=i) (by omega);have hltI:(i:Int)<x.stops.length:=by omega
  have ra:=Rs.ix Tryz.prog hyH i (by omega) (y:=ak s) (by simp [hs]);simp only [ak,gB,aD] at ra;simp [av,gB,aD,ak,e2,e3,e5,hlt,hltI,lyH,ra,hyf,hs,hs',ew];refine⟨by decide,?_⟩;exact⟨i+1,by omega,by omega,by omega⟩
 ·obtain rfl:i=x.stops.length:=by omega
  simp [av,gB,aD,e2,e3,e5,lyH,hyf]
set_option maxHeartbeats 1000000 in
theorem LQ (l:List bW) {x y:AV} (hx:Rs 5 h x (l.map aD))(hy:Rs 5 h y (l.map aD))(hl:l.length≤1000000)(hst: ∀z∈l,z.stops.length≤1000000):
  aa Tryz.prog gl 14 [x,y] h fun v h'=>v= .bool true∧h'=h:=by
 refine aa.data (by simp) (aa.body Tryz.f14 _ mixed Tryz.func14 rfl rfl (by simp [Tryz.ntmps14]) ?_);have fx:=hx.fix;have fy:=hy.fix;have lx:=hx.len2;have ly:=hy.len2;simp [fx,fy,lx,ly];refine aT.up mixed l.length (fun i fr H=>fr 0=x∧fr 1=y∧fr 5= .int .i64 i∧h=H) 0 (by omega) ⟨by simp,by simp,by simp,rfl⟩ ?_;rintro i fr H hi ⟨e0,e1,e5,rfl⟩;rcases zN i l.length with hlt | hge
 ·obtain⟨s,hs,hs'⟩:=aJ hlt;have ew:=aB (i:=i) (by omega);have hltI:(i:Int)<l.length:=by omega
  have ra:=Rs.ix Tryz.prog hx i (by omega) (y:=aD s) (by simp [hs]);have rb:=Rs.ix Tryz.prog hy i (by omega) (y:=aD s) (by simp [hs]);simp only [aD] at ra rb;have hone:=FL (gl:=gl) (h:=h) s (y:= .ro (s.stops.map ak)) (Rs.ro (J9 _)) (hst s (zF hs));simp [e0,e1,e5,hlt,hltI,lx,ly,ra,rb,fx,fy];refine⟨by decide,?_⟩;refine ax.pure _ (fun _=>by simpa [aD,gB] using hone) ?_;simp [e0,e1,e5,ew];exact⟨i+1,by omega,by omega,by omega⟩
 ·obtain rfl:i=l.length:=by omega
  simp [e0,e1,e5,lx,fx]
set_option maxHeartbeats 4000000 in
theorem zP (l:List ay) {x:AV} (hx:Rs 8 h x (l.map ae))(hok: ∀p∈l,p.Ok)(hn:l.length≤1000000):aa Tryz.prog gl 26 [x] h fun v h'=>v= .ro ((aW l).map ae)∧h'=h:=by
 refine aa.fresh' (aa.body Tryz.f26 _ mixed Tryz.func26 rfl rfl (by simp [Tryz.ntmps26]) ?_);simp [hx.fix];refine ax.pure _ (fun _=>CZ l hx hok hn) ?_;have hSl:(dC l).length=l.length:=mZ l;have hSm: ∀p∈aW l,p∈l:=fun p hp=>by
  have:=kU hp;rw [List.take_length] at this;exact lh.1 this
 have hon:aW l=dX (dC l) (dC l).length:=rfl;generalize dC l=S at*;simp;refine aT.up mixed S.length (fun i fr H=>fr 3= .ro (S.map ae)∧fr 5= .int .i64 i∧(∃g,H=h++g)∧ ∃y,fr 4=y∧Ls 8 h.length H y ((dX S i).map ae)) 0 (by omega)
  ⟨by simp,by simp,⟨_,rfl⟩,_,rfl,Ls.own (by simp [dX]) (by simp) (by simp [dX]) (by simp [dX])⟩ ?_
 rintro i fr H hi ⟨e3,e5,hB,y,e4,hy⟩;have hyf:=hy.rs.fix;have hyl:=hy.rs.len2;have hlB:=bJ hB;rcases zN i S.length with hlt | hge
 ·obtain⟨p,hp,hp'⟩:=aJ hlt;have ew:=aB (i:=i) (by omega);have hltI:(i:Int)<S.length:=by omega
  have hlen:=pE S i;have ho:=vT hp;have hseen:=vS (S:=S) (p:=p) i;generalize dX S i=O at*;simp [e3,e4,e5,hlt,hltI];refine aT.up mixed O.length (fun k fr H'=>fr 3= .ro (S.map ae)∧fr 4=y∧fr 5= .int .i64 i∧fr 6= .bool ((O.take k).any fun q=>decide (q.id=p.id))∧fr 7= .int .i64 k∧H=H') 0 (by omega)
   ⟨by simp [e3],by simp [e4],by simp [e5],by simp,by simp,rfl⟩ ?_
  clear e3 e4 e5;rintro k fr H' hk ⟨e3,e4,e5,e6,e7,rfl⟩;rcases zN k O.length with hkl | hkg
  ·obtain⟨q,hq,hq'⟩:=aJ hkl;have ewk:=aB (i:=k) (by omega);have hkI:(k:Int)<O.length:=by omega
   have rq:=Rs.ix Tryz.prog hy.rs k (by omega) (y:=ae q) (by simp [hq]);simp only [ae] at rq;have ht:((O.take (k+1)).any fun q=>decide (q.id=p.id))=(((O.take k).any fun q=>decide (q.id=p.id)) || decide (q.id=p.id)):=by rw [zM,hq];simp
   generalize ((O.take k).any fun q=>decide (q.id=p.id))=b at*
   cases b with
   | true=>
    simp [av,ae,-List.any_eq_true,-List.any_eq_false,e3,e4,e5,e6,e7,hlt,hltI,hkI,hyf,hyl,ewk,hp,hp'];refine⟨by decide,?_⟩;exact⟨k+1,by omega,by omega,by rw [ht];rfl,by omega⟩
   | false=>
    by_cases c:q.id=p.id
    ·simp [av,ae,-List.any_eq_true,-List.any_eq_false,e3,e4,e5,e6,e7,hlt,hltI,hkI,hyf,hyl,ewk,hp,hp',rq,c];refine⟨by decide,?_⟩;exact⟨k+1,by omega,by omega,by rw [ht];simp [c],by omega⟩
    ·simp [av,ae,-List.any_eq_true,-List.any_eq_false,e3,e4,e5,e6,e7,hlt,hltI,hkI,hyf,hyl,ewk,hp,hp',rq,c];refine⟨by decide,?_⟩;exact⟨k+1,by omega,by omega,by rw [ht];simp [c],by omega⟩
  ·obtain rfl:k=O.length:=by omega
   rw [List.take_length,hseen] at e6;by_cases c:zQ S i p=true
   ·rw [if_pos c] at ho;rw [c] at e6;simp [av,e3,e4,e5,e6,e7,hyf,hyl,ew];exact⟨i+1,by omega,by omega,by omega,hB,by rw [ho];exact hy⟩
   ·rw [if_neg c] at ho;have c':zQ S i p=false:=by simpa using c
    rw [c'] at e6;simp [av,-aj,-au,-ah,-AV.solid,e3,e4,e5,e6,e7,hyf,hyl,ew,hlt,hltI,hp,hp'];refine aN (lo:=h.length) (n:=8) (es:=O.map ae) (ys:=[ae p]) (by simpa using hy.more _) (by simp;omega) (by simp [bE,ae]) (by simp;omega) ?_;intro s1 H1 hs1 hg1 hn1;have hs1f:=hs1.rs.fix;have hB1:=hg1.base h (by omega) (aI hB _);simp [-aj,-au,-ah,-AV.solid,e3,e4,e5,e6,e7,hs1f,ew];exact⟨i+1,by omega,by omega,by omega,hB1,by rw [ho];simpa using hs1⟩
 ·obtain rfl:i=S.length:=by omega
  simp [e3,e4,e5,hyf];refine⟨hB,?_⟩;rw [hon];exact hy.frz (Nat.le_refl _) (pI fun p hp=>hok p (hSm p (by rw [hon];exact hp)))
theorem Ps {l:List ay} {s:Bytes} {i:Nat} (h:oz (wB (l.take i) s)=some []):qW l s=some []:=by
 rw [qW,←List.take_append_drop i l,RG];exact RD _ h fun t ht=>Tq ht
set_option maxHeartbeats 4000000 in
theorem uY (l:List ay)(p:ay)(hn:l.length≤1000000):aa Tryz.prog gl 54 [.ro (l.map ae),.agg (ae p)] h fun v h'=>v= .str (bG l p)∧h'=h:=by
 refine aa.data (by simp) (aa.body Tryz.f54 _ mixed Tryz.func54 rfl rfl (by simp [Tryz.ntmps54]) ?_);by_cases c1:p.tag=[]
 ·by_cases c2:p.plate=[]
  ·simp [av,ae,c1,c2,bG]
  ·have ho:bG l p=OQ ((qW l p.plate).getD []) p.plate:=by rw [bG,if_pos ⟨c1,c2⟩]
   rw [ho];simp [av,ae,c1,c2];refine aT.up mixed l.length (fun i fr H=>fr 0= .ro (l.map ae)∧fr 3= .ptr h.length 0 0∧fr 6= .int .i64 i∧(∃o,oz (wB (l.take i) p.plate)=o∧o≠some []∧fr 5= .str (o.getD []))∧h++[.cells 8 [ae p]]=H) 0 (by omega)
    ⟨by simp,by simp,by simp,⟨none,by simp [wB,oz],by simp,by simp⟩,by simp [ae,c1]⟩ ?_
   rintro i fr H hi ⟨e0,e3,e6,⟨o,ho1,ho2,e5⟩,rfl⟩;rcases zN i l.length with hlt | hge
   ·obtain⟨q,hq,hq'⟩:=aJ hlt;have ew:=aB (i:=i) (by omega);have hltI:(i:Int)<l.length:=by omega
    have hst:=FU hq p.plate;by_cases d1:q.plate=p.plate
    ·by_cases d2:q.tag=[]
     ·rw [if_neg (fun e=>e.2 d2)] at hst;simp [av,ae,e0,e3,e5,e6,hlt,hltI,hq,hq',d1,d2,ew];refine⟨by decide,i+1,by omega,by omega,by omega,?_⟩;rw [hst,ho1];exact⟨ho2,rfl⟩
     ·rw [if_pos ⟨d1,d2⟩] at hst;have hsn:=FT (wB (l.take i) p.plate) d2;rw [←hst,ho1] at hsn
      cases o with
      | none=>
       simp at hsn;simp [av,ae,e0,e3,e5,e6,hlt,hltI,hq,hq',d1,d2,ew];refine⟨by decide,i+1,by omega,by omega,by omega,?_⟩;rw [hsn];exact⟨by simpa using d2,rfl⟩
      | some t=>
       have ht:t≠[]:=fun e=>ho2 (by rw [e]);by_cases d3:t=q.tag
       ·simp [d3] at hsn;simp [av,ae,e0,e3,e5,e6,hlt,hltI,hq,hq',d1,d2,d3,ew];refine⟨by decide,i+1,by omega,by omega,by omega,?_⟩;rw [hsn];exact⟨by simpa using d2,rfl⟩
       ·simp [d3] at hsn;have hb:=Ps hsn;simp [av,ae,e0,e3,e5,e6,hlt,hltI,hq,hq',d1,d2,d3,ht,ew,hb,OQ]
        try decide
    ·rw [if_neg (fun e=>d1 e.1)] at hst;simp [av,ae,e0,e3,e5,e6,hlt,hltI,hq,hq',d1,ew];refine⟨by decide,i+1,by omega,by omega,by omega,?_⟩;rw [hst,ho1];exact⟨ho2,rfl⟩
   ·obtain rfl:i=l.length:=by omega
    rw [List.take_length] at ho1;have ht:qW l p.plate=o:=ho1;rw [ht]
    cases o with
    | none=>simp [av,ae,e0,e3,e5,e6,OQ]
    | some t=>
     have ht:t≠[]:=fun e=>ho2 (by rw [e]);simp [av,ae,e0,e3,e5,e6,OQ,ht]
 ·simp [av,ae,c1,bG]
theorem RF {A:List Bytes} {t:Bytes} (h:oz A=some t):t=[]∨t∈A:=by
 cases A with
 | nil=>cases h
 | cons a r=>
  simp only [oz,Option.some.injEq] at h;split at h
  ·exact .inr (by simp [h])
  ·exact .inl h.symm
theorem JH {l:List ay} (hok: ∀p∈l,p.Ok) {p:ay} (hp:p.Ok):eG (bG l p):=by
 unfold bG;split
 ·unfold OQ;split
  ·exact hp.plate
  ·rename_i h1 h2
   cases ht:qW l p.plate with
   | none=>rw [ht] at h2;exact absurd rfl h2
   | some t=>
    rcases RF ht with e | hm
    ·rw [ht,e] at h2;exact absurd rfl h2
    ·obtain⟨q,hq,rfl⟩:=List.mem_map.1 hm;exact (hok q (List.mem_filter.1 hq).1).tag
 ·exact hp.tag
set_option maxHeartbeats 1000000 in
theorem tJ (l:List ay)(hok: ∀p∈l,p.Ok)(hn:l.length≤1000000):aa Tryz.prog gl 27 [.ro (l.map ae)] h fun v h'=>v= .ro ((dI l).map aO)∧h'=h:=by
 refine aa.fresh' (aa.body Tryz.f27 _ mixed Tryz.func27 rfl rfl (by simp [Tryz.ntmps27]) ?_);simp;refine aT.up mixed l.length (fun i fr H=>fr 0= .ro (l.map ae)∧fr 4= .int .i64 i∧(∃y,fr 3=y∧Rn y ((rz l i).map aO))∧h=H) 0 (by omega)
  ⟨by simp,by simp,⟨.nil,by simp,by simpa [rz] using Rn.nil⟩,rfl⟩ ?_
 rintro i fr H hi ⟨e0,e4,⟨y,e3,hy⟩,rfl⟩;have hyf:=(hy.rs (n:=1) h (Tt _)).fix;rcases zN i l.length with hlt | hge
 ·obtain⟨p,hp,hp'⟩:=aJ hlt;have ew:=aB (i:=i) (by omega);have hltI:(i:Int)<l.length:=by omega
  have hj:=PH hp;have hlen:=Kt l i;simp [e0,e3,e4,hlt,hltI,hp,hp',ae];refine ax.pure _ (fun _=>by simpa [ae] using uY l p hn) ?_;have hsh:=JH hok (hok p (zF hp));generalize bG l p=v at*;by_cases c:v=[]
  ·rw [if_pos c] at hj;simp [e0,e3,e4,c,ew];exact⟨i+1,by omega,by omega,by omega,by rw [hj];exact hy⟩
  ·rw [if_neg c] at hj;simp [e0,e3,e4,c,hyf];refine ax.pure _ (fun _=>Hw _ v y hy hsh (by omega)) ?_;simp [e0,e3,e4,ew];exact⟨i+1,by omega,by omega,by omega,by rw [hj];exact Rn.ro _⟩
 ·obtain rfl:i=l.length:=by omega
  rw [Tv] at hy;simp [e0,e3,e4,hyf];rcases hy with rfl | ⟨rfl,he⟩
  ·exact .data _ (.ro _ (Mq _))
  ·have hv:dI l=[]:=by simpa using he
   rw [hv];exact .nil
def Iy (l:List ay)(v:Bytes)(i:Nat):List ay:=if v=[] then [] else Hd l v i
set_option maxHeartbeats 4000000 in
theorem JS (l:List ay)(v:Bytes)(hok: ∀p∈l,p.Ok)(hn:l.length≤1000000):aa Tryz.prog gl 28 [.ro (l.map ae),.str v] h fun x h'=>x= .ro ((jM l v).map ae)∧h'=h:=by
 refine aa.fresh' (aa.body Tryz.f28 _ mixed Tryz.func28 rfl rfl (by simp [Tryz.ntmps28]) ?_);simp;refine aT.up mixed l.length (fun i fr H=>fr 0= .ro (l.map ae)∧fr 1= .str v∧fr 6= .int .i64 i∧(∃g,H=h++g)∧ ∃y,fr 5=y∧Ls 8 h.length H y ((Iy l v i).map ae)) 0 (by omega)
  ⟨by simp,by simp,by simp,⟨[],by simp⟩,.nil,by simp,by simpa [Iy,Hd] using Ls.nil⟩ ?_
 rintro i fr H hi ⟨e0,e1,e6,hB,y,e5,hy⟩;have hyf:=hy.rs.fix;have hlB:=bJ hB;have hlen:(Iy l v i).length≤i:=by
  unfold Iy;split
  ·simp
  ·exact AC l v i
 rcases zN i l.length with hlt | hge
 ·obtain⟨p,hp,hp'⟩:=aJ hlt;have ew:=aB (i:=i) (by omega);have hltI:(i:Int)<l.length:=by omega
  have ho:=Cu hp (v:=v);simp [-aj,-au,-ah,-AV.solid,e0,e1,e5,e6,hlt,hltI,hp,hp',ae];refine ax.pure _ (fun _=>by simpa [ae] using uY l p hn) ?_;generalize bG l p=u at*;by_cases c:u=[]
  ·have hs:Iy l v (i+1)=Iy l v i:=by
    unfold Iy;split
    ·rfl
    ·rename_i hv;rw [ho,if_neg (fun e=>hv (by rw [←e,c]))]
   simp [av,-aj,-au,-ah,-AV.solid,e0,e1,e5,e6,c,ew];exact⟨i+1,by omega,by omega,by omega,hB,by rw [hs];exact hy⟩
  ·by_cases d:u=v
   ·have hs:Iy l v (i+1)=Iy l v i++[p]:=by
     unfold Iy;rw [if_neg (by rw [←d];exact c),if_neg (by rw [←d];exact c),ho,if_pos d]
    have d2: ¬v=[]:=by rw [←d];exact c
    simp [av,-aj,-au,-ah,-AV.solid,e0,e1,e5,e6,d,d2,hlt,hltI,hp,hp',hyf];refine aN (lo:=h.length) (n:=8) (es:=(Iy l v i).map ae) (ys:=[ae p]) (by simpa [ae] using hy.more _) (by simp;omega) (by simp [bE,ae]) (by simp;omega) ?_;intro s1 H1 hs1 hg1 hn1;have hs1f:=hs1.rs.fix;have hB1:=hg1.base h (by omega) (aI hB _);simp [-aj,-au,-ah,-AV.solid,e0,e1,e5,e6,hs1f,ew];exact⟨i+1,by omega,by omega,by omega,hB1,by rw [hs];simpa using hs1⟩
   ·have hs:Iy l v (i+1)=Iy l v i:=by
     unfold Iy;split
     ·rfl
     ·rw [ho,if_neg d]
    simp [av,-aj,-au,-ah,-AV.solid,e0,e1,e5,e6,c,d,ew];exact⟨i+1,by omega,by omega,by omega,hB,by rw [hs];exact hy⟩
 ·obtain rfl:i=l.length:=by omega
  have hm:dC (Iy l v l.length)=jM l v:=by
   unfold Iy jM;split <;> rfl
  have hmem: ∀p∈Iy l v l.length,p.Ok:=fun p hp=>by
   unfold Iy at hp;split at hp
   ·cases hp
   ·exact hok p (AJ hp).1
  simp [-aj,-au,-ah,-AV.solid,e0,e1,e5,e6,hyf];refine ax.pure _ (fun _=>CZ _ hy.rs hmem (by omega)) ?_;simp;refine⟨hB,?_⟩;rw [hm];exact .data _ (.ro _ (pI fun p hp=>hok p (jZ hp).1))
theorem Dq (A:List bW):(dK A).length=A.length:=bz _ _
end Go.Proofs.YtkpioblbeiaefaaGreat
end
section
namespace Go.Proofs.YtkpioblbeiaefaaGreat
open Go Go.Abs Go.Toll
variable {gl : aM} {h : af}
section
variable {t : aY} (hz : bX t = 0)
include hz
variable {veh : Bytes} {cls : Bytes → Int} {w : bS} {s : aX} {p : Pt}
end
theorem Mj (l:List aX): ∀e∈l.map ak,∀y∈e,y.Data:=fun e he y hy=>by
 obtain⟨s,_,rfl⟩:=List.mem_map.1 he;simp [ak] at hy;rcases hy with rfl | rfl | rfl <;> simp
end Go.Proofs.YtkpioblbeiaefaaGreat
end
