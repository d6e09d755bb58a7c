/- Part 15 of the lemmas below the statements of this seat: R21P, R21B, R21C, R21M. -/
import Derived.Test.YtkpioblbeiaefaaGreatPb14
set_option linter.unusedSectionVars false
set_option linter.unusedVariables false
set_option linter.unusedSimpArgs false
set_option linter.unnecessarySimpa false
set_option maxRecDepth 100000
namespace Go.Proofs.YtkpioblbeiaefaaGreat
open Go Go.Abs Go.Toll
variable {gl : aR} {h : ak}
set_option maxHeartbeats 8000000 in
theorem EJ (l:List aC) {x:AV} (hx:Rs 8 h x (l.map aj))(hok: ∀p∈l,p.Ok)(hn:l.length≤1000000):
  af Tryz.prog gl 53 [x] h fun v h'=>v= .ro ((dZ l).map aj)∧h'=h:=by
 refine af.fresh' (af.body Tryz.f53 _ mixed Tryz.func53 rfl rfl (by simp [Tryz.ntmps53]) ?_);have fx:=hx.fix;simp [fx];refine aW.up mixed l.length (fun i fr H=>fr 0=x∧fr 4= .int .i64 i∧(∃g,H=h++g)∧ ∃y,fr 3=y∧Ls 8 h.length H y ((dZ (l.take i)).map aj)) 0 (by omega)
  ⟨by simp,by simp,⟨[],by simp⟩,.nil,by simp,by simpa [dZ,aT] using Ls.nil⟩ ?_
 rintro i fr H hi ⟨e0,e4,hB,y,e3,hy⟩;have hxH:Rs 8 H x (l.map aj):=by obtain⟨g,rfl⟩:=hB;exact hx.append _
 have lxH:=hxH.len2;have hlB:=aV hB;rcases zN i l.length with hlt | hge
 ·obtain⟨p,hp,hp'⟩:=aN hlt;have ew:=aB (i:=i) (by omega);have hltI:(i:Int)<l.length:=by omega
  have rp:=Rs.ix Tryz.prog hxH i (by omega) (y:=aj p) (by simp [hp]);simp only [aj] at rp;have hS:dZ (l.take (i+1))=Xb p (dZ (l.take i)):=by rw [dZ,zM,hp];exact xQ _ _
  have hSl:(dZ (l.take i)).length≤i:=by rw [og];exact List.length_take_le _ _
  have hSo: ∀q∈dZ (l.take i),q.Ok:=fun q hq=>hok q (List.mem_of_mem_take (l8.1 hq));have hSs:qz (fun a b=>decide (uu a b<0)) (dZ (l.take i)):=fu rA.swo _;generalize dZ (l.take i)=S at*;have hyr:=hy.rs;have fy:=hyr.fix;have ly:=hyr.len2;simp [e0,e3,e4,hlt,hltI,lxH,fx];refine aW.up mixed S.length (fun j fr H'=>fr 0=x∧fr 3=y∧fr 4= .int .i64 i∧fr 5= .int .i64 j∧(∀k q,k<j→S[k]? =some q→decide (uu p q<0)=false)∧H=H') 0 (by omega)
   ⟨by simp [e0],by simp [e3],by simp [e4],by simp,by omega,rfl⟩ ?_
  clear e0 e3 e4;rintro j fr H' hj ⟨e0,e3,e4,e5,hk1,rfl⟩;have ewj:=aB (i:=j) (by omega);have hsl:eD (S.map aj).length none (some (j:Int)):=by simp [eD,tQ,eY] <;> omega
  have hsr:eD (S.map aj).length (some (j:Int)) none:=by simp [eD,tQ,eY] <;> omega
  have q1:=hyr.cut Tryz.prog (by omega) none (some (j:Int)) hsl;have q1f:=q1.1.fix;have q1o:=q1.2 57 (by decide) (by decide);have sl1:Rs 8 H (aS y none (some (j:Int))) ((S.take j).map aj):=by rw [List.map_take];simpa [eY,-aS,-List.map_take] using q1.1
  by_cases hjl:j<S.length
  ·obtain⟨q,hq,hq'⟩:=aN hjl;have hjlI:(j:Int)<S.length:=by omega
   have rq:=Rs.ix Tryz.prog hyr j (by omega) (y:=aj q) (by simp [hq]);simp only [aj] at rq;have hcmp:=Gm (gl:=gl) (h:=H) q p (hSo q (zF hq)) (hok p (zF hp));have anti:=rA.anti p q;simp [au,bK,-ae,-ai,-ah,-AV.solid,-aS,-aU,e0,e3,e4,e5,hjl,hjlI,lxH,ly,rq,rp,fx,fy];refine⟨by decide,?_⟩;refine ay.pure _ (fun _=>by simpa [aj] using hcmp) ?_;by_cases c:uu q p≤0
   ·simp [au,bK,-ae,-ai,-ah,-AV.solid,-aS,-aU,e0,e3,e4,e5,c,ewj];refine⟨j+1,by omega,by omega,by omega,fun k q' hk hq2=> ?_⟩;rcases zN k j with r | r
    ·simpa using hk1 k q' r hq2
    ·obtain rfl:k=j:=by omega
     rw [hq] at hq2;cases hq2;omega
   ·have hk2: ∀q',S[j]? =some q'→decide (uu p q'<0)=true:=fun q' hq2=>by rw [hq] at hq2;cases hq2;simpa using anti.2 (by omega)
    simp [au,bK,-ae,-ai,-ah,-AV.solid,-aS,-aU,e0,e3,e4,e5,c,fy,q1f,q1o];refine aG (lo:=H.length) (n:=8) (es:=[]) (ys:=(S.take j).map aj) Ls.nil (by simp) (bL sl1 (by simp) (by simp) (by simp)) (by simp <;> omega) ?_;intro s1 H1 hs1 hg1 hn1;have hs1f:=hs1.rs.fix;have hB1:=hg1.base H (by omega) ⟨[],by simp⟩;have hx1:Rs 8 H1 x (l.map aj):=by obtain⟨g,rfl⟩:=hB1;exact hxH.append _
    have rp1:=Rs.ix Tryz.prog hx1 i (by omega) (y:=aj p) (by simp [hp]);simp only [aj] at rp1;simp [au,bK,-ae,-ai,-ah,-AV.solid,-aS,-aU,-List.map_append,e0,e3,e4,e5,hs1f,fx,rp1];refine aG (lo:=H.length) (n:=8) (es:=(S.take j).map aj) (ys:=[aj p]) (by simpa using hs1.more _) (by have:=aV hB1;simp <;> omega) (by simp [bu,aj]) (by simp <;> omega) ?_;intro s2 H2 hs2 hg2 hn2;have hs2f:=hs2.rs.fix;have hB2:=hg2.base H (by omega) (aF hB1 _);have hy2:Rs 8 H2 y (S.map aj):=by obtain⟨g,rfl⟩:=hB2;exact hyr.append _
    have q2:=hy2.cut Tryz.prog (by omega) (some (j:Int)) none hsr;have q2o:=q2.2 57 (by decide) (by decide);have sl2:Rs 8 H2 (aS y (some (j:Int)) none) ((S.drop j).map aj):=by
     have e:(S.map aj).take S.length=S.map aj:=zG (by simp);rw [List.map_drop];simpa [eY,-aS,e,-List.map_drop] using q2.1
    have sl2f:=sl2.fix;simp [au,bK,-ae,-ai,-ah,-AV.solid,-aS,-aU,-List.map_append,e0,e3,e4,e5,fy,hs2f,sl2f,q2o];refine aG (lo:=H.length) (n:=8) (es:=(S.take j).map aj++[aj p]) (ys:=(S.drop j).map aj) hs2 (by have:=aV hB2;omega) (bL sl2 (by simp) (by simp) (by simp)) (by simp <;> omega) ?_;intro s3 H3 hs3 hg3 hn3;have hB3:=hg3.base H (by omega) hB2;have hs3f:=hs3.rs.fix;simp [au,bK,-ae,-ai,-ah,-AV.solid,-aS,-aU,-List.map_append,e0,e3,e4,e5,hs3f,ew];have e:Xb p S=S.take j++p::S.drop j:=pR rA.swo hSs hj hk1 hk2;have hl3:Ls 8 h.length H3 s3 ((dZ (l.take (i+1))).map aj):=by rw [hS,e];exact kV (by simpa using hs3) hlB
    obtain⟨g,rfl⟩:=hB;obtain⟨g3,rfl⟩:=hB3;exact⟨i+1,by omega,by omega,by omega,⟨g++g3,by rw [zK]⟩,hl3⟩
  ·have hjlI: ¬(j:Int)<S.length:=by omega
   have hk2: ∀q',S[j]? =some q'→decide (uu p q'<0)=true:=fun q' hq2=>absurd (aK hq2) hjl;simp [au,bK,-ae,-ai,-ah,-AV.solid,-aS,-aU,e0,e3,e4,e5,hjl,hjlI,lxH,ly,fx,fy];refine⟨by decide,?_⟩;refine ay.pure (.int .i64 0) (fun c=>by cases c) ?_;simp [au,bK,-ae,-ai,-ah,-AV.solid,-aS,-aU,e0,e3,e4,e5,fy,q1f,q1o];refine aG (lo:=H.length) (n:=8) (es:=[]) (ys:=(S.take j).map aj) Ls.nil (by simp) (bL sl1 (by simp) (by simp) (by simp)) (by simp <;> omega) ?_;intro s1 H1 hs1 hg1 hn1;have hs1f:=hs1.rs.fix;have hB1:=hg1.base H (by omega) ⟨[],by simp⟩;have hx1:Rs 8 H1 x (l.map aj):=by obtain⟨g,rfl⟩:=hB1;exact hxH.append _
   have rp1:=Rs.ix Tryz.prog hx1 i (by omega) (y:=aj p) (by simp [hp]);simp only [aj] at rp1;simp [au,bK,-ae,-ai,-ah,-AV.solid,-aS,-aU,-List.map_append,e0,e3,e4,e5,hs1f,fx,rp1];refine aG (lo:=H.length) (n:=8) (es:=(S.take j).map aj) (ys:=[aj p]) (by simpa using hs1.more _) (by have:=aV hB1;simp <;> omega) (by simp [bu,aj]) (by simp <;> omega) ?_;intro s2 H2 hs2 hg2 hn2;have hs2f:=hs2.rs.fix;have hB2:=hg2.base H (by omega) (aF hB1 _);have hy2:Rs 8 H2 y (S.map aj):=by obtain⟨g,rfl⟩:=hB2;exact hyr.append _
   have q2:=hy2.cut Tryz.prog (by omega) (some (j:Int)) none hsr;have q2o:=q2.2 57 (by decide) (by decide);have sl2:Rs 8 H2 (aS y (some (j:Int)) none) ((S.drop j).map aj):=by
    have e:(S.map aj).take S.length=S.map aj:=zG (by simp);rw [List.map_drop];simpa [eY,-aS,e,-List.map_drop] using q2.1
   have sl2f:=sl2.fix;simp [au,bK,-ae,-ai,-ah,-AV.solid,-aS,-aU,-List.map_append,e0,e3,e4,e5,fy,hs2f,sl2f,q2o];refine aG (lo:=H.length) (n:=8) (es:=(S.take j).map aj++[aj p]) (ys:=(S.drop j).map aj) hs2 (by have:=aV hB2;omega) (bL sl2 (by simp) (by simp) (by simp)) (by simp <;> omega) ?_;intro s3 H3 hs3 hg3 hn3;have hB3:=hg3.base H (by omega) hB2;have hs3f:=hs3.rs.fix;simp [au,bK,-ae,-ai,-ah,-AV.solid,-aS,-aU,-List.map_append,e0,e3,e4,e5,hs3f,ew];have e:Xb p S=S.take j++p::S.drop j:=pR rA.swo hSs hj hk1 hk2;have hl3:Ls 8 h.length H3 s3 ((dZ (l.take (i+1))).map aj):=by rw [hS,e];exact kV (by simpa using hs3) hlB
   obtain⟨g,rfl⟩:=hB;obtain⟨g3,rfl⟩:=hB3;exact⟨i+1,by omega,by omega,by omega,⟨g++g3,by rw [zK]⟩,hl3⟩
 ·obtain rfl:i=l.length:=by omega
  rw [List.take_length] at hy;have fy:=hy.rs.fix;simp [e0,e3,e4,lxH,fx,fy];exact⟨hB,hy.frz (Nat.le_refl _) (rD fun p hp=>hok p (l8.1 hp))⟩
theorem Mt (l:List bq): ∀e∈l.map aa,e.length=3:=fun e he=>by
 obtain⟨m,_,rfl⟩:=List.mem_map.1 he;rfl
theorem Cy (l:List dB): ∀e∈l.map aH,e.length=5:=fun e he=>by
 obtain⟨m,_,rfl⟩:=List.mem_map.1 he;rfl
theorem zS (l:List fI): ∀e∈l.map aM,e.length=2:=fun e he=>by
 obtain⟨m,_,rfl⟩:=List.mem_map.1 he;rfl
theorem Vv (l:List Bytes): ∀e∈l.map aO,e.length=1:=fun e he=>by
 obtain⟨m,_,rfl⟩:=List.mem_map.1 he;rfl
theorem OI (l:List Bytes): ∀e∈l.map aO,∀y∈e,y.Data:=fun e he y hy=>by
 obtain⟨m,_,rfl⟩:=List.mem_map.1 he;simp [aO] at hy;rw [hy];simp
def Ro (n lo:Nat)(h:ak)(x:AV)(es:List (List AV)):Prop:=Lz n lo h x es∨(x= .ro es∧ ∀e∈es,e.length=n)
theorem Ro.ls {n lo:Nat} {h:ak} {x:AV} {es:List (List AV)} (r:Ls n lo h x es):Ro n lo h x es:= .inl r.z
theorem Ro.ro {n lo:Nat} {h:ak} {es:List (List AV)} (hn: ∀e∈es,e.length=n):Ro n lo h (.ro es) es:= .inr ⟨rfl,hn⟩
theorem Ro.rs {n lo:Nat} {h:ak} {x:AV} {es:List (List AV)} (r:Ro n lo h x es):Rs n h x es:=by
 rcases r with r | ⟨rfl,hn⟩
 ·exact r.rs
 ·exact .ro hn
theorem Ro.more {n lo:Nat} {h:ak} {x:AV} {es:List (List AV)} (r:Ro n lo h x es)(g:ak):Ro n lo (h++g) x es:=r.imp (fun r=>r.more g) id
theorem Ro.base {n lo:Nat} {h h':ak} {x:AV} {es:List (List AV)} (r:Ro n lo h x es)(hb: ∃g,h'=h++g):Ro n lo h' x es:=by
 obtain⟨g,rfl⟩:=hb;exact r.more g
theorem Ro.frz {n lo:Nat} {h:ak} {x:AV} {es:List (List AV)} (r:Ro n lo h x es) {m:Nat} (hm:m≤lo)(hd: ∀e∈es,∀y∈e,y.Data):qy m h x (.ro es):=by
 rcases r with r | ⟨rfl,_⟩
 ·exact r.frz hm hd
 ·exact .data _ (.ro _ hd)
theorem Ro.lend {n lo:Nat} {h:ak} {x:AV} {es:List (List AV)} (r:Ro n lo h x es): ∃ks,(∀b∈ks,lo≤b∧ ∃off len,x= .own b off len)∧gq ks h x (.ro es):=by
 rcases r with r | ⟨rfl,_⟩
 ·exact r.lend
 ·exact⟨[],by simp,.same _⟩
theorem Rs.keepB {n:Nat} {h h':ak} {x:AV} {es:List (List AV)} (r:Rs n h x es)(hb: ∃g,h'=h++g):Rs n h' x es:=by
 obtain⟨g,rfl⟩:=hb;exact r.append g
theorem Gt (t:bn)(s:Bytes)(hp:t.net.pts.length≤1000)(hl:t.net.lks.length≤1000)(hs:t.sys.length≤1000):
  af Tryz.prog gl 49 [.agg (av t),.str s] h fun v h'=>v= .bool (decide (kindOf t s=0))∧h'=h:=by
 refine af.data (by simp) (af.body Tryz.f49 _ mixed Tryz.func49 rfl rfl (by simp [Tryz.ntmps49]) ?_);simp [av];refine ay.pure _ (fun _=>by simpa [av] using Od t s hp hl hs) ?_;simp;rfl
theorem Gn (p:aC):af Tryz.prog gl 40 [.agg (aj p)] h fun v h'=>v= .str (if p.tag=[] then p.plate else p.tag)∧h'=h:=by
 refine af.data (by simp) (af.body Tryz.f40 _ mixed Tryz.func40 rfl rfl (by simp [Tryz.ntmps40]) ?_);by_cases c:p.tag=[] <;> simp [aj,c]
def iq (x:dB)(y:AV):List AV:=[.str x.id,.str x.veh,.str x.sys,.int .i64 x.cls,y]
set_option maxHeartbeats 1000000 in
theorem TP (x:dB) {y:AV} (hy:Rs 3 h y (x.stops.map aa))(hn:x.stops.length≤1000000):af Tryz.prog gl 23 [.agg (iq x y)] h fun v h'=>v= .str (Pn x)∧h'=h:=by
 refine af.data (by simp) (af.body Tryz.f23 _ mixed Tryz.func23 rfl rfl (by simp [Tryz.ntmps23]) ?_);have hyf:=hy.fix;simp [iq,hyf];refine aW.up mixed x.stops.length (fun i fr H=>fr 1= .ptr h.length 0 0∧fr 3= .int .i64 i∧bg (x.stops.take i)=[]∧h++[.cells 5 [iq x y]]=H) 0 (by omega)
  ⟨by simp,by simp,by simp [bg],rfl⟩ ?_
 rintro i fr H hi ⟨e1,e3,hpl,rfl⟩;have hyH:=hy.append [.cells 5 [iq x y]];have lyH:=hyH.len2;simp only [iq] at lyH;rcases zN i x.stops.length with hlt | hge
 ·obtain⟨s,hs,hs'⟩:=aN hlt;have ew:=aB (i:=i) (by omega);have hltI:(i:Int)<x.stops.length:=by omega
  have ra:=Rs.ix Tryz.prog hyH i (by omega) (y:=aa s) (by simp [hs]);simp only [aa,iq] at ra;have hsuc:=sD hs;rw [hpl] at hsuc;by_cases c:s.pass=[]
  ·rw [if_pos c] at hsuc;simp [iq,e1,e3,hlt,hltI,lyH,ra,hyf,c,ew];exact⟨i+1,by omega,by omega,by omega,hsuc⟩
  ·rw [if_neg c] at hsuc;have hid:Pn x=s.pass:=by
    have e:bg x.stops=bg (x.stops.take (i+1))++bg (x.stops.drop (i+1)):=by
     rw [bg,bg,bg,←List.map_append,←List.filter_append,List.take_append_drop]
    rw [Pn,e,hsuc];rfl
   simp [iq,e1,e3,hlt,hltI,lyH,ra,hyf,c,ew,hid]
 ·obtain rfl:i=x.stops.length:=by omega
  rw [List.take_length] at hpl;have hid:Pn x=x.id:=by rw [Pn,hpl];rfl
  simp [iq,e1,e3,lyH,hyf,hid]
set_option maxHeartbeats 1000000 in
theorem Iq (x:dB) {y:AV} (hy:Rs 3 h y (x.stops.map aa))(hn:x.stops.length≤1000000):af Tryz.prog gl 33 [.agg (aH x),.agg (iq x y)] h fun v h'=>v= .bool true∧h'=h:=by
 refine af.data (by simp) (af.body Tryz.f33 _ mixed Tryz.func33 rfl rfl (by simp [Tryz.ntmps33]) ?_);have hyf:=hy.fix;have hyH:=hy.append [.cells 5 [aH x],.cells 5 [iq x y]];have lyH:=hyH.len2;simp only [iq,aH] at lyH;simp [au,iq,aH,hyf,lyH];refine aW.up mixed x.stops.length (fun i fr H=>fr 2= .ptr h.length 0 0∧fr 3= .ptr (h.length+1) 0 0∧fr 5= .int .i64 i∧h++[.cells 5 [aH x],.cells 5 [iq x y]]=H) 0 (by omega)
  ⟨by simp,by simp,by simp,rfl⟩ ?_
 rintro i fr H hi ⟨e2,e3,e5,rfl⟩;rcases zN i x.stops.length with hlt | hge
 ·obtain⟨s,hs,hs'⟩:=aN hlt;have ew:=aB (i:=i) (by omega);have hltI:(i:Int)<x.stops.length:=by omega
  have ra:=Rs.ix Tryz.prog hyH i (by omega) (y:=aa s) (by simp [hs]);simp only [aa,iq,aH] at ra;simp [au,iq,aH,aa,e2,e3,e5,hlt,hltI,lyH,ra,hyf,hs,hs',ew];refine⟨by decide,?_⟩;exact⟨i+1,by omega,by omega,by omega⟩
 ·obtain rfl:i=x.stops.length:=by omega
  simp [au,iq,aH,e2,e3,e5,lyH,hyf]
set_option maxHeartbeats 1000000 in
theorem EL (l:List dB) {x y:AV} (hx:Rs 5 h x (l.map aH))(hy:Rs 5 h y (l.map aH))(hl:l.length≤1000000)(hst: ∀z∈l,z.stops.length≤1000000):
  af Tryz.prog gl 14 [x,y] h fun v h'=>v= .bool true∧h'=h:=by
 refine af.data (by simp) (af.body Tryz.f14 _ mixed Tryz.func14 rfl rfl (by simp [Tryz.ntmps14]) ?_);have fx:=hx.fix;have fy:=hy.fix;have lx:=hx.len2;have ly:=hy.len2;simp [fx,fy,lx,ly];refine aW.up mixed l.length (fun i fr H=>fr 0=x∧fr 1=y∧fr 5= .int .i64 i∧h=H) 0 (by omega) ⟨by simp,by simp,by simp,rfl⟩ ?_;rintro i fr H hi ⟨e0,e1,e5,rfl⟩;rcases zN i l.length with hlt | hge
 ·obtain⟨s,hs,hs'⟩:=aN hlt;have ew:=aB (i:=i) (by omega);have hltI:(i:Int)<l.length:=by omega
  have ra:=Rs.ix Tryz.prog hx i (by omega) (y:=aH s) (by simp [hs]);have rb:=Rs.ix Tryz.prog hy i (by omega) (y:=aH s) (by simp [hs]);simp only [aH] at ra rb;have hone:=Iq (gl:=gl) (h:=h) s (y:= .ro (s.stops.map aa)) (Rs.ro (Mt _)) (hst s (zF hs));simp [e0,e1,e5,hlt,hltI,lx,ly,ra,rb,fx,fy];refine⟨by decide,?_⟩;refine ay.pure _ (fun _=>by simpa [aH,iq] using hone) ?_;simp [e0,e1,e5,ew];exact⟨i+1,by omega,by omega,by omega⟩
 ·obtain rfl:i=l.length:=by omega
  simp [e0,e1,e5,lx,fx]
set_option maxHeartbeats 1000000 in
theorem mI (l:List fI) {x y:AV} (hx:Rs 2 h x (l.map aM))(hy:Rs 2 h y (l.map aM))(hl:l.length≤1000000):
  af Tryz.prog gl 15 [x,y] h fun v h'=>v= .bool true∧h'=h:=by
 refine af.data (by simp) (af.body Tryz.f15 _ mixed Tryz.func15 rfl rfl (by simp [Tryz.ntmps15]) ?_);have fx:=hx.fix;have fy:=hy.fix;have lx:=hx.len2;have ly:=hy.len2;simp [fx,fy,lx,ly];refine aW.up mixed l.length (fun i fr H=>fr 0=x∧fr 1=y∧fr 5= .int .i64 i∧h=H) 0 (by omega) ⟨by simp,by simp,by simp,rfl⟩ ?_;rintro i fr H hi ⟨e0,e1,e5,rfl⟩;rcases zN i l.length with hlt | hge
 ·obtain⟨s,hs,hs'⟩:=aN hlt;have ew:=aB (i:=i) (by omega);have hltI:(i:Int)<l.length:=by omega
  have ra:=Rs.ix Tryz.prog hx i (by omega) (y:=aM s) (by simp [hs]);have rb:=Rs.ix Tryz.prog hy i (by omega) (y:=aM s) (by simp [hs]);simp only [aM] at ra rb;simp [e0,e1,e5,hlt,hltI,lx,ly,ra,rb,fx,fy,ew];refine⟨by decide,?_⟩;exact⟨i+1,by omega,by omega,by omega⟩
 ·obtain rfl:i=l.length:=by omega
  simp [e0,e1,e5,lx,fx]
set_option maxHeartbeats 4000000 in
theorem Bj (l:List aC) {x:AV} (hx:Rs 8 h x (l.map aj))(hok: ∀p∈l,p.Ok)(hn:l.length≤1000000):af Tryz.prog gl 26 [x] h fun v h'=>v= .ro ((bO l).map aj)∧h'=h:=by
 refine af.fresh' (af.body Tryz.f26 _ mixed Tryz.func26 rfl rfl (by simp [Tryz.ntmps26]) ?_);simp [hx.fix];refine ay.pure _ (fun _=>EJ l hx hok hn) ?_;have hSl:(dZ l).length=l.length:=og l;have hSm: ∀p∈bO l,p∈l:=fun p hp=>by
  have:=lN hp;rw [List.take_length] at this;exact l8.1 this
 have hon:bO l=fQ (dZ l) (dZ l).length:=rfl;generalize dZ l=S at*;simp;refine aW.up mixed S.length (fun i fr H=>fr 3= .ro (S.map aj)∧fr 5= .int .i64 i∧(∃g,H=h++g)∧ ∃y,fr 4=y∧Ls 8 h.length H y ((fQ S i).map aj)) 0 (by omega)
  ⟨by simp,by simp,⟨_,rfl⟩,_,rfl,Ls.own (by simp [fQ]) (by simp) (by simp [fQ]) (by simp [fQ])⟩ ?_
 rintro i fr H hi ⟨e3,e5,hB,y,e4,hy⟩;have hyf:=hy.rs.fix;have hyl:=hy.rs.len2;have hlB:=aV hB;rcases zN i S.length with hlt | hge
 ·obtain⟨p,hp,hp'⟩:=aN hlt;have ew:=aB (i:=i) (by omega);have hltI:(i:Int)<S.length:=by omega
  have hlen:=ru S i;have ho:=Eo hp;have hseen:=xJ (S:=S) (p:=p) i;generalize fQ S i=O at*;simp [e3,e4,e5,hlt,hltI];refine aW.up mixed O.length (fun k fr H'=>fr 3= .ro (S.map aj)∧fr 4=y∧fr 5= .int .i64 i∧fr 6= .bool ((O.take k).any fun q=>decide (q.id=p.id))∧fr 7= .int .i64 k∧H=H') 0 (by omega)
   ⟨by simp [e3],by simp [e4],by simp [e5],by simp,by simp,rfl⟩ ?_
  clear e3 e4 e5;rintro k fr H' hk ⟨e3,e4,e5,e6,e7,rfl⟩;rcases zN k O.length with hkl | hkg
  ·obtain⟨q,hq,hq'⟩:=aN hkl;have ewk:=aB (i:=k) (by omega);have hkI:(k:Int)<O.length:=by omega
   have rq:=Rs.ix Tryz.prog hy.rs k (by omega) (y:=aj q) (by simp [hq]);simp only [aj] at rq;have ht:((O.take (k+1)).any fun q=>decide (q.id=p.id))=(((O.take k).any fun q=>decide (q.id=p.id)) || decide (q.id=p.id)):=by rw [zM,hq];simp
   generalize ((O.take k).any fun q=>decide (q.id=p.id))=b at*
   cases b with
   | true=>
    simp [au,aj,-List.any_eq_true,-List.any_eq_false,e3,e4,e5,e6,e7,hlt,hltI,hkI,hyf,hyl,ewk,hp,hp'];refine⟨by decide,?_⟩;exact⟨k+1,by omega,by omega,by rw [ht];rfl,by omega⟩
   | false=>
    by_cases c:q.id=p.id
    ·simp [au,aj,-List.any_eq_true,-List.any_eq_false,e3,e4,e5,e6,e7,hlt,hltI,hkI,hyf,hyl,ewk,hp,hp',rq,c];refine⟨by decide,?_⟩;exact⟨k+1,by omega,by omega,by rw [ht];simp [c],by omega⟩
    ·simp [au,aj,-List.any_eq_true,-List.any_eq_false,e3,e4,e5,e6,e7,hlt,hltI,hkI,hyf,hyl,ewk,hp,hp',rq,c];refine⟨by decide,?_⟩;exact⟨k+1,by omega,by omega,by rw [ht];simp [c],by omega⟩
  ·obtain rfl:k=O.length:=by omega
   rw [List.take_length,hseen] at e6;by_cases c:Bp S i p=true
   ·rw [if_pos c] at ho;rw [c] at e6;simp [au,e3,e4,e5,e6,e7,hyf,hyl,ew];exact⟨i+1,by omega,by omega,by omega,hB,by rw [ho];exact hy⟩
   ·rw [if_neg c] at ho;have c':Bp S i p=false:=by simpa using c
    rw [c'] at e6;simp [au,-ae,-ai,-ah,-AV.solid,e3,e4,e5,e6,e7,hyf,hyl,ew,hlt,hltI,hp,hp'];refine aG (lo:=h.length) (n:=8) (es:=O.map aj) (ys:=[aj p]) (by simpa using hy.more _) (by simp;omega) (by simp [bu,aj]) (by simp;omega) ?_;intro s1 H1 hs1 hg1 hn1;have hs1f:=hs1.rs.fix;have hB1:=hg1.base h (by omega) (aF hB _);simp [-ae,-ai,-ah,-AV.solid,e3,e4,e5,e6,e7,hs1f,ew];exact⟨i+1,by omega,by omega,by omega,hB1,by rw [ho];simpa using hs1⟩
 ·obtain rfl:i=S.length:=by omega
  simp [e3,e4,e5,hyf];refine⟨hB,?_⟩;rw [hon];exact hy.frz (Nat.le_refl _) (rD fun p hp=>hok p (hSm p (by rw [hon];exact hp)))
theorem Rw {l:List aC} {s:Bytes} {i:Nat} (h:qw (xS (l.take i) s)=some []):tL l s=some []:=by
 rw [tL,←List.take_append_drop i l,Uj];exact Uh _ h fun t ht=>Vu ht
set_option maxHeartbeats 4000000 in
theorem wR (l:List aC)(p:aC)(hn:l.length≤1000000):af Tryz.prog gl 54 [.ro (l.map aj),.agg (aj p)] h fun v h'=>v= .str (bU l p)∧h'=h:=by
 refine af.data (by simp) (af.body Tryz.f54 _ mixed Tryz.func54 rfl rfl (by simp [Tryz.ntmps54]) ?_);by_cases c1:p.tag=[]
 ·by_cases c2:p.plate=[]
  ·simp [au,aj,c1,c2,bU]
  ·have ho:bU l p=MR ((tL l p.plate).getD []) p.plate:=by rw [bU,if_pos ⟨c1,c2⟩]
   rw [ho];simp [au,aj,c1,c2];refine aW.up mixed l.length (fun i fr H=>fr 0= .ro (l.map aj)∧fr 3= .ptr h.length 0 0∧fr 6= .int .i64 i∧(∃o,qw (xS (l.take i) p.plate)=o∧o≠some []∧fr 5= .str (o.getD []))∧h++[.cells 8 [aj p]]=H) 0 (by omega)
    ⟨by simp,by simp,by simp,⟨none,by simp [xS,qw],by simp,by simp⟩,by simp [aj,c1]⟩ ?_
   rintro i fr H hi ⟨e0,e3,e6,⟨o,ho1,ho2,e5⟩,rfl⟩;rcases zN i l.length with hlt | hge
   ·obtain⟨q,hq,hq'⟩:=aN hlt;have ew:=aB (i:=i) (by omega);have hltI:(i:Int)<l.length:=by omega
    have hst:=IL hq p.plate;by_cases d1:q.plate=p.plate
    ·by_cases d2:q.tag=[]
     ·rw [if_neg (fun e=>e.2 d2)] at hst;simp [au,aj,e0,e3,e5,e6,hlt,hltI,hq,hq',d1,d2,ew];refine⟨by decide,i+1,by omega,by omega,by omega,?_⟩;rw [hst,ho1];exact⟨ho2,rfl⟩
     ·rw [if_pos ⟨d1,d2⟩] at hst;have hsn:=IK (xS (l.take i) p.plate) d2;rw [←hst,ho1] at hsn
      cases o with
      | none=>
       simp at hsn;simp [au,aj,e0,e3,e5,e6,hlt,hltI,hq,hq',d1,d2,ew];refine⟨by decide,i+1,by omega,by omega,by omega,?_⟩;rw [hsn];exact⟨by simpa using d2,rfl⟩
      | some t=>
       have ht:t≠[]:=fun e=>ho2 (by rw [e]);by_cases d3:t=q.tag
       ·simp [d3] at hsn;simp [au,aj,e0,e3,e5,e6,hlt,hltI,hq,hq',d1,d2,d3,ew];refine⟨by decide,i+1,by omega,by omega,by omega,?_⟩;rw [hsn];exact⟨by simpa using d2,rfl⟩
       ·simp [d3] at hsn;have hb:=Rw hsn;simp [au,aj,e0,e3,e5,e6,hlt,hltI,hq,hq',d1,d2,d3,ht,ew,hb,MR]
        try decide
    ·rw [if_neg (fun e=>d1 e.1)] at hst;simp [au,aj,e0,e3,e5,e6,hlt,hltI,hq,hq',d1,ew];refine⟨by decide,i+1,by omega,by omega,by omega,?_⟩;rw [hst,ho1];exact⟨ho2,rfl⟩
   ·obtain rfl:i=l.length:=by omega
    rw [List.take_length] at ho1;have ht:tL l p.plate=o:=ho1;rw [ht]
    cases o with
    | none=>simp [au,aj,e0,e3,e5,e6,MR]
    | some t=>
     have ht:t≠[]:=fun e=>ho2 (by rw [e]);simp [au,aj,e0,e3,e5,e6,MR,ht]
 ·simp [au,aj,c1,bU]
theorem Ui {A:List Bytes} {t:Bytes} (h:qw A=some t):t=[]∨t∈A:=by
 cases A with
 | nil=>cases h
 | cons a r=>
  simp only [qw,Option.some.injEq] at h;split at h
  ·exact .inr (by simp [h])
  ·exact .inl h.symm
theorem LK {l:List aC} (hok: ∀p∈l,p.Ok) {p:aC} (hp:p.Ok):fU (bU l p):=by
 unfold bU;split
 ·unfold MR;split
  ·exact hp.plate
  ·rename_i h1 h2
   cases ht:tL l p.plate with
   | none=>rw [ht] at h2;exact absurd rfl h2
   | some t=>
    rcases Ui ht with e | hm
    ·rw [ht,e] at h2;exact absurd rfl h2
    ·obtain⟨q,hq,rfl⟩:=List.mem_map.1 hm;exact (hok q (List.mem_filter.1 hq).1).tag
 ·exact hp.tag
set_option maxHeartbeats 1000000 in
theorem EK (l:List aC)(hok: ∀p∈l,p.Ok)(hn:l.length≤1000000):af Tryz.prog gl 27 [.ro (l.map aj)] h fun v h'=>v= .ro ((eX l).map aO)∧h'=h:=by
 refine af.fresh' (af.body Tryz.f27 _ mixed Tryz.func27 rfl rfl (by simp [Tryz.ntmps27]) ?_);simp;refine aW.up mixed l.length (fun i fr H=>fr 0= .ro (l.map aj)∧fr 4= .int .i64 i∧(∃y,fr 3=y∧Rn y ((tV l i).map aO))∧h=H) 0 (by omega)
  ⟨by simp,by simp,⟨.nil,by simp,by simpa [tV] using Rn.nil⟩,rfl⟩ ?_
 rintro i fr H hi ⟨e0,e4,⟨y,e3,hy⟩,rfl⟩;have hyf:=(hy.rs (n:=1) h (Vv _)).fix;rcases zN i l.length with hlt | hge
 ·obtain⟨p,hp,hp'⟩:=aN hlt;have ew:=aB (i:=i) (by omega);have hltI:(i:Int)<l.length:=by omega
  have hj:=RF hp;have hlen:=ML l i;simp [e0,e3,e4,hlt,hltI,hp,hp',aj];refine ay.pure _ (fun _=>by simpa [aj] using wR l p hn) ?_;have hsh:=LK hok (hok p (zF hp));generalize bU l p=v at*;by_cases c:v=[]
  ·rw [if_pos c] at hj;simp [e0,e3,e4,c,ew];exact⟨i+1,by omega,by omega,by omega,by rw [hj];exact hy⟩
  ·rw [if_neg c] at hj;simp [e0,e3,e4,c,hyf];refine ay.pure _ (fun _=>yU _ v y hy hsh (by omega)) ?_;simp [e0,e3,e4,ew];exact⟨i+1,by omega,by omega,by omega,by rw [hj];exact Rn.ro _⟩
 ·obtain rfl:i=l.length:=by omega
  rw [Vx] at hy;simp [e0,e3,e4,hyf];rcases hy with rfl | ⟨rfl,he⟩
  ·exact .data _ (.ro _ (OI _))
  ·have hv:eX l=[]:=by simpa using he
   rw [hv];exact .nil
def Kq (l:List aC)(v:Bytes)(i:Nat):List aC:=if v=[] then [] else JJ l v i
set_option maxHeartbeats 4000000 in
theorem TN (l:List aC)(v:Bytes)(hok: ∀p∈l,p.Ok)(hn:l.length≤1000000):af Tryz.prog gl 28 [.ro (l.map aj),.str v] h fun x h'=>x= .ro ((tT l v).map aj)∧h'=h:=by
 refine af.fresh' (af.body Tryz.f28 _ mixed Tryz.func28 rfl rfl (by simp [Tryz.ntmps28]) ?_);simp;refine aW.up mixed l.length (fun i fr H=>fr 0= .ro (l.map aj)∧fr 1= .str v∧fr 6= .int .i64 i∧(∃g,H=h++g)∧ ∃y,fr 5=y∧Ls 8 h.length H y ((Kq l v i).map aj)) 0 (by omega)
  ⟨by simp,by simp,by simp,⟨[],by simp⟩,.nil,by simp,by simpa [Kq,JJ] using Ls.nil⟩ ?_
 rintro i fr H hi ⟨e0,e1,e6,hB,y,e5,hy⟩;have hyf:=hy.rs.fix;have hlB:=aV hB;have hlen:(Kq l v i).length≤i:=by
  unfold Kq;split
  ·simp
  ·exact Cs l v i
 rcases zN i l.length with hlt | hge
 ·obtain⟨p,hp,hp'⟩:=aN hlt;have ew:=aB (i:=i) (by omega);have hltI:(i:Int)<l.length:=by omega
  have ho:=El hp (v:=v);simp [-ae,-ai,-ah,-AV.solid,e0,e1,e5,e6,hlt,hltI,hp,hp',aj];refine ay.pure _ (fun _=>by simpa [aj] using wR l p hn) ?_;generalize bU l p=u at*;by_cases c:u=[]
  ·have hs:Kq l v (i+1)=Kq l v i:=by
    unfold Kq;split
    ·rfl
    ·rename_i hv;rw [ho,if_neg (fun e=>hv (by rw [←e,c]))]
   simp [au,-ae,-ai,-ah,-AV.solid,e0,e1,e5,e6,c,ew];exact⟨i+1,by omega,by omega,by omega,hB,by rw [hs];exact hy⟩
  ·by_cases d:u=v
   ·have hs:Kq l v (i+1)=Kq l v i++[p]:=by
     unfold Kq;rw [if_neg (by rw [←d];exact c),if_neg (by rw [←d];exact c),ho,if_pos d]
    have d2: ¬v=[]:=by rw [←d];exact c
    simp [au,-ae,-ai,-ah,-AV.solid,e0,e1,e5,e6,d,d2,hlt,hltI,hp,hp',hyf];refine aG (lo:=h.length) (n:=8) (es:=(Kq l v i).map aj) (ys:=[aj p]) (by simpa [aj] using hy.more _) (by simp;omega) (by simp [bu,aj]) (by simp;omega) ?_;intro s1 H1 hs1 hg1 hn1;have hs1f:=hs1.rs.fix;have hB1:=hg1.base h (by omega) (aF hB _);simp [-ae,-ai,-ah,-AV.solid,e0,e1,e5,e6,hs1f,ew];exact⟨i+1,by omega,by omega,by omega,hB1,by rw [hs];simpa using hs1⟩
   ·have hs:Kq l v (i+1)=Kq l v i:=by
     unfold Kq;split
     ·rfl
     ·rw [ho,if_neg d]
    simp [au,-ae,-ai,-ah,-AV.solid,e0,e1,e5,e6,c,d,ew];exact⟨i+1,by omega,by omega,by omega,hB,by rw [hs];exact hy⟩
 ·obtain rfl:i=l.length:=by omega
  have hm:dZ (Kq l v l.length)=tT l v:=by
   unfold Kq tT;split <;> rfl
  have hmem: ∀p∈Kq l v l.length,p.Ok:=fun p hp=>by
   unfold Kq at hp;split at hp
   ·cases hp
   ·exact hok p (Ct hp).1
  simp [-ae,-ai,-ah,-AV.solid,e0,e1,e5,e6,hyf];refine ay.pure _ (fun _=>EJ _ hy.rs hmem (by omega)) ?_;simp;refine⟨hB,?_⟩;rw [hm];exact .data _ (.ro _ (rD fun p hp=>hok p (Cu hp).1))
def yI (l:List Int)(k:Nat):Nat:=if kL l k=0 then 0 else jc l (kL l k)
theorem HY (l:List Int)(k:Nat):kL l (k+1)=if yI l k<jc l ((k+1:Nat):Int) then ((k+1:Nat):Int) else kL l k:=by
 rw [kL,yI];by_cases h0:kL l k=0
 ·simp [h0]
 ·rw [if_neg h0];by_cases c:jc l (kL l k)<jc l ((k+1:Nat):Int)
  ·rw [if_pos ⟨by omega,.inr c⟩,if_pos c]
  ·rw [if_neg (fun e=>e.2.elim h0 c),if_neg c]
theorem NQ (l:List Int)(k:Nat):yI l (k+1)=if yI l k<jc l ((k+1:Nat):Int) then jc l ((k+1:Nat):Int) else yI l k:=by
 rw [yI,HY];split
 ·rw [if_neg (by omega)]
 ·rfl
theorem Qn {l:List Int} {i:Nat} {n:Int} (h:l[i]? =some n)(c:Int):jc (l.take (i+1)) c=if n=c then jc (l.take i) c+1 else jc (l.take i) c:=by
 rw [jc,jc,zM,h];by_cases e:n=c <;> simp [e]
theorem KL (l:List Int)(c:Int):jc l c≤l.length:=List.length_filter_le _ _
set_option maxHeartbeats 2000000 in
theorem EI (l:List Int) {x:AV} (hx:Rs 1 h x (l.map encI'))(hl:l.length≤1000000):af Tryz.prog gl 149 [x] h fun v h'=>v= .int .i64 (BM l)∧h'=h:=by
 refine af.data (by simp) (af.body Tryz.f149 _ mixed Tryz.func149 rfl rfl (by simp [Tryz.ntmps149]) ?_);have fx:=hx.fix;have lx:=hx.len2;simp [fx];refine aW.up mixed 9 (fun k fr H=>fr 0=x∧fr 3= .int .i64 (kL l k)∧fr 4= .int .i64 (yI l k)∧fr 5= .int .i64 ((k+1:Nat):Int)∧h=H) 0 (by omega)
  ⟨by simp,by simp [kL],by simp [yI,kL],by simp,rfl⟩ ?_
 rintro k fr H hk ⟨e0,e3,e4,e5,rfl⟩;rcases zN k 9 with hlt | hge
 ·have h9:((k+1:Nat):Int)≤9:=by omega
  have h9':(k:Int)+1≤9:=by omega
  have m1:=HY l k;have m2:=NQ l k;have hc:=KL l ((k+1:Nat):Int);generalize hcl:((k+1:Nat):Int)=cl at*;have ewk:IntKind.i64.wrap (cl+1)=cl+1:=aD (by omega) (by omega);generalize kL l k=b at*;generalize yI l k=m at*;simp [e0,e3,e4,e5,h9];refine aW.up mixed l.length (fun i fr H=>fr 0=x∧fr 3= .int .i64 b∧fr 4= .int .i64 m∧fr 5= .int .i64 cl∧fr 6= .int .i64 (jc (l.take i) cl)∧fr 7= .int .i64 i∧h=H) 0 (by omega)
   ⟨by simp [e0],by simp [e3],by simp [e4],by simp [e5],by simp [jc],by simp,rfl⟩ ?_
  clear e0 e3 e4 e5;rintro i fr H hi ⟨e0,e3,e4,e5,e6,e7,rfl⟩;rcases zN i l.length with hil | hig
  ·obtain⟨n,hn,hn'⟩:=aN hil;have ew:=aB (i:=i) (by omega);have hiI:(i:Int)<l.length:=by omega
   have rx:=Rs.ix Tryz.prog hx i (by omega) (y:=encI' n) (by simp [hn]);simp only [encI'] at rx;have ht:=Qn hn cl;have hc2:=KL (l.take i) cl;have hc3:=List.length_take_le i l;have ewc:=aB (i:=jc (l.take i) cl) (by omega);by_cases c:n=cl
   ·rw [if_pos c] at ht;simp [e0,e3,e4,e5,e6,e7,hil,hiI,fx,lx,rx,c,ew,ewc];exact⟨i+1,by omega,by omega,by rw [ht];omega,by omega⟩
   ·rw [if_neg c] at ht;simp [e0,e3,e4,e5,e6,e7,hil,hiI,fx,lx,rx,c,ew];exact⟨i+1,by omega,by omega,by rw [ht],by omega⟩
  ·obtain rfl:i=l.length:=by omega
   rw [List.take_length] at e6;by_cases c:m<jc l cl
   ·rw [if_pos c] at m1 m2;have cI:(m:Int)<jc l cl:=by omega
    simp [e0,e3,e4,e5,e6,e7,fx,lx,c,cI,ewk];exact⟨k+1,by omega,by omega,by rw [m1],by rw [m2],by omega⟩
   ·rw [if_neg c] at m1 m2;have cI: ¬(m:Int)<jc l cl:=by omega
    simp [e0,e3,e4,e5,e6,e7,fx,lx,c,cI,ewk];exact⟨k+1,by omega,by omega,by rw [m1],by rw [m2],by omega⟩
 ·obtain rfl:k=9:=by omega
  simp [e0,e3,e4,e5,BM]
theorem Mm (A:List fI)(e:fI):bR (A++[e])=Sk e (bR A):=xQ _ _
theorem Bt (A:List dB)(e:dB):bP (A++[e])=Hm e (bP A):=xQ _ _
theorem sU (A:List fI):(bR A).length=A.length:=bI _ _
theorem oQ (A:List dB):(bP A).length=A.length:=bI _ _
theorem jo (A:List fI)(e:fI) {x:AV} (hx:Rs 2 h x ((bR A).map aM))(hn:A.length≤1000000):
  af Tryz.prog gl 45 [x,.str e.id,.int .i64 e.why] h fun v h'=>v= .ro ((bR (A++[e])).map aM)∧h'=h:=by
 rw [Mm];exact Gs (bR A) e hx (fu lQ.swo _) (by rw [sU];exact hn)
set_option maxHeartbeats 1000000 in
theorem jC (A:List fI)(S:List bq) {y:AV} (hy:Rs 3 h y (S.map aa))(hn:A.length+S.length≤1000000):
  af Tryz.prog gl 119 [.ro ((bR A).map aM),y] h fun v h'=>v= .ro ((bR (A++dV 11 S)).map aM)∧h'=h:=by
 refine af.data (.ro _ (kU _)) (af.body Tryz.f119 _ mixed Tryz.func119 rfl rfl (by simp [Tryz.ntmps119]) ?_);have fy:=hy.fix;have ly:=hy.len2;simp [fy];refine aW.up mixed S.length (fun i fr H=>fr 0= .ro ((bR (A++dV 11 (S.take i))).map aM)∧fr 1=y∧fr 5= .int .i64 i∧h=H) 0 (by omega) ⟨by simp [dV],by simp,by simp,rfl⟩ ?_;rintro i fr H hi ⟨e0,e1,e5,rfl⟩;rcases zN i S.length with hlt | hge
 ·obtain⟨s,hs,hs'⟩:=aN hlt;have ew:=aB (i:=i) (by omega);have hltI:(i:Int)<S.length:=by omega
  have ra:=Rs.ix Tryz.prog hy i (by omega) (y:=aa s) (by simp [hs]);simp only [aa] at ra;have hst:=Du hs (why:=11);have hel:=fH 11 (S.take i);have htl:=List.length_take_le i S;by_cases c:s.pass=[]
  ·rw [if_pos c] at hst;simp [e0,e1,e5,hlt,hltI,ly,ra,fy,c,ew];exact⟨i+1,by omega,by omega,by rw [hst],by omega⟩
  ·rw [if_neg c] at hst;simp [e0,e1,e5,hlt,hltI,ly,ra,fy,c];refine ay.pure _ (fun _=>jo (A++dV 11 (S.take i)) ⟨s.pass,11⟩ (Rs.ro (zS _)) (by simp;omega)) ?_;simp [e0,e1,e5,ew];exact⟨i+1,by omega,by omega,by rw [hst],by omega⟩
 ·obtain rfl:i=S.length:=by omega
  rw [List.take_length] at e0;simp [e0,e1,e5,ly,fy]
theorem Og (A:List fI)(s:bq)(why:Int)(hn:A.length≤1000000):
  af Tryz.prog gl 120 [.ro ((bR A).map aM),.agg (aa s),.int .i64 why] h fun v h'=>v= .ro ((bR (A++dV why [s])).map aM)∧h'=h:=by
 refine af.data (.ro _ (kU _)) (af.body Tryz.f120 _ mixed Tryz.func120 rfl rfl (by simp [Tryz.ntmps120]) ?_);by_cases c:s.pass=[]
 ·have he:dV why [s]=[]:=by simp [dV,VU,c]
  rw [he];simp [aa,c]
 ·have he:dV why [s]=[⟨s.pass,why⟩]:=by simp [dV,VU,c]
  rw [he];simp [aa,c];refine ay.pure _ (fun _=>jo A ⟨s.pass,why⟩ (Rs.ro (zS _)) hn) ?_;simp
def xG:Nat→Option (List (Nat×Nat)):=fun id=>if id=1 then some [(1,11),(3,11),(5,11),(6,11)] else if id=7 then some [(1,7)] else none
def PU:List AV:=[.str [],.str [],.str [],.int .i64 0,.nil]
structure We (h:ak)(veh sys:Bytes)(H:ak)(z c:AV)(A:List bq)(C:List Int):Prop where
 base: ∃g,H=h++g
 res:H[h.length+1]? =some (.cells 5 [PU])
 blk:H[h.length+3]? =some (.cells 5 [[.str [],.str veh,.str sys,.int .i64 1,z]])
 st:Ls 3 (h.length+4) H z (A.map aa)
 cl:Ls 1 (h.length+4) H c (C.map encI')
theorem We.more {veh sys:Bytes} {H:ak} {z c:AV} {A:List bq} {C:List Int} (m:We h veh sys H z c A C)(g:ak):We h veh sys (H++g) z c A C:=
 ⟨aF m.base g,aJ m.res g,aJ m.blk g,m.st.more g,m.cl.more g⟩
def ym (l:List aC)(s:bq)(k:Nat):List Int:=if s.pass=[] then [] else ((l.take k).filter fun q=>decide (q.id=s.pass)).map (·.cls)
theorem Qm {l:List aC} {s:bq} {k:Nat} {q:aC} (h:l[k]? =some q):ym l s (k+1)=if s.pass≠[]∧q.id=s.pass then ym l s k++[q.cls] else ym l s k:=by
 unfold ym;by_cases c:s.pass=[]
 ·simp [c]
 ·rw [if_neg c,if_neg c,zM,h];by_cases d:q.id=s.pass <;> simp [c,d]
theorem R8 (l:List aC)(s:bq)(k:Nat):(ym l s k).length≤l.length:=by
 unfold ym;split
 ·simp
 ·rw [List.length_map];exact Nat.le_trans (List.length_filter_le _ _) (List.length_take_le' _ _)
set_option maxHeartbeats 8000000 in
theorem Oh (t:bn)(veh before:Bytes)(S:List bq)(l:List aC)(cls:Bytes→Int) {y:AV} (hy:Rs 3 h y (S.map aa)) {a:bq} (ha:S.head? =some a)(hz:bZ t=0) {p:Pt} (hf:bH t.net a.point=some p)
  (hc: ∀s∈S,s.pass≠[]→(l.filter fun q=>decide (q.id=s.pass)).map (·.cls)=[cls s.pass]) (hb:before.length≤1000000) (hap:a.point.length≤1000000)
  (hn:S.length≤10000) (hln:l.length≤1000) (hp:t.net.pts.length≤1000) (hl:t.net.lks.length≤1000):
  af Tryz.prog gl 118 [.agg (av t),.str veh,y,.str before,.ro (l.map aj)] h fun v h'=>v= .agg (aH (iC t veh cls S before))∧h'=h:=by
 refine af.fresh' (af.bodyL xG Tryz.f118 _ mixed Tryz.func118 rfl rfl (by simp [Tryz.ntmps118]) ?_);have hsys:jU t a.point=p.sys:=vC hz hf;have ha0:S[0]? =some a:=by rw [←ha];cases S <;> rfl
 have hpos:=aK ha0;have hposI:(0:Int)<S.length:=by omega
 have hyf:=hy.fix;have hyG: ∀g:ak,Rs 3 (h++g) y (S.map aa):=fun g=>hy.append g;have r0:=fun g=>Rs.ix Tryz.prog (hyG g) 0 (by omega) (y:=aa a) (by simp [ha0]);have r00:=Rs.ix Tryz.prog hy 0 (by omega) (y:=aa a) (by simp [ha0]);simp only [aa] at r0 r00;have hpt:(bH t.net a.point).getD JR=p:=by rw [hf];rfl
 simp [xG,av,hyf,r0,r00];refine⟨by decide,?_⟩;refine ay.pure _ (fun _=>bJ t.net a.point hp hl) ?_;simp [xG,hpt,hyf,r0,r00,aZ];refine⟨ay.pure _ (fun _=>bJ t.net a.point hp hl) (by simp [hpt,aZ]),?_⟩;refine aW.upL xG mixed S.length (fun i fr H=>fr 2=y∧fr 3= .str before∧fr 4= .ro (l.map aj)∧fr 10= .ptr (h.length+1) 0 0∧fr 13= .ptr (h.length+3) 0 0∧fr 15= .int .i64 i∧
   ∃z c,fr 14=c∧We h veh p.sys H z c (S.take i) ((bg (S.take i)).map cls)) 0 (by omega)
  ⟨by simp,by simp,by simp,by simp,by simp,by simp,.nil,_,rfl,⟨_,rfl⟩,by simp [PU],by simp,by simpa using Ls.nil,Ls.own (b:=h.length+3+1) (by rw [zD (by omega),show h.length+3+1 - h.length=4 from by omega];simp [bg]) (by omega) (by simp [bg]) (by simp [bg])⟩ ?_
 rintro i fr H hi ⟨e2,e3,e4,e10,e13,e15,z,c,e14,hM⟩;have hyH:Rs 3 H y (S.map aa):=Rs.keepB hy hM.base;have lyH:=hyH.len2;have hzf:=hM.st.rs.fix;have hcf:=hM.cl.rs.fix;have hB3:=at3 hM.blk;rcases zN i S.length with hlt | hge
 ·obtain⟨s,hs,hs'⟩:=aN hlt;have ew:=aB (i:=i) (by omega);have hltI:(i:Int)<S.length:=by omega
  have rs:=Rs.ix Tryz.prog hyH i (by omega) (y:=aa s) (by simp [hs]);have rs2:=Rs.ix Tryz.prog (hyH.append [.cells 3 [aa s]]) i (by omega) (y:=aa s) (by simp [hs]);simp only [aa] at rs rs2;have hM2:=hM.more [.cells 3 [aa s]];have hB4:=at3 hM2.blk;simp only [aa] at hB4;have hpl:=rC (S.take i);have htl:=List.length_take_le i S;have hpst:=sD hs;have hSt:S.take (i+1)=S.take i++[s]:=by rw [zM,hs];rfl
  simp [xG,-ae,-ai,-ah,-AV.solid,e2,e3,e4,e10,e13,e14,e15,hlt,hltI,lyH,rs,rs2,hyf,hzf,hB3,hB4];refine⟨by decide,?_⟩;refine aG (lo:=h.length+4) (n:=3) (es:=(S.take i).map aa) (ys:=[aa s]) (by simpa [aa] using hM2.st) (by have:=aK hM.blk;simp;omega) (by simp [bu,aa]) (by simp;omega) ?_;intro s1 H1 hs1 hg1 hn1;have hg1:Grow (h.length+4) (H++[.cells 3 [aa s]]) z H1:=by simpa [aa] using hg1
  have hs1f:=hs1.rs.fix;have hb1:=hg1.keep _ _ hM2.blk (oM hM2.st hM2.blk (by decide));have hr1:=hg1.keep _ _ hM2.res (oM hM2.st hM2.res (by decide));have hc1:=fO hM2.cl hM2.st (by decide) hg1;have hB5:=at3 hb1;obtain⟨H2,hH2⟩: ∃H2:ak,H2=H1.set (h.length+3) (.cells 5 [[.str [],.str veh,.str p.sys,.int .i64 1,s1]]):=⟨_,rfl⟩;have hm2:We h veh p.sys H2 s1 c (S.take (i+1)) ((bg (S.take i)).map cls++ym l s 0):=by
   have e0:ym l s 0=[]:=by unfold ym;split <;> simp
   rw [hH2,e0,List.append_nil,hSt];refine⟨cu (hg1.base h (by omega) hM2.base) (by omega) _,get_put hb1 hr1 (by omega),zI hB5.2.1,?_,gM hc1 hb1 (by decide) _⟩;have:Ls 3 (h.length+4) H1 s1 ((S.take i++[s]).map aa):=by simpa using hs1
   exact gM this hb1 (by decide) _
  simp [xG,-ae,-ai,-ah,-AV.solid,e2,e3,e4,e10,e13,e14,e15,hs1f,hB3,hB4,hB5,hzf,hyf,rs,rs2];rw [←hH2];clear hH2 hB5 hb1 hr1 hc1 hg1 hs1 hB4 hB3 hM2;refine aW.upL xG mixed l.length (fun k fr H=>fr 2=y∧fr 3= .str before∧fr 4= .ro (l.map aj)∧fr 10= .ptr (h.length+1) 0 0∧fr 13= .ptr (h.length+3) 0 0∧fr 15= .int .i64 i∧fr 16= .int .i64 k∧
    ∃z c,fr 14=c∧We h veh p.sys H z c (S.take (i+1)) ((bg (S.take i)).map cls++ym l s k)) 0 (by omega)
   ⟨by simp [e2],by simp [e3],by simp [e4],by simp [e10],by simp [e13],by simp [e15],by simp,s1,c,by simp [e14],hm2⟩ ?_
  clear e2 e3 e4 e10 e13 e14 e15 hm2 hs1f hzf hcf hM rs rs2 lyH hyH;rintro k fr H hk ⟨e2,e3,e4,e10,e13,e15,e16,z,c,e14,hM⟩;have hyH:Rs 3 H y (S.map aa):=Rs.keepB hy hM.base;have lyH:=hyH.len2;have hzf:=hM.st.rs.fix;have hcf:=hM.cl.rs.fix;rcases zN k l.length with hkl | hkg
  ·obtain⟨q,hq,hq'⟩:=aN hkl;have ewk:=aB (i:=k) (by omega);have hkI:(k:Int)<l.length:=by omega
   have rs:=Rs.ix Tryz.prog hyH i (by omega) (y:=aa s) (by simp [hs]);simp only [aa] at rs;have hck:=Qm hq (s:=s);have hkn:=R8 l s k;by_cases c1:s.pass=[]
   ·rw [if_neg (fun e=>e.1 c1)] at hck;simp [xG,au,aj,e2,e3,e4,e10,e13,e14,e15,e16,hltI,hlt,hkI,hkl,hq,hq',rs,lyH,hyf,c1,ewk];refine⟨by decide,k+1,by omega,by omega,by omega,z,by rw [hck];exact hM⟩
   ·by_cases c2:q.id=s.pass
    ·rw [if_pos ⟨c1,c2⟩] at hck;simp [xG,au,-ae,-ai,-ah,-AV.solid,aj,e2,e3,e4,e10,e13,e14,e15,e16,hltI,hlt,hkI,hkl,hq,hq',rs,lyH,hyf,hcf,c1,c2];refine⟨by decide,?_⟩;have hM2:=hM.more [.cells 1 [encI' q.cls]];refine aG (lo:=h.length+4) (n:=1) (es:=((bg (S.take i)).map cls++ym l s k).map encI') (ys:=[encI' q.cls]) (by simpa [encI'] using hM2.cl) (by have:=aK hM.blk;simp;omega) (by simp [bu,encI']) (by simp;omega) ?_;intro s1 H1 hs1 hg1 hn1;have hg1:Grow (h.length+4) (H++[.cells 1 [encI' q.cls]]) c H1:=by simpa [encI'] using hg1
     have hs1f:=hs1.rs.fix;have hm2:We h veh p.sys H1 z s1 (S.take (i+1)) ((bg (S.take i)).map cls++ym l s (k+1)):=by
      rw [hck];refine⟨hg1.base h (by omega) hM2.base,hg1.keep _ _ hM2.res (oM hM2.cl hM2.res (by decide)),hg1.keep _ _ hM2.blk (oM hM2.cl hM2.blk (by decide)),fO hM2.st hM2.cl (by decide) hg1,?_⟩;simpa using hs1
     simp [xG,-ae,-ai,-ah,-AV.solid,e2,e3,e4,e10,e13,e14,e15,e16,hs1f,ewk];exact⟨k+1,by omega,by omega,by omega,z,hm2⟩
    ·rw [if_neg (fun e=>c2 e.2)] at hck;simp [xG,au,aj,e2,e3,e4,e10,e13,e14,e15,e16,hltI,hlt,hkI,hkl,hq,hq',rs,lyH,hyf,c1,c2,ewk];refine⟨by decide,k+1,by omega,by omega,by omega,z,by rw [hck];exact hM⟩
  ·obtain rfl:k=l.length:=by omega
   have hfin:(bg (S.take i)).map cls++ym l s l.length=(bg (S.take (i+1))).map cls:=by
    rw [hpst];unfold ym;by_cases c1:s.pass=[]
    ·rw [if_pos c1,if_pos c1,List.append_nil]
    ·rw [if_neg c1,if_neg c1,List.take_length,hc s (zF hs) c1,List.map_append];rfl
   rw [hfin] at hM;simp [xG,e2,e3,e4,e10,e13,e14,e15,e16,ew];exact⟨i+1,by omega,by omega,by omega,z,hM⟩
 ·obtain rfl:i=S.length:=by omega
  rw [List.take_length] at hM;have hpl:=rC S;have hid:=TP (gl:=gl) (h:=H) ⟨[],veh,p.sys,1,S⟩ hM.st.rs (by simp;omega);have r0:=fun H (hB: ∃g,H=h++g)=>Rs.ix Tryz.prog (Rs.keepB hy hB) 0 (by omega) (y:=aa a) (by simp [ha0]);simp only [aa] at r0;have hT:iC t veh cls S before=⟨if (bg S).headD []=[] then before++[43]++a.point else (bg S).headD [],veh,p.sys,max (BM ((bg S).map cls)) 1,S⟩:=by
   have hh:S.headD ⟨[],0,[]⟩=a:=by cases S with | nil=>cases ha0 | cons b r=>cases ha0;rfl
   simp only [iC,hh,hsys]
  have hidv:Pn ⟨[],veh,p.sys,1,S⟩=(bg S).headD []:=rfl;rw [hidv] at hid;rw [hT];clear hT hidv;have hmr:=Ea ((bg S).map cls) 9;have hmj: ∀H,Rs 1 H c (((bg S).map cls).map encI')→af Tryz.prog gl 149 [c] H fun v h'=>v= .int .i64 (BM ((bg S).map cls))∧h'=H:=fun H hr=>EI _ hr (by simp;omega);have hmr':0≤BM ((bg S).map cls):=hmr.1;generalize (bg S).map cls=C at*;generalize BM C=mj at*;generalize (bg S).headD []=id0 at*;have fin: ∀(H':ak) (idv:Bytes) (cv:Int),(∃g,H'=h++g)→Ls 3 (h.length+4) H' z (S.map aa)→qy h.length H' (.agg [.str idv,.str veh,.str p.sys,.int .i64 cv,z]) (.agg (aH ⟨idv,veh,p.sys,cv,S⟩)):=fun H' idv cv _ hl3=>
   .agg' (.cons (.data _ (by simp)) (.cons (.data _ (by simp)) (.cons (.data _ (by simp)) (.cons (.data _ (by simp)) (.cons (hl3.frz (by omega) (fun e he y hy=>by obtain⟨s,_,rfl⟩:=List.mem_map.1 he;simp [aa] at hy;rcases hy with rfl | rfl | rfl <;> simp)) .nil)))))
  have hput: ∀o:cZ,Rs 1 (H.set (h.length+3) o) c (C.map encI')∧(∃g,H.set (h.length+3) o=h++g):=fun o=>⟨(gM hM.cl hM.blk (by decide) o).rs,cu hM.base (by omega) o⟩;have hres:=at3 hM.res;have hlr:h.length+1<H.length:=aK hM.res;have hlb:h.length+3<H.length:=aK hM.blk;have hR: ∀o:cZ,(H.set (h.length+3) o)[h.length+1]? =some (.cells 5 [PU]):=fun o=>get_put hM.blk hM.res (by omega);simp only [PU] at hres hR;have hfz: ∀(o o':cZ),Ls 3 (h.length+4) ((H.set (h.length+3) o).set (h.length+1) o') z (S.map aa):=fun o o'=>by
   have h1:Ls 3 (h.length+4) (H.set (h.length+3) o) z (S.map aa):=gM hM.st hM.blk (by decide) o;exact gM h1 (get_put hM.blk hM.res (by omega)) (by decide) o'
  simp [xG,-ah,-AV.solid,e2,e3,e4,e10,e13,e14,e15,lyH,hyf,hzf,hcf,hB3];refine ay.pure _ (fun _=>by simpa [iq] using hid) ?_;have hb1:before.length≤9223372036854775806:=by omega
  have hb2:before.length+1+a.point.length≤9223372036854775807:=by omega
  by_cases c1:id0=[] <;> by_cases c2:mj=0
  all_goals
   simp [xG,-ah,-AV.solid,e2,e3,e4,e10,e13,e14,e15,lyH,hyf,hzf,hcf,hB3,c1,hlb,r00,r0 _ (hput _).2,hb1,hb2];refine ay.pure _ (fun _=>hmj _ (hput _).1) ?_;simp [xG,-ah,-AV.solid,e2,e3,e4,e10,e13,e14,e15,lyH,hyf,hzf,hcf,hB3,c1,c2,hlb,hlr,hR,hres];refine⟨cu (hput _).2 (by omega) _,?_⟩;first
    | (rw [show max (0:Int) 1=1 from rfl];exact fin _ _ _ (cu (hput _).2 (by omega) _) (hfz _ _))
    | (rw [show max mj 1=mj by omega];exact fin _ _ _ (cu (hput _).2 (by omega) _) (hfz _ _))
end Go.Proofs.YtkpioblbeiaefaaGreat
