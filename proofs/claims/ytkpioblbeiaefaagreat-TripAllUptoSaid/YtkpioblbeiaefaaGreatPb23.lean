/- Part 23 of the lemmas below the statements of this seat: MoveA, ChainA. -/
import Derived.Test.YtkpioblbeiaefaaGreatPb21
import Derived.Test.YtkpioblbeiaefaaGreatPb22
set_option linter.unusedSectionVars false
set_option linter.unusedVariables false
set_option linter.unusedSimpArgs false
set_option linter.unnecessarySimpa false
set_option maxRecDepth 100000
section
namespace Go.Proofs.YtkpioblbeiaefaaGreat
open Go Go.Abs Go.Toll
variable {gl : aR} {h : ak}
theorem jY (t:Int):af Tryz.prog gl 183 [.int .i64 t] h fun x h'=>x= .bool (bS t)∧h'=h:=by
 refine af.body Tryz.f183 _ mixed Tryz.func183 rfl rfl (by simp [Tryz.ntmps183]) ?_;simp [bS]
theorem qQ (t:bn)(s:Bytes):(bH (aI t).net s).isSome=aL (aI t).net.pts s:=by rw [UW,oZ]
theorem Bh (t:bn)(a b:aC):af Tryz.prog gl 93 [.agg (av (aI t)),.agg (aj a),.agg (aj b)] h fun x h'=>x= .bool (aL (aI t).net.pts a.point && aL (aI t).net.pts b.point)∧h'=h:=by
 refine af.data (.bool _) (af.body Tryz.f93 _ mixed Tryz.func93 rfl rfl (by simp [Tryz.ntmps93]) ?_);have hv:=eQ t;have ha:=qQ t a.point;have hb:=qQ t b.point;generalize aI t=v at*;simp;refine ay.pure _ (fun _=>bJ v.net a.point (by omega) (by omega)) ?_;rw [ha];generalize (bH v.net a.point).getD JR=P;simp;refine ay.pure _ (fun _=>bJ v.net b.point (by omega) (by omega)) ?_;rw [hb];generalize (bH v.net b.point).getD JR=Q;cases aL v.net.pts a.point <;> simp
theorem Bi (a b:aC):af Tryz.prog gl 94 [.agg (aj a),.agg (aj b)] h fun x h'=>x= .bool (gK a.time b.time)∧h'=h:=by
 refine af.data (.bool _) (af.body Tryz.f94 _ mixed Tryz.func94 rfl rfl (by simp [Tryz.ntmps94]) ?_);simp;refine ay.pure _ (fun _=>jB a.time) ?_;unfold gK
 cases bS a.time with
 | false=>
  simp;refine ay.pure (.bool true) (fun c=>by cases c) ?_;simp
 | true=>
  simp;refine ay.pure _ (fun _=>jB b.time) ?_;cases bS b.time <;> simp
theorem Ma (t:bn)(a b:Bytes):af Tryz.prog gl 95 [.agg (av (aI t)),.str a,.str b] h fun x h'=>x= .int .i64 (si (aI t).net a b)∧h'=h:=by
 refine af.data (.int _ _) (af.body Tryz.f95 _ mixed Tryz.func95 rfl rfl (by simp [Tryz.ntmps95]) ?_);have hv:=eQ t;have hvn:=oZ t;generalize aI t=v at*;unfold si;by_cases e:a=b
 ·simp [e]
 ·simp [e];have c1:=fun H:ak=>EG (gl:=gl) (h:=H) v.net a b (by omega) (by omega);rw [hvn] at c1;unfold wH at c1;rcases hb:jf v.net a b with _ | ⟨p,d⟩
  ·rw [hb] at c1;refine ay.pure _ (fun _=>c1 _) ?_;simp
  ·rw [hb] at c1;refine ay.pure _ (fun _=>c1 _) ?_;simp
end Go.Proofs.YtkpioblbeiaefaaGreat
namespace Go.Proofs.YtkpioblbeiaefaaGreat
open Go Go.Abs Go.Toll
variable {gl : aR} {h : ak}
theorem UV {v:bv} (ok:aY v)(a b:Bytes)(s t:Int):tJ v a b s t=(aL v.pts a && aL v.pts b && bS s && bS t && decide (si v a b≤t - s)):=by
 have h:=NI ok a b;unfold tJ gK;by_cases c:si v a b≤t - s
 ·have:s<t:=by omega
  simp [this,c,Bool.and_assoc]
 ·simp [c]
set_option maxHeartbeats 4000000 in
theorem ze (t:bn)(a b:aC)(hp:t.net.pts.length≤1000)(hl:t.net.lks.length≤1000)(hs:t.sys.length≤1000):af Tryz.prog gl 168 [.agg (av t),.agg (aj a),.agg (aj b)] h fun x h'=>x= .bool (tJ (aI t).net a.point b.point a.time b.time)∧h'=h:=by
 refine af.data (.bool _) (af.body Tryz.f168 _ mixed Tryz.func168 rfl rfl (by simp [Tryz.ntmps168]) ?_);simp;refine ay.pure _ (fun _=>lq t hp hl hs) ?_;have hv:=eQ t;have hvn:=oZ t;have ok:=PL t;have ha:=qQ t a.point;have hb:=qQ t b.point;generalize aI t=v at*;rw [UV ok];simp;refine ay.pure _ (fun _=>lI v.net a.point (by omega) (by omega)) ?_;rw [ha];generalize (bH v.net a.point).getD JR=P;simp;refine ay.pure _ (fun _=>lI v.net b.point (by omega) (by omega)) ?_;rw [hb];generalize (bH v.net b.point).getD JR=Q
 cases qa:aL v.net.pts a.point with
 | false=>
  simp;refine ay.pure (.bool true) (fun c=>by cases c) ?_;simp;refine ay.pure (.bool true) (fun c=>by cases c) ?_;simp
 | true=>
  cases qb:aL v.net.pts b.point with
  | false=>
   simp;refine ay.pure (.bool true) (fun c=>by cases c) ?_;simp;refine ay.pure (.bool true) (fun c=>by cases c) ?_;simp
  | true=>
   simp;refine ay.pure _ (fun _=>jY a.time) ?_
   cases qs:bS a.time with
   | false=>
    simp;refine ay.pure (.bool true) (fun c=>by cases c) ?_;simp
   | true=>
    simp;refine ay.pure _ (fun _=>jY b.time) ?_
    cases qt:bS b.time with
    | false=>simp
    | true=>
     have r1:=dU qs;have r2:=dU qt;have ewd:IntKind.i64.wrap (b.time - a.time)=b.time - a.time:=aD (by omega) (by omega);unfold si;by_cases e:a.point=b.point
     ·simp [e,ewd]
     ·simp [e,ewd];have c1:=fun H:ak=>DT (gl:=gl) (h:=H) v.net a.point b.point (by omega) (by omega);rw [hvn] at c1;unfold wH at c1;rcases hbp:jf v.net a.point b.point with _ | ⟨p,d⟩
      ·rw [hbp] at c1;refine ay.pure _ (fun _=>c1 _) ?_;simp [ewd]
      ·rw [hbp] at c1;refine ay.pure _ (fun _=>c1 _) ?_;simp [ewd]
set_option maxHeartbeats 4000000 in
theorem vg (t:bn)(a b:aC)(hp:t.net.pts.length≤1000)(hl:t.net.lks.length≤1000)(hs:t.sys.length≤1000):af Tryz.prog gl 56 [.agg (av t),.agg (aj a),.agg (aj b)] h fun x h'=>x= .bool (tJ (aI t).net a.point b.point a.time b.time)∧h'=h:=by
 refine af.data (.bool _) (af.body Tryz.f56 _ mixed Tryz.func56 rfl rfl (by simp [Tryz.ntmps56]) ?_);simp;refine ay.pure _ (fun _=>pX t hp hl hs) ?_;have c1:=fun H:ak=>Bh (gl:=gl) (h:=H) t a b;have c2:=fun H:ak=>Ma (gl:=gl) (h:=H) t a.point b.point;have c3:=fun H:ak=>Bi (gl:=gl) (h:=H) a b;generalize aI t=v at*;unfold tJ;simp;refine⟨by decide,?_⟩;refine ay.pure _ (fun _=>c1 _) ?_
 cases qa:(aL v.net.pts a.point && aL v.net.pts b.point) with
 | false=>
  simp;refine ay.pure (.bool true) (fun c=>by cases c) ?_;simp;refine ay.pure (.int .i64 0) (fun c=>by cases c) ?_;simp
 | true=>
  simp;refine ay.pure _ (fun _=>c3 _) ?_
  cases ql:gK a.time b.time with
  | false=>
   simp;refine ay.pure (.int .i64 0) (fun c=>by cases c) ?_;simp
  | true=>
   have hl:=ql;unfold gK at hl;rw [Bool.and_eq_true,Bool.and_eq_true] at hl;have r1:=dU hl.1.1;have r2:=dU hl.1.2;have ewd:IntKind.i64.wrap (b.time - a.time)=b.time - a.time:=aD (by omega) (by omega);simp [ewd];refine ay.pure _ (fun _=>c2 _) ?_;simp [ewd]
end Go.Proofs.YtkpioblbeiaefaaGreat
namespace Go.Proofs.YtkpioblbeiaefaaGreat
open Go Go.Abs Go.Toll
variable {gl : aR} {h : ak}
def lV (v:bv)(a b:Bytes)(s t:Int):AV:= .tup [.ro ((dD v a b s t).1.map dJ),.int .i64 (dD v a b s t).2]
def lg (v:bv)(L:List (List Bytes))(dt:Int)(i:Nat):List (List Bytes):=(L.take i).filter (rJ v dt)
theorem Bo {v:bv} {L:List (List Bytes)} {dt:Int} {i:Nat} {q:List Bytes} (h:L[i]? =some q):lg v L dt (i+1)=if rJ v dt q=true then lg v L dt i++[q] else lg v L dt i:=by
 rw [lg,zM,h,Option.toList_some,List.filter_append,lg];by_cases c:rJ v dt q=true
 ·rw [if_pos c,List.filter_cons_of_pos c];rfl
 ·rw [if_neg c,List.filter_cons_of_neg c];simp
theorem EQ (v:bv)(L:List (List Bytes))(dt:Int):lg v L dt L.length=L.filter (rJ v dt):=by rw [lg,List.take_length]
theorem ER (v:bv)(L:List (List Bytes))(dt:Int)(i:Nat):(lg v L dt i).length≤i:=Nat.le_trans (List.length_filter_le _ _) (by simp;omega)
theorem ES {v:bv} {a b:Bytes} {s t:Int} (h:(aL v.pts a && aL v.pts b)=false):dD v a b s t=([],16):=by rw [dD,if_pos h]
theorem sQ {v:bv} {a b:Bytes} {s t:Int} (h:(aL v.pts a && aL v.pts b)=true)(h2:gK s t=false):dD v a b s t=([],12):=by rw [dD,if_neg (by rw [h];simp),if_pos h2]
theorem Iw {v:bv} {a b:Bytes} {s t:Int} (h:(aL v.pts a && aL v.pts b)=true)(h2:gK s t=true)(h3:(eH v a b).2≠0):dD v a b s t=([],(eH v a b).2):=by
 rw [dD,if_neg (by rw [h];simp),if_neg (by rw [h2];simp),if_pos h3]
theorem Mk {v:bv} {a b:Bytes} {s t:Int} (h:(aL v.pts a && aL v.pts b)=true)(h2:gK s t=true)(h3:(eH v a b).2=0):dD v a b s t=if (eH v a b).1.filter (rJ v (t - s))=[] then ([],21) else ((eH v a b).1.filter (rJ v (t - s)),0):=by
 rw [dD,if_neg (by rw [h];simp),if_neg (by rw [h2];simp),if_neg (by rw [h3];simp)];rfl
theorem dz {n:Nat} {e:Int}:qy n h (.tup [.nil,.int .i64 e]) (.tup [.ro [],.int .i64 e]):= .tup' (.cons .nil (.cons (.data _ (by simp)) .nil))
set_option maxHeartbeats 8000000 in
theorem Fy (t:bn)(a b:aC)(hp:t.net.pts.length≤1000)(hl:t.net.lks.length≤1000)(hs:t.sys.length≤1000):af Tryz.prog gl 169 [.agg (av t),.agg (aj a),.agg (aj b)] h fun x h'=>x=lV (aI t).net a.point b.point a.time b.time∧h'=h:=by
 refine af.fresh' (af.body Tryz.f169 _ mixed Tryz.func169 rfl rfl (by simp [Tryz.ntmps169]) ?_);simp;refine ay.pure _ (fun _=>lq t hp hl hs) ?_;have hv:=eQ t;have hvn:=oZ t;have ok:=PL t;have ha:=qQ t a.point;have hb:=qQ t b.point;generalize aI t=v at*;simp;refine ay.pure _ (fun _=>lI v.net a.point (by omega) (by omega)) ?_;rw [ha];generalize (bH v.net a.point).getD JR=P;simp;refine ay.pure _ (fun _=>lI v.net b.point (by omega) (by omega)) ?_;rw [hb];generalize (bH v.net b.point).getD JR=Q
 cases qa:aL v.net.pts a.point with
 | false=>
  simp;rw [lV,ES (by rw [qa];rfl)];exact dz
 | true=>
  cases qb:aL v.net.pts b.point with
  | false=>
   simp;rw [lV,ES (by rw [qa,qb];rfl)];exact dz
  | true=>
   have hab:(aL v.net.pts a.point && aL v.net.pts b.point)=true:=by rw [qa,qb];rfl
   simp;refine ay.pure _ (fun _=>jY a.time) ?_
   cases qs:bS a.time with
   | false=>
    simp;refine ay.pure (.bool true) (fun c=>by cases c) ?_;simp;rw [lV,sQ hab (by unfold gK;rw [qs];rfl)];exact dz
   | true=>
    simp;refine ay.pure _ (fun _=>jY b.time) ?_
    cases qt:bS b.time with
    | false=>
     simp;rw [lV,sQ hab (by unfold gK;rw [qs,qt];rfl)];exact dz
    | true=>
     by_cases hlt:a.time<b.time
     ·have hla:gK a.time b.time=true:=by unfold gK;rw [qs,qt,decide_eq_true hlt];rfl
      have hnle: ¬b.time≤a.time:=by omega
      have r1:=dU qs;have r2:=dU qt;have ewd:IntKind.i64.wrap (b.time - a.time)=b.time - a.time:=aD (by omega) (by omega);simp [hnle];have c1:=fun H:ak=>KY (gl:=gl) (h:=H) v.net a.point b.point (by omega) (by omega);have hsp:=(uX ok a.point b.point).1;have herr:=Iw (s:=a.time) (t:=b.time) hab hla;have hof:=Mk (s:=a.time) (t:=b.time) hab hla;have hat: ∀(i:Nat) q,(eH v.net a.point b.point).1[i]? =some q→ ∃l s,CF v.net a.point b.point q l s:=fun i q=>JN ok;rw [hvn] at c1;unfold sF at c1;rw [lV];generalize dD v.net a.point b.point a.time b.time=R at*;generalize eH v.net a.point b.point=PE at*;obtain⟨L,E⟩:=PE;simp only at hsp herr hof hat c1;refine ay.pure _ (fun _=>c1 _) ?_;by_cases hE:E=0
      ·subst hE;have hR:=hof rfl;simp;refine aW.up mixed L.length (fun i fr H=>(fr 4= .ptr (h.length+1) 0 0∧fr 5= .ptr (h.length+2) 0 0∧fr 8= .ptr (h.length+3) 0 0)∧fr 75= .ro (L.map dJ)∧fr 76= .int .i64 L.length∧fr 77= .int .i64 i∧
         H[h.length+1]? =some (.cells 8 [aj a])∧H[h.length+2]? =some (.cells 8 [aj b])∧H[h.length+3]? =some (.cells 2 [bE v.net])∧(∃g,H=h++g)∧ ∃x,fr 15=x∧Ls 1 (h.length+4) H x ((lg v.net L (b.time - a.time) i).map dJ)) 0 (by omega)
        ⟨by simp,by simp,by simp,by simp,by simp,by simp,by simp,by simp,.nil,by simp,by simpa [lg] using Ls.nil⟩ ?_
       rintro i fr H hi ⟨⟨e4,e5,e8⟩,e75,e76,e77,hA,hB2,hN,hB,x,e15,hx⟩;have hxf:=hx.rs.fix;have hil:=ER v.net L (b.time - a.time) i;have hAa:H[h.length+1]? =some (.cells 8 [aj a])∧h.length+1<H.length∧ ∀hl:h.length+1<H.length,H[h.length+1]= .cells 8 [aj a]:=⟨hA,(zA.1 hA).1,fun _=>(zA.1 hA).2⟩;have hBa:H[h.length+2]? =some (.cells 8 [aj b])∧h.length+2<H.length∧ ∀hl:h.length+2<H.length,H[h.length+2]= .cells 8 [aj b]:=⟨hB2,(zA.1 hB2).1,fun _=>(zA.1 hB2).2⟩;have hNa:H[h.length+3]? =some (.cells 2 [bE v.net])∧h.length+3<H.length∧ ∀hl:h.length+3<H.length,H[h.length+3]= .cells 2 [bE v.net]:=⟨hN,(zA.1 hN).1,fun _=>(zA.1 hN).2⟩;simp only [dK,bE] at hAa hBa hNa;rcases zN i L.length with hlti | hge
       ·obtain⟨q,hq,hq'⟩:=aN hlti;have ew:=aB (i:=i) (by omega);obtain⟨l,w,hpt⟩:=hat i q hq;have hql:=hpt.len;have hsuc:=Bo (v:=v.net) (dt:=b.time - a.time) hq;have htk:rJ v.net (b.time - a.time) q=decide (w.1≤b.time - a.time∧b.time - a.time≤w.2):=by unfold rJ;rw [hpt.bnd];simp
        have c2:=fun H:ak=>rV (gl:=gl) (h:=H) v.net q (by omega) (by omega) (by omega);rw [hvn,hpt.bnd] at c2;simp [-ae,-ai,-ah,-AV.solid,e4,e5,e8,e75,e76,e77,hlti,hq,hq',dJ,hNa];refine ay.pure _ (fun _=>c2 _) ?_;by_cases d1:w.1≤b.time - a.time
        ·by_cases d2:b.time - a.time≤w.2
         ·rw [htk,if_pos (decide_eq_true ⟨d1,d2⟩)] at hsuc;simp [-ae,-ai,-ah,-AV.solid,e4,e5,e8,e75,e76,e77,e15,hlti,hq,hq',dJ,hNa,hAa,hBa,ewd,d1,d2,hxf];refine aG (lo:=h.length+4) (n:=1) (es:=(lg v.net L (b.time - a.time) i).map dJ) (ys:=[dJ q]) (by simpa [dJ] using hx.more _) (by simp;omega) (by simp [bu,dJ]) (by simp;omega) ?_;intro s1 H1 hs1 hg1 hn1;have hs1f:=hs1.rs.fix;have hB1:=hg1.base h (by omega) (aF hB _);have hk1: ∀b o,b<h.length+4→H[b]? =some o→H1[b]? =some o:=fun b o hb ho=>hg1.keep b o (by rw [zC (aK ho)];exact ho) fun off len e=>by have:=hx.above _ _ _ e;omega
          simp [-ae,-ai,-ah,-AV.solid,e4,e5,e8,e75,e76,e77,hs1f,ew];exact⟨i+1,by omega,by omega,by omega,hk1 _ _ (by omega) hA,hk1 _ _ (by omega) hB2,hk1 _ _ (by omega) hN,hB1,by rw [hsuc];simpa using hs1⟩
         ·rw [htk,if_neg (by simp [d2])] at hsuc;simp [-ae,-ai,-ah,-AV.solid,e4,e5,e8,e75,e76,e77,e15,hlti,hq,hq',dJ,hNa,hAa,hBa,ewd,d1,d2,hxf,ew];exact⟨i+1,by omega,by omega,by omega,hB,by rw [hsuc];exact hx⟩
        ·rw [htk,if_neg (by simp [d1])] at hsuc;simp [-ae,-ai,-ah,-AV.solid,e4,e5,e8,e75,e76,e77,e15,hlti,hq,hq',dJ,hNa,hAa,hBa,ewd,d1,hxf,ew];exact⟨i+1,by omega,by omega,by omega,hB,by rw [hsuc];exact hx⟩
       ·obtain rfl:i=L.length:=by omega
        rw [EQ] at hx hil;have hxl:=hx.rs.len2;rw [List.length_map] at hxl;generalize L.filter (rJ v.net (b.time - a.time))=O at*;by_cases hO:O=[]
        ·subst hO;rw [if_pos rfl] at hR;simp [-ae,-ai,-ah,-AV.solid,e4,e5,e8,e75,e76,e77,e15,hxf,hxl];rw [hR];exact⟨hB,dz⟩
        ·rw [if_neg hO] at hR;have hOl: ¬(O.length:Int)=0:=by have:=List.length_pos_iff.2 hO;omega
         simp [-ae,-ai,-ah,-AV.solid,e4,e5,e8,e75,e76,e77,e15,hxf,hxl,hO,hOl];rw [hR];exact⟨hB,.tup' (.cons (hx.frz (by omega) (sG _)) (.cons (.data _ (by simp)) .nil))⟩
      ·rw [herr hE];simp [hE];exact dz
     ·have hle:b.time≤a.time:=by omega
      simp [hle];rw [lV,sQ hab (by unfold gK;rw [decide_eq_false hlt];simp)];exact dz
set_option maxHeartbeats 8000000 in
theorem Mc (t:bn)(a b:aC)(hp:t.net.pts.length≤1000)(hl:t.net.lks.length≤1000)(hs:t.sys.length≤1000):af Tryz.prog gl 146 [.agg (av t),.agg (aj a),.agg (aj b)] h fun x h'=>x=lV (aI t).net a.point b.point a.time b.time∧h'=h:=by
 refine af.fresh' (af.body Tryz.f146 _ mixed Tryz.func146 rfl rfl (by simp [Tryz.ntmps146]) ?_);simp;refine ay.pure _ (fun _=>pX t hp hl hs) ?_;have hv:=eQ t;have hvn:=oZ t;have ok:=PL t;have k1:=fun H:ak=>Bh (gl:=gl) (h:=H) t a b;have k2:=fun H:ak=>Bi (gl:=gl) (h:=H) a b;generalize aI t=v at*;simp;refine ay.pure _ (fun _=>k1 _) ?_
 cases hab:(aL v.net.pts a.point && aL v.net.pts b.point) with
 | false=>
  simp;rw [lV,ES hab];exact dz
 | true=>
  simp;refine ay.pure _ (fun _=>k2 _) ?_
  cases hla:gK a.time b.time with
  | false=>
   simp;rw [lV,sQ hab hla];exact dz
  | true=>
   have hl3:=hla;unfold gK at hl3;rw [Bool.and_eq_true,Bool.and_eq_true] at hl3;have r1:=dU hl3.1.1;have r2:=dU hl3.1.2;have ewd:IntKind.i64.wrap (b.time - a.time)=b.time - a.time:=aD (by omega) (by omega);simp;have c1:=fun H:ak=>LZ (gl:=gl) (h:=H) v.net a.point b.point (by omega) (by omega);have hsp:=(uX ok a.point b.point).1;have herr:=Iw (s:=a.time) (t:=b.time) hab hla;have hof:=Mk (s:=a.time) (t:=b.time) hab hla;have hat: ∀(i:Nat) q,(eH v.net a.point b.point).1[i]? =some q→ ∃l s,CF v.net a.point b.point q l s:=fun i q=>JN ok;rw [hvn] at c1;unfold sF at c1;rw [lV];generalize dD v.net a.point b.point a.time b.time=R at*;generalize eH v.net a.point b.point=PE at*;obtain⟨L,E⟩:=PE;simp only at hsp herr hof hat c1;refine ay.pure _ (fun _=>c1 _) ?_;by_cases hE:E=0
   ·subst hE;have hR:=hof rfl;simp;refine aW.up mixed L.length (fun i fr H=>(fr 4= .ptr (h.length+1) 0 0∧fr 5= .ptr (h.length+2) 0 0∧fr 8= .ptr (h.length+3) 0 0)∧fr 9= .ro (L.map dJ)∧fr 12= .int .i64 i∧
      H[h.length+1]? =some (.cells 8 [aj a])∧H[h.length+2]? =some (.cells 8 [aj b])∧H[h.length+3]? =some (.cells 3 [av v])∧(∃g,H=h++g)∧ ∃x,fr 11=x∧Ls 1 (h.length+4) H x ((lg v.net L (b.time - a.time) i).map dJ)) 0 (by omega)
     ⟨by simp,by simp,by simp,by simp,by simp,by simp,by simp,.nil,by simp,by simpa [lg] using Ls.nil⟩ ?_
    rintro i fr H hi ⟨⟨e4,e5,e8⟩,e9,e12,hA,hB2,hN,hB,x,e11,hx⟩;have hxf:=hx.rs.fix;have hil:=ER v.net L (b.time - a.time) i;have hAa:H[h.length+1]? =some (.cells 8 [aj a])∧h.length+1<H.length∧ ∀hl:h.length+1<H.length,H[h.length+1]= .cells 8 [aj a]:=⟨hA,(zA.1 hA).1,fun _=>(zA.1 hA).2⟩;have hBa:H[h.length+2]? =some (.cells 8 [aj b])∧h.length+2<H.length∧ ∀hl:h.length+2<H.length,H[h.length+2]= .cells 8 [aj b]:=⟨hB2,(zA.1 hB2).1,fun _=>(zA.1 hB2).2⟩;have hNa:H[h.length+3]? =some (.cells 3 [av v])∧h.length+3<H.length∧ ∀hl:h.length+3<H.length,H[h.length+3]= .cells 3 [av v]:=⟨hN,(zA.1 hN).1,fun _=>(zA.1 hN).2⟩;simp only [dK,av] at hAa hBa hNa;rcases zN i L.length with hlti | hge
    ·obtain⟨q,hq,hq'⟩:=aN hlti;have ew:=aB (i:=i) (by omega);obtain⟨l,w,hpt⟩:=hat i q hq;have hql:=hpt.len;have hsuc:=Bo (v:=v.net) (dt:=b.time - a.time) hq;have htk:rJ v.net (b.time - a.time) q=decide (w.1≤b.time - a.time∧b.time - a.time≤w.2):=by unfold rJ;rw [hpt.bnd];simp
     have c2:=fun H:ak=>yT (gl:=gl) (h:=H) v.net q (by omega) (by omega) (by omega);rw [hvn,hpt.bnd] at c2;simp [-ae,-ai,-ah,-AV.solid,e4,e5,e8,e9,e12,hlti,hq,hq',dJ,hNa];refine⟨by decide,?_⟩;refine ay.pure _ (fun _=>c2 _) ?_;by_cases d1:w.1≤b.time - a.time
     ·by_cases d2:b.time - a.time≤w.2
      ·rw [htk,if_pos (decide_eq_true ⟨d1,d2⟩)] at hsuc;simp [-ae,-ai,-ah,-AV.solid,e4,e5,e8,e9,e12,e11,hlti,hq,hq',dJ,hNa,hAa,hBa,ewd,d1,d2,hxf];refine aG (lo:=h.length+4) (n:=1) (es:=(lg v.net L (b.time - a.time) i).map dJ) (ys:=[dJ q]) (by simpa [dJ] using hx.more _) (by simp;omega) (by simp [bu,dJ]) (by simp;omega) ?_;intro s1 H1 hs1 hg1 hn1;have hs1f:=hs1.rs.fix;have hB1:=hg1.base h (by omega) (aF hB _);have hk1: ∀b o,b<h.length+4→H[b]? =some o→H1[b]? =some o:=fun b o hb ho=>hg1.keep b o (by rw [zC (aK ho)];exact ho) fun off len e=>by have:=hx.above _ _ _ e;omega
       simp [-ae,-ai,-ah,-AV.solid,e4,e5,e8,e9,e12,hs1f,ew];exact⟨i+1,by omega,by omega,by omega,hk1 _ _ (by omega) hA,hk1 _ _ (by omega) hB2,hk1 _ _ (by omega) hN,hB1,by rw [hsuc];simpa using hs1⟩
      ·rw [htk,if_neg (by simp [d2])] at hsuc;simp [-ae,-ai,-ah,-AV.solid,e4,e5,e8,e9,e12,e11,hlti,hq,hq',dJ,hNa,hAa,hBa,ewd,d1,d2,hxf,ew];exact⟨i+1,by omega,by omega,by omega,hB,by rw [hsuc];exact hx⟩
     ·rw [htk,if_neg (by simp [d1])] at hsuc;simp [-ae,-ai,-ah,-AV.solid,e4,e5,e8,e9,e12,e11,hlti,hq,hq',dJ,hNa,hAa,hBa,ewd,d1,hxf,ew];exact⟨i+1,by omega,by omega,by omega,hB,by rw [hsuc];exact hx⟩
    ·obtain rfl:i=L.length:=by omega
     rw [EQ] at hx hil;have hxl:=hx.rs.len2;rw [List.length_map] at hxl;generalize L.filter (rJ v.net (b.time - a.time))=O at*;by_cases hO:O=[]
     ·subst hO;rw [if_pos rfl] at hR;simp [-ae,-ai,-ah,-AV.solid,e4,e5,e8,e9,e12,e11,hxf,hxl];rw [hR];exact⟨hB,dz⟩
     ·rw [if_neg hO] at hR;have hOl: ¬(O.length:Int)=0:=by have:=List.length_pos_iff.2 hO;omega
      simp [-ae,-ai,-ah,-AV.solid,e4,e5,e8,e9,e12,e11,hxf,hxl,hO,hOl];rw [hR];exact⟨hB,.tup' (.cons (hx.frz (by omega) (sG _)) (.cons (.data _ (by simp)) .nil))⟩
   ·rw [herr hE];simp [hE];exact dz
end Go.Proofs.YtkpioblbeiaefaaGreat
end
section
namespace Go.Proofs.YtkpioblbeiaefaaGreat
open Go Go.Abs Go.Toll
variable {gl : aR} {h : ak}
def iP (v:bv)(l:List aC)(i:Nat):List (List AV):=(List.range i).map fun i=>[AV.ro ((je (gL v l) l.length i).map bB)]
theorem EW (v:bv)(l:List aC)(i:Nat):iP v l (i+1)=iP v l i++[[AV.ro ((je (gL v l) l.length i).map bB)]]:=by rw [iP,List.range_succ,List.map_append,iP];rfl
theorem vX (v:bv)(l:List aC)(i:Nat):(iP v l i).length=i:=by simp [iP]
theorem Iz {v:bv} {l:List aC} {n i:Nat} (h:i<n):(iP v l n)[i]? =some [AV.ro ((je (gL v l) l.length i).map bB)]:=by simp [iP,h]
theorem EU (v:bv)(l:List aC)(i:Nat): ∀e∈iP v l i,∀y∈e,y.Data:=by
 intro e he y hy;obtain⟨k,_,rfl⟩:=List.mem_map.1 he;simp at hy;subst hy;exact .ro _ fun e he y hy=>by
  obtain⟨m,_,rfl⟩:=List.mem_map.1 he;simp [bB] at hy;subst hy;simp
theorem Ad (l:List Nat): ∀e∈l.map bB,∀y∈e,y.Data:=by
 intro e he y hy;obtain⟨m,_,rfl⟩:=List.mem_map.1 he;simp [bB] at hy;subst hy;simp
set_option maxHeartbeats 4000000 in
theorem FU (t:bn)(l:List aC)(hn:l.length≤1000000)(hp:t.net.pts.length≤1000)(hl:t.net.lks.length≤1000)(hs:t.sys.length≤1000):af Tryz.prog gl 139 [.agg (av t),.ro (l.map aj)] h fun v h'=>v= .ro (iP (aI t).net l l.length)∧h'=h:=by
 refine af.fresh' (af.body Tryz.f139 _ mixed Tryz.func139 rfl rfl (by simp [Tryz.ntmps139]) ?_);obtain⟨n,hnn⟩: ∃n,n=l.length:=⟨_,rfl⟩;simp [←hnn];refine aW.upF 12 mixed n (fun i fr H=>fr 1= .ro (l.map aj)∧fr 2= .ptr h.length 0 0∧fr 11= .ro (l.map aj)∧fr 12= .int .i64 n∧fr 13= .int .i64 i∧H[h.length]? =some (.cells 3 [av t])∧(∃g,H=h++g)∧ ∃x,fr 5=x∧Ls 1 (h.length+1) H x (iP (aI t).net l i)) 0 (by omega)
  ⟨by simp,by simp,by simp,by simp,by simp,by simp,by simp,.nil,by simp,by simpa [iP] using Ls.nil⟩ ?_
 rintro i fr H hi ⟨e1,e2,e11,e12,e13,hT,hB,x,e5,hx⟩;have hxf:=hx.rs.fix;have hT3:=at3 hT;simp only [av] at hT3;have hlen:=aV hB;rcases zN i n with hlt | hge
 ·obtain⟨a,ha,ha'⟩:=aN (l:=l) (i:=i) (by omega);have hil:i<l.length:=by omega
  have ew:=aB (i:=i) (by omega);obtain⟨p0,hp0⟩: ∃p0,p0=H.length:=⟨_,rfl⟩;have hxin:=hx.inside;have hph:h.length<p0:=by rw [hp0];exact hT3.2.1
  simp [←hnn,e1,e2,e5,e11,e12,e13,hlt,hil,ha,ha',hxf];refine aW.up mixed n (fun j fr H'=>fr 1= .ro (l.map aj)∧fr 2= .ptr h.length 0 0∧fr 11= .ro (l.map aj)∧fr 12= .int .i64 n∧fr 13= .int .i64 i∧fr 5=x∧fr 7= .ptr p0 0 0∧fr 18= .ro (l.map aj)∧fr 19= .int .i64 n∧fr 20= .int .i64 j∧
    H'[h.length]? =some (.cells 3 [av t])∧H'[p0]? =some (.cells 8 [aj a])∧(∃g,H'=h++g)∧p0+1≤H'.length∧Ls 1 (h.length+1) H' x (iP (aI t).net l i)∧ ∃y,fr 8=y∧Lz 1 (p0+1) H' y ((wD (gL (aI t).net l) i j).map bB)) 0 (by omega)
   ⟨by simp [e1],by simp [e2],by simp [e11],by simp [e12],by simp [e13],by simp [e5],by simp [hp0],by simp,by simp,by simp,aJ hT _,by simp [hp0],aF hB _,by simp [hp0],hx.more _,.own (p0+1) 0 0,by simp [hp0],.inl (Ls.own (by simp [hp0,wD]) (by omega) (by simp [wD]) (by simp [wD]))⟩ ?_
  clear e1 e2 e5 e11 e12 e13 hT hT3 hB hx hlen;rintro j fr H' hj ⟨e1,e2,e11,e12,e13,e5,e7,e18,e19,e20,hT,hA,hB,hpl,hx,y,e8,hy⟩;have hlen:=aV hB;have hT3:=at3 hT;have hA3:=at3 hA;simp only [av,dK] at hT3 hA3;have hyf:=hy.rs.fix;have hfl:=KV (gL (aI t).net l) i j;rcases zN j n with hjlt | hjge
  ·obtain⟨b,hb,hb'⟩:=aN (l:=l) (i:=j) (by omega);have hjl:j<l.length:=by omega
   have ewj:=aB (i:=j) (by omega);have hsuc:=Ha (gL (aI t).net l) i j;have hfe:tJ (aI t).net a.point b.point a.time b.time=gL (aI t).net l i j:=(Pk ha hb).symm;have hne:h.length≠H'.length:=by omega
   have hne2:p0≠H'.length:=by omega
   simp [-ae,-ai,-ah,-AV.solid,←hnn,e1,e2,e5,e7,e11,e12,e13,e18,e19,e20,e8,hjlt,hjl,hb,hb',hxf,hyf,hT3,hA3];refine ay.pure _ (fun _=>ze t a b hp hl hs) ?_;simp [-ae,-ai,-ah,-AV.solid,e1,e2,e5,e7,e11,e12,e13,e18,e19,e20,e8,hxf,hyf,hfe];refine⟨fun c=> ?_,fun c=> ?_⟩
   ·rw [if_pos c] at hsuc;refine GJ (lo:=p0+1) (n:=1) (es:=(wD (gL (aI t).net l) i j).map bB) (ys:=[bB j]) (by simpa [bB] using hy.more _) (by simp;omega) (by simp [bu,bB]) (by simp;omega) ?_;intro s1 H1 hs1 hg1 hn1;have hs1f:=hs1.rs.fix;have hk1: ∀b o,b<p0+1→H'[b]? =some o→H1[b]? =some o:=fun b o hb ho=>hg1.keep b o (aJ ho _) fun off len e=>by have:=hy.above _ _ _ e;omega
    have hB1:=hg1.base h (by omega) (aF hB _);have hx1:Ls 1 (h.length+1) H1 x (iP (aI t).net l i):=(hx.more _).grow hg1 fun b eb hbl off len e=>by have:=hxin _ _ _ eb;have:=hy.above _ _ _ e;omega
    have hl1:=hg1.len;simp [-ae,-ai,-ah,-AV.solid,e1,e2,e5,e7,e11,e12,e13,e18,e19,e20,hs1f,hxf,ewj];simp at hl1;exact⟨j+1,by omega,by omega,by omega,hk1 _ _ (by omega) hT,hk1 _ _ (by omega) hA,hB1,by omega,hx1,by rw [hsuc];simpa using hs1⟩
   ·rw [if_neg (by simp [c])] at hsuc;simp [-ae,-ai,-ah,-AV.solid,e1,e2,e5,e7,e11,e12,e13,e18,e19,e20,e8,hxf,hyf,ewj,hT3,hA3];exact⟨j+1,by omega,by omega,by omega,aF hB _,by omega,hx.more _,by rw [hsuc];exact hy.more _⟩
  ·obtain rfl:n=j:=by omega
   have hfa:wD (gL (aI t).net l) i n=je (gL (aI t).net l) l.length i:=by rw [hnn];rfl
   rw [hfa] at hy hfl;simp [e1,e2,e5,e7,e11,e12,e13,e18,e19,e20,e8,hxf,hyf];refine aW.freezeL 8 (by simp [e8]) hy ?_;intro fr1 H1 q8 qf hg1 hl1;have f1:fr1 1= .ro (l.map aj):=by rw [qf 1 (by decide)];simp [e1]
   have f2:fr1 2= .ptr h.length 0 0:=by rw [qf 2 (by decide)];simp [e2]
   have f5:fr1 5=x:=by rw [qf 5 (by decide)];simp [e5]
   have f11:fr1 11= .ro (l.map aj):=by rw [qf 11 (by decide)];simp [e11]
   have f12:fr1 12= .int .i64 n:=by rw [qf 12 (by decide)];simp [e12]
   have f13:fr1 13= .int .i64 i:=by rw [qf 13 (by decide)];simp [e13]
   have hk1: ∀b o,b<p0+1→H'[b]? =some o→H1[b]? =some o:=fun b o hb ho=>hg1.keep b o ho fun off len e=>by have:=hy.above _ _ _ e;omega
   have hB1:=hg1.base h (by omega) hB;have hx1:Ls 1 (h.length+1) H1 x (iP (aI t).net l i):=hx.grow hg1 fun b eb hbl off len e=>by have:=hxin _ _ _ eb;have:=hy.above _ _ _ e;omega
   have hT1:=hk1 _ _ (by omega) hT;have hrl:=vX (aI t).net l i;have hsuc:=EW (aI t).net l i;refine aW.of_awp mixed _ _ _ _ ?_;simp [-ae,-ai,-ah,-AV.solid,f1,f2,f5,f11,f12,f13,q8,hxf];refine aG (lo:=h.length+1) (n:=1) (es:=iP (aI t).net l i) (ys:=[[AV.ro ((je (gL (aI t).net l) l.length i).map bB)]]) (by simpa using hx1.more _) (by simp;omega) (by simp [bu]) (by simp;omega) ?_;intro s2 H2 hs2 hg2 hn2;have hs2f:=hs2.rs.fix;have hB2:=hg2.base h (by omega) (aF hB1 _);have hT2:=hg2.keep _ _ (aJ hT1 _) fun off len e=>by have:=hx1.above _ _ _ e;omega
   simp [-ae,-ai,-ah,-AV.solid,f1,f2,f11,f12,f13,hs2f,ew];exact⟨i+1,by omega,by omega,by omega,hT2,hB2,by rw [hsuc];exact hs2⟩
 ·obtain rfl:n=i:=by omega
  simp [e1,e2,e5,e11,e12,e13,hxf];exact⟨hB,hx.frz (by omega) (EU _ _ _)⟩
set_option maxHeartbeats 4000000 in
theorem Gp (t:bn)(l:List aC)(hn:l.length≤1000000)(hp:t.net.pts.length≤1000)(hl:t.net.lks.length≤1000)(hs:t.sys.length≤1000):af Tryz.prog gl 145 [.agg (av t),.ro (l.map aj)] h fun v h'=>v= .ro (iP (aI t).net l l.length)∧h'=h:=by
 refine af.fresh' (af.body Tryz.f145 _ mixed Tryz.func145 rfl rfl (by simp [Tryz.ntmps145]) ?_);obtain⟨n,hnn⟩: ∃n,n=l.length:=⟨_,rfl⟩;simp [←hnn];refine aW.upF 11 mixed n (fun i fr H=>fr 1= .ro (l.map aj)∧fr 2= .ptr h.length 0 0∧fr 6= .int .i64 i∧H[h.length]? =some (.cells 3 [av t])∧(∃g,H=h++g)∧ ∃x,fr 5=x∧Ls 1 (h.length+1) H x (iP (aI t).net l i)) 0 (by omega)
  ⟨by simp,by simp,by simp,by simp,by simp,.nil,by simp,by simpa [iP] using Ls.nil⟩ ?_
 rintro i fr H hi ⟨e1,e2,e6,hT,hB,x,e5,hx⟩;have hxf:=hx.rs.fix;have hT3:=at3 hT;simp only [av] at hT3;have hlen:=aV hB;rcases zN i n with hlt | hge
 ·obtain⟨a,ha,ha'⟩:=aN (l:=l) (i:=i) (by omega);have hil:i<l.length:=by omega
  have ew:=aB (i:=i) (by omega);obtain⟨p0,hp0⟩: ∃p0,p0=H.length:=⟨_,rfl⟩;have hph:h.length<p0:=by rw [hp0];exact hT3.2.1
  have hxin:=hx.inside;simp [←hnn,e1,e2,e5,e6,hlt,hil,ha,ha',hxf];refine aW.up mixed n (fun j fr H'=>fr 1= .ro (l.map aj)∧fr 2= .ptr h.length 0 0∧fr 6= .int .i64 i∧fr 5=x∧fr 8= .int .i64 j∧
    H'[h.length]? =some (.cells 3 [av t])∧(∃g,H'=h++g)∧p0≤H'.length∧Ls 1 (h.length+1) H' x (iP (aI t).net l i)∧ ∃y,fr 7=y∧Lz 1 p0 H' y ((wD (gL (aI t).net l) i j).map bB)) 0 (by omega)
   ⟨by simp [e1],by simp [e2],by simp [e6],by simp [e5],by simp,hT,hB,by omega,hx,.nil,by simp,by simpa [wD] using Lz.nil⟩ ?_
  clear e1 e2 e5 e6 hT hT3 hB hx hlen;rintro j fr H' hj ⟨e1,e2,e6,e5,e8,hT,hB,hpl,hx,y,e7,hy⟩;have hlen:=aV hB;have hT3:=at3 hT;simp only [av] at hT3;have hyf:=hy.rs.fix;have hfl:=KV (gL (aI t).net l) i j;rcases zN j n with hjlt | hjge
  ·obtain⟨b,hb,hb'⟩:=aN (l:=l) (i:=j) (by omega);have hjl:j<l.length:=by omega
   have ewj:=aB (i:=j) (by omega);have hsuc:=Ha (gL (aI t).net l) i j;have hfe:tJ (aI t).net a.point b.point a.time b.time=gL (aI t).net l i j:=(Pk ha hb).symm;simp [-ae,-ai,-ah,-AV.solid,←hnn,e1,e2,e5,e6,e7,e8,hlt,hil,ha,ha',hjlt,hjl,hb,hb',hxf,hyf,hT3];refine⟨by decide,?_⟩;refine ay.pure _ (fun _=>vg t a b hp hl hs) ?_;simp [-ae,-ai,-ah,-AV.solid,e1,e2,e5,e6,e7,e8,hxf,hyf,hfe];refine⟨fun c=> ?_,fun c=> ?_⟩
   ·rw [if_pos c] at hsuc;refine GJ (lo:=p0) (n:=1) (es:=(wD (gL (aI t).net l) i j).map bB) (ys:=[bB j]) (by simpa [bB] using hy.more _) (by simp;omega) (by simp [bu,bB]) (by simp;omega) ?_;intro s1 H1 hs1 hg1 hn1;have hs1f:=hs1.rs.fix;have hk1: ∀b o,b<p0→H'[b]? =some o→H1[b]? =some o:=fun b o hb ho=>hg1.keep b o (aJ ho _) fun off len e=>by have:=hy.above _ _ _ e;omega
    have hB1:=hg1.base h (by omega) (aF hB _);have hx1:Ls 1 (h.length+1) H1 x (iP (aI t).net l i):=(hx.more _).grow hg1 fun b eb hbl off len e=>by have:=hxin _ _ _ eb;have:=hy.above _ _ _ e;omega
    have hl1:=hg1.len;simp [-ae,-ai,-ah,-AV.solid,e1,e2,e5,e6,e8,hs1f,hxf,ewj];simp at hl1;exact⟨j+1,by omega,by omega,by omega,hk1 _ _ (by omega) hT,hB1,by omega,hx1,by rw [hsuc];simpa using hs1⟩
   ·rw [if_neg (by simp [c])] at hsuc;simp [-ae,-ai,-ah,-AV.solid,e1,e2,e5,e6,e7,e8,hxf,hyf,ewj,hT3];exact⟨j+1,by omega,by omega,by omega,hB,by omega,hx,by rw [hsuc];exact hy⟩
  ·obtain rfl:n=j:=by omega
   have hfa:wD (gL (aI t).net l) i n=je (gL (aI t).net l) l.length i:=by rw [hnn];rfl
   rw [hfa] at hy hfl;simp [←hnn,e1,e2,e5,e6,e7,e8,hxf,hyf];refine aW.freezeL 7 (by simp [e7]) hy ?_;intro fr1 H1 q7 qf hg1 hl1;have f1:fr1 1= .ro (l.map aj):=by rw [qf 1 (by decide)];simp [e1]
   have f2:fr1 2= .ptr h.length 0 0:=by rw [qf 2 (by decide)];simp [e2]
   have f5:fr1 5=x:=by rw [qf 5 (by decide)];simp [e5]
   have f6:fr1 6= .int .i64 i:=by rw [qf 6 (by decide)];simp [e6]
   have hk1: ∀b o,b<p0→H'[b]? =some o→H1[b]? =some o:=fun b o hb ho=>hg1.keep b o ho fun off len e=>by have:=hy.above _ _ _ e;omega
   have hB1:=hg1.base h (by omega) hB;have hx1:Ls 1 (h.length+1) H1 x (iP (aI t).net l i):=hx.grow hg1 fun b eb hbl off len e=>by have:=hxin _ _ _ eb;have:=hy.above _ _ _ e;omega
   have hT1:=hk1 _ _ (by omega) hT;have hrl:=vX (aI t).net l i;have hsuc:=EW (aI t).net l i;refine aW.of_awp mixed _ _ _ _ ?_;simp [-ae,-ai,-ah,-AV.solid,f1,f2,f5,f6,q7,hxf];refine aG (lo:=h.length+1) (n:=1) (es:=iP (aI t).net l i) (ys:=[[AV.ro ((je (gL (aI t).net l) l.length i).map bB)]]) (by simpa using hx1.more _) (by simp;omega) (by simp [bu]) (by simp;omega) ?_;intro s2 H2 hs2 hg2 hn2;have hs2f:=hs2.rs.fix;have hB2:=hg2.base h (by omega) (aF hB1 _);have hT2:=hg2.keep _ _ (aJ hT1 _) fun off len e=>by have:=hx1.above _ _ _ e;omega
   simp [-ae,-ai,-ah,-AV.solid,f1,f2,f6,hs2f,ew];exact⟨i+1,by omega,by omega,by omega,hT2,hB2,by rw [hsuc];exact hs2⟩
 ·obtain rfl:n=i:=by omega
  simp [←hnn,e1,e2,e5,e6,hxf];exact⟨hB,hx.frz (by omega) (EU _ _ _)⟩
end Go.Proofs.YtkpioblbeiaefaaGreat
end
