/- Part 20 of the lemmas below the statements of this seat: MoveA, ChainA, ChainB, ChainC. -/
import Derived.Test.YtkpioblbeiaefaaGreatPr19
set_option linter.unusedSectionVars false
set_option linter.unusedVariables false
set_option linter.unusedSimpArgs false
set_option linter.unnecessarySimpa false
set_option maxRecDepth 100000
section
namespace Go.Proofs.YtkpioblbeiaefaaGreat
open Go Go.Abs Go.Toll
variable {gl : aM} {h : af}
theorem jk (t:Int):aa Tryz.prog gl 183 [.int .i64 t] h fun x h'=>x= .bool (bK t)∧h'=h:=by
 refine aa.body Tryz.f183 _ mixed Tryz.func183 rfl rfl (by simp [Tryz.ntmps183]) ?_;simp [bK]
theorem oV (t:aY)(s:Bytes):(dF (aH t).net s).isSome=aF (aH t).net.pts s:=by rw [Sz,xN]
theorem JW (t:aY)(a b:ay):aa Tryz.prog gl 93 [.agg (aA (aH t)),.agg (ae a),.agg (ae b)] h fun x h'=>x= .bool (aF (aH t).net.pts a.point && aF (aH t).net.pts b.point)∧h'=h:=by
 refine aa.data (.bool _) (aa.body Tryz.f93 _ mixed Tryz.func93 rfl rfl (by simp [Tryz.ntmps93]) ?_);have hv:=jC t;have ha:=oV t a.point;have hb:=oV t b.point;generalize aH t=v at*;simp;refine ax.pure _ (fun _=>vY v.net a.point (by omega) (by omega)) ?_;rw [ha];generalize (dF v.net a.point).getD KD=P;simp;refine ax.pure _ (fun _=>vY v.net b.point (by omega) (by omega)) ?_;rw [hb];generalize (dF v.net b.point).getD KD=Q;cases aF v.net.pts a.point <;> simp
theorem JX (a b:ay):aa Tryz.prog gl 94 [.agg (ae a),.agg (ae b)] h fun x h'=>x= .bool (gH a.time b.time)∧h'=h:=by
 refine aa.data (.bool _) (aa.body Tryz.f94 _ mixed Tryz.func94 rfl rfl (by simp [Tryz.ntmps94]) ?_);simp;refine ax.pure _ (fun _=>qH a.time) ?_;unfold gH
 cases bK a.time with
 | false=>
  simp;refine ax.pure (.bool true) (fun c=>by cases c) ?_;simp
 | true=>
  simp;refine ax.pure _ (fun _=>qH b.time) ?_;cases bK b.time <;> simp
theorem JV (t:aY)(a b:Bytes):aa Tryz.prog gl 95 [.agg (aA (aH t)),.str a,.str b] h fun x h'=>x= .int .i64 (qx (aH t).net a b)∧h'=h:=by
 refine aa.data (.int _ _) (aa.body Tryz.f95 _ mixed Tryz.func95 rfl rfl (by simp [Tryz.ntmps95]) ?_);have hv:=jC t;have hvn:=xN t;generalize aH t=v at*;unfold qx;by_cases e:a=b
 ·simp [e]
 ·simp [e];have c1:=fun H:af=>CY (gl:=gl) (h:=H) v.net a b (by omega) (by omega);rw [hvn] at c1;unfold uL at c1;rcases hb:iL v.net a b with _ | ⟨p,d⟩
  ·rw [hb] at c1;refine ax.pure _ (fun _=>c1 _) ?_;simp
  ·rw [hb] at c1;refine ax.pure _ (fun _=>c1 _) ?_;simp
end Go.Proofs.YtkpioblbeiaefaaGreat
namespace Go.Proofs.YtkpioblbeiaefaaGreat
open Go Go.Abs Go.Toll
variable {gl : aM} {h : af}
theorem Sy {v:bn} (ok:aV v)(a b:Bytes)(s t:Int):sD v a b s t=(aF v.pts a && aF v.pts b && bK s && bK t && decide (qx v a b≤t - s)):=by
 have h:=Lp ok a b;unfold sD gH;by_cases c:qx v a b≤t - s
 ·have:s<t:=by omega
  simp [this,c,Bool.and_assoc]
 ·simp [c]
set_option maxHeartbeats 4000000 in
theorem xK (t:aY)(a b:ay)(hp:t.net.pts.length≤1000)(hl:t.net.lks.length≤1000)(hs:t.sys.length≤1000):aa Tryz.prog gl 168 [.agg (aA t),.agg (ae a),.agg (ae b)] h fun x h'=>x= .bool (sD (aH t).net a.point b.point a.time b.time)∧h'=h:=by
 refine aa.data (.bool _) (aa.body Tryz.f168 _ mixed Tryz.func168 rfl rfl (by simp [Tryz.ntmps168]) ?_);simp;refine ax.pure _ (fun _=>kw t hp hl hs) ?_;have hv:=jC t;have hvn:=xN t;have ok:=SV t;have ha:=oV t a.point;have hb:=oV t b.point;generalize aH t=v at*;rw [Sy ok];simp;refine ax.pure _ (fun _=>kL v.net a.point (by omega) (by omega)) ?_;rw [ha];generalize (dF v.net a.point).getD KD=P;simp;refine ax.pure _ (fun _=>kL v.net b.point (by omega) (by omega)) ?_;rw [hb];generalize (dF v.net b.point).getD KD=Q
 cases qa:aF v.net.pts a.point with
 | false=>
  simp;refine ax.pure (.bool true) (fun c=>by cases c) ?_;simp;refine ax.pure (.bool true) (fun c=>by cases c) ?_;simp
 | true=>
  cases qb:aF v.net.pts b.point with
  | false=>
   simp;refine ax.pure (.bool true) (fun c=>by cases c) ?_;simp;refine ax.pure (.bool true) (fun c=>by cases c) ?_;simp
  | true=>
   simp;refine ax.pure _ (fun _=>jk a.time) ?_
   cases qs:bK a.time with
   | false=>
    simp;refine ax.pure (.bool true) (fun c=>by cases c) ?_;simp
   | true=>
    simp;refine ax.pure _ (fun _=>jk b.time) ?_
    cases qt:bK b.time with
    | false=>simp
    | true=>
     have r1:=fq qs;have r2:=fq qt;have ewd:IntKind.i64.wrap (b.time - a.time)=b.time - a.time:=aC (by omega) (by omega);unfold qx;by_cases e:a.point=b.point
     ·simp [e,ewd]
     ·simp [e,ewd];have c1:=fun H:af=>BQ (gl:=gl) (h:=H) v.net a.point b.point (by omega) (by omega);rw [hvn] at c1;unfold uL at c1;rcases hbp:iL v.net a.point b.point with _ | ⟨p,d⟩
      ·rw [hbp] at c1;refine ax.pure _ (fun _=>c1 _) ?_;simp [ewd]
      ·rw [hbp] at c1;refine ax.pure _ (fun _=>c1 _) ?_;simp [ewd]
set_option maxHeartbeats 4000000 in
theorem C8 (t:aY)(a b:ay)(hp:t.net.pts.length≤1000)(hl:t.net.lks.length≤1000)(hs:t.sys.length≤1000):aa Tryz.prog gl 56 [.agg (aA t),.agg (ae a),.agg (ae b)] h fun x h'=>x= .bool (sD (aH t).net a.point b.point a.time b.time)∧h'=h:=by
 refine aa.data (.bool _) (aa.body Tryz.f56 _ mixed Tryz.func56 rfl rfl (by simp [Tryz.ntmps56]) ?_);simp;refine ax.pure _ (fun _=>JZ t hp hl hs) ?_;have c1:=fun H:af=>JW (gl:=gl) (h:=H) t a b;have c2:=fun H:af=>JV (gl:=gl) (h:=H) t a.point b.point;have c3:=fun H:af=>JX (gl:=gl) (h:=H) a b;generalize aH t=v at*;unfold sD;simp;refine⟨by decide,?_⟩;refine ax.pure _ (fun _=>c1 _) ?_
 cases qa:(aF v.net.pts a.point && aF v.net.pts b.point) with
 | false=>
  simp;refine ax.pure (.bool true) (fun c=>by cases c) ?_;simp;refine ax.pure (.int .i64 0) (fun c=>by cases c) ?_;simp
 | true=>
  simp;refine ax.pure _ (fun _=>c3 _) ?_
  cases ql:gH a.time b.time with
  | false=>
   simp;refine ax.pure (.int .i64 0) (fun c=>by cases c) ?_;simp
  | true=>
   have hl:=ql;unfold gH at hl;rw [Bool.and_eq_true,Bool.and_eq_true] at hl;have r1:=fq hl.1.1;have r2:=fq hl.1.2;have ewd:IntKind.i64.wrap (b.time - a.time)=b.time - a.time:=aC (by omega) (by omega);simp [ewd];refine ax.pure _ (fun _=>c2 _) ?_;simp [ewd]
end Go.Proofs.YtkpioblbeiaefaaGreat
namespace Go.Proofs.YtkpioblbeiaefaaGreat
open Go Go.Abs Go.Toll
variable {gl : aM} {h : af}
def tK (v:bn)(a b:Bytes)(s t:Int):AV:= .tup [.ro ((cZ v a b s t).1.map gq),.int .i64 (cZ v a b s t).2]
def nH (v:bn)(L:List (List Bytes))(dt:Int)(i:Nat):List (List Bytes):=(L.take i).filter (vo v dt)
theorem J5 {v:bn} {L:List (List Bytes)} {dt:Int} {i:Nat} {q:List Bytes} (h:L[i]? =some q):nH v L dt (i+1)=if vo v dt q=true then nH v L dt i++[q] else nH v L dt i:=by
 rw [nH,zM,h,Option.toList_some,List.filter_append,nH];by_cases c:vo v dt q=true
 ·rw [if_pos c,List.filter_cons_of_pos c];rfl
 ·rw [if_neg c,List.filter_cons_of_neg c];simp
theorem LV (v:bn)(L:List (List Bytes))(dt:Int):nH v L dt L.length=L.filter (vo v dt):=by rw [nH,List.take_length]
theorem LW (v:bn)(L:List (List Bytes))(dt:Int)(i:Nat):(nH v L dt i).length≤i:=Nat.le_trans (List.length_filter_le _ _) (by simp;omega)
theorem J6 {v:bn} {a b:Bytes} {s t:Int} (h:(aF v.pts a && aF v.pts b)=false):cZ v a b s t=([],16):=by rw [cZ,if_pos h]
theorem vZ {v:bn} {a b:Bytes} {s t:Int} (h:(aF v.pts a && aF v.pts b)=true)(h2:gH s t=false):cZ v a b s t=([],12):=by rw [cZ,if_neg (by rw [h];simp),if_pos h2]
theorem O5 {v:bn} {a b:Bytes} {s t:Int} (h:(aF v.pts a && aF v.pts b)=true)(h2:gH s t=true)(h3:(fD v a b).2≠0):cZ v a b s t=([],(fD v a b).2):=by
 rw [cZ,if_neg (by rw [h];simp),if_neg (by rw [h2];simp),if_pos h3]
theorem Ri {v:bn} {a b:Bytes} {s t:Int} (h:(aF v.pts a && aF v.pts b)=true)(h2:gH s t=true)(h3:(fD v a b).2=0):cZ v a b s t=if (fD v a b).1.filter (vo v (t - s))=[] then ([],21) else ((fD v a b).1.filter (vo v (t - s)),0):=by
 rw [cZ,if_neg (by rw [h];simp),if_neg (by rw [h2];simp),if_neg (by rw [h3];simp)];rfl
theorem fI {n:Nat} {e:Int}:pW n h (.tup [.nil,.int .i64 e]) (.tup [.ro [],.int .i64 e]):= .tup' (.cons .nil (.cons (.data _ (by simp)) .nil))
set_option maxHeartbeats 8000000 in
theorem DK (t:aY)(a b:ay)(hp:t.net.pts.length≤1000)(hl:t.net.lks.length≤1000)(hs:t.sys.length≤1000):aa Tryz.prog gl 169 [.agg (aA t),.agg (ae a),.agg (ae b)] h fun x h'=>x=tK (aH t).net a.point b.point a.time b.time∧h'=h:=by
 refine aa.fresh' (aa.body Tryz.f169 _ mixed Tryz.func169 rfl rfl (by simp [Tryz.ntmps169]) ?_);simp;refine ax.pure _ (fun _=>kw t hp hl hs) ?_;have hv:=jC t;have hvn:=xN t;have ok:=SV t;have ha:=oV t a.point;have hb:=oV t b.point;generalize aH t=v at*;simp;refine ax.pure _ (fun _=>kL v.net a.point (by omega) (by omega)) ?_;rw [ha];generalize (dF v.net a.point).getD KD=P;simp;refine ax.pure _ (fun _=>kL v.net b.point (by omega) (by omega)) ?_;rw [hb];generalize (dF v.net b.point).getD KD=Q
 cases qa:aF v.net.pts a.point with
 | false=>
  simp;rw [tK,J6 (by rw [qa];rfl)];exact fI
 | true=>
  cases qb:aF v.net.pts b.point with
  | false=>
   simp;rw [tK,J6 (by rw [qa,qb];rfl)];exact fI
  | true=>
   have hab:(aF v.net.pts a.point && aF v.net.pts b.point)=true:=by rw [qa,qb];rfl
   simp;refine ax.pure _ (fun _=>jk a.time) ?_
   cases qs:bK a.time with
   | false=>
    simp;refine ax.pure (.bool true) (fun c=>by cases c) ?_;simp;rw [tK,vZ hab (by unfold gH;rw [qs];rfl)];exact fI
   | true=>
    simp;refine ax.pure _ (fun _=>jk b.time) ?_
    cases qt:bK b.time with
    | false=>
     simp;rw [tK,vZ hab (by unfold gH;rw [qs,qt];rfl)];exact fI
    | true=>
     by_cases hlt:a.time<b.time
     ·have hla:gH a.time b.time=true:=by unfold gH;rw [qs,qt,decide_eq_true hlt];rfl
      have hnle: ¬b.time≤a.time:=by omega
      have r1:=fq qs;have r2:=fq qt;have ewd:IntKind.i64.wrap (b.time - a.time)=b.time - a.time:=aC (by omega) (by omega);simp [hnle];have c1:=fun H:af=>Ja (gl:=gl) (h:=H) v.net a.point b.point (by omega) (by omega);have hsp:=(zw ok a.point b.point).1;have herr:=O5 (s:=a.time) (t:=b.time) hab hla;have hof:=Ri (s:=a.time) (t:=b.time) hab hla;have hat: ∀(i:Nat) q,(fD v.net a.point b.point).1[i]? =some q→ ∃l s,Gf v.net a.point b.point q l s:=fun i q=>Nk ok;rw [hvn] at c1;unfold Ho at c1;rw [tK];generalize cZ v.net a.point b.point a.time b.time=R at*;generalize fD v.net a.point b.point=PE at*;obtain⟨L,E⟩:=PE;simp only at hsp herr hof hat c1;refine ax.pure _ (fun _=>c1 _) ?_;by_cases hE:E=0
      ·subst hE;have hR:=hof rfl;simp;refine aT.up mixed L.length (fun i fr H=>(fr 4= .ptr (h.length+1) 0 0∧fr 5= .ptr (h.length+2) 0 0∧fr 8= .ptr (h.length+3) 0 0)∧fr 75= .ro (L.map gq)∧fr 76= .int .i64 L.length∧fr 77= .int .i64 i∧
         H[h.length+1]? =some (.cells 8 [ae a])∧H[h.length+2]? =some (.cells 8 [ae b])∧H[h.length+3]? =some (.cells 2 [bU v.net])∧(∃g,H=h++g)∧ ∃x,fr 15=x∧Ls 1 (h.length+4) H x ((nH v.net L (b.time - a.time) i).map gq)) 0 (by omega)
        ⟨by simp,by simp,by simp,by simp,by simp,by simp,by simp,by simp,.nil,by simp,by simpa [nH] using Ls.nil⟩ ?_
       rintro i fr H hi ⟨⟨e4,e5,e8⟩,e75,e76,e77,hA,hB2,hN,hB,x,e15,hx⟩;have hxf:=hx.rs.fix;have hil:=LW v.net L (b.time - a.time) i;have hAa:H[h.length+1]? =some (.cells 8 [ae a])∧h.length+1<H.length∧ ∀hl:h.length+1<H.length,H[h.length+1]= .cells 8 [ae a]:=⟨hA,(zA.1 hA).1,fun _=>(zA.1 hA).2⟩;have hBa:H[h.length+2]? =some (.cells 8 [ae b])∧h.length+2<H.length∧ ∀hl:h.length+2<H.length,H[h.length+2]= .cells 8 [ae b]:=⟨hB2,(zA.1 hB2).1,fun _=>(zA.1 hB2).2⟩;have hNa:H[h.length+3]? =some (.cells 2 [bU v.net])∧h.length+3<H.length∧ ∀hl:h.length+3<H.length,H[h.length+3]= .cells 2 [bU v.net]:=⟨hN,(zA.1 hN).1,fun _=>(zA.1 hN).2⟩;simp only [dz,bU] at hAa hBa hNa;rcases zN i L.length with hlti | hge
       ·obtain⟨q,hq,hq'⟩:=aJ hlti;have ew:=aB (i:=i) (by omega);obtain⟨l,w,hpt⟩:=hat i q hq;have hql:=hpt.len;have hsuc:=J5 (v:=v.net) (dt:=b.time - a.time) hq;have htk:vo v.net (b.time - a.time) q=decide (w.1≤b.time - a.time∧b.time - a.time≤w.2):=by unfold vo;rw [hpt.bnd];simp
        have c2:=fun H:af=>qj (gl:=gl) (h:=H) v.net q (by omega) (by omega) (by omega);rw [hvn,hpt.bnd] at c2;simp [-aj,-au,-ah,-AV.solid,e4,e5,e8,e75,e76,e77,hlti,hq,hq',gq,hNa];refine ax.pure _ (fun _=>c2 _) ?_;by_cases d1:w.1≤b.time - a.time
        ·by_cases d2:b.time - a.time≤w.2
         ·rw [htk,if_pos (decide_eq_true ⟨d1,d2⟩)] at hsuc;simp [-aj,-au,-ah,-AV.solid,e4,e5,e8,e75,e76,e77,e15,hlti,hq,hq',gq,hNa,hAa,hBa,ewd,d1,d2,hxf];refine aN (lo:=h.length+4) (n:=1) (es:=(nH v.net L (b.time - a.time) i).map gq) (ys:=[gq q]) (by simpa [gq] using hx.more _) (by simp;omega) (by simp [bE,gq]) (by simp;omega) ?_;intro s1 H1 hs1 hg1 hn1;have hs1f:=hs1.rs.fix;have hB1:=hg1.base h (by omega) (aI hB _);have hk1: ∀b o,b<h.length+4→H[b]? =some o→H1[b]? =some o:=fun b o hb ho=>hg1.keep b o (by rw [zC (aK ho)];exact ho) fun off len e=>by have:=hx.above _ _ _ e;omega
          simp [-aj,-au,-ah,-AV.solid,e4,e5,e8,e75,e76,e77,hs1f,ew];exact⟨i+1,by omega,by omega,by omega,hk1 _ _ (by omega) hA,hk1 _ _ (by omega) hB2,hk1 _ _ (by omega) hN,hB1,by rw [hsuc];simpa using hs1⟩
         ·rw [htk,if_neg (by simp [d2])] at hsuc;simp [-aj,-au,-ah,-AV.solid,e4,e5,e8,e75,e76,e77,e15,hlti,hq,hq',gq,hNa,hAa,hBa,ewd,d1,d2,hxf,ew];exact⟨i+1,by omega,by omega,by omega,hB,by rw [hsuc];exact hx⟩
        ·rw [htk,if_neg (by simp [d1])] at hsuc;simp [-aj,-au,-ah,-AV.solid,e4,e5,e8,e75,e76,e77,e15,hlti,hq,hq',gq,hNa,hAa,hBa,ewd,d1,hxf,ew];exact⟨i+1,by omega,by omega,by omega,hB,by rw [hsuc];exact hx⟩
       ·obtain rfl:i=L.length:=by omega
        rw [LV] at hx hil;have hxl:=hx.rs.len2;rw [List.length_map] at hxl;generalize L.filter (vo v.net (b.time - a.time))=O at*;by_cases hO:O=[]
        ·subst hO;rw [if_pos rfl] at hR;simp [-aj,-au,-ah,-AV.solid,e4,e5,e8,e75,e76,e77,e15,hxf,hxl];rw [hR];exact⟨hB,fI⟩
        ·rw [if_neg hO] at hR;have hOl: ¬(O.length:Int)=0:=by have:=List.length_pos_iff.2 hO;omega
         simp [-aj,-au,-ah,-AV.solid,e4,e5,e8,e75,e76,e77,e15,hxf,hxl,hO,hOl];rw [hR];exact⟨hB,.tup' (.cons (hx.frz (by omega) (CO _)) (.cons (.data _ (by simp)) .nil))⟩
      ·rw [herr hE];simp [hE];exact fI
     ·have hle:b.time≤a.time:=by omega
      simp [hle];rw [tK,vZ hab (by unfold gH;rw [decide_eq_false hlt];simp)];exact fI
end Go.Proofs.YtkpioblbeiaefaaGreat
end
section
namespace Go.Proofs.YtkpioblbeiaefaaGreat
open Go Go.Abs Go.Toll
variable {gl : aM} {h : af}
set_option maxHeartbeats 1000000 in
theorem Da (t:aY)(l:List ay)(x:AV)(hx:Rs 8 h x (l.map ae))(hn:l.length≤1000000)(hp:t.net.pts.length≤1000)(hl:t.net.lks.length≤1000)(hs:t.sys.length≤1000):aa Tryz.prog gl 29 [.agg (aA t),x] h fun v h'=>v= .bool (qY (aH t).net l)∧h'=h:=by
 refine aa.data (.bool _) (aa.body Tryz.f29 _ mixed Tryz.func29 rfl rfl (by simp [Tryz.ntmps29]) ?_);have fx:=hx.fix;have hxm: ∀g,Rs 8 (h++g) x (l.map ae):=hx.append;simp [fx];refine aT.up mixed (l.length+1) (fun i fr H=>fr 1=x∧fr 2= .ptr h.length 0 0∧fr 5= .int .i64 (i+1:Nat)∧qY (aH t).net l=qY (aH t).net (l.drop i)∧H=h++[.cells 3 [aA t]]) 0 (by omega) ⟨by simp,by simp,by simp,by simp,by simp⟩ ?_;rintro i fr H hi ⟨e1,e2,e5,hf,rfl⟩;have hy:=hxm [.cells 3 [aA t]];simp only [aA] at hy;rcases zN (i+1) l.length with hlt | hge
 ·obtain⟨a,ha,ha'⟩:=aJ (l:=l) (i:=i) (by omega);obtain⟨b,hb,hb'⟩:=aJ hlt;rw [N7 ha hb] at hf;have hlt':((i+1:Nat):Int)<l.length:=by omega
  have ew:IntKind.i64.wrap (((i+1:Nat):Int)+1)=((i+1+1:Nat):Int):=by rw [aC (by omega) (by omega)];omega
  have ew2:IntKind.i64.wrap (((i+1:Nat):Int) - 1)=(i:Int):=by rw [aC (by omega) (by omega)];omega
  have r1:=Rs.ix Tryz.prog hy i (by omega) (y:=ae a) (by simp [ha]);have r2:=Rs.ix Tryz.prog hy (i+1:Nat) (by omega) (y:=ae b) (by simp [hb]);simp [-Int.natCast_add,e1,e2,e5,hlt',hlt,fx,hy.len2,ew,ew2,r1,r2];refine⟨by decide,?_⟩;refine ax.pure _ (fun _=>C8 t a b hp hl hs) ?_;simp [-Int.natCast_add,e1,e2,e5,ew,fx];have hfe:sD (aH t).net a.point b.point a.time b.time=fe (aH t).net a b:=rfl;rw [hfe];refine⟨fun q=> ?_,fun q=>⟨i+1,by omega,by omega,by omega,?_⟩⟩
  ·rw [hf,q];rfl
  ·rw [hf,q];rfl
 ·have hlt': ¬((i+1:Nat):Int)<l.length:=by omega
  rw [P8 (by omega)] at hf;simp [-Int.natCast_add,e1,e2,e5,hlt',Nat.not_lt.2 hge,fx,hy.len2,hf]
def lM (v:bn)(l:List ay)(i:Nat):List (List AV):=(List.range i).map fun i=>[AV.ro ((kK (gL v l) l.length i).map bQ)]
theorem L6 (v:bn)(l:List ay)(i:Nat):lM v l (i+1)=lM v l i++[[AV.ro ((kK (gL v l) l.length i).map bQ)]]:=by rw [lM,List.range_succ,List.map_append,lM];rfl
theorem FN (v:bn)(l:List ay)(i:Nat):(lM v l i).length=i:=by simp [lM]
theorem O9 {v:bn} {l:List ay} {n i:Nat} (h:i<n):(lM v l n)[i]? =some [AV.ro ((kK (gL v l) l.length i).map bQ)]:=by simp [lM,h]
theorem LZ (v:bn)(l:List ay)(i:Nat): ∀e∈lM v l i,∀y∈e,y.Data:=by
 intro e he y hy;obtain⟨k,_,rfl⟩:=List.mem_map.1 he;simp at hy;subst hy;exact .ro _ fun e he y hy=>by
  obtain⟨m,_,rfl⟩:=List.mem_map.1 he;simp [bQ] at hy;subst hy;simp
theorem Fw (l:List Nat): ∀e∈l.map bQ,∀y∈e,y.Data:=by
 intro e he y hy;obtain⟨m,_,rfl⟩:=List.mem_map.1 he;simp [bQ] at hy;subst hy;simp
set_option maxHeartbeats 4000000 in
theorem Ee (t:aY)(l:List ay)(hn:l.length≤1000000)(hp:t.net.pts.length≤1000)(hl:t.net.lks.length≤1000)(hs:t.sys.length≤1000):aa Tryz.prog gl 139 [.agg (aA t),.ro (l.map ae)] h fun v h'=>v= .ro (lM (aH t).net l l.length)∧h'=h:=by
 refine aa.fresh' (aa.body Tryz.f139 _ mixed Tryz.func139 rfl rfl (by simp [Tryz.ntmps139]) ?_);obtain⟨n,hnn⟩: ∃n,n=l.length:=⟨_,rfl⟩;simp [←hnn];refine aT.upF 12 mixed n (fun i fr H=>fr 1= .ro (l.map ae)∧fr 2= .ptr h.length 0 0∧fr 11= .ro (l.map ae)∧fr 12= .int .i64 n∧fr 13= .int .i64 i∧H[h.length]? =some (.cells 3 [aA t])∧(∃g,H=h++g)∧ ∃x,fr 5=x∧Ls 1 (h.length+1) H x (lM (aH t).net l i)) 0 (by omega)
  ⟨by simp,by simp,by simp,by simp,by simp,by simp,by simp,.nil,by simp,by simpa [lM] using Ls.nil⟩ ?_
 rintro i fr H hi ⟨e1,e2,e11,e12,e13,hT,hB,x,e5,hx⟩;have hxf:=hx.rs.fix;have hT3:=at3 hT;simp only [aA] at hT3;have hlen:=bJ hB;rcases zN i n with hlt | hge
 ·obtain⟨a,ha,ha'⟩:=aJ (l:=l) (i:=i) (by omega);have hil:i<l.length:=by omega
  have ew:=aB (i:=i) (by omega);obtain⟨p0,hp0⟩: ∃p0,p0=H.length:=⟨_,rfl⟩;have hxin:=hx.inside;have hph:h.length<p0:=by rw [hp0];exact hT3.2.1
  simp [←hnn,e1,e2,e5,e11,e12,e13,hlt,hil,ha,ha',hxf];refine aT.up mixed n (fun j fr H'=>fr 1= .ro (l.map ae)∧fr 2= .ptr h.length 0 0∧fr 11= .ro (l.map ae)∧fr 12= .int .i64 n∧fr 13= .int .i64 i∧fr 5=x∧fr 7= .ptr p0 0 0∧fr 18= .ro (l.map ae)∧fr 19= .int .i64 n∧fr 20= .int .i64 j∧
    H'[h.length]? =some (.cells 3 [aA t])∧H'[p0]? =some (.cells 8 [ae a])∧(∃g,H'=h++g)∧p0+1≤H'.length∧Ls 1 (h.length+1) H' x (lM (aH t).net l i)∧ ∃y,fr 8=y∧Lz 1 (p0+1) H' y ((Aa (gL (aH t).net l) i j).map bQ)) 0 (by omega)
   ⟨by simp [e1],by simp [e2],by simp [e11],by simp [e12],by simp [e13],by simp [e5],by simp [hp0],by simp,by simp,by simp,aP hT _,by simp [hp0],aI hB _,by simp [hp0],hx.more _,.own (p0+1) 0 0,by simp [hp0],.inl (Ls.own (by simp [hp0,Aa]) (by omega) (by simp [Aa]) (by simp [Aa]))⟩ ?_
  clear e1 e2 e5 e11 e12 e13 hT hT3 hB hx hlen;rintro j fr H' hj ⟨e1,e2,e11,e12,e13,e5,e7,e18,e19,e20,hT,hA,hB,hpl,hx,y,e8,hy⟩;have hlen:=bJ hB;have hT3:=at3 hT;have hA3:=at3 hA;simp only [aA,dz] at hT3 hA3;have hyf:=hy.rs.fix;have hfl:=Qj (gL (aH t).net l) i j;rcases zN j n with hjlt | hjge
  ·obtain⟨b,hb,hb'⟩:=aJ (l:=l) (i:=j) (by omega);have hjl:j<l.length:=by omega
   have ewj:=aB (i:=j) (by omega);have hsuc:=Oe (gL (aH t).net l) i j;have hfe:sD (aH t).net a.point b.point a.time b.time=gL (aH t).net l i j:=(TN ha hb).symm;have hne:h.length≠H'.length:=by omega
   have hne2:p0≠H'.length:=by omega
   simp [-aj,-au,-ah,-AV.solid,←hnn,e1,e2,e5,e7,e11,e12,e13,e18,e19,e20,e8,hjlt,hjl,hb,hb',hxf,hyf,hT3,hA3];refine ax.pure _ (fun _=>xK t a b hp hl hs) ?_;simp [-aj,-au,-ah,-AV.solid,e1,e2,e5,e7,e11,e12,e13,e18,e19,e20,e8,hxf,hyf,hfe];refine⟨fun c=> ?_,fun c=> ?_⟩
   ·rw [if_pos c] at hsuc;refine NI (lo:=p0+1) (n:=1) (es:=(Aa (gL (aH t).net l) i j).map bQ) (ys:=[bQ j]) (by simpa [bQ] using hy.more _) (by simp;omega) (by simp [bE,bQ]) (by simp;omega) ?_;intro s1 H1 hs1 hg1 hn1;have hs1f:=hs1.rs.fix;have hk1: ∀b o,b<p0+1→H'[b]? =some o→H1[b]? =some o:=fun b o hb ho=>hg1.keep b o (aP ho _) fun off len e=>by have:=hy.above _ _ _ e;omega
    have hB1:=hg1.base h (by omega) (aI hB _);have hx1:Ls 1 (h.length+1) H1 x (lM (aH t).net l i):=(hx.more _).grow hg1 fun b eb hbl off len e=>by have:=hxin _ _ _ eb;have:=hy.above _ _ _ e;omega
    have hl1:=hg1.len;simp [-aj,-au,-ah,-AV.solid,e1,e2,e5,e7,e11,e12,e13,e18,e19,e20,hs1f,hxf,ewj];simp at hl1;exact⟨j+1,by omega,by omega,by omega,hk1 _ _ (by omega) hT,hk1 _ _ (by omega) hA,hB1,by omega,hx1,by rw [hsuc];simpa using hs1⟩
   ·rw [if_neg (by simp [c])] at hsuc;simp [-aj,-au,-ah,-AV.solid,e1,e2,e5,e7,e11,e12,e13,e18,e19,e20,e8,hxf,hyf,ewj,hT3,hA3];exact⟨j+1,by omega,by omega,by omega,aI hB _,by omega,hx.more _,by rw [hsuc];exact hy.more _⟩
  ·obtain rfl:n=j:=by omega
   have hfa:Aa (gL (aH t).net l) i n=kK (gL (aH t).net l) l.length i:=by rw [hnn];rfl
   rw [hfa] at hy hfl;simp [e1,e2,e5,e7,e11,e12,e13,e18,e19,e20,e8,hxf,hyf];refine aT.freezeL 8 (by simp [e8]) hy ?_;intro fr1 H1 q8 qf hg1 hl1;have f1:fr1 1= .ro (l.map ae):=by rw [qf 1 (by decide)];simp [e1]
   have f2:fr1 2= .ptr h.length 0 0:=by rw [qf 2 (by decide)];simp [e2]
   have f5:fr1 5=x:=by rw [qf 5 (by decide)];simp [e5]
   have f11:fr1 11= .ro (l.map ae):=by rw [qf 11 (by decide)];simp [e11]
   have f12:fr1 12= .int .i64 n:=by rw [qf 12 (by decide)];simp [e12]
   have f13:fr1 13= .int .i64 i:=by rw [qf 13 (by decide)];simp [e13]
   have hk1: ∀b o,b<p0+1→H'[b]? =some o→H1[b]? =some o:=fun b o hb ho=>hg1.keep b o ho fun off len e=>by have:=hy.above _ _ _ e;omega
   have hB1:=hg1.base h (by omega) hB;have hx1:Ls 1 (h.length+1) H1 x (lM (aH t).net l i):=hx.grow hg1 fun b eb hbl off len e=>by have:=hxin _ _ _ eb;have:=hy.above _ _ _ e;omega
   have hT1:=hk1 _ _ (by omega) hT;have hrl:=FN (aH t).net l i;have hsuc:=L6 (aH t).net l i;refine aT.of_awp mixed _ _ _ _ ?_;simp [-aj,-au,-ah,-AV.solid,f1,f2,f5,f11,f12,f13,q8,hxf];refine aN (lo:=h.length+1) (n:=1) (es:=lM (aH t).net l i) (ys:=[[AV.ro ((kK (gL (aH t).net l) l.length i).map bQ)]]) (by simpa using hx1.more _) (by simp;omega) (by simp [bE]) (by simp;omega) ?_;intro s2 H2 hs2 hg2 hn2;have hs2f:=hs2.rs.fix;have hB2:=hg2.base h (by omega) (aI hB1 _);have hT2:=hg2.keep _ _ (aP hT1 _) fun off len e=>by have:=hx1.above _ _ _ e;omega
   simp [-aj,-au,-ah,-AV.solid,f1,f2,f11,f12,f13,hs2f,ew];exact⟨i+1,by omega,by omega,by omega,hT2,hB2,by rw [hsuc];exact hs2⟩
 ·obtain rfl:n=i:=by omega
  simp [e1,e2,e5,e11,e12,e13,hxf];exact⟨hB,hx.frz (by omega) (LZ _ _ _)⟩
end Go.Proofs.YtkpioblbeiaefaaGreat
end
section
namespace Go.Proofs.YtkpioblbeiaefaaGreat
open Go Go.Abs Go.Toll
variable {gl : aM} {h : af}
def pY (G:Nat→Nat→Bool)(n i m:Nat):List Nat:=(List.range n).map fun j=>if j=i then m else if i<j then lV G n j else 0
section
variable {G : Nat → Nat → Bool} {n i m m' : Nat}
theorem rM:(pY G n i m).length=n:=by simp [pY]
theorem rJ {j:Nat} (h:j<n):(pY G n i m)[j]? =some (if j=i then m else if i<j then lV G n j else 0):=by simp [pY,h]
theorem IL (h:i<n):(pY G n i m).set i m'=pY G n i m':=by
 refine List.ext_getElem? fun j=> ?_;by_cases hj:j=i
 ·subst hj;rw [zI (by rw [rM];exact h),rJ h,if_pos rfl]
 ·rw [zJ (Ne.symm hj)];rcases zN j n with hl | hl
  ·rw [rJ hl,rJ hl,if_neg hj,if_neg hj]
  ·rw [List.getElem?_eq_none (by rw [rM];exact hl),List.getElem?_eq_none (by rw [rM];exact hl)]
def uH (G:Nat→Nat→Bool)(n c:Nat):List Nat:=(List.range n).map fun j=>if c≤j then lV G n j else 0
theorem Bd:(uH G n i).length=n:=by simp [uH]
theorem NK:uH G n n=List.replicate n 0:=by
 refine List.ext_getElem? fun j=> ?_;rcases zN j n with hl | hl
 ·simp [uH,hl,List.getElem?_replicate];intro h;omega
 ·rw [List.getElem?_eq_none (by rw [Bd];exact hl),List.getElem?_eq_none (by simpa using hl)]
theorem NJ:uH G n (i+1)=pY G n i 0:=by
 refine List.map_congr_left fun j hj=> ?_;by_cases h:j=i
 ·subst h;rw [if_neg (by omega),if_pos rfl]
 ·rw [if_neg h];by_cases h2:i<j
  ·rw [if_pos (by omega),if_pos h2]
  ·rw [if_neg (by omega),if_neg h2]
theorem KM:pY G n i (lV G n i)=uH G n i:=by
 refine List.map_congr_left fun j hj=> ?_;by_cases h:j=i
 ·subst h;rw [if_pos rfl,if_pos (by omega)]
 ·rw [if_neg h];by_cases h2:i<j
  ·rw [if_pos h2,if_pos (by omega)]
  ·rw [if_neg h2,if_neg (by omega)]
theorem PU {j:Nat} (h:j<n):(uH G n 0)[j]? =some (lV G n j):=by simp [uH,h]
theorem K8 {l:List Nat} {q j:Nat} (h:l[q]? =some j):jb i (lV G n) (l.take (q+1)) m=if i<j then max (jb i (lV G n) (l.take q) m) (lV G n j+1) else jb i (lV G n) (l.take q) m:=by
 rw [zM,h];unfold jb;rw [List.foldl_append];rfl
theorem wX {l:List Nat} (hl: ∀j∈l,j<n)(hm:m≤n+1):jb i (lV G n) l m≤n+1:=by
 rcases BN (i:=i) (S:=lV G n) (l:=l) (m:=m) with e | ⟨j,h1,h2,e⟩
 ·omega
 ·have:=Ay (G:=G) (hl j h1);omega
end
theorem PR (G:Nat→Nat→Bool)(k i:Nat):PQ G (some k) i=G k i:=by simp [PQ]
set_option maxHeartbeats 8000000 in
theorem Ef (t:aY)(l:List ay)(hn:l.length≤1000000)(hp:t.net.pts.length≤1000)(hl:t.net.lks.length≤1000)(hs:t.sys.length≤1000):aa Tryz.prog gl 106 [.agg (aA t),.ro (l.map ae)] h fun v h'=>v= .ro ((sQ (gL (aH t).net l) l.length).map bQ)∧h'=h:=by
 refine aa.fresh' (aa.bodyF 9999 Tryz.f106 _ mixed Tryz.func106 rfl rfl (by simp [Tryz.ntmps106]) ?_);simp;refine ax.pure _ (fun _=>Ee t l hn hp hl hs) ?_;obtain⟨n,hnn⟩: ∃n,n=l.length:=⟨_,rfl⟩;obtain⟨G,hG⟩: ∃G,G=gL (aH t).net l:=⟨_,rfl⟩;obtain⟨R,hR⟩: ∃R,R=lM (aH t).net l l.length:=⟨_,rfl⟩;have hRl:R.length=n:=by rw [hR,hnn];exact FN _ _ _
 have hRg: ∀i,i<n→R[i]? =some [AV.ro ((kK G n i).map bQ)]:=fun i hi=>by rw [hR,hG,hnn];exact O9 (by omega)
 rw [←hR,←hG,←hnn];clear hR hG;simp [←hnn];refine⟨by omega,?_⟩;obtain⟨p,hp0⟩: ∃p,p=h.length+1:=⟨_,rfl⟩;have ew0:IntKind.i64.wrap ((n:Int) - 1)=(n:Int) - 1:=aC (by omega) (by omega);rw [ew0,←hp0];refine aT.up mixed n (fun k fr H=>fr 1= .ro (l.map ae)∧fr 5= .ro R∧fr 6= .own p 0 n∧fr 8= .int .i64 ((n:Int) - 1 - k)∧fr 7= .int .i64 (qB G n (n - k):Nat)∧H[p]? =some (.cells 1 ((uH G n (n - k)).map bQ))∧(∃g,H=h++g)∧p<H.length) 0 (by omega)
  ⟨by simp,by simp,by simp,by simp,by simp [Cr],?_,by simp,by simp [hp0]⟩ ?_
 ·rw [Nat.sub_zero,NK,List.map_replicate];simp [hp0,bQ]
 rintro k fr H hk ⟨e1,e5,e6,e8,e7,hA,hB,hpl⟩;have hA3:=at3 hA;have hlen:=bJ hB;rcases zN k n with hlt | hge
 ·obtain⟨i,hi⟩: ∃i,n - k=i+1:=⟨n - k - 1,by omega⟩;have hin:i<n:=by omega
  have ei:(n:Int) - 1 - k=(i:Int):=by omega
  rw [hi,NJ] at hA hA3;rw [hi] at e7;rw [ei] at e8;have hrow:=hRg i hin;have hrow':=(zA.1 hrow).2;have hi0:(0:Int)≤i:=by omega
  have hal:(pY G n i 0).length=n:=rM;have hset:((pY G n i 0).map bQ).set i [.int .i64 1]=(pY G n i 1).map bQ:=by rw [←IL hin (m:=0) (m':=1),List.map_set];rfl
  have hinR:i<R.length:=by omega
  simp [e1,e5,e6,e7,e8,hA3,hrow,hrow',hin,hi0,hal,hRl,hset];have hA1:(H.set p (.cells 1 ((pY G n i 1).map bQ)))[p]? =some (.cells 1 ((pY G n i 1).map bQ)):=zI hpl;refine aT.up mixed (kK G n i).length (fun q fr H'=>fr 1= .ro (l.map ae)∧fr 5= .ro R∧fr 6= .own p 0 n∧fr 8= .int .i64 i∧fr 7= .int .i64 (qB G n (i+1):Nat)∧fr 35= .ro ((kK G n i).map bQ)∧fr 36= .int .i64 (kK G n i).length∧fr 37= .int .i64 q∧
    H'[p]? =some (.cells 1 ((pY G n i (jb i (lV G n) ((kK G n i).take q) 1)).map bQ))∧(∃g,H'=h++g)∧p<H'.length) 0 (by omega)
   ⟨by simp [e1],by simp [e5],by simp [e6],by simp [e8],by simp [e7],by simp,by simp,by simp,by simpa [jb] using hA1,dA hB (by omega) _,by simpa using hpl⟩ ?_
  clear hA hA3 hA1 e1 e5 e6 e7 e8 hB hpl;rintro q fr H' hq ⟨e1,e5,e6,e8,e7,e35,e36,e37,hA,hB,hpl⟩;have hA3:=at3 hA;have hmem: ∀j∈(kK G n i).take q,j<n:=fun j hj=>(nE.1 (List.mem_of_mem_take hj)).1;have hfb:=wX (G:=G) (n:=n) (i:=i) hmem (m:=1) (by omega);obtain⟨m,hm⟩: ∃m,m=jb i (lV G n) ((kK G n i).take q) 1:=⟨_,rfl⟩;have hal:(pY G n i m).length=n:=rM;rcases zN q (kK G n i).length with hqlt | hqge
  ·obtain⟨j,hj,hj'⟩:=aJ hqlt;have hjn:=(nE.1 (zF hj)).1;have ewq:=aB (i:=q) (by have:=I5 (G:=G) (n:=n) i;omega);have hsuc:=K8 (G:=G) (n:=n) (i:=i) (m:=1) hj;rw [←hm] at hA hA3 hfb hsuc;have hgi:(pY G n i m)[i]? =some m:=by rw [rJ hin,if_pos rfl]
   have hgi':=(zA.1 hgi).2;by_cases hij:i<j
   ·have hij':(i:Int)<j:=by omega
    have hgj:(pY G n i m)[j]? =some (lV G n j):=by rw [rJ hjn,if_neg (by omega),if_pos hij]
    have hgj':=(zA.1 hgj).2;have hlj:=Ay (G:=G) hjn;have ewl:IntKind.i64.wrap ((lV G n j:Int)+1)=((lV G n j+1:Nat):Int):=by rw [aC (by omega) (by omega)];omega
    have emax:max (m:Int) ((lV G n j+1:Nat):Int)=((max m (lV G n j+1):Nat):Int):=by omega
    have hset:((pY G n i m).map bQ).set i [.int .i64 ((max m (lV G n j+1):Nat):Int)]=(pY G n i (max m (lV G n j+1))).map bQ:=by rw [←IL hin (m:=m) (m':=max m (lV G n j+1)),List.map_set];rfl
    rw [if_pos hij] at hsuc;simp [-Int.natCast_add,e1,e5,e6,e7,e8,e35,e36,e37,hqlt,hj,hj',bQ,hij,hij',hA3,hal,hin,hjn,hgi,hgi',hgj,hgj',ewl,ewq];refine⟨by decide,?_⟩;rw [emax,hset];exact⟨q+1,by omega,by omega,by omega,by rw [hsuc],dA hB (by omega) _⟩
   ·have hij': ¬(i:Int)<j:=by omega
    rw [if_neg hij] at hsuc;simp [-Int.natCast_add,e1,e5,e6,e7,e8,e35,e36,e37,hqlt,hj,hj',bQ,hij,hij',ewq];exact⟨q+1,by omega,by omega,by omega,by rw [hsuc];exact hA,hB,hpl⟩
  ·obtain rfl:q=(kK G n i).length:=by omega
   rw [List.take_length] at hm;rw [←Cg hin] at hm;rw [List.take_length,←Cg hin,KM] at hA;have hA3:=at3 hA;have hgi:(uH G n i)[i]? =some (lV G n i):=by simp [uH,hin]
   have hgi':=(zA.1 hgi).2;have hcl:(uH G n i).length=n:=Bd;have hli:=Ay (G:=G) hin;have emax:max (qB G n (i+1):Int) (lV G n i:Int)=((qB G n i:Nat):Int):=by rw [uj hin];omega
   have ewi:IntKind.i64.wrap ((i:Int) - 1)=(i:Int) - 1:=aC (by omega) (by omega);simp [e1,e5,e6,e7,e8,e35,e36,e37,hA3,hcl,hin,hgi,hgi',bQ,emax,ewi];exact⟨k+1,by omega,by omega,by omega,by rw [show n - (k+1)=i by omega],by rw [show n - (k+1)=i by omega],hB⟩
 ·obtain rfl:n=k:=by omega
  rw [Nat.sub_self] at hA e7;have hcl:(uH G n 0).length=n:=Bd;have e8:fr 8= .int .i64 (-1):=by rw [e8];congr 1;omega
  simp [e1,e5,e6,e7,e8,←hnn];refine aT.up mixed n (fun k fr H=>fr 5= .ro R∧fr 6= .own p 0 n∧fr 65= .int .i64 n∧fr 66= .int .i64 k∧H[p]? =some (.cells 1 ((uH G n 0).map bQ))∧(∃g,H=h++g)∧p<H.length∧
    ∃(m:Nat) (O:List Nat) (x:AV),fr 7= .int .i64 m∧m≤n∧fr 11=x∧Ls 1 (p+1) H x (O.map bQ)∧(∀j∈O,j<n)∧O.length≤k∧sQ G n=O++pJ G n ((List.range n).drop k) O.getLast? m) 0 (by omega)
   ⟨by simp [e5],by simp [e6],by simp,by simp,hA,hB,hpl,qB G n 0,[],.nil,by simp [e7],Nf n 0 rfl (by omega),by simp,Ls.nil,by simp,by simp,by simp [sQ]⟩ ?_
  clear hA hA3 hB hpl e1 e5 e6 e7 e8 hlen hk;rintro k fr H hk ⟨e5,e6,e65,e66,hA,hB,hpl,m,O,x,e7,hm,e11,hx,hO,hOl,hL⟩;have hA3:=at3 hA;have hlen:=bJ hB;have hxf:=hx.rs.fix;rcases zN k n with hlt | hge
  ·have ewk:=aB (i:=k) (by omega);by_cases hm0:m=0
   ·subst hm0;rw [CS,List.append_nil] at hL;simp [e5,e6,e65,e66,e7,e11,hlt,hxf];exact⟨hB,by rw [hL];exact hx.frz (by omega) (Fw _)⟩
   ·rw [vX hlt,pJ,if_neg hm0] at hL;have hgk:(uH G n 0)[k]? =some (lV G n k):=PU hlt;have hgk':=(zA.1 hgk).2;have hm0': ¬(m:Int)=0:=by omega
    have hm1:((m - 1:Nat):Int)=(m:Int) - 1:=by omega
    have ewm:IntKind.i64.wrap ((m:Int) - 1)=((m - 1:Nat):Int):=by rw [aC (by omega) (by omega)];omega
    by_cases hlk:lV G n k=m
    ·have hlk':(lV G n k:Int)=m:=by omega
     rcases List.eq_nil_or_concat O with rfl | ⟨O0,last,rfl⟩
     ·rw [if_pos ⟨hlk,rfl⟩] at hL;simp [-aj,-au,-ah,-AV.solid,e5,e6,e65,e66,e7,e11,hlt,hxf,hm0,hm0',hA3,hcl,hgk,hgk',bQ,hlk,hlk',hx.rs.len2];refine aN (lo:=p+1) (n:=1) (es:=[]) (ys:=[bQ k]) (by simpa [bQ] using hx.more _) (by simp;omega) (by simp [bE,bQ]) (by simp) ?_;intro s1 H1 hs1 hg1 hn1;have hs1f:=hs1.rs.fix;have hk1: ∀b o,b<p+1→H[b]? =some o→H1[b]? =some o:=fun b o hb ho=>hg1.keep b o (aP ho _) fun off len e=>by have:=hx.above _ _ _ e;omega
      have hB1:=hg1.base h (by omega) (aI hB _);have hl1:=hg1.len;simp [-aj,-au,-ah,-AV.solid,e5,e6,e65,e66,e7,hs1f,ewm,ewk];simp at hl1;exact⟨k+1,by omega,by omega,by omega,hk1 _ _ (by omega) hA,hB1,by omega,m - 1,rfl,by omega,[k],by simpa [bQ] using hs1,by simp [hlt],by simp,by simpa using hL⟩
     ·have hlast:last<n:=hO last (by simp);have hrow:=hRg last hlast;have hrow':=(zA.1 hrow).2;have hlR:last<R.length:=by omega
      have hOl':O0.length+1≤k:=by simpa using hOl
      have rx:=Rs.ix Tryz.prog hx.rs (O0.length:Nat) (by omega) (y:=[.int .i64 last]) (by simp [bQ]);have ewo:IntKind.i64.wrap (O0.length:Int)=(O0.length:Int):=aC (by omega) (by omega);have hpos:(0:Int)<(O0.length:Int)+1:=by omega
      have hgl:(O0++[last]).getLast? =some last:=by simp
      simp only [List.concat_eq_append,hgl,PR] at hL hx hO;simp [-aj,-au,-ah,-AV.solid,e5,e6,e65,e66,e7,e11,hlt,hxf,hm0,hm0',hA3,hcl,hgk,hgk',bQ,hlk,hlk',hx.rs.len2,rx,ewo,hpos,hrow,hrow',hlR];refine aT.up mixed (kK G n last).length (fun q fr H=>fr 5= .ro R∧fr 6= .own p 0 n∧fr 65= .int .i64 n∧fr 66= .int .i64 k∧H[p]? =some (.cells 1 ((uH G n 0).map bQ))∧(∃g,H=h++g)∧p<H.length∧
        fr 7= .int .i64 m∧fr 11=x∧Ls 1 (p+1) H x ((O0++[last]).map bQ)∧fr 12= .int .i64 k∧fr 89= .ro ((kK G n last).map bQ)∧fr 90= .int .i64 (kK G n last).length∧fr 91= .int .i64 q∧k∉(kK G n last).take q) 0 (by omega)
       ⟨by simp [e5],by simp [e6],by simp [e65],by simp [e66],hA,hB,hpl,by simp [e7],by simp [e11],hx,by simp,by simp,by simp,by simp,by simp⟩ ?_
      clear e5 e6 e65 e66 e7 e11 hA hA3 hB hpl hx hxf rx hlen;rintro q fr H hq ⟨e5,e6,e65,e66,hA,hB,hpl,e7,e11,hx,e12,e89,e90,e91,hno⟩;have hlen:=bJ hB;have hxf:=hx.rs.fix;rcases zN q (kK G n last).length with hqlt | hqge
      ·obtain⟨j,hj,hj'⟩:=aJ hqlt;have ewq:=aB (i:=q) (by have:=I5 (G:=G) (n:=n) last;omega);by_cases hjk:j=k
       ·subst hjk;have hg:G last j=true:=(nE.1 (zF hj)).2;rw [if_pos ⟨hlk,hg⟩] at hL;simp [-aj,-au,-ah,-AV.solid,e5,e6,e65,e66,e7,e11,e12,e89,e90,e91,hqlt,hj,hj',bQ,hxf];refine aN (lo:=p+1) (n:=1) (es:=(O0++[last]).map bQ) (ys:=[bQ j]) (by simpa [bQ] using hx.more _) (by simp;omega) (by simp [bE,bQ]) (by simp;omega) ?_;intro s1 H1 hs1 hg1 hn1;have hs1f:=hs1.rs.fix;have hk1: ∀b o,b<p+1→H[b]? =some o→H1[b]? =some o:=fun b o hb ho=>hg1.keep b o (aP ho _) fun off len e=>by have:=hx.above _ _ _ e;omega
        have hB1:=hg1.base h (by omega) (aI hB _);have hl1:=hg1.len;simp [-aj,-au,-ah,-AV.solid,e5,e6,e65,e66,e7,hs1f,ewm,ewk];simp at hl1;exact⟨j+1,by omega,by omega,by omega,hk1 _ _ (by omega) hA,hB1,by omega,m - 1,rfl,by omega,O0++[last]++[j],by simpa [bQ] using hs1,fun z hz=>by rcases List.mem_append.1 hz with q | q;exact hO z q;rw [List.mem_singleton.1 q];exact hlt,by simp;omega,by rw [hL,zK,zK];simp⟩
       ·have hjk': ¬(j:Int)=k:=by omega
        simp [e5,e6,e65,e66,e7,e11,e12,e89,e90,e91,hqlt,hj,hj',bQ,hxf,hjk,hjk',ewq];refine⟨q+1,by omega,by omega,by omega,hB,hpl,by simpa [bQ] using hx,by omega,fun hmem=> ?_⟩;rw [zM,hj] at hmem;rcases List.mem_append.1 hmem with c | c
        ·exact hno c
        ·exact hjk (by simp at c;exact c.symm)
      ·obtain rfl:q=(kK G n last).length:=by omega
       rw [List.take_length] at hno;have hg: ¬G last k=true:=fun c=>hno (nE.2 ⟨hlt,c⟩);rw [if_neg (fun c=>hg c.2)] at hL;simp [e5,e6,e65,e66,e7,e11,e12,e89,e90,e91,hxf,ewk];exact⟨k+1,by omega,by omega,by omega,hA,hB,hpl,m,rfl,by omega,O0++[last],by simpa using hx,by simpa using hO,by simp;omega,by rw [hgl];exact hL⟩
    ·have hlk': ¬(lV G n k:Int)=m:=by omega
     rw [if_neg (fun c=>hlk c.1)] at hL;simp [e5,e6,e65,e66,e7,e11,hlt,hxf,hm0,hm0',hA3,hcl,hgk,hgk',bQ,hlk,hlk',ewk];exact⟨k+1,by omega,by omega,by omega,hB,m,rfl,by omega,O,hx,hO,by omega,hL⟩
  ·obtain rfl:n=k:=by omega
   rw [zH (by simp),pJ,List.append_nil] at hL;simp [e5,e6,e65,e66,e7,e11,hxf];exact⟨hB,by rw [hL];exact hx.frz (by omega) (Fw _)⟩
end Go.Proofs.YtkpioblbeiaefaaGreat
end
section
namespace Go.Proofs.YtkpioblbeiaefaaGreat
open Go Go.Abs Go.Toll
variable {gl : aM} {h : af}
theorem Vo {p:ay} (hp:p.Ok): ∀e∈p.sources,e.length=2:=by
 intro e he;rw [hp.src] at he;obtain⟨s,_,rfl⟩:=List.mem_map.1 he;rfl
theorem Ei (l:List kD): ∀e∈l.map bf,∀y∈e,y.Data:=by
 intro e he y hy;obtain⟨m,_,rfl⟩:=List.mem_map.1 he;simp [bf] at hy;rcases hy with rfl | rfl <;> simp
theorem OU {l:List ay} (hl: ∀p∈l,p.Ok): ∀e∈l.map ae,∀y∈e,y.Data:=by
 intro e he y hy;obtain⟨p,hp,rfl⟩:=List.mem_map.1 he;have:=(hl p hp).dat;simp at hy;rcases hy with rfl | rfl | rfl | rfl | rfl | rfl | rfl | rfl
 ·simp
 ·simp
 ·simp
 ·simp
 ·simp
 ·simp
 ·simp
 ·exact .ro _ this
theorem Qq (G:Nat→Nat→Bool)(n:Nat):(sQ G n).Pairwise (· < ·)∧ ∀j∈sQ G n,j<n:=⟨pq.1.asc.1,pq.2.1⟩
def splitV (v:bn)(l:List ay):AV:= .tup [.ro ((yn (sQ (gL v l) l.length) l l.length).map ae),.ro ((lH (sQ (gL v l) l.length) l l.length).map bf)]
set_option maxHeartbeats 8000000 in
theorem IR (t:aY)(l:List ay)(hok: ∀p∈l,p.Ok∧p.sources.length≤1000)(hn:l.length≤1000000)(hp:t.net.pts.length≤1000)(hl:t.net.lks.length≤1000)(hs:t.sys.length≤1000):aa Tryz.prog gl 75 [.agg (aA t),.ro (l.map ae)] h fun v h'=>v=splitV (aH t).net l∧h'=h:=by
 refine aa.fresh' (aa.body Tryz.f75 _ mixed Tryz.func75 rfl rfl (by simp [Tryz.ntmps75]) ?_);simp;refine ax.pure _ (fun _=>Ef t l hn hp hl hs) ?_;unfold splitV;obtain⟨hI1,hI2⟩:=Qq (gL (aH t).net l) l.length;generalize sQ (gL (aH t).net l) l.length=I at*;obtain⟨n,hnn⟩: ∃n,n=l.length:=⟨_,rfl⟩;simp [←hnn];refine aT.upF 9 mixed n (fun i fr H=>fr 14= .ro (l.map ae)∧fr 15= .int .i64 n∧fr 16= .int .i64 i∧fr 8= .ro ((lL I i).map bQ)∧(∃g,H=h++g)∧h.length+1≤H.length∧ ∃x y,fr 6=x∧fr 7=y∧Ls 8 (h.length+1) H x ((yn I l i).map ae)∧Ls 2 (h.length+1) H y ((lH I l i).map bf)∧ ∀b off len b' off' len',x= .own b off len→y= .own b' off' len'→b≠b') 0 (by omega)
  ⟨by simp,by simp,by simp,by simp [De],by simp,by simp,.nil,.nil,by simp,by simp,by simpa [yn] using Ls.nil,by simpa [lH] using Ls.nil,by simp⟩ ?_
 rintro i fr H hi ⟨e14,e15,e16,e8,hB,hHl,x,y,e6,e7,hx,hy,hxy⟩;have hxf:=hx.rs.fix;have hyf:=hy.rs.fix;have hxin:=hx.inside;have hyin:=hy.inside;have hxab:=hx.above;have hyab:=hy.above;have hlen:=bJ hB;have hil1:=xe I l i;have hil2:=CB I l i;rcases zN i n with hlt | hge
 ·obtain⟨p,hpp,hpp'⟩:=aJ (l:=l) (i:=i) (by omega);have hil:i<l.length:=by omega
  have ew:=aB (i:=i) (by omega);obtain⟨hpo,hps⟩:=hok p (zF hpp);have hrs:=qJ (i:=i) hI1;have hs1:=BX (I:=I) hpp;have hs2:=FB (I:=I) hpp;obtain⟨q0,hq0⟩: ∃q0,q0=H.length:=⟨_,rfl⟩;by_cases c:i∈I
  ·rw [if_pos c] at hrs hs1 hs2;rw [hrs] at e8;simp [-aj,-au,-ah,-AV.solid,e6,e7,e8,e14,e15,e16,hlt,hil,hpp,hpp',hxf,hyf,bQ,←hnn,←hq0];refine aN (lo:=q0+1) (n:=2) (es:=[]) (ys:=p.sources) (Ls.own (by simp [hq0]) (by omega) rfl (by simp)) (by simp;omega) (by simp [bE];exact Vo hpo) (by simp;omega) ?_;intro s1 H1 hs1' hg1 hn1;have hs1f:=hs1'.rs.fix;have hs1ab:=hs1'.above;have hk1: ∀b o,b<q0→H[b]? =some o→H1[b]? =some o:=fun b o hb ho=>hg1.keep b o (aP ho _) fun off len e=>by injection e with e;omega
   have hB1:=hg1.base h (by omega) (aI hB _);have hP1:H1[q0]? =some (.cells 8 [ae p]):=hg1.keep q0 _ (by simp [hq0]) fun off len e=>by injection e with e;omega
   have hP3:=at3 hP1;simp only [dz] at hP3;have hl1:=hg1.len;simp at hl1;have hx1:Ls 8 (h.length+1) H1 x ((yn I l i).map ae):=(hx.more _).grow hg1 fun b eb hbl off len e=>by have:=hxin _ _ _ eb;injection e with e;omega
   have hy1:Ls 2 (h.length+1) H1 y ((lH I l i).map bf):=(hy.more _).grow hg1 fun b eb hbl off len e=>by have:=hyin _ _ _ eb;injection e with e;omega
   have hq0h:h.length<q0:=by omega
   simp [-aj,-au,-ah,-AV.solid,e6,e7,e8,e14,e15,e16,hs1f,hxf,hyf,hP3];have hs1p:=hs1'.put (b:=q0) (o:= .cells 8 [[.str p.id,.str p.point,.int .i64 p.time,.str p.tag,.str p.plate,.int .i64 p.cls,.int .i64 p.score,s1]]) (by omega);refine aT.freezeF (lo:=q0+1) (n:=2) (es:=[]++p.sources) 34 q0 8 [.str p.id,.str p.point,.int .i64 p.time,.str p.tag,.str p.plate,.int .i64 p.cls,.int .i64 p.score] [] (by simp) hs1p.z (by simp [hP3]) (fun off len e=>by have:=hs1ab _ _ _ e;omega) ?_;intro fr2 H2 _ qf hP2 hk2 hb2 hl2;rw [List.length_set] at hl2;have f6:fr2 6=x:=by rw [qf 6 (by decide)];simp [e6]
   have f7:fr2 7=y:=by rw [qf 7 (by decide)];simp [e7]
   have f8:fr2 8= .ro ((i::lL I (i+1)).map bQ):=by rw [qf 8 (by decide)];simp [e8]
   have f10:fr2 10= .ptr q0 0 0:=by rw [qf 10 (by decide)];simp
   have f14:fr2 14= .ro (l.map ae):=by rw [qf 14 (by decide)];simp [e14]
   have f15:fr2 15= .int .i64 n:=by rw [qf 15 (by decide)];simp [e15]
   have f16:fr2 16= .int .i64 i:=by rw [qf 16 (by decide)];simp [e16]
   have hB2:=hb2 h (by omega) (by omega) (dA hB1 (by omega) _);have hP3:=at3 hP2;have keep2: ∀b o,b<q0→H1[b]? =some o→H2[b]? =some o:=fun b o hb ho=>hk2 b o (by omega) (by rw [zJ (by omega)];exact ho) fun off len e=>by have:=hs1ab _ _ _ e;omega
   have hx2:Ls 8 (h.length+1) H2 x ((yn I l i).map ae):=hx1.keep' fun b len o e ho=>keep2 b o (by have:=hxin _ _ _ e;omega) ho;have hy2:Ls 2 (h.length+1) H2 y ((lH I l i).map bf):=hy1.keep' fun b len o e ho=>keep2 b o (by have:=hyin _ _ _ e;omega) ho;refine aT.of_awp mixed _ _ _ _ ?_;simp [-aj,-au,-ah,-AV.solid,f6,f7,f8,f10,f14,f15,f16,hxf,hyf,hP3];refine aN (lo:=h.length+1) (n:=8) (es:=(yn I l i).map ae) (ys:=[ae p]) (by simpa using hx2.more _) (by simp;omega) (by simp [bE]) (by simp;omega) ?_;intro s3 H3 hs3 hg3 hn3;have hs3f:=hs3.rs.fix;have hB3:=hg3.base h (by omega) (aI hB2 _);have hl3:=hg3.len;simp at hl3;have hy3:Ls 2 (h.length+1) H3 y ((lH I l i).map bf):=(hy2.more _).grow hg3 fun b eb hbl off len e=>hxy _ _ _ _ _ _ e eb rfl;have happ:s3.core=s3:=hs3f.1;simp [-aj,-au,-ah,-AV.solid,f6,f7,f8,f10,f14,f15,f16,hs3f,hyf,bQ,ew];exact⟨by omega,i+1,by omega,by omega,by omega,zG (by simp),hB3,by omega,by rw [hs1];simpa using hs3,by rw [hs2];exact hy3,fun b off len b' off' len' e e'=>by have q1:=hn3 _ _ _ e;have q2:=hyin _ _ _ e';simp at q1;omega⟩
  ·rw [if_neg c] at hrs hs1 hs2;have hcell:(lL I i=[]∨ ∃j r,lL I i=j::r∧j≠i):=by
    rcases hr:lL I i with _ | ⟨j,r⟩
    ·exact .inl rfl
    ·exact .inr ⟨j,r,rfl,fun e=>c ((LU hI1).1 ⟨r,by rw [hr,e]⟩)⟩
   have fin: ∀(K:AV→af→Prop) (ts:List TypeId) (H0:af) (z:AV),bE Tryz.prog H0 ts 2 z [bf ⟨p.id,9⟩]→Ls 2 (h.length+1) H0 y ((lH I l i).map bf)→Ls 8 (h.length+1) H0 x ((yn I l i).map ae)→(∃g,H0=h++g)→q0+1≤H0.length→
     (∀s3 H3,s3.core=s3∧s3.gd=true∧s3.solid=true∧ah s3=[s3]→(∃g,H3=h++g)→h.length+1≤H3.length→Ls 8 (h.length+1) H3 x ((yn I l (i+1)).map ae)→Ls 2 (h.length+1) H3 s3 ((lH I l (i+1)).map bf)→(∀b off len b' off' len',x= .own b off len→s3= .own b' off' len'→b≠b')→K s3 H3)→
     aj Tryz.prog H0 ts y z∧au 2 H0 y z K:=by
    intro K ts H0 z hok0 hy0 hx0 hB0 hl0 hK;refine aN (lo:=h.length+1) (n:=2) (es:=(lH I l i).map bf) (ys:=[bf ⟨p.id,9⟩]) hy0 (by omega) hok0 (by simp;omega) ?_;intro s3 H3 hs3 hg3 hn3;have hl3:=hg3.len;refine hK s3 H3 hs3.rs.fix (hg3.base h (by omega) hB0) (by omega) ?_ (by rw [hs2];simpa using hs3) fun b off len b' off' len' e e'=>by have:=hn3 _ _ _ e';have:=hxin _ _ _ e;omega
    rw [hs1];exact hx0.grow hg3 fun b eb hbl off len e=>hxy _ _ _ _ _ _ eb e rfl
   rcases hcell with hr | ⟨j,r,hr,hji⟩
   ·rw [hr] at e8 hrs;simp [-aj,-au,-ah,-AV.solid,e6,e7,e8,e14,e15,e16,hlt,hil,hpp,hpp',hxf,hyf,bQ,←hnn,←hq0];refine fin _ _ _ _ ?_ (hy.more _) (hx.more _) (aI hB _) (by simp [hq0]) ?_
    ·simp [bE,bf,hq0]
    intro s3 H3 hs3f hB3 hl3 hx3 hy3 hxy3;simp [-aj,-au,-ah,-AV.solid,e6,e7,e8,e14,e15,e16,hs3f,hxf,ew];exact⟨i+1,by omega,by omega,by omega,by first | (rw [←hrs];done) | (rw [←hrs];rfl),hB3,by omega,hx3,hy3,hxy3⟩
   ·rw [hr] at e8 hrs;have hij': ¬(i:Int)=j:=by omega
    have hij'': ¬(j:Int)=i:=by omega
    have hij3: ¬i=j:=by omega
    simp [-aj,-au,-ah,-AV.solid,e6,e7,e8,e14,e15,e16,hlt,hil,hpp,hpp',hxf,hyf,bQ,←hnn,←hq0,hij',hij'',hij3,hji];refine fin _ _ _ _ ?_ (hy.more _) (hx.more _) (aI hB _) (by simp [hq0]) ?_
    ·simp [bE,bf,hq0]
    intro s3 H3 hs3f hB3 hl3 hx3 hy3 hxy3;simp [-aj,-au,-ah,-AV.solid,e6,e7,e8,e14,e15,e16,hs3f,hxf,ew];exact⟨i+1,by omega,by omega,by omega,by first | (rw [←hrs];done) | (rw [←hrs];rfl),hB3,by omega,hx3,hy3,hxy3⟩
 ·obtain rfl:n=i:=by omega
  simp [e6,e7,e14,e15,e16,hxf,hyf];refine⟨hB,.tup' (.cons (hx.frz (by omega) (OU fun p hp=>(hok p (M4 hp)).1)) (.cons (hy.frz (by omega) (Ei _)) .nil))⟩
end Go.Proofs.YtkpioblbeiaefaaGreat
end
