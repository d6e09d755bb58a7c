/- Part 8 of the lemmas below the statements of this seat: Topo, AbsMore, TollCmp. -/
import Derived.Test.YtkpioblbeiaefaaGreatPb06
import Derived.Test.YtkpioblbeiaefaaGreatPb07
import Derived.Scope
set_option linter.unusedSectionVars false
set_option linter.unusedVariables false
set_option linter.unusedSimpArgs false
set_option linter.unnecessarySimpa false
set_option maxRecDepth 100000
section
namespace Go.Proofs.YtkpioblbeiaefaaGreat
open Go Go.Abs Go.Toll
variable {gl : aR} {h : ak}
theorem Fz (b:Nat)(y:ow)(s:Bytes)(hb:h[b]? =some (.cells 1 [[.str s]])):af Tryz.prog gl 126 [.agg (dH y),.ptr b 0 0] h fun v h'=>v= .bool (decide (y.name=s))∧h'=h:=by
 refine af.data (by simp) (af.body Tryz.f126 _ mixed Tryz.func126 rfl rfl (by simp [Tryz.ntmps126]) ?_);obtain⟨hlt,hb'⟩:=zA.1 hb;simp [hb',hlt];rw [Bool.eq_iff_iff];simp
theorem mi (l:List ow)(s:Bytes)(hl:l.length≤1000):af Tryz.prog gl 87 [.ro (l.map dH),.str s] h fun v h'=>v= .tup [.agg (dH ((dM l s).getD sys0)),.bool (dM l s).isSome]∧h'=h:=by
 refine af.data (by simp) (af.body Tryz.f87 _ mixed Tryz.func87 rfl rfl (by simp [Tryz.ntmps87]) ?_);simp;refine ay.pure _ (fun _=>zl _ (l.map dH) (Rd.ro (by simp)) (by simp;omega) 126 [.ptr h.length 0 0] (fun e=>decide (strOf (e.getD 0 .junk)=s)) ?_) ?_
 ·intro e he g;obtain⟨y,_,rfl⟩:=List.mem_map.1 he;exact Fz (h:=h++[.cells 1 [[.str s]],.cells 3 [dH sys0]]++g) h.length y s (by simp)
 have hm:lv (fun e=>decide (strOf (e.getD 0 .junk)=s)) (l.map dH)=lv (fun y:ow=>decide (y.name=s)) l:=K7 _ _ _ (fun y=>rfl) l;rw [hm,dM];rcases nV (fun y:ow=>decide (y.name=s)) l with⟨h1,h2⟩ | ⟨k,x,h1,h2,h3⟩
 ·rw [h1,h2];simp [sys0]
 ·rw [h1,h3];obtain⟨hk,hk'⟩:=zA.1 h2;have hk0: ¬(k:Int)<0:=by omega
  simp [hk,hk',h2]
theorem Gx (l:List ow)(p:Pt)(hl:l.length≤1000):af Tryz.prog gl 162 [.ro (l.map dH),.agg (aZ p)] h fun v h'=>v= .bool (pq l p)∧h'=h:=by
 refine af.data (by simp) (af.body Tryz.f162 _ mixed Tryz.func162 rfl rfl (by simp [Tryz.ntmps162]) ?_);simp;refine ay.pure _ (fun _=>mi l p.sys hl) ?_;have e1: ∀b:Bool,(b==true)=b:=by decide
 have e2: ∀b:Bool,(b==false)= !b:=by decide
 by_cases k2:p.kind=2
 ·cases hf:dM l p.sys <;> simp [pq,k2,hf]
 by_cases k3:p.kind=3
 ·cases hf:dM l p.sys <;> simp [pq,k3,hf]
 by_cases k1:p.kind=1
 ·cases hf:dM l p.sys <;> simp [pq,k1,hf,e2]
 cases hf:dM l p.sys <;> simp [pq,k1,k2,k3,hf] <;> (try (rw [Bool.eq_iff_iff];simp))
def Co (id:Nat):Option (List (Nat×Nat)):=if id=11 then some [(1,11),(3,11),(5,11),(6,11)] else none
set_option maxHeartbeats 1000000 in
theorem vD (t:bn)(hp:t.net.pts.length≤1000)(hl:t.net.lks.length≤1000)(hs:t.sys.length≤1000):af Tryz.prog gl 124 [.agg (av t)] h fun v h'=>v= .int .i64 (bZ t)∧h'=h:=by
 refine af.data (by simp) (af.bodyL Co Tryz.f124 _ mixed Tryz.func124 rfl rfl (by simp [Tryz.ntmps124]) ?_);simp [Co];refine ay.pure _ (fun _=>uG t.net hp hl) ?_;simp;refine⟨fun hz=>by simp [bZ,hz],fun hz=>⟨fun hgt=> ?_,fun hle=> ?_⟩⟩
 ·have:64<t.sys.length:=by omega
  simp [bZ,hz,this]
 have hle': ¬64<t.sys.length:=by omega
 have hte:bZ t=if gp [] t.sys≠0 then gp [] t.sys else if t.net.pts.all (pq t.sys) then 0 else 16:=by rw [bZ,if_neg (by simp [hz]),if_neg hle']
 refine aW.upL Co mixed t.sys.length (fun i fr h'=>fr 1= .ptr h.length 0 0∧fr 21= .ro (t.sys.map dH)∧fr 22= .int .i64 t.sys.length∧fr 23= .int .i64 i∧
  gp [] t.sys=gp (t.sys.take i) (t.sys.drop i)∧ ∃g,h'=h++ .cells 3 [av t]::g) 0 (by omega) ⟨by simp,by simp,by simp,by simp,by simp,[],by simp⟩ ?_
 rintro i fr h' hi ⟨e1,e21,e22,e23,hf,g,rfl⟩;rcases zN i t.sys.length with hlt | hge
 ·obtain⟨y,hg,hg'⟩:=aN hlt;rw [bF hg,gp] at hf;have ew:=aB (i:=i) (by omega);have ht:t.sys.take (i+1)=t.sys.take i++[y]:=by rw [zM,hg];rfl
  have hil:(i:Int)≤t.sys.length:=by omega
  obtain⟨A,hA⟩: ∃A,t.sys.take i=A:=⟨_,rfl⟩;have hAl:A.length≤1000:=by rw [←hA];simp;omega
  have htm:(t.sys.map dH).take i=A.map dH:=by rw [←hA,List.map_take]
  rw [hA] at hf ht;simp [Co,e1,e21,e22,e23,hlt,hg,hg',ew];refine ay.pure _ (fun _=>Ay y.name) ?_;simp [e1,e21,e22,e23,hlt,hg,hg',ew,hil,hi,htm];refine⟨fun q1=>by rw [hte,hf];simp [q1],fun q1=>⟨by decide,?_⟩⟩;refine ay.pure _ (fun _=>mi A y.name hAl) ?_;simp [e1,e21,e22,e23,hlt,hg,hg',ew,hil,hi,htm];refine⟨ay.pure _ (fun _=>mi A y.name hAl) (by simp),fun q2=>by rw [hte,hf];simp [q1,q2],fun q2=> ?_⟩;have q2': ¬(dM A y.name).isSome=true:=by rw [q2];simp
  refine⟨fun a b=>⟨⟨a,b⟩,fun c=>⟨⟨a,b⟩,c⟩⟩,fun q3=> ?_,fun q3 q4 q5=>⟨i+1,by omega,by omega,by omega,?_⟩⟩
  ·have hS:gp [] t.sys=12:=by rw [hf,if_neg (by simp [q1]),if_neg q2',if_pos (by rcases q3 with (q3 | q3) | q3 <;> simp [q3])]
   rw [hte,hS];simp
  ·rw [hf,ht,if_neg (by simp [q1]),if_neg q2',if_neg (by rintro (a | a | ⟨a,b⟩) <;> first | omega | exact q5 a b)]
 ·rw [zH hge,gp] at hf;rw [hf] at hte;have hte:bZ t=if t.net.pts.all (pq t.sys) then 0 else 16:=by simpa using hte
  simp [e1,e21,e22,e23,Nat.not_lt.2 hge];refine aW.up mixed t.net.pts.length (fun j fr h'=>fr 1= .ptr h.length 0 0∧fr 63= .ro (t.net.pts.map aZ)∧fr 64= .int .i64 t.net.pts.length∧fr 65= .int .i64 j∧
   t.net.pts.all (pq t.sys)=(t.net.pts.drop j).all (pq t.sys)∧ ∃g,h'=h++ .cells 3 [av t]::g) 0 (by omega) ⟨by simp [e1],by simp,by simp,by simp,by simp,g,by simp⟩ ?_
  clear e1 e21 e22 e23 hf hi hge;rintro j fr h' hj ⟨e1,e63,e64,e65,hf,g,rfl⟩;rcases zN j t.net.pts.length with hlt | hge
  ·obtain⟨p,hg,hg'⟩:=aN hlt;rw [bF hg,List.all_cons] at hf;have ew:=aB (i:=j) (by omega);simp [e1,e63,e64,e65,hlt,hg,hg',ew];refine ay.pure _ (fun _=>Gx t.sys p hs) ?_;simp [e1,e63,e64,e65,hlt,hg,hg',ew];refine⟨fun q=>by rw [hte,hf,q];simp,fun q=>⟨j+1,by omega,by omega,by omega,by rw [hf,q,Bool.true_and]⟩⟩
  ·rw [zH hge] at hf;simp [e1,e63,e64,e65,Nat.not_lt.2 hge,hte,hf]
theorem lq (t:bn)(hp:t.net.pts.length≤1000)(hl:t.net.lks.length≤1000)(hs:t.sys.length≤1000):af Tryz.prog gl 86 [.agg (av t)] h fun v h'=>v= .agg (av (aI t))∧h'=h:=by
 refine af.fresh (af.body Tryz.f86 _ mixed Tryz.func86 rfl rfl (by simp [Tryz.ntmps86]) ?_);simp;refine ay.pure _ (fun _=>vD t hp hl hs) ?_;simp;refine⟨fun hz=> ?_,fun hz=> ?_⟩
 ·simp [aI,hz,y9];exact .agg' (.cons .nil (.cons .nil (.cons .nil .nil)))
 ·simp [aI,hz];exact .data _ (by simp)
theorem iR (t:bn)(s:Bytes)(hp:t.net.pts.length≤1000)(hl:t.net.lks.length≤1000)(hs:t.sys.length≤1000):af Tryz.prog gl 47 [.agg (av t),.str s] h fun v h'=>v= .tup [.agg (dH ((eu t s).getD sys0)),.bool (eu t s).isSome]∧h'=h:=by
 refine af.data (by simp) (af.body Tryz.f47 _ mixed Tryz.func47 rfl rfl (by simp [Tryz.ntmps47]) ?_);simp;refine ay.pure _ (fun _=>lq t hp hl hs) ?_;have hv:=eQ t;rw [eu];generalize aI t=v at*;simp;refine ay.pure _ (fun _=>lI v.net s (by omega) (by omega)) ?_
 cases hf:bH v.net s with
 | none=>simp [JR,sys0]
 | some p=>
  by_cases hps:p.sys=[]
  ·simp [hps,sys0]
  ·simp [hps];refine ay.pure _ (fun _=>mi v.sys p.sys (by omega)) ?_;simp
theorem jV (t:bn)(s:Bytes)(hp:t.net.pts.length≤1000)(hl:t.net.lks.length≤1000)(hs:t.sys.length≤1000):af Tryz.prog gl 46 [.agg (av t),.str s] h fun v h'=>v= .int .i64 (kindOf t s)∧h'=h:=by
 refine af.data (by simp) (af.body Tryz.f46 _ mixed Tryz.func46 rfl rfl (by simp [Tryz.ntmps46]) ?_);simp;refine ay.pure _ (fun _=>lq t hp hl hs) ?_;have hv:=eQ t;rw [kindOf];generalize aI t=v at*;simp;refine ay.pure _ (fun _=>lI v.net s (by omega) (by omega)) ?_;simp
theorem xM (l:List ow)(s:Bytes)(hl:l.length≤1000):af Tryz.prog gl 59 [.ro (l.map dH),.str s] h fun v h'=>v= .int .i64 (lv (fun y:ow=>decide (y.name=s)) l)∧h'=h:=by
 refine af.data (.int _ _) (af.body Tryz.f59 _ mixed Tryz.func59 rfl rfl (by simp [Tryz.ntmps59]) ?_);simp;refine aW.up mixed l.length (fun i fr h'=>fr 0= .ro (l.map dH)∧fr 1= .str s∧fr 5= .int .i64 i∧
  lv (fun y:ow=>decide (y.name=s)) l=idxFrom (fun y:ow=>decide (y.name=s)) i (l.drop i)∧ ∃g,h'=h++g) 0 (by omega) ⟨by simp,by simp,by simp,by simp [lv],[],by simp⟩ ?_
 rintro i fr h' hi ⟨e0,e1,e5,hf,g,rfl⟩;rcases zN i l.length with hlt | hge
 ·obtain⟨p,hg,hg'⟩:=aN hlt;rw [bF hg,idxFrom] at hf;have ew:=aB (i:=i) (by omega);simp [e0,e1,e5,hlt,hg,hg',ew];refine⟨fun hq=> ?_,fun hq=>⟨i+1,by omega,by omega,by omega,?_⟩⟩
  ·simp [hq] at hf;rw [hf]
  ·simp [hq] at hf;exact hf
 ·rw [zH hge,idxFrom] at hf;simp [e0,e1,e5,Nat.not_lt.2 hge,hf]
theorem Md (t:bn)(p:Pt)(hs:t.sys.length≤1000)(hk:1≤p.kind∧p.kind≤4):af Tryz.prog gl 60 [.agg (av t),.agg (aZ p)] h fun v h'=>v= .int .i64 (if pq t.sys p then 0 else 16)∧h'=h:=by
 refine af.data (.int _ _) (af.body Tryz.f60 _ mixed Tryz.func60 rfl rfl (by simp [Tryz.ntmps60]) ?_);simp;refine ay.pure _ (fun _=>xM t.sys p.sys hs) ?_;rcases nV (fun y:ow=>decide (y.name=p.sys)) t.sys with⟨h1,h2⟩ | ⟨k,x,h1,h2,h3⟩
 ·rw [h1];have h2:dM t.sys p.sys=none:=h2;rcases (by omega:p.kind=1∨p.kind=2∨p.kind=3∨p.kind=4) with q | q | q | q
  all_goals simp [q,pq,h2]
 ·rw [h1];have h3:dM t.sys p.sys=some x:=h3;obtain⟨hk1,hk2⟩:=zA.1 h2;rcases (by omega:p.kind=1∨p.kind=2∨p.kind=3∨p.kind=4) with q | q | q | q
  all_goals simp [q,pq,h3,hk1,hk2,h2]
set_option maxHeartbeats 1000000 in
theorem ve (t:bn)(hp:t.net.pts.length≤1000)(hl:t.net.lks.length≤1000)(hs:t.sys.length≤1000):af Tryz.prog gl 30 [.agg (av t)] h fun v h'=>v= .int .i64 (bZ t)∧h'=h:=by
 refine af.data (.int _ _) (af.body Tryz.f30 _ mixed Tryz.func30 rfl rfl (by simp [Tryz.ntmps30]) ?_);simp;refine ay.pure _ (fun _=>Bg t.net hp hl) ?_;simp;refine⟨fun hz=>by simp [bZ,hz],fun hz=>⟨fun hgt=> ?_,fun hle=> ?_⟩⟩
 ·have:64<t.sys.length:=by omega
  simp [bZ,hz,this]
 have hle': ¬64<t.sys.length:=by omega
 have hte:bZ t=if gp [] t.sys≠0 then gp [] t.sys else if t.net.pts.all (pq t.sys) then 0 else 16:=by rw [bZ,if_neg (by simp [hz]),if_neg hle']
 refine aW.up mixed t.sys.length (fun i fr h'=>fr 1= .ptr h.length 0 0∧fr 4= .int .i64 i∧
  gp [] t.sys=gp (t.sys.take i) (t.sys.drop i)∧ ∃g,h'=h++ .cells 3 [av t]::g) 0 (by omega) ⟨by simp,by simp,by simp,[],by simp⟩ ?_
 rintro i fr h' hi ⟨e1,e4,hf,g,rfl⟩;rcases zN i t.sys.length with hlt | hge
 ·obtain⟨y,hg,hg'⟩:=aN hlt;rw [bF hg,gp] at hf;have ew:=aB (i:=i) (by omega);have ht:t.sys.take (i+1)=t.sys.take i++[y]:=by rw [zM,hg];rfl
  have hil:(i:Int)≤t.sys.length:=by omega
  obtain⟨A,hA⟩: ∃A,t.sys.take i=A:=⟨_,rfl⟩;have hAl:A.length≤1000:=by rw [←hA];simp;omega
  have htm:(t.sys.map dH).take i=A.map dH:=by rw [←hA,List.map_take]
  have hI:(0≤lv (fun q:ow=>decide (q.name=y.name)) A)↔(dM A y.name).isSome=true:=by
   rcases nV (fun q:ow=>decide (q.name=y.name)) A with⟨h1,h2⟩ | ⟨k,x,h1,h2,h3⟩
   ·rw [h1,dM,h2];simp
   ·rw [h1,dM,h3];simp
  rw [hA] at hf ht;simp [e1,e4,hlt,hg,hg',ew];refine ay.pure _ (fun _=>sO y.name) ?_;simp [e1,e4,hlt,hg,hg',ew,hil,hi,htm];refine⟨fun q1=>by rw [hte,hf];simp [q1],fun q1=>⟨by decide,?_⟩⟩;refine ay.pure _ (fun _=>xM A y.name hAl) ?_;simp [e1,e4,hlt,hg,hg',ew,hil,hi,htm];refine⟨fun q2=>by rw [hte,hf];simp [q1,hI.1 q2],fun q2=> ?_⟩;have q2': ¬(dM A y.name).isSome=true:=fun hq=>by have:=hI.2 hq;omega
  refine⟨fun a b=>⟨⟨a,b⟩,fun c=>⟨⟨a,b⟩,c⟩⟩,fun q3=> ?_,fun q3 q4 q5=>⟨i+1,by omega,by omega,by omega,?_⟩⟩
  ·have hS:gp [] t.sys=12:=by rw [hf,if_neg (by simp [q1]),if_neg q2',if_pos (by rcases q3 with (q3 | q3) | q3 <;> simp [q3])]
   rw [hte,hS];simp
  ·rw [hf,ht,if_neg (by simp [q1]),if_neg q2',if_neg (by rintro (a | a | ⟨a,b⟩) <;> first | omega | exact q5 a b)]
 ·rw [zH hge,gp] at hf;rw [hf] at hte;have hte:bZ t=if t.net.pts.all (pq t.sys) then 0 else 16:=by simpa using hte
  simp [e1,e4,Nat.not_lt.2 hge];refine aW.up mixed t.net.pts.length (fun j fr h'=>fr 1= .ptr h.length 0 0∧fr 6= .int .i64 j∧
   t.net.pts.all (pq t.sys)=(t.net.pts.drop j).all (pq t.sys)∧ ∃g,h'=h++ .cells 3 [av t]::g) 0 (by omega) ⟨by simp [e1],by simp,by simp,g,by simp⟩ ?_
  clear e1 e4 hf hi hge;rintro j fr h' hj ⟨e1,e6,hf,g,rfl⟩;rcases zN j t.net.pts.length with hlt | hge
  ·obtain⟨p,hg,hg'⟩:=aN hlt;rw [bF hg,List.all_cons] at hf;have ew:=aB (i:=j) (by omega);have hk:=(kY hz p (zF hg)).2;simp [e1,e6,hlt,hg,hg',ew];refine⟨by decide,?_⟩;refine ay.pure _ (fun _=>Md t p hs hk) ?_;cases q:pq t.sys p
   ·rw [q] at hf;simp [e1,e6,hlt,hg,hg',ew,hte,hf]
   ·rw [q,Bool.true_and] at hf;simp [e1,e6,hlt,hg,hg',ew];exact⟨j+1,by omega,by omega,by omega,hf⟩
  ·rw [zH hge] at hf;simp [e1,e6,Nat.not_lt.2 hge,hte,hf]
theorem pX (t:bn)(hp:t.net.pts.length≤1000)(hl:t.net.lks.length≤1000)(hs:t.sys.length≤1000):af Tryz.prog gl 90 [.agg (av t)] h fun v h'=>v= .agg (av (aI t))∧h'=h:=by
 refine af.fresh (af.body Tryz.f90 _ mixed Tryz.func90 rfl rfl (by simp [Tryz.ntmps90]) ?_);simp;refine ay.pure _ (fun _=>ve t hp hl hs) ?_;simp;refine⟨fun hz=> ?_,fun hz=> ?_⟩
 ·simp [aI,hz,y9];exact .agg' (.cons .nil (.cons .nil (.cons .nil .nil)))
 ·simp [aI,hz];exact .data _ (by simp)
theorem JX (t:bn)(s:Bytes)(hp:t.net.pts.length≤1000)(hl:t.net.lks.length≤1000)(hs:t.sys.length≤1000):af Tryz.prog gl 52 [.agg (av t),.str s] h fun v h'=>v= .tup [.agg (dH ((eu t s).getD sys0)),.bool (eu t s).isSome]∧h'=h:=by
 refine af.data (by simp) (af.body Tryz.f52 _ mixed Tryz.func52 rfl rfl (by simp [Tryz.ntmps52]) ?_);simp;refine ay.pure _ (fun _=>pX t hp hl hs) ?_;have hv:=eQ t;have hthere:=fun p=> @Ru t s p;rw [eu];generalize aI t=v at*;simp;refine ay.pure _ (fun _=>bJ v.net s (by omega) (by omega)) ?_
 cases hf:bH v.net s with
 | none=>simp [JR,sys0]
 | some p=>
  by_cases hps:p.sys=[]
  ·simp [hps,sys0]
  ·obtain⟨x,hx⟩:=hthere p hf hps;simp [hps];refine⟨by decide,?_⟩;refine ay.pure _ (fun _=>xM v.sys p.sys (by omega)) ?_;rcases nV (fun q:ow=>decide (q.name=p.sys)) v.sys with⟨h1,h2⟩ | ⟨k,x',h1,h2,h3⟩
   ·rw [dM,h2] at hx;simp at hx
   ·have hx':x'=x:=by rw [dM,h3] at hx;simpa using hx
    subst hx';obtain⟨hk1,hk2⟩:=zA.1 h2;rw [h1];simp [hk1,hk2,h2,hx]
theorem Od (t:bn)(s:Bytes)(hp:t.net.pts.length≤1000)(hl:t.net.lks.length≤1000)(hs:t.sys.length≤1000):af Tryz.prog gl 51 [.agg (av t),.str s] h fun v h'=>v= .int .i64 (kindOf t s)∧h'=h:=by
 refine af.data (.int _ _) (af.body Tryz.f51 _ mixed Tryz.func51 rfl rfl (by simp [Tryz.ntmps51]) ?_);simp;refine ay.pure _ (fun _=>pX t hp hl hs) ?_;have hv:=eQ t;rw [kindOf];generalize aI t=v at*;simp;refine ay.pure _ (fun _=>bJ v.net s (by omega) (by omega)) ?_;simp
end Go.Proofs.YtkpioblbeiaefaaGreat
end
section
namespace Go.Abs
open Go
theorem vR {α:Type} {l:List α} (hn:l.Nodup) {i j:Nat} {a:α} (h1:l[i]? =some a)(h2:l[j]? =some a):i=j:=by
 obtain⟨b1,c1⟩:=zA.1 h1;obtain⟨b2,c2⟩:=zA.1 h2;have hp:=List.pairwise_iff_getElem.1 hn;rcases Nat.lt_trichotomy i j with h | h | h
 ·exact absurd (c1.trans c2.symm) (hp i j b1 b2 h)
 ·exact h
 ·exact absurd (c2.trans c1.symm) (hp j i b2 b1 h)
theorem at3 {H:ak} {b:Nat} {o:cZ} (h:H[b]? =some o):H[b]? =some o∧b<H.length∧ ∀hl:b<H.length,H[b]=o:=⟨h,(zA.1 h).1,fun _=>(zA.1 h).2⟩
theorem aJ {H:ak} {b:Nat} {o:cZ} (h:H[b]? =some o)(g:ak):(H++g)[b]? =some o:=by rw [zC (aK h)];exact h
def aO (s:List UInt8):List AV:=[.str s]
def ll (l:List (List UInt8)):List (List UInt8):=l.mergeSort fun x y=>decide (x≤y)
theorem af.fresh' {P:Program} {gl:aR} {f:FuncId} {args:List AV} {h:ak} {r:AV} (c:af P gl f args h (fun x h'=>(∃g,h'=h++g)∧qy h.length h' x r)):af P gl f args h (fun x h'=>x=r∧h'=h):=by
 refine c.trim ?_;rintro x h' ⟨⟨g,rfl⟩,hf⟩;exact⟨_,hf,by simp,fun b o hb ho=> .inl (by rwa [zC hb] at ho),rfl,by simp⟩
theorem af.freshR {P:Program} {gl:aR} {f:FuncId} {args:List AV} {h:ak} {R:AV→Prop} (c:af P gl f args h (fun x h'=>(∃g,h'=h++g)∧ ∃r,qy h.length h' x r∧R r)):af P gl f args h (fun x h'=>R x∧h'=h):=by
 refine c.trim ?_;rintro x h' ⟨⟨g,rfl⟩,r,hf,hr⟩;exact⟨_,hf,by simp,fun b o hb ho=> .inl (by rwa [zC hb] at ho),hr,by simp⟩
theorem aF {h H:ak} (hb: ∃g,H=h++g)(g:ak): ∃g',H++g=h++g':=by
 obtain⟨g0,rfl⟩:=hb;exact⟨g0++g,by rw [zK]⟩
theorem aV {h H:ak} (hb: ∃g,H=h++g):h.length≤H.length:=by
 obtain⟨g0,rfl⟩:=hb;simp
theorem cu {h H:ak} (hb: ∃g,H=h++g) {b:Nat} (hl:h.length≤b)(o:cZ): ∃g',H.set b o=h++g':=by
 obtain⟨g0,rfl⟩:=hb;exact⟨_,List.set_append_right _ _ hl⟩
theorem af.freeze {P:Program} {gl:aR} {f:FuncId} {args:List AV} {h:ak} {R R':AV→ak→Prop} (c:af P gl f args h R)
  (hr: ∀x h',R x h'→ ∃ks x',gq ks h' x x'∧R' x' (killL h' ks)):af P gl f args h R':=by
 refine⟨c.1,fun J w vs hh hv=>Calls.mono' (c.2 J w vs hh hv) ?_⟩;rintro e w' ⟨x,v,J',h',p1,p2,p3,p4,p5⟩;obtain⟨ks,x',f1,f2⟩:=hr x h' p5;obtain⟨hk,ev⟩:=p2.killL ks;exact⟨x',v,J',killL h' ks,p1,hk,gq.sound p2 f1 p3,p4.trans ev,f2⟩
theorem Ls.above {n lo:Nat} {H:ak} {x:AV} {es:List (List AV)} (r:Ls n lo H x es): ∀b off len,x= .own b off len→lo≤b:=by
 intro b off len e;rcases r.1 with⟨e1,_⟩ | ⟨b',e1,hl,_⟩
 ·rw [e1] at e;cases e
 ·rw [e1] at e;injection e with e2;omega
theorem jw {h H H':ak} (hb: ∃g,H=h++g)(hk: ∀b o,b<h.length→H[b]? =some o→H'[b]? =some o)(hl:h.length≤H'.length): ∃g,H'=h++g:=by
 obtain⟨g,rfl⟩:=hb;refine⟨H'.drop h.length,?_⟩;have:H'.take h.length=h:=by
  refine List.ext_getElem? fun i=> ?_;rcases zN i h.length with hi | hi
  ·rw [List.getElem?_take_of_lt hi,zB hi];exact hk i _ hi (by rw [zC hi,zB hi])
  ·rw [List.getElem?_eq_none (by simp;omega),List.getElem?_eq_none hi]
 conv=>lhs;rw [←List.take_append_drop h.length H',this]
theorem gu.blk {n lo bx:Nat} {H:ak} {cs:List AV} {rows:List (List (List AV))} (hN:gu n lo H (.own bx 0 cs.length) cs rows):H[bx]? =some (.cells 1 (cs.map fun c=>[c]))∧bx<H.length∧(∀hl:bx<H.length,H[bx]= .cells 1 (cs.map fun c=>[c]))∧lo≤bx:=by
 rcases hN.out.1 with⟨e,_⟩ | ⟨b,e,h1,h2⟩
 ·cases e
 ·injection e with e1;subst e1
  exact⟨h2,(zA.1 h2).1,fun _=>(zA.1 h2).2,h1⟩
theorem gu.nils {n lo m:Nat} {H:ak} (hl:lo≤H.length):gu n lo (H++[.cells 1 (List.replicate m [.nil])]) (.own H.length 0 (List.replicate m AV.nil).length) (List.replicate m .nil) (List.replicate m [])∧NL n lo (H++[.cells 1 (List.replicate m [.nil])]) (List.replicate m .nil) (List.replicate m []):=by
 have nil: ∀(k:Nat) (c:AV),(List.replicate m AV.nil)[k]? =some c→c= .nil:=fun k c h=>by
  have:=zF h;simp at this;exact this.2
 have nil2: ∀(k:Nat) (r:List (List AV)),(List.replicate m ([]:List (List AV)))[k]? =some r→r=[]:=fun k r h=>by
  have:=zF h;simp at this;exact this.2
 refine⟨⟨by simp,⟨.inr ⟨H.length,by simp,hl,by simp⟩,?_⟩,fun k c r h1 h2=> ?_,fun i j b off len off' len' h1 _=> ?_⟩,fun k c r h1 h2=> ?_⟩
 ·intro e he;obtain⟨_,_,rfl⟩:=List.mem_map.1 he;rfl
 ·rw [nil k c h1,nil2 k r h2];exact⟨Rs.nil,by simp⟩
 ·cases nil _ _ h1
 ·rw [nil k c h1,nil2 k r h2];exact Ls.nil
theorem gu.ofNils {n lo m:Nat} {H:ak} {x:AV} (hx:Ls 1 lo H x (List.replicate m [.nil])):gu n lo H x (List.replicate m .nil) (List.replicate m []):=by
 have nil: ∀(k:Nat) (c:AV),(List.replicate m AV.nil)[k]? =some c→c= .nil:=fun k c h=>by
  have:=zF h;simp at this;exact this.2
 have nil2: ∀(k:Nat) (r:List (List AV)),(List.replicate m ([]:List (List AV)))[k]? =some r→r=[]:=fun k r h=>by
  have:=zF h;simp at this;exact this.2
 refine⟨by simp,by simpa using hx,fun k c r h1 h2=> ?_,fun i j b off len off' len' h1 _=> ?_⟩
 ·rw [nil k c h1,nil2 k r h2];exact⟨Rs.nil,by simp⟩
 ·cases nil _ _ h1
theorem SQ {n lo lo' bx k:Nat} {H H1 os:ak} {cs:List AV} {rows:List (List (List AV))} {c d:AV} {q ys:List (List AV)} (hN:gu n lo H (.own bx 0 cs.length) cs rows)(hNL:NL n lo H cs rows)(hc:cs[k]? =some c)(hq:rows[k]? =some q)
  (hd:Ls n lo H1 d (q++ys)) (hg:Grow lo' (H++os) c H1) (hn: ∀b off len,d= .own b off len→(H++os).length≤b):
  gu n lo (H1.set bx (.cells 1 ((cs.map fun c=>[c]).set k [d]))) (.own bx 0 cs.length) (cs.set k d) (rows.set k (q++ys))∧NL n lo (H1.set bx (.cells 1 ((cs.map fun c=>[c]).set k [d]))) (cs.set k d) (rows.set k (q++ys)):=by
 have hk:=(zA.1 hc).1;obtain⟨hlx,hbx⟩:lo≤bx∧bx<H.length:=by
  rcases hN.out.1 with⟨e,_⟩ | ⟨b,e,h1,h2⟩
  ·cases e
  ·injection e with e1;subst e1
   exact⟨h1,(zA.1 h2).1⟩
 have hlen:(H++os).length≤H1.length:=hg.len;have hlen2:H.length≤(H++os).length:=by simp
 have hdb: ∀b off len,d= .own b off len→b≠bx∧H.length≤b:=fun b off len e=>by
  have:=hn b off len e;omega
 have hd2:Ls n lo (H1.set bx (.cells 1 ((cs.map fun c=>[c]).set k [d]))) d (q++ys):=hd.keep' fun b len o e ho=>by
  rw [zJ (Ne.symm (hdb b _ _ e).1)];exact ho
 have keep: ∀b o',H[b]? =some o'→b≠bx→(∀off len,cs[k]? ≠some (.own b off len))→(H1.set bx (.cells 1 ((cs.map fun c=>[c]).set k [d])))[b]? =some o':=fun b o' hb hne hnc=>by
  rw [zJ (Ne.symm hne)];exact hg.keep b o' (by rw [zC (zA.1 hb).1];exact hb) fun off len e=>hnc off len (by rw [hc,e])
 refine⟨hN.put rfl hk hd2.rs (fun b off len e=>⟨?_,(hdb b off len e).1,fun off' len' hm=> ?_⟩) keep ?_,hNL.put hN rfl hk hd2 keep⟩
 ·exact hd.above b off len e
 ·have:=hN.lt hm;have:=(hdb b off len e).2;omega
 ·rw [zI (by omega)]
theorem gu.blk1 {n lo lo' bx k:Nat} {H H1 os:ak} {cs:List AV} {rows:List (List (List AV))} {c:AV} {q:List (List AV)} (hN:gu n lo H (.own bx 0 cs.length) cs rows)(hc:cs[k]? =some c)(hq:rows[k]? =some q)(hg:Grow lo' (H++os) c H1):
  H1[bx]? =some (.cells 1 (cs.map fun c=>[c]))∧bx<H1.length∧ ∀hl:bx<H1.length,H1[bx]= .cells 1 (cs.map fun c=>[c]):=by
 have h1:=hg.keep bx _ (by rw [zC hN.blk.2.1];exact hN.blk.1) fun off len e=>((hN.each k c q hc hq).2 bx off len e).2 0 cs.length rfl;exact⟨h1,(zA.1 h1).1,fun _=>(zA.1 h1).2⟩
theorem QQ {n lo bx k:Nat} {H H1:ak} {cs:List AV} {rows:List (List (List AV))} {c:AV} {q:List (List AV)} (hN:gu n lo H (.own bx 0 cs.length) cs rows)(hNL:NL n lo H cs rows)(hc:cs[k]? =some c)
  (hd:Ls n lo H1 c q) (hk: ∀b o,H[b]? =some o→(∀off len,c≠ .own b off len)→H1[b]? =some o):gu n lo H1 (.own bx 0 cs.length) cs (rows.set k q)∧NL n lo H1 cs (rows.set k q):=by
 have hkl:=(zA.1 hc).1;have hcs:cs.set k c=cs:=by
  refine List.ext_getElem? fun i=> ?_;by_cases e:k=i
  ·subst e;rw [zI hkl,hc]
  ·rw [zJ e]
 have hrow:rows[k]? =some (rows[k]'(by rw [←hN.len];exact hkl)):=zB _;have hapart:=(hN.each k c _ hc hrow).2;have hbx:H[bx]? =some (.cells 1 (cs.map fun c=>[c])):=by
  rcases hN.out.1 with⟨e,_⟩ | ⟨b,e,h1,h2⟩
  ·cases e
  ·injection e with e1;subst e1;exact h2
 have keep: ∀b o',H[b]? =some o'→b≠bx→(∀off len,cs[k]? ≠some (.own b off len))→H1[b]? =some o':=fun b o' hb hne hnc=>hk b o' hb fun off len e=>hnc off len (by rw [hc,e]);have hset:(cs.map fun c=>[c]).set k [c]=cs.map fun c=>[c]:=by rw [←List.map_set (f:=fun c:AV=>[c]),hcs]
 have h1:=hN.put rfl hkl hd.rs (d:=c) (s:=q) (h':=H1) (fun b off len e=>⟨(hapart b off len e).1,fun eb=>(hapart b off len e).2 0 cs.length (by rw [eb]),fun off' len' hm=>by
  obtain⟨j,hj⟩:=List.getElem?_of_mem hm;have:=hN.apart k j b off len off' len' (by rw [hc,e]) hj;rw [this];exact hj⟩) keep (by
   rw [hset];exact hk bx _ hbx fun off len e=>(hapart bx off len e).2 0 cs.length rfl)
 have h2:=hNL.put hN rfl hkl hd keep;rw [hcs] at h1 h2;exact⟨h1,h2⟩
def Oq (n lo:Nat)(h:ak)(x:AV)(es:List (List AV)):Prop:=
 ((x= .nil∧es=[])∨ ∃b off all,x= .own b off es.length∧lo≤b∧h[b]? =some (.cells n all)∧off+es.length≤all.length∧(all.drop off).take es.length=es)∧ ∀e∈es,e.length=n
section
variable {P : Program} {n lo : Nat} {h h' : ak} {x s : AV} {es ys : List (List AV)} {k : AV → ak → Prop} {ts : List TypeId}
theorem Ls.oq (r:Ls n lo h x es):Oq n lo h x es:=by
 obtain⟨r,hn⟩:=r;refine⟨?_,hn⟩;rcases r with h1 | ⟨b,rfl,hl,hb⟩
 ·exact .inl h1
 ·exact .inr ⟨b,0,es,rfl,hl,hb,by omega,by simp⟩
theorem Oq.rs (r:Oq n lo h x es):Rs n h x es:=by
 obtain⟨r,hn⟩:=r;rcases r with⟨rfl,rfl⟩ | ⟨b,off,all,rfl,hl,hb,hle,he⟩
 ·exact Rs.nil
 ·exact Rs.sub hb hle he.symm hn
theorem Oq.more (r:Oq n lo h x es)(g:ak):Oq n lo (h++g) x es:=by
 obtain⟨r,hn⟩:=r;refine⟨?_,hn⟩;rcases r with h1 | ⟨b,off,all,rfl,hl,hb,hle,he⟩
 ·exact .inl h1
 ·refine .inr ⟨b,off,all,rfl,hl,?_,hle,he⟩;rw [zC (zA.1 hb).1];exact hb
theorem Oq.put {b:Nat} {o:cZ} (r:Oq n lo h x es)(hb:b<lo):Oq n lo (h.set b o) x es:=by
 obtain⟨r,hn⟩:=r;refine⟨?_,hn⟩;rcases r with h1 | ⟨b',off,all,rfl,hl,hb',hle,he⟩
 ·exact .inl h1
 ·exact .inr ⟨b',off,all,rfl,hl,by rw [zJ (by omega)];exact hb',hle,he⟩
theorem Oq.keep (r:Oq n lo h x es)(hk: ∀b off len o,x= .own b off len→h[b]? =some o→h'[b]? =some o):Oq n lo h' x es:=by
 obtain⟨r,hn⟩:=r;refine⟨?_,hn⟩;rcases r with h1 | ⟨b',off,all,rfl,hl,hb',hle,he⟩
 ·exact .inl h1
 ·exact .inr ⟨b',off,all,rfl,hl,hk _ _ _ _ rfl hb',hle,he⟩
theorem Oq.drop {e:List AV} (r:Oq n lo h x (e::es)): ∃b off,x= .own b off (es.length+1)∧Oq n lo h (.own b (off+1) es.length) es:=by
 obtain⟨r,hn⟩:=r;rcases r with⟨_,h1⟩ | ⟨b,off,all,rfl,hl,hb,hle,he⟩
 ·cases h1
 ·refine⟨b,off,rfl,.inr ⟨b,off+1,all,rfl,hl,hb,by simp at hle;omega,?_⟩,fun y hy=>hn y (List.mem_cons_of_mem _ hy)⟩;rw [←List.drop_drop];have h1:all.drop off≠[]:=by
   intro h0;rw [h0] at he;simp at he
  obtain⟨y,l,hyl⟩:=List.exists_cons_of_ne_nil h1;rw [hyl] at he ⊢;simp only [List.length_cons,List.take_succ_cons,List.cons.injEq] at he;simpa using he.2
theorem Oq.tail (P:Program) {e:List AV} (r:Oq n lo h x (e::es))(hn:0<n):Oq n lo h (aS x (some 1) none) es∧(∀t,(ax P t).ok=true→(ax P t).cells=n→aU P h (.slice t) x (some 1) none)∧(aS x (some 1) none).core=aS x (some 1) none∧(aS x (some 1) none).gd=true:=by
 have hc:=r.rs.cut P hn (some 1) none (by simp [eD,tQ,eY];omega);obtain⟨b,off,rfl,h2⟩:=r.drop;have e1:aS (.own b off (es.length+1)) (some 1) none= .own b (off+1) es.length:=by simp [aS,eY]
 rw [e1];exact⟨h2,hc.2,rfl,rfl⟩
theorem Oq.above (r:Oq n lo h x es): ∀b off len,x= .own b off len→lo≤b:=by
 intro b off len e;rcases r.1 with⟨e1,_⟩ | ⟨b',_,_,e1,hl,_⟩
 ·rw [e1] at e;cases e
 ·rw [e1] at e;injection e with e2;omega
theorem Oq.slOk (r:Oq n lo h x es):slOk h x:=r.rs.slOk
theorem Oq.aelems (r:Oq n lo h x es):aelems h x=es:=r.rs.aelems
theorem GK (r:Oq n lo h s es)(hlo:lo≤h.length)(hok:bu P h ts n x ys)(hl:es.length+ys.length≤100000000)
  (hc: ∀s' h',Ls n lo h' s' (es++ys)→Grow lo h s h'→(∀b off len,s'= .own b off len→h.length≤b)→k s' h'):ae P h ts s x∧ai n h s x k:=by
 unfold bu at hok;split at hok
 ·rename_i t u;obtain⟨hu,huo,ht,hx,hy,hyn⟩:=hok;split at ht
  ·rename_i e he;obtain⟨hz,hcn,hn0,hbt⟩:=ht;have hes:=r.aelems;have hlen:(es.length+ys.length)*(ax P e).bytes≤140737488355328:=Nat.le_trans (Nat.mul_le_mul hl hbt) (by omega);refine⟨⟨hu,huo,?_⟩,?_⟩
   ·rw [he];refine⟨hz,by omega,?_,r.slOk,hx,by rw [hes,hcn];exact r.2,by rw [hy,hcn];exact hyn,by rw [hes,hy];exact hlen,by rw [hes,hy];omega⟩;rcases r.1 with⟨rfl,_⟩ | ⟨b,off,all,rfl,_,hb,_⟩
    ·trivial
    ·simp [hb,hcn]
   ·have hall: ∀e∈es++ys,e.length=n:=by
     intro e he;rcases List.mem_append.1 he with h1 | h1
     ·exact r.2 e h1
     ·exact hyn e h1
    rcases r.1 with⟨rfl,rfl⟩ | ⟨b,off,all,rfl,hlb,hb,_⟩
    ·unfold ai;rw [hy];refine⟨fun h0=>hc _ _ ⟨.inl ⟨rfl,by simp [h0]⟩,hall⟩ ⟨fun b o hb _=>hb,fun h₀ _ hg=>hg,Nat.le_refl _⟩ (by simp),fun h0=>hc _ _ ⟨.inr ⟨h.length,by simp,hlo,by simp⟩,hall⟩ ⟨fun b o hb _=> ?_,?_,by simp⟩ (by simp)⟩
     ·rw [zC (zA.1 hb).1];exact hb
     ·rintro h₀ _ ⟨g,rfl⟩;exact⟨g++_,by rw [zK]⟩
    ·unfold ai;rw [hes,hy];refine hc _ _ ⟨.inr ⟨h.length,by simp,hlo,by simp⟩,hall⟩ ⟨fun b' o hb' hne=> ?_,?_,by simp⟩ (by simp)
     ·have hbb:b'≠b:=by rintro rfl;exact hne off es.length rfl
      rw [zC (by simp;exact (zA.1 hb').1),zJ (Ne.symm hbb)];exact hb'
     ·rintro h₀ hl₀ ⟨g,rfl⟩;refine⟨g.set (b - h₀.length) .dead++[.cells n (es++ys)],?_⟩;rw [List.set_append,if_neg (by omega),zK]
  ·exact ht.elim
 ·exact hok.elim
end
end Go.Abs
namespace Go.Abs
open Go
def Lz (n lo:Nat)(h:ak)(x:AV)(es:List (List AV)):Prop:=Ls n lo h x es∨(x= .e0∧es=[])
section
variable {P : Program} {gl : aR} {n lo : Nat} {h h' : ak} {x s : AV} {es ys : List (List AV)} {k : AV → ak → Prop} {ts : List TypeId}
theorem Ls.z (r:Ls n lo h x es):Lz n lo h x es:= .inl r
theorem Lz.nil:Lz n lo h .nil []:= .inl .nil
theorem Lz.rs (r:Lz n lo h x es):Rs n h x es:=by
 rcases r with r | ⟨rfl,rfl⟩
 ·exact r.rs
 ·exact .inr ⟨rfl,.inr rfl⟩
theorem Lz.more (r:Lz n lo h x es)(g:ak):Lz n lo (h++g) x es:=r.imp (fun r=>r.more g) id
theorem Lz.above (r:Lz n lo h x es): ∀b off len,x= .own b off len→lo≤b:=by
 rcases r with r | ⟨rfl,rfl⟩
 ·exact r.above
 ·intro b off len e;cases e
theorem Ls.inside (r:Ls n lo h x es): ∀b off len,x= .own b off len→b<h.length:=by
 intro b off len e;rcases r.1 with⟨e1,_⟩ | ⟨b',e1,_,hb⟩
 ·rw [e1] at e;cases e
 ·rw [e1] at e;injection e with e2;rw [←e2];exact aK hb
theorem Lz.frz (r:Lz n lo h x es) {m:Nat} (hm:m≤lo)(hd: ∀e∈es,∀y∈e,y.Data):qy m h x (.ro es):=by
 rcases r with r | ⟨rfl,rfl⟩
 ·exact r.frz hm hd
 ·exact .e0
theorem Lz.lend (r:Lz n lo h x es): ∃ks,(∀b∈ks,lo≤b∧ ∃off len,x= .own b off len)∧gq ks h x (.ro es):=by
 rcases r with r | ⟨rfl,rfl⟩
 ·exact r.lend
 ·exact⟨[],by simp,.e0⟩
theorem P6 (hlo:lo≤h.length)(hok:bu P h ts n x ys)(hl:ys.length≤100000000)
  (hc: ∀s' h',Lz n lo h' s' ys→Grow lo h .e0 h'→(∀b off len,s'= .own b off len→h.length≤b)→k s' h'):ae P h ts .e0 x∧ai n h .e0 x k:=by
 unfold bu at hok;split at hok
 ·rename_i t u;obtain⟨hu,huo,ht,hx,hy,hyn⟩:=hok;split at ht
  ·rename_i e he;obtain⟨hz,hcn,hn0,hbt⟩:=ht;have hes:aelems h .e0=[]:=rfl;have hlen:(0+ys.length)*(ax P e).bytes≤140737488355328:=Nat.le_trans (Nat.mul_le_mul (by omega:0+ys.length≤100000000) hbt) (by omega);refine⟨⟨hu,huo,?_⟩,?_⟩
   ·rw [he];refine⟨hz,by omega,trivial,trivial,hx,by rw [hes];simp,by rw [hy,hcn];exact hyn,by rw [hes,hy];exact hlen,by rw [hes,hy];simp;omega⟩
   ·unfold ai;rw [hy];refine⟨fun h0=>hc _ _ (.inr ⟨rfl,h0⟩) ⟨fun b o hb _=>hb,fun h₀ _ hg=>hg,Nat.le_refl _⟩ (by simp),fun h0=>hc _ _ (.inl ⟨.inr ⟨h.length,rfl,hlo,by simp⟩,hyn⟩) ⟨fun b o hb _=> ?_,?_,by simp⟩ (by simp)⟩
    ·rw [zC (zA.1 hb).1];exact hb
    ·rintro h₀ _ ⟨g,rfl⟩;exact⟨g++_,by rw [zK]⟩
  ·exact ht.elim
 ·exact hok.elim
theorem GJ (r:Lz n lo h s es)(hlo:lo≤h.length)(hok:bu P h ts n x ys)(hl:es.length+ys.length≤100000000)
  (hc: ∀s' h',Lz n lo h' s' (es++ys)→Grow lo h s h'→(∀b off len,s'= .own b off len→h.length≤b)→k s' h'):ae P h ts s x∧ai n h s x k:=by
 rcases r with r | ⟨rfl,rfl⟩
 ·exact aG r hlo hok hl fun s' h' a=>hc s' h' a.z
 ·exact P6 hlo hok (by simpa using hl) fun s' h' a=>hc s' h' (by simpa using a)
theorem Nv {J:List eF} {w:World} (hh:dm gl h J w)(ks:List Nat) {b:Nat} {es es':List (List AV)} (hb:h[b]? =some (.cells n es))(hbk:b∉ks)(hl:es'.length=es.length)
  (hlen: ∀(i:Nat) (e e':List AV),es[i]? =some e→es'[i]? =some e'→e'.length=e.length)
  (hc: ∀(i:Nat) (e e':List AV) (c:Nat) (x x':AV),es[i]? =some e→es'[i]? =some e'→e[c]? =some x→e'[c]? =some x'→gq ks h x x'):
  dm gl ((killL h ks).set b (.cells n es')) J w∧jE h J w ((killL h ks).set b (.cells n es')) J w∧Own ((killL h ks).set b (.cells n es')) J=Own (killL h ks) J:=by
 obtain⟨hk,ev⟩:=hh.killL ks;have hbK:(killL h ks)[b]? =some (.cells n es):=by rw [iH ks h b hbk];exact hb
 have hbl:=aK hbK;have conv: ∀(b1:Nat) (o:cZ),((killL h ks).set b (.cells n es'))[b1]? =some o→ ∃o1,(killL h ks)[b1]? =some o1∧(o≠ .dead→o1≠ .dead)∧(b1≠b→o1=o):=by
  intro b1 o ho;by_cases e:b1=b
  ·subst e;exact⟨_,hbK,fun _=>by simp,fun q=>absurd rfl q⟩
  ·rw [zJ (Ne.symm e)] at ho;exact⟨o,ho,id,fun _=>rfl⟩
 have hO:Own ((killL h ks).set b (.cells n es')) J=Own (killL h ks) J:=by
  funext r
  refine propext ⟨?_,?_⟩
  ·rintro⟨b1,k1,o,h1,h2,h3,h4⟩;obtain⟨o1,q1,q2,_⟩:=conv b1 o h2;exact⟨b1,k1,o1,h1,q1,q2 h3,h4⟩
  ·rintro⟨b1,k1,o,h1,h2,h3,h4⟩;by_cases e:b1=b
   ·subst e;exact⟨b1,k1,.cells n es',h1,zI hbl,by simp,h4⟩
   ·exact⟨b1,k1,o,h1,by rw [zJ (Ne.symm e)];exact h2,h3,h4⟩
 refine⟨⟨by rw [List.length_set];exact hk.len,?_,hk.lt,?_,fun g cs hg=>by rw [hO];exact hk.glob g cs hg⟩,?_,hO⟩
 ·intro b1 b2 k1 k2 o1 o2 h1 h2 h3 h4 h5 h6 h7;obtain⟨p1,q1,q2,_⟩:=conv b1 o1 h3;obtain⟨p2,q3,q4,_⟩:=conv b2 o2 h4;exact hk.inj b1 b2 k1 k2 p1 p2 h1 h2 q1 q3 (q2 h5) (q4 h6) h7
 ·intro b1 k1 o h1 h2;rw [hO];by_cases e:b1=b
  ·subst e;rw [zI hbl] at h2;injection h2 with h2;subst h2;obtain⟨q1,q2,q3,q4,vs,T,q5,q6,q7⟩:=hh.obj b1 k1 _ h1 hb;refine⟨q1,q2,by omega,fun i e' hi=> ?_,vs,T,q5,q6,fun i e' c x' hi hx=> ?_⟩
   ·have hlt:=aK hi;have he:es[i]? =some (es[i]'(by omega)):=zB (by omega);rw [hlen i _ e' he hi];exact q4 i _ he
   ·have hlt:=aK hi;have he:es[i]? =some (es[i]'(by omega)):=zB (by omega);have hcl:=aK hx;have hel:=hlen i _ e' he hi;have hxe:(es[i]'(by omega))[c]? =some ((es[i]'(by omega))[c]'(by omega)):=zB (by omega);obtain⟨u,p1,p2,p3⟩:=q7 i _ c _ he hxe;exact⟨u,p1,p2,gq.sound hh (hc i _ e' c _ x' he hi hxe hx) p3⟩
  ·rw [zJ (Ne.symm e)] at h2;exact hk.obj b1 k1 o h1 h2
 ·refine ev.trans ⟨⟨[],by simp⟩,Nat.le_refl _,fun r _ hn=>⟨rfl,by rw [hO];exact hn⟩,rfl,rfl,rfl⟩
theorem aW.freezeH {N:Nat} {c:Code} {Q:dN} {fr fr':aP} (ks:List Nat) {b:Nat} {es es':List (List AV)} (hb:h[b]? =some (.cells n es))(hbk:b∉ks)(hl:es'.length=es.length)
  (hlen: ∀(i:Nat) (e e':List AV),es[i]? =some e→es'[i]? =some e'→e'.length=e.length)
  (hc: ∀(i:Nat) (e e':List AV) (c:Nat) (x x':AV),es[i]? =some e→es'[i]? =some e'→e[c]? =some x→e'[c]? =some x'→gq ks h x x')
  (hf: ∀t,gq ks h (fr t) (fr' t)) (k:aW P gl N c Q fr' ((killL h ks).set b (.cells n es'))):aW P gl N c Q fr h:=by
 intro J a w r;obtain⟨hk,ev,hO⟩:=Nv r.heap ks hb hbk hl hlen hc;have r':qB gl N J fr' ((killL h ks).set b (.cells n es')) a w:=⟨r.size,r.defers,fun t=>by rw [hO];exact gq.sound r.heap (hf t) (r.tmps t),hk⟩;exact wp_mono (k J a w r') fun _ _ _ hl=>oK ev hl
theorem aW.freezeL {N:Nat} {c:Code} {Q:dN} {fr:aP} (t0:Nat)(hx:fr t0=x)(r:Lz n lo h x es)
  (k: ∀fr' h',fr' t0= .ro es→(∀t,t≠t0→fr' t=fr t)→Grow lo h x h'→h'.length=h.length→aW P gl N c Q fr' h'):aW P gl N c Q fr h:=by
 obtain⟨ks,hks,hf⟩:=r.lend;refine aW.freeze (fr':=fun t=>if t=t0 then .ro es else fr t) ks (fun t=> ?_) (k _ _ (by simp) (fun t ht=>by simp [ht]) ⟨fun b o hb hne=> ?_,fun h₀ hl₀ hg=> ?_,by rw [iT];exact Nat.le_refl _⟩ (iT _ _))
 ·by_cases e:t=t0
  ·subst e;rw [if_pos rfl,hx];exact hf
  ·rw [if_neg e];exact .same _
 ·rw [iH ks h b fun hb=> ?_]
  ·exact hb
  ·obtain⟨_,off,len,e⟩:=hks b hb;exact hne off len e
 ·obtain⟨g,rfl⟩:=hg;exact jk ks h₀ g fun b hb=>by have:=(hks b hb).1;omega
theorem aW.freezeF {N:Nat} {c:Code} {Q:dN} {fr:aP} (t0 b m:Nat)(pre post:List AV)(hx:fr t0=x)(r:Lz n lo h x es)(hb:h[b]? =some (.cells m [pre++x::post]))(hne: ∀off len,x≠ .own b off len)
  (k: ∀fr' h',fr' t0= .ro es→(∀t,t≠t0→fr' t=fr t)→h'[b]? =some (.cells m [pre++ .ro es::post])→(∀(b':Nat) (o:cZ),b'≠b→h[b']? =some o→(∀off len,x≠ .own b' off len)→h'[b']? =some o)→
   (∀h₀:ak,h₀.length≤lo→h₀.length≤b→(∃g,h=h₀++g)→ ∃g,h'=h₀++g)→h'.length=h.length→aW P gl N c Q fr' h'):aW P gl N c Q fr h:=by
 obtain⟨ks,hks,hf⟩:=r.lend;have hbk:b∉ks:=fun hb=>by obtain⟨_,off,len,e⟩:=hks b hb;exact hne off len e
 have hbl:b<(killL h ks).length:=by rw [iT];exact aK hb
 refine aW.freezeH (fr':=fun t=>if t=t0 then .ro es else fr t) ks (es':=[pre++ .ro es::post]) hb hbk rfl ?_ ?_ (fun t=> ?_) (k _ _ (by simp) (fun t ht=>by simp [ht]) (zI hbl) (fun b' o hne' ho hx'=> ?_) (fun h₀ hl₀ hl₁ hg=> ?_) (by rw [List.length_set,iT]))
 ·intro i e e' he he'
  cases i with
  | zero=>simp at he he';subst he;subst he';simp
  | succ i=>simp at he
 ·intro i e e' c y y' he he' hy hy'
  cases i with
  | succ i=>simp at he
  | zero=>
   simp only [List.length_cons,List.length_nil,List.getElem?_cons_zero,Option.some.injEq] at he he';subst he;subst he'
   rcases Nat.lt_trichotomy c pre.length with q | q | q
   ·rw [zC q] at hy hy';rw [hy] at hy';injection hy' with e;rw [e];exact .same _
   ·subst q;rw [zD (Nat.le_refl _),Nat.sub_self] at hy hy';simp at hy hy';subst hy;subst hy'
    exact hf
   ·rw [zD (by omega)] at hy hy';obtain⟨d,hd⟩: ∃d,c - pre.length=d+1:=⟨c - pre.length - 1,by omega⟩;rw [hd] at hy hy';simp only [List.getElem?_cons_succ] at hy hy';rw [hy] at hy';injection hy' with e;rw [e];exact .same _
 ·by_cases e:t=t0
  ·subst e;rw [if_pos rfl,hx];exact hf
  ·rw [if_neg e];exact .same _
 ·rw [zJ (Ne.symm hne'),iH ks h b' fun hb=> ?_]
  ·exact ho
  ·obtain⟨_,off,len,e⟩:=hks b' hb;exact hx' off len e
 ·obtain⟨g,rfl⟩:=hg;obtain⟨g',hg'⟩:=jk ks h₀ g fun b hb=>by have:=(hks b hb).1;omega
  rw [hg',List.set_append_right _ _ hl₁];exact⟨_,rfl⟩
end
def jL:Code→Nat
 | .region id _ _=>id+1
 | .seq a _=>jL a
 | .block _ c=>jL c
 | _=>0
@[simp] theorem Ut (id:Nat) (ops:Array Oper) (d:Bool):jL (.region id ops d)=id+1:=rfl
@[simp] theorem WY (a b:Code):jL (.seq a b)=jL a:=rfl
@[simp] theorem UY (id:Nat) (b:Code):jL (.block id b)=jL b:=rfl
@[simp] theorem VM (c:Operand) (a b:Code):jL (.cond c a b)=0:=rfl
@[simp] theorem VP:jL .skip=0:=rfl
@[simp] theorem VO (c:Code):jL (.loop c)=0:=rfl
@[simp] theorem VN (c:Nat):jL (.exit c)=0:=rfl
@[simp] theorem UZ (c:Nat):jL (.label c)=0:=rfl
@[simp] theorem WX:jL .ret=0:=rfl
def vG (Q:dN):dN
 | .goto _,_,_=>False
 | e,fr,h=>Q e fr h
theorem aW.scope {P:Program} {gl:aR} {N:Nat} {fr:aP} {h:ak} {Q:dN} {c:Code} (hc:aW P gl N c (vG Q) fr h):aW P gl N (.scope c) Q fr h:=by
 intro J a w r;refine wp_scope_straight (wp_mono (hc J a w r) ?_);rintro e a' w' ⟨J',fr',h',p1,p2,p3⟩
 cases e with
 | goto l=>exact p3.elim
 | _=>exact⟨J',fr',h',p1,p2,p3⟩
@[simp] theorem Ux {Q:dN} {fr:aP} {h:ak}:vG Q .normal fr h↔Q .normal fr h:=Iff.rfl
@[simp] theorem Xi {Q:dN} {fr:aP} {h:ak}:vG Q .ret fr h↔Q .ret fr h:=Iff.rfl
@[simp] theorem VW {Q:dN} {fr:aP} {h:ak} (id:Nat):vG Q (.exit id) fr h↔Q (.exit id) fr h:=Iff.rfl
def lF (s:Nat)(P:Program)(gl:aR)(N:Nat):Code→dN→aP→ak→Prop
 | .skip,Q,fr,h=>Q .normal fr h
 | .label _,Q,fr,h=>Q .normal fr h
 | .seq a b,Q,fr,h=>lF s P gl N a (iY (fun fr h=>if jL b=s+1 then aW P gl N b Q fr h else lF s P gl N b Q fr h) Q) fr h
 | .cond c x y,Q,fr,h=>(ev gl fr c).gd=true∧MQ (ev gl fr c).core (uh (lF s P gl N x Q) (lF s P gl N y Q) fr h)
 | .block id c,Q,fr,h=>lF s P gl N c (jZ id Q) fr h
 | .exit id,Q,fr,h=>Q (.exit id) fr h
 | .ret,Q,fr,h=>Q .ret fr h
 | .region _ ops false,Q,fr,h=>iL P gl N false ops ops.toList (Q .normal) fr h
 | .region _ ops true,Q,fr,h=>lH ops=true∧iL P gl N true ops ops.toList (Q .normal) fr h
 | .loop c,Q,fr,h=>aW P gl N (.loop c) Q fr h
 | .scope c,Q,fr,h=>lF s P gl N c (vG Q) fr h
 | _,_,_,_=>False
section
variable {P : Program} {gl : aR} {N s : Nat} {fr : aP} {h : ak} {Q : dN} {ops : Array Oper}
theorem aW.of_awpF (hm:P.follows .mixedOrders=true): ∀(c:Code) (Q:dN) (fr:aP) (h:ak),lF s P gl N c Q fr h→aW P gl N c Q fr h
 | .skip,Q,fr,h,hs=>aW.skip hs
 | .label _,Q,fr,h,hs=>aW.label hs
 | .seq a b,Q,fr,h,hs=>by
  refine aW.seq ((aW.of_awpF hm a _ fr h hs).mono ?_);intro e fr' h' q
  cases e with
  | normal=>
   have q:if jL b=s+1 then aW P gl N b Q fr' h' else lF s P gl N b Q fr' h':=q
   split at q
   ·exact q
   ·exact aW.of_awpF hm b Q fr' h' q
  | _=>exact q
 | .cond c x y,Q,fr,h,hs=>by
  obtain⟨hg,hs⟩:=hs;unfold MQ at hs;split at hs
  ·rename_i t ht;intro J a w r;have re:=(qN (a:=a) r.heap (fun t' _=>r.tmps t'):aQ J (Own h J) w (ev gl fr c) (a.eval c)).core hg;rw [ht] at re;have hc:a.eval c= .bool t:=by
    generalize a.eval c=v at re;cases re
    rfl
   refine wp_cond hc ?_
   cases t with
   | true=>exact aW.of_awpF hm x Q fr h (hs.1 rfl) J a w r
   | false=>exact aW.of_awpF hm y Q fr h (hs.2 rfl) J a w r
  ·exact hs.elim
 | .block id c,Q,fr,h,hs=>aW.block (aW.of_awpF hm c _ fr h hs)
 | .exit id,Q,fr,h,hs=>aW.exit hs
 | .ret,Q,fr,h,hs=>aW.ret hs
 | .region _ ops false,Q,fr,h,hs=>aW.region hs
 | .region _ ops true,Q,fr,h,hs=>aW.region_draw hm hs.1 hs.2
 | .loop c,Q,fr,h,hs=>hs
 | .rangeFunc ..,_,_,_,hs=>hs.elim
 | .scope c,Q,fr,h,hs=>aW.scope (aW.of_awpF hm c _ fr h hs)
 | .goto _,_,_,_,hs=>hs.elim
 | .refuse _,_,_,_,hs=>hs.elim
theorem af.bodyF (s:Nat) {f:FuncId} (fn:Func)(c:Code) {args:List AV} {R:AV→ak→Prop} (hm:P.follows .mixedOrders=true)(hf:P.funcs[f]? =some fn)(hb:fn.body=some c)(hname:(fn.name== "runtime.NumGoroutine")=false)
  (hn:args.length≤fn.ntmps) (hc:lF s P gl fn.ntmps c (p8 P fn R) (x9 args) h):af P gl f args h R:=
 af.of_body' hf hb hname hn (aW.of_awpF hm c _ _ _ hc)
theorem aW.upF (s:Nat) {c:Code} (hm:P.follows .mixedOrders=true)(n:Nat)(I:Nat→aP→ak→Prop)(k:Nat)(hk:k≤n)(h0:I k fr h)
  (round: ∀k fr h,k≤n→I k fr h→lF s P gl N c (iY (fun fr' h'=> ∃k',k<k'∧k'≤n∧I k' fr' h') Q) fr h):aW P gl N (.loop c) Q fr h:=
 aW.loop_up n I k hk h0 fun k fr h h1 h2=>aW.of_awpF hm c _ _ _ (round k fr h h1 h2)
@[simp] theorem XF:lF s P gl N .skip Q fr h↔Q .normal fr h:=Iff.rfl
@[simp] theorem Wx (l:Nat):lF s P gl N (.label l) Q fr h↔Q .normal fr h:=Iff.rfl
@[simp] theorem Yx (a b:Code):lF s P gl N (.seq a b) Q fr h↔lF s P gl N a (iY (fun fr h=>if jL b=s+1 then aW P gl N b Q fr h else lF s P gl N b Q fr h) Q) fr h:=Iff.rfl
@[simp] theorem XB (c:Operand) (x y:Code):lF s P gl N (.cond c x y) Q fr h↔(ev gl fr c).gd=true∧MQ (ev gl fr c).core (uh (lF s P gl N x Q) (lF s P gl N y Q) fr h):=Iff.rfl
@[simp] theorem Ww (id:Nat) (c:Code):lF s P gl N (.block id c) Q fr h↔lF s P gl N c (jZ id Q) fr h:=Iff.rfl
@[simp] theorem XD (id:Nat):lF s P gl N (.exit id) Q fr h↔Q (.exit id) fr h:=Iff.rfl
@[simp] theorem Yw:lF s P gl N .ret Q fr h↔Q .ret fr h:=Iff.rfl
@[simp] theorem VE (id:Nat):lF s P gl N (.region id ops false) Q fr h↔iL P gl N false ops ops.toList (Q .normal) fr h:=Iff.rfl
@[simp] theorem XC (id:Nat):lF s P gl N (.region id ops true) Q fr h↔lH ops=true∧iL P gl N true ops ops.toList (Q .normal) fr h:=Iff.rfl
@[simp] theorem Wy (c:Code):lF s P gl N (.scope c) Q fr h↔lF s P gl N c (vG Q) fr h:=Iff.rfl
@[simp] theorem XE (c:Code):lF s P gl N (.loop c) Q fr h↔aW P gl N (.loop c) Q fr h:=Iff.rfl
end
end Go.Abs
end
section
namespace Go.Toll
open Go Go.Abs
def mO (a b:Bytes):Int:=if Op.bytesLess a b then -1 else if a=b then 0 else 1
theorem yn (a b:Bytes):mO a b=Lib.compareBytes a b:=by
 have h1:=gD a b;have h2:=ma a b;have h3:=zy a b;rw [mO,←h1];by_cases hl:Lib.compareBytes a b<0
 ·rw [if_pos (by simpa using hl)];omega
 ·rw [if_neg (by simpa using hl)];by_cases he:a=b
  ·rw [if_pos he];exact (h2.2 he).symm
  ·rw [if_neg he];have:Lib.compareBytes a b≠0:=fun h=>he (h2.1 h);omega
theorem QY:iV mO:=by
 have:mO=Lib.compareBytes:=by funext a b;exact yn a b
 rw [this];exact oO
theorem jy {a b:Bytes}:mO a b=0↔a=b:=by rw [yn];exact ma a b
theorem Sa {a b:Bytes}:mO a b<0↔Op.bytesLess a b=true:=by
 rw [yn,←gD];simp
end Go.Toll
end
