/- Part 8 of the lemmas below the statements of this seat: Topo, AbsMore, TollCmp. -/
import Derived.Test.YtkpioblbeiaefaaGreatPr06
import Derived.Test.YtkpioblbeiaefaaGreatPr07
import Derived.Scope
set_option linter.unusedSectionVars false
set_option linter.unusedVariables false
set_option linter.unusedSimpArgs false
set_option linter.unnecessarySimpa false
set_option maxRecDepth 100000
section
namespace Go.Proofs.YtkpioblbeiaefaaGreat
open Go Go.Abs Go.Toll
variable {gl : aM} {h : af}
theorem DL (b:Nat)(y:nL)(s:Bytes)(hb:h[b]? =some (.cells 1 [[.str s]])):aa Tryz.prog gl 126 [.agg (dO y),.ptr b 0 0] h fun v h'=>v= .bool (decide (y.name=s))∧h'=h:=by
 refine aa.data (by simp) (aa.body Tryz.f126 _ mixed Tryz.func126 rfl rfl (by simp [Tryz.ntmps126]) ?_);obtain⟨hlt,hb'⟩:=zA.1 hb;simp [hb',hlt];rw [Bool.eq_iff_iff];simp
theorem lw (l:List nL)(s:Bytes)(hl:l.length≤1000):aa Tryz.prog gl 87 [.ro (l.map dO),.str s] h fun v h'=>v= .tup [.agg (dO ((dY l s).getD sys0)),.bool (dY l s).isSome]∧h'=h:=by
 refine aa.data (by simp) (aa.body Tryz.f87 _ mixed Tryz.func87 rfl rfl (by simp [Tryz.ntmps87]) ?_);simp;refine ax.pure _ (fun _=>xR _ (l.map dO) (Rd.ro (by simp)) (by simp;omega) 126 [.ptr h.length 0 0] (fun e=>decide (strOf (e.getD 0 .junk)=s)) ?_) ?_
 ·intro e he g;obtain⟨y,_,rfl⟩:=List.mem_map.1 he;exact DL (h:=h++[.cells 1 [[.str s]],.cells 3 [dO sys0]]++g) h.length y s (by simp)
 have hm:kN (fun e=>decide (strOf (e.getD 0 .junk)=s)) (l.map dO)=kN (fun y:nL=>decide (y.name=s)) l:=Jg _ _ _ (fun y=>rfl) l;rw [hm,dY];rcases o8 (fun y:nL=>decide (y.name=s)) l with⟨h1,h2⟩ | ⟨k,x,h1,h2,h3⟩
 ·rw [h1,h2];simp [sys0]
 ·rw [h1,h3];obtain⟨hk,hk'⟩:=zA.1 h2;have hk0: ¬(k:Int)<0:=by omega
  simp [hk,hk',h2]
theorem EB (l:List nL)(p:Pt)(hl:l.length≤1000):aa Tryz.prog gl 162 [.ro (l.map dO),.agg (jI p)] h fun v h'=>v= .bool (qg l p)∧h'=h:=by
 refine aa.data (by simp) (aa.body Tryz.f162 _ mixed Tryz.func162 rfl rfl (by simp [Tryz.ntmps162]) ?_);simp;refine ax.pure _ (fun _=>lw l p.sys hl) ?_;have e1: ∀b:Bool,(b==true)=b:=by decide
 have e2: ∀b:Bool,(b==false)= !b:=by decide
 by_cases k2:p.kind=2
 ·cases hf:dY l p.sys <;> simp [qg,k2,hf]
 by_cases k3:p.kind=3
 ·cases hf:dY l p.sys <;> simp [qg,k3,hf]
 by_cases k1:p.kind=1
 ·cases hf:dY l p.sys <;> simp [qg,k1,hf,e2]
 cases hf:dY l p.sys <;> simp [qg,k1,k2,k3,hf] <;> (try (rw [Bool.eq_iff_iff];simp))
def Az (id:Nat):Option (List (Nat×Nat)):=if id=11 then some [(1,11),(3,11),(5,11),(6,11)] else none
set_option maxHeartbeats 1000000 in
theorem tT (t:aY)(hp:t.net.pts.length≤1000)(hl:t.net.lks.length≤1000)(hs:t.sys.length≤1000):aa Tryz.prog gl 124 [.agg (aA t)] h fun v h'=>v= .int .i64 (bX t)∧h'=h:=by
 refine aa.data (by simp) (aa.bodyL Az Tryz.f124 _ mixed Tryz.func124 rfl rfl (by simp [Tryz.ntmps124]) ?_);simp [Az];refine ax.pure _ (fun _=>sH t.net hp hl) ?_;simp;refine⟨fun hz=>by simp [bX,hz],fun hz=>⟨fun hgt=> ?_,fun hle=> ?_⟩⟩
 ·have:64<t.sys.length:=by omega
  simp [bX,hz,this]
 have hle': ¬64<t.sys.length:=by omega
 have hte:bX t=if eO [] t.sys≠0 then eO [] t.sys else if t.net.pts.all (qg t.sys) then 0 else 16:=by rw [bX,if_neg (by simp [hz]),if_neg hle']
 refine aT.upL Az mixed t.sys.length (fun i fr h'=>fr 1= .ptr h.length 0 0∧fr 21= .ro (t.sys.map dO)∧fr 22= .int .i64 t.sys.length∧fr 23= .int .i64 i∧
  eO [] t.sys=eO (t.sys.take i) (t.sys.drop i)∧ ∃g,h'=h++ .cells 3 [aA t]::g) 0 (by omega) ⟨by simp,by simp,by simp,by simp,by simp,[],by simp⟩ ?_
 rintro i fr h' hi ⟨e1,e21,e22,e23,hf,g,rfl⟩;rcases zN i t.sys.length with hlt | hge
 ·obtain⟨y,hg,hg'⟩:=aJ hlt;rw [bq hg,eO] at hf;have ew:=aB (i:=i) (by omega);have ht:t.sys.take (i+1)=t.sys.take i++[y]:=by rw [zM,hg];rfl
  have hil:(i:Int)≤t.sys.length:=by omega
  obtain⟨A,hA⟩: ∃A,t.sys.take i=A:=⟨_,rfl⟩;have hAl:A.length≤1000:=by rw [←hA];simp;omega
  have htm:(t.sys.map dO).take i=A.map dO:=by rw [←hA,List.map_take]
  rw [hA] at hf ht;simp [Az,e1,e21,e22,e23,hlt,hg,hg',ew];refine ax.pure _ (fun _=>yQ y.name) ?_;simp [e1,e21,e22,e23,hlt,hg,hg',ew,hil,hi,htm];refine⟨fun q1=>by rw [hte,hf];simp [q1],fun q1=>⟨by decide,?_⟩⟩;refine ax.pure _ (fun _=>lw A y.name hAl) ?_;simp [e1,e21,e22,e23,hlt,hg,hg',ew,hil,hi,htm];refine⟨ax.pure _ (fun _=>lw A y.name hAl) (by simp),fun q2=>by rw [hte,hf];simp [q1,q2],fun q2=> ?_⟩;have q2': ¬(dY A y.name).isSome=true:=by rw [q2];simp
  refine⟨fun a b=>⟨⟨a,b⟩,fun c=>⟨⟨a,b⟩,c⟩⟩,fun q3=> ?_,fun q3 q4 q5=>⟨i+1,by omega,by omega,by omega,?_⟩⟩
  ·have hS:eO [] t.sys=12:=by rw [hf,if_neg (by simp [q1]),if_neg q2',if_pos (by rcases q3 with (q3 | q3) | q3 <;> simp [q3])]
   rw [hte,hS];simp
  ·rw [hf,ht,if_neg (by simp [q1]),if_neg q2',if_neg (by rintro (a | a | ⟨a,b⟩) <;> first | omega | exact q5 a b)]
 ·rw [zH hge,eO] at hf;rw [hf] at hte;have hte:bX t=if t.net.pts.all (qg t.sys) then 0 else 16:=by simpa using hte
  simp [e1,e21,e22,e23,Nat.not_lt.2 hge];refine aT.up mixed t.net.pts.length (fun j fr h'=>fr 1= .ptr h.length 0 0∧fr 63= .ro (t.net.pts.map jI)∧fr 64= .int .i64 t.net.pts.length∧fr 65= .int .i64 j∧
   t.net.pts.all (qg t.sys)=(t.net.pts.drop j).all (qg t.sys)∧ ∃g,h'=h++ .cells 3 [aA t]::g) 0 (by omega) ⟨by simp [e1],by simp,by simp,by simp,by simp,g,by simp⟩ ?_
  clear e1 e21 e22 e23 hf hi hge;rintro j fr h' hj ⟨e1,e63,e64,e65,hf,g,rfl⟩;rcases zN j t.net.pts.length with hlt | hge
  ·obtain⟨p,hg,hg'⟩:=aJ hlt;rw [bq hg,List.all_cons] at hf;have ew:=aB (i:=j) (by omega);simp [e1,e63,e64,e65,hlt,hg,hg',ew];refine ax.pure _ (fun _=>EB t.sys p hs) ?_;simp [e1,e63,e64,e65,hlt,hg,hg',ew];refine⟨fun q=>by rw [hte,hf,q];simp,fun q=>⟨j+1,by omega,by omega,by omega,by rw [hf,q,Bool.true_and]⟩⟩
  ·rw [zH hge] at hf;simp [e1,e63,e64,e65,Nat.not_lt.2 hge,hte,hf]
theorem kw (t:aY)(hp:t.net.pts.length≤1000)(hl:t.net.lks.length≤1000)(hs:t.sys.length≤1000):aa Tryz.prog gl 86 [.agg (aA t)] h fun v h'=>v= .agg (aA (aH t))∧h'=h:=by
 refine aa.fresh (aa.body Tryz.f86 _ mixed Tryz.func86 rfl rfl (by simp [Tryz.ntmps86]) ?_);simp;refine ax.pure _ (fun _=>tT t hp hl hs) ?_;simp;refine⟨fun hz=> ?_,fun hz=> ?_⟩
 ·simp [aH,hz,FX];exact .agg' (.cons .nil (.cons .nil (.cons .nil .nil)))
 ·simp [aH,hz];exact .data _ (by simp)
theorem gU (t:aY)(s:Bytes)(hp:t.net.pts.length≤1000)(hl:t.net.lks.length≤1000)(hs:t.sys.length≤1000):aa Tryz.prog gl 47 [.agg (aA t),.str s] h fun v h'=>v= .tup [.agg (dO ((fF t s).getD sys0)),.bool (fF t s).isSome]∧h'=h:=by
 refine aa.data (by simp) (aa.body Tryz.f47 _ mixed Tryz.func47 rfl rfl (by simp [Tryz.ntmps47]) ?_);simp;refine ax.pure _ (fun _=>kw t hp hl hs) ?_;have hv:=jC t;rw [fF];generalize aH t=v at*;simp;refine ax.pure _ (fun _=>kL v.net s (by omega) (by omega)) ?_
 cases hf:dF v.net s with
 | none=>simp [KD,sys0]
 | some p=>
  by_cases hps:p.sys=[]
  ·simp [hps,sys0]
  ·simp [hps];refine ax.pure _ (fun _=>lw v.sys p.sys (by omega)) ?_;simp
theorem jg (t:aY)(s:Bytes)(hp:t.net.pts.length≤1000)(hl:t.net.lks.length≤1000)(hs:t.sys.length≤1000):aa Tryz.prog gl 46 [.agg (aA t),.str s] h fun v h'=>v= .int .i64 (kindOf t s)∧h'=h:=by
 refine aa.data (by simp) (aa.body Tryz.f46 _ mixed Tryz.func46 rfl rfl (by simp [Tryz.ntmps46]) ?_);simp;refine ax.pure _ (fun _=>kw t hp hl hs) ?_;have hv:=jC t;rw [kindOf];generalize aH t=v at*;simp;refine ax.pure _ (fun _=>kL v.net s (by omega) (by omega)) ?_;simp
theorem C9 (l:List nL)(s:Bytes)(hl:l.length≤1000):aa Tryz.prog gl 59 [.ro (l.map dO),.str s] h fun v h'=>v= .int .i64 (kN (fun y:nL=>decide (y.name=s)) l)∧h'=h:=by
 refine aa.data (.int _ _) (aa.body Tryz.f59 _ mixed Tryz.func59 rfl rfl (by simp [Tryz.ntmps59]) ?_);simp;refine aT.up mixed l.length (fun i fr h'=>fr 0= .ro (l.map dO)∧fr 1= .str s∧fr 5= .int .i64 i∧
  kN (fun y:nL=>decide (y.name=s)) l=idxFrom (fun y:nL=>decide (y.name=s)) i (l.drop i)∧ ∃g,h'=h++g) 0 (by omega) ⟨by simp,by simp,by simp,by simp [kN],[],by simp⟩ ?_
 rintro i fr h' hi ⟨e0,e1,e5,hf,g,rfl⟩;rcases zN i l.length with hlt | hge
 ·obtain⟨p,hg,hg'⟩:=aJ hlt;rw [bq hg,idxFrom] at hf;have ew:=aB (i:=i) (by omega);simp [e0,e1,e5,hlt,hg,hg',ew];refine⟨fun hq=> ?_,fun hq=>⟨i+1,by omega,by omega,by omega,?_⟩⟩
  ·simp [hq] at hf;rw [hf]
  ·simp [hq] at hf;exact hf
 ·rw [zH hge,idxFrom] at hf;simp [e0,e1,e5,Nat.not_lt.2 hge,hf]
theorem JY (t:aY)(p:Pt)(hs:t.sys.length≤1000)(hk:1≤p.kind∧p.kind≤4):aa Tryz.prog gl 60 [.agg (aA t),.agg (jI p)] h fun v h'=>v= .int .i64 (if qg t.sys p then 0 else 16)∧h'=h:=by
 refine aa.data (.int _ _) (aa.body Tryz.f60 _ mixed Tryz.func60 rfl rfl (by simp [Tryz.ntmps60]) ?_);simp;refine ax.pure _ (fun _=>C9 t.sys p.sys hs) ?_;rcases o8 (fun y:nL=>decide (y.name=p.sys)) t.sys with⟨h1,h2⟩ | ⟨k,x,h1,h2,h3⟩
 ·rw [h1];have h2:dY t.sys p.sys=none:=h2;rcases (by omega:p.kind=1∨p.kind=2∨p.kind=3∨p.kind=4) with q | q | q | q
  all_goals simp [q,qg,h2]
 ·rw [h1];have h3:dY t.sys p.sys=some x:=h3;obtain⟨hk1,hk2⟩:=zA.1 h2;rcases (by omega:p.kind=1∨p.kind=2∨p.kind=3∨p.kind=4) with q | q | q | q
  all_goals simp [q,qg,h3,hk1,hk2,h2]
set_option maxHeartbeats 1000000 in
theorem zO (t:aY)(hp:t.net.pts.length≤1000)(hl:t.net.lks.length≤1000)(hs:t.sys.length≤1000):aa Tryz.prog gl 30 [.agg (aA t)] h fun v h'=>v= .int .i64 (bX t)∧h'=h:=by
 refine aa.data (.int _ _) (aa.body Tryz.f30 _ mixed Tryz.func30 rfl rfl (by simp [Tryz.ntmps30]) ?_);simp;refine ax.pure _ (fun _=>zx t.net hp hl) ?_;simp;refine⟨fun hz=>by simp [bX,hz],fun hz=>⟨fun hgt=> ?_,fun hle=> ?_⟩⟩
 ·have:64<t.sys.length:=by omega
  simp [bX,hz,this]
 have hle': ¬64<t.sys.length:=by omega
 have hte:bX t=if eO [] t.sys≠0 then eO [] t.sys else if t.net.pts.all (qg t.sys) then 0 else 16:=by rw [bX,if_neg (by simp [hz]),if_neg hle']
 refine aT.up mixed t.sys.length (fun i fr h'=>fr 1= .ptr h.length 0 0∧fr 4= .int .i64 i∧
  eO [] t.sys=eO (t.sys.take i) (t.sys.drop i)∧ ∃g,h'=h++ .cells 3 [aA t]::g) 0 (by omega) ⟨by simp,by simp,by simp,[],by simp⟩ ?_
 rintro i fr h' hi ⟨e1,e4,hf,g,rfl⟩;rcases zN i t.sys.length with hlt | hge
 ·obtain⟨y,hg,hg'⟩:=aJ hlt;rw [bq hg,eO] at hf;have ew:=aB (i:=i) (by omega);have ht:t.sys.take (i+1)=t.sys.take i++[y]:=by rw [zM,hg];rfl
  have hil:(i:Int)≤t.sys.length:=by omega
  obtain⟨A,hA⟩: ∃A,t.sys.take i=A:=⟨_,rfl⟩;have hAl:A.length≤1000:=by rw [←hA];simp;omega
  have htm:(t.sys.map dO).take i=A.map dO:=by rw [←hA,List.map_take]
  have hI:(0≤kN (fun q:nL=>decide (q.name=y.name)) A)↔(dY A y.name).isSome=true:=by
   rcases o8 (fun q:nL=>decide (q.name=y.name)) A with⟨h1,h2⟩ | ⟨k,x,h1,h2,h3⟩
   ·rw [h1,dY,h2];simp
   ·rw [h1,dY,h3];simp
  rw [hA] at hf ht;simp [e1,e4,hlt,hg,hg',ew];refine ax.pure _ (fun _=>qG y.name) ?_;simp [e1,e4,hlt,hg,hg',ew,hil,hi,htm];refine⟨fun q1=>by rw [hte,hf];simp [q1],fun q1=>⟨by decide,?_⟩⟩;refine ax.pure _ (fun _=>C9 A y.name hAl) ?_;simp [e1,e4,hlt,hg,hg',ew,hil,hi,htm];refine⟨fun q2=>by rw [hte,hf];simp [q1,hI.1 q2],fun q2=> ?_⟩;have q2': ¬(dY A y.name).isSome=true:=fun hq=>by have:=hI.2 hq;omega
  refine⟨fun a b=>⟨⟨a,b⟩,fun c=>⟨⟨a,b⟩,c⟩⟩,fun q3=> ?_,fun q3 q4 q5=>⟨i+1,by omega,by omega,by omega,?_⟩⟩
  ·have hS:eO [] t.sys=12:=by rw [hf,if_neg (by simp [q1]),if_neg q2',if_pos (by rcases q3 with (q3 | q3) | q3 <;> simp [q3])]
   rw [hte,hS];simp
  ·rw [hf,ht,if_neg (by simp [q1]),if_neg q2',if_neg (by rintro (a | a | ⟨a,b⟩) <;> first | omega | exact q5 a b)]
 ·rw [zH hge,eO] at hf;rw [hf] at hte;have hte:bX t=if t.net.pts.all (qg t.sys) then 0 else 16:=by simpa using hte
  simp [e1,e4,Nat.not_lt.2 hge];refine aT.up mixed t.net.pts.length (fun j fr h'=>fr 1= .ptr h.length 0 0∧fr 6= .int .i64 j∧
   t.net.pts.all (qg t.sys)=(t.net.pts.drop j).all (qg t.sys)∧ ∃g,h'=h++ .cells 3 [aA t]::g) 0 (by omega) ⟨by simp [e1],by simp,by simp,g,by simp⟩ ?_
  clear e1 e4 hf hi hge;rintro j fr h' hj ⟨e1,e6,hf,g,rfl⟩;rcases zN j t.net.pts.length with hlt | hge
  ·obtain⟨p,hg,hg'⟩:=aJ hlt;rw [bq hg,List.all_cons] at hf;have ew:=aB (i:=j) (by omega);have hk:=(jY hz p (zF hg)).2;simp [e1,e6,hlt,hg,hg',ew];refine⟨by decide,?_⟩;refine ax.pure _ (fun _=>JY t p hs hk) ?_;cases q:qg t.sys p
   ·rw [q] at hf;simp [e1,e6,hlt,hg,hg',ew,hte,hf]
   ·rw [q,Bool.true_and] at hf;simp [e1,e6,hlt,hg,hg',ew];exact⟨j+1,by omega,by omega,by omega,hf⟩
  ·rw [zH hge] at hf;simp [e1,e6,Nat.not_lt.2 hge,hte,hf]
theorem JZ (t:aY)(hp:t.net.pts.length≤1000)(hl:t.net.lks.length≤1000)(hs:t.sys.length≤1000):aa Tryz.prog gl 90 [.agg (aA t)] h fun v h'=>v= .agg (aA (aH t))∧h'=h:=by
 refine aa.fresh (aa.body Tryz.f90 _ mixed Tryz.func90 rfl rfl (by simp [Tryz.ntmps90]) ?_);simp;refine ax.pure _ (fun _=>zO t hp hl hs) ?_;simp;refine⟨fun hz=> ?_,fun hz=> ?_⟩
 ·simp [aH,hz,FX];exact .agg' (.cons .nil (.cons .nil (.cons .nil .nil)))
 ·simp [aH,hz];exact .data _ (by simp)
end Go.Proofs.YtkpioblbeiaefaaGreat
end
section
namespace Go.Abs
open Go
theorem pz {α:Type} {l:List α} (hn:l.Nodup) {i j:Nat} {a:α} (h1:l[i]? =some a)(h2:l[j]? =some a):i=j:=by
 obtain⟨b1,c1⟩:=zA.1 h1;obtain⟨b2,c2⟩:=zA.1 h2;have hp:=List.pairwise_iff_getElem.1 hn;rcases Nat.lt_trichotomy i j with h | h | h
 ·exact absurd (c1.trans c2.symm) (hp i j b1 b2 h)
 ·exact h
 ·exact absurd (c2.trans c1.symm) (hp j i b2 b1 h)
theorem at3 {H:af} {b:Nat} {o:bY} (h:H[b]? =some o):H[b]? =some o∧b<H.length∧ ∀hl:b<H.length,H[b]=o:=⟨h,(zA.1 h).1,fun _=>(zA.1 h).2⟩
theorem aP {H:af} {b:Nat} {o:bY} (h:H[b]? =some o)(g:af):(H++g)[b]? =some o:=by rw [zC (aK h)];exact h
def aO (s:List UInt8):List AV:=[.str s]
def ku (l:List (List UInt8)):List (List UInt8):=l.mergeSort fun x y=>decide (x≤y)
theorem aa.fresh' {P:Program} {gl:aM} {f:FuncId} {args:List AV} {h:af} {r:AV} (c:aa P gl f args h (fun x h'=>(∃g,h'=h++g)∧pW h.length h' x r)):aa P gl f args h (fun x h'=>x=r∧h'=h):=by
 refine c.trim ?_;rintro x h' ⟨⟨g,rfl⟩,hf⟩;exact⟨_,hf,by simp,fun b o hb ho=> .inl (by rwa [zC hb] at ho),rfl,by simp⟩
theorem aa.freshR {P:Program} {gl:aM} {f:FuncId} {args:List AV} {h:af} {R:AV→Prop} (c:aa P gl f args h (fun x h'=>(∃g,h'=h++g)∧ ∃r,pW h.length h' x r∧R r)):aa P gl f args h (fun x h'=>R x∧h'=h):=by
 refine c.trim ?_;rintro x h' ⟨⟨g,rfl⟩,r,hf,hr⟩;exact⟨_,hf,by simp,fun b o hb ho=> .inl (by rwa [zC hb] at ho),hr,by simp⟩
theorem aI {h H:af} (hb: ∃g,H=h++g)(g:af): ∃g',H++g=h++g':=by
 obtain⟨g0,rfl⟩:=hb;exact⟨g0++g,by rw [zK]⟩
theorem bJ {h H:af} (hb: ∃g,H=h++g):h.length≤H.length:=by
 obtain⟨g0,rfl⟩:=hb;simp
theorem dA {h H:af} (hb: ∃g,H=h++g) {b:Nat} (hl:h.length≤b)(o:bY): ∃g',H.set b o=h++g':=by
 obtain⟨g0,rfl⟩:=hb;exact⟨_,List.set_append_right _ _ hl⟩
theorem aa.freeze {P:Program} {gl:aM} {f:FuncId} {args:List AV} {h:af} {R R':AV→af→Prop} (c:aa P gl f args h R)
  (hr: ∀x h',R x h'→ ∃ks x',fA ks h' x x'∧R' x' (killL h' ks)):aa P gl f args h R':=by
 refine⟨c.1,fun J w vs hh hv=>Calls.mono' (c.2 J w vs hh hv) ?_⟩;rintro e w' ⟨x,v,J',h',p1,p2,p3,p4,p5⟩;obtain⟨ks,x',f1,f2⟩:=hr x h' p5;obtain⟨hk,ev⟩:=p2.killL ks;exact⟨x',v,J',killL h' ks,p1,hk,fA.sound p2 f1 p3,p4.trans ev,f2⟩
theorem Ls.above {n lo:Nat} {H:af} {x:AV} {es:List (List AV)} (r:Ls n lo H x es): ∀b off len,x= .own b off len→lo≤b:=by
 intro b off len e;rcases r.1 with⟨e1,_⟩ | ⟨b',e1,hl,_⟩
 ·rw [e1] at e;cases e
 ·rw [e1] at e;injection e with e2;omega
theorem jR {h H H':af} (hb: ∃g,H=h++g)(hk: ∀b o,b<h.length→H[b]? =some o→H'[b]? =some o)(hl:h.length≤H'.length): ∃g,H'=h++g:=by
 obtain⟨g,rfl⟩:=hb;refine⟨H'.drop h.length,?_⟩;have:H'.take h.length=h:=by
  refine List.ext_getElem? fun i=> ?_;rcases zN i h.length with hi | hi
  ·rw [List.getElem?_take_of_lt hi,zB hi];exact hk i _ hi (by rw [zC hi,zB hi])
  ·rw [List.getElem?_eq_none (by simp;omega),List.getElem?_eq_none hi]
 conv=>lhs;rw [←List.take_append_drop h.length H',this]
theorem eQ.blk {n lo bx:Nat} {H:af} {cs:List AV} {rows:List (List (List AV))} (hN:eQ n lo H (.own bx 0 cs.length) cs rows):H[bx]? =some (.cells 1 (cs.map fun c=>[c]))∧bx<H.length∧(∀hl:bx<H.length,H[bx]= .cells 1 (cs.map fun c=>[c]))∧lo≤bx:=by
 rcases hN.out.1 with⟨e,_⟩ | ⟨b,e,h1,h2⟩
 ·cases e
 ·injection e with e1;subst e1
  exact⟨h2,(zA.1 h2).1,fun _=>(zA.1 h2).2,h1⟩
theorem eQ.nils {n lo m:Nat} {H:af} (hl:lo≤H.length):eQ n lo (H++[.cells 1 (List.replicate m [.nil])]) (.own H.length 0 (List.replicate m AV.nil).length) (List.replicate m .nil) (List.replicate m [])∧NL n lo (H++[.cells 1 (List.replicate m [.nil])]) (List.replicate m .nil) (List.replicate m []):=by
 have nil: ∀(k:Nat) (c:AV),(List.replicate m AV.nil)[k]? =some c→c= .nil:=fun k c h=>by
  have:=zF h;simp at this;exact this.2
 have nil2: ∀(k:Nat) (r:List (List AV)),(List.replicate m ([]:List (List AV)))[k]? =some r→r=[]:=fun k r h=>by
  have:=zF h;simp at this;exact this.2
 refine⟨⟨by simp,⟨.inr ⟨H.length,by simp,hl,by simp⟩,?_⟩,fun k c r h1 h2=> ?_,fun i j b off len off' len' h1 _=> ?_⟩,fun k c r h1 h2=> ?_⟩
 ·intro e he;obtain⟨_,_,rfl⟩:=List.mem_map.1 he;rfl
 ·rw [nil k c h1,nil2 k r h2];exact⟨Rs.nil,by simp⟩
 ·cases nil _ _ h1
 ·rw [nil k c h1,nil2 k r h2];exact Ls.nil
theorem eQ.ofNils {n lo m:Nat} {H:af} {x:AV} (hx:Ls 1 lo H x (List.replicate m [.nil])):eQ n lo H x (List.replicate m .nil) (List.replicate m []):=by
 have nil: ∀(k:Nat) (c:AV),(List.replicate m AV.nil)[k]? =some c→c= .nil:=fun k c h=>by
  have:=zF h;simp at this;exact this.2
 have nil2: ∀(k:Nat) (r:List (List AV)),(List.replicate m ([]:List (List AV)))[k]? =some r→r=[]:=fun k r h=>by
  have:=zF h;simp at this;exact this.2
 refine⟨by simp,by simpa using hx,fun k c r h1 h2=> ?_,fun i j b off len off' len' h1 _=> ?_⟩
 ·rw [nil k c h1,nil2 k r h2];exact⟨Rs.nil,by simp⟩
 ·cases nil _ _ h1
theorem QE {n lo lo' bx k:Nat} {H H1 os:af} {cs:List AV} {rows:List (List (List AV))} {c d:AV} {q ys:List (List AV)} (hN:eQ n lo H (.own bx 0 cs.length) cs rows)(hNL:NL n lo H cs rows)(hc:cs[k]? =some c)(hq:rows[k]? =some q)
  (hd:Ls n lo H1 d (q++ys)) (hg:Grow lo' (H++os) c H1) (hn: ∀b off len,d= .own b off len→(H++os).length≤b):
  eQ n lo (H1.set bx (.cells 1 ((cs.map fun c=>[c]).set k [d]))) (.own bx 0 cs.length) (cs.set k d) (rows.set k (q++ys))∧NL n lo (H1.set bx (.cells 1 ((cs.map fun c=>[c]).set k [d]))) (cs.set k d) (rows.set k (q++ys)):=by
 have hk:=(zA.1 hc).1;obtain⟨hlx,hbx⟩:lo≤bx∧bx<H.length:=by
  rcases hN.out.1 with⟨e,_⟩ | ⟨b,e,h1,h2⟩
  ·cases e
  ·injection e with e1;subst e1
   exact⟨h1,(zA.1 h2).1⟩
 have hlen:(H++os).length≤H1.length:=hg.len;have hlen2:H.length≤(H++os).length:=by simp
 have hdb: ∀b off len,d= .own b off len→b≠bx∧H.length≤b:=fun b off len e=>by
  have:=hn b off len e;omega
 have hd2:Ls n lo (H1.set bx (.cells 1 ((cs.map fun c=>[c]).set k [d]))) d (q++ys):=hd.keep' fun b len o e ho=>by
  rw [zJ (Ne.symm (hdb b _ _ e).1)];exact ho
 have keep: ∀b o',H[b]? =some o'→b≠bx→(∀off len,cs[k]? ≠some (.own b off len))→(H1.set bx (.cells 1 ((cs.map fun c=>[c]).set k [d])))[b]? =some o':=fun b o' hb hne hnc=>by
  rw [zJ (Ne.symm hne)];exact hg.keep b o' (by rw [zC (zA.1 hb).1];exact hb) fun off len e=>hnc off len (by rw [hc,e])
 refine⟨hN.put rfl hk hd2.rs (fun b off len e=>⟨?_,(hdb b off len e).1,fun off' len' hm=> ?_⟩) keep ?_,hNL.put hN rfl hk hd2 keep⟩
 ·exact hd.above b off len e
 ·have:=hN.lt hm;have:=(hdb b off len e).2;omega
 ·rw [zI (by omega)]
theorem eQ.blk1 {n lo lo' bx k:Nat} {H H1 os:af} {cs:List AV} {rows:List (List (List AV))} {c:AV} {q:List (List AV)} (hN:eQ n lo H (.own bx 0 cs.length) cs rows)(hc:cs[k]? =some c)(hq:rows[k]? =some q)(hg:Grow lo' (H++os) c H1):
  H1[bx]? =some (.cells 1 (cs.map fun c=>[c]))∧bx<H1.length∧ ∀hl:bx<H1.length,H1[bx]= .cells 1 (cs.map fun c=>[c]):=by
 have h1:=hg.keep bx _ (by rw [zC hN.blk.2.1];exact hN.blk.1) fun off len e=>((hN.each k c q hc hq).2 bx off len e).2 0 cs.length rfl;exact⟨h1,(zA.1 h1).1,fun _=>(zA.1 h1).2⟩
theorem OH {n lo bx k:Nat} {H H1:af} {cs:List AV} {rows:List (List (List AV))} {c:AV} {q:List (List AV)} (hN:eQ n lo H (.own bx 0 cs.length) cs rows)(hNL:NL n lo H cs rows)(hc:cs[k]? =some c)
  (hd:Ls n lo H1 c q) (hk: ∀b o,H[b]? =some o→(∀off len,c≠ .own b off len)→H1[b]? =some o):eQ n lo H1 (.own bx 0 cs.length) cs (rows.set k q)∧NL n lo H1 cs (rows.set k q):=by
 have hkl:=(zA.1 hc).1;have hcs:cs.set k c=cs:=by
  refine List.ext_getElem? fun i=> ?_;by_cases e:k=i
  ·subst e;rw [zI hkl,hc]
  ·rw [zJ e]
 have hrow:rows[k]? =some (rows[k]'(by rw [←hN.len];exact hkl)):=zB _;have hapart:=(hN.each k c _ hc hrow).2;have hbx:H[bx]? =some (.cells 1 (cs.map fun c=>[c])):=by
  rcases hN.out.1 with⟨e,_⟩ | ⟨b,e,h1,h2⟩
  ·cases e
  ·injection e with e1;subst e1;exact h2
 have keep: ∀b o',H[b]? =some o'→b≠bx→(∀off len,cs[k]? ≠some (.own b off len))→H1[b]? =some o':=fun b o' hb hne hnc=>hk b o' hb fun off len e=>hnc off len (by rw [hc,e]);have hset:(cs.map fun c=>[c]).set k [c]=cs.map fun c=>[c]:=by rw [←List.map_set (f:=fun c:AV=>[c]),hcs]
 have h1:=hN.put rfl hkl hd.rs (d:=c) (s:=q) (h':=H1) (fun b off len e=>⟨(hapart b off len e).1,fun eb=>(hapart b off len e).2 0 cs.length (by rw [eb]),fun off' len' hm=>by
  obtain⟨j,hj⟩:=List.getElem?_of_mem hm;have:=hN.apart k j b off len off' len' (by rw [hc,e]) hj;rw [this];exact hj⟩) keep (by
   rw [hset];exact hk bx _ hbx fun off len e=>(hapart bx off len e).2 0 cs.length rfl)
 have h2:=hNL.put hN rfl hkl hd keep;rw [hcs] at h1 h2;exact⟨h1,h2⟩
def Oq (n lo:Nat)(h:af)(x:AV)(es:List (List AV)):Prop:=
 ((x= .nil∧es=[])∨ ∃b off all,x= .own b off es.length∧lo≤b∧h[b]? =some (.cells n all)∧off+es.length≤all.length∧(all.drop off).take es.length=es)∧ ∀e∈es,e.length=n
section
variable {P : Program} {n lo : Nat} {h h' : af} {x s : AV} {es ys : List (List AV)} {k : AV → af → Prop} {ts : List TypeId}
theorem Ls.oq (r:Ls n lo h x es):Oq n lo h x es:=by
 obtain⟨r,hn⟩:=r;refine⟨?_,hn⟩;rcases r with h1 | ⟨b,rfl,hl,hb⟩
 ·exact .inl h1
 ·exact .inr ⟨b,0,es,rfl,hl,hb,by omega,by simp⟩
theorem Oq.rs (r:Oq n lo h x es):Rs n h x es:=by
 obtain⟨r,hn⟩:=r;rcases r with⟨rfl,rfl⟩ | ⟨b,off,all,rfl,hl,hb,hle,he⟩
 ·exact Rs.nil
 ·exact Rs.sub hb hle he.symm hn
theorem Oq.more (r:Oq n lo h x es)(g:af):Oq n lo (h++g) x es:=by
 obtain⟨r,hn⟩:=r;refine⟨?_,hn⟩;rcases r with h1 | ⟨b,off,all,rfl,hl,hb,hle,he⟩
 ·exact .inl h1
 ·refine .inr ⟨b,off,all,rfl,hl,?_,hle,he⟩;rw [zC (zA.1 hb).1];exact hb
theorem Oq.put {b:Nat} {o:bY} (r:Oq n lo h x es)(hb:b<lo):Oq n lo (h.set b o) x es:=by
 obtain⟨r,hn⟩:=r;refine⟨?_,hn⟩;rcases r with h1 | ⟨b',off,all,rfl,hl,hb',hle,he⟩
 ·exact .inl h1
 ·exact .inr ⟨b',off,all,rfl,hl,by rw [zJ (by omega)];exact hb',hle,he⟩
theorem Oq.keep (r:Oq n lo h x es)(hk: ∀b off len o,x= .own b off len→h[b]? =some o→h'[b]? =some o):Oq n lo h' x es:=by
 obtain⟨r,hn⟩:=r;refine⟨?_,hn⟩;rcases r with h1 | ⟨b',off,all,rfl,hl,hb',hle,he⟩
 ·exact .inl h1
 ·exact .inr ⟨b',off,all,rfl,hl,hk _ _ _ _ rfl hb',hle,he⟩
theorem Oq.drop {e:List AV} (r:Oq n lo h x (e::es)): ∃b off,x= .own b off (es.length+1)∧Oq n lo h (.own b (off+1) es.length) es:=by
 obtain⟨r,hn⟩:=r;rcases r with⟨_,h1⟩ | ⟨b,off,all,rfl,hl,hb,hle,he⟩
 ·cases h1
 ·refine⟨b,off,rfl,.inr ⟨b,off+1,all,rfl,hl,hb,by simp at hle;omega,?_⟩,fun y hy=>hn y (List.mem_cons_of_mem _ hy)⟩;rw [←List.drop_drop];have h1:all.drop off≠[]:=by
   intro h0;rw [h0] at he;simp at he
  obtain⟨y,l,hyl⟩:=List.exists_cons_of_ne_nil h1;rw [hyl] at he ⊢;simp only [List.length_cons,List.take_succ_cons,List.cons.injEq] at he;simpa using he.2
theorem Oq.tail (P:Program) {e:List AV} (r:Oq n lo h x (e::es))(hn:0<n):Oq n lo h (bA x (some 1) none) es∧(∀t,(ai P t).ok=true→(ai P t).cells=n→bD P h (.slice t) x (some 1) none)∧(bA x (some 1) none).core=bA x (some 1) none∧(bA x (some 1) none).gd=true:=by
 have hc:=r.rs.cut P hn (some 1) none (by simp [ib,xm,fG];omega);obtain⟨b,off,rfl,h2⟩:=r.drop;have e1:bA (.own b off (es.length+1)) (some 1) none= .own b (off+1) es.length:=by simp [bA,fG]
 rw [e1];exact⟨h2,hc.2,rfl,rfl⟩
theorem Oq.above (r:Oq n lo h x es): ∀b off len,x= .own b off len→lo≤b:=by
 intro b off len e;rcases r.1 with⟨e1,_⟩ | ⟨b',_,_,e1,hl,_⟩
 ·rw [e1] at e;cases e
 ·rw [e1] at e;injection e with e2;omega
theorem Oq.slOk (r:Oq n lo h x es):slOk h x:=r.rs.slOk
theorem Oq.aelems (r:Oq n lo h x es):aelems h x=es:=r.rs.aelems
theorem EH (r:Oq n lo h s es)(hlo:lo≤h.length)(hok:bE P h ts n x ys)(hl:es.length+ys.length≤100000000)
  (hc: ∀s' h',Ls n lo h' s' (es++ys)→Grow lo h s h'→(∀b off len,s'= .own b off len→h.length≤b)→k s' h'):aj P h ts s x∧au n h s x k:=by
 unfold bE at hok;split at hok
 ·rename_i t u;obtain⟨hu,huo,ht,hx,hy,hyn⟩:=hok;split at ht
  ·rename_i e he;obtain⟨hz,hcn,hn0,hbt⟩:=ht;have hes:=r.aelems;have hlen:(es.length+ys.length)*(ai P e).bytes≤140737488355328:=Nat.le_trans (Nat.mul_le_mul hl hbt) (by omega);refine⟨⟨hu,huo,?_⟩,?_⟩
   ·rw [he];refine⟨hz,by omega,?_,r.slOk,hx,by rw [hes,hcn];exact r.2,by rw [hy,hcn];exact hyn,by rw [hes,hy];exact hlen,by rw [hes,hy];omega⟩;rcases r.1 with⟨rfl,_⟩ | ⟨b,off,all,rfl,_,hb,_⟩
    ·trivial
    ·simp [hb,hcn]
   ·have hall: ∀e∈es++ys,e.length=n:=by
     intro e he;rcases List.mem_append.1 he with h1 | h1
     ·exact r.2 e h1
     ·exact hyn e h1
    rcases r.1 with⟨rfl,rfl⟩ | ⟨b,off,all,rfl,hlb,hb,_⟩
    ·unfold au;rw [hy];refine⟨fun h0=>hc _ _ ⟨.inl ⟨rfl,by simp [h0]⟩,hall⟩ ⟨fun b o hb _=>hb,fun h₀ _ hg=>hg,Nat.le_refl _⟩ (by simp),fun h0=>hc _ _ ⟨.inr ⟨h.length,by simp,hlo,by simp⟩,hall⟩ ⟨fun b o hb _=> ?_,?_,by simp⟩ (by simp)⟩
     ·rw [zC (zA.1 hb).1];exact hb
     ·rintro h₀ _ ⟨g,rfl⟩;exact⟨g++_,by rw [zK]⟩
    ·unfold au;rw [hes,hy];refine hc _ _ ⟨.inr ⟨h.length,by simp,hlo,by simp⟩,hall⟩ ⟨fun b' o hb' hne=> ?_,?_,by simp⟩ (by simp)
     ·have hbb:b'≠b:=by rintro rfl;exact hne off es.length rfl
      rw [zC (by simp;exact (zA.1 hb').1),zJ (Ne.symm hbb)];exact hb'
     ·rintro h₀ hl₀ ⟨g,rfl⟩;refine⟨g.set (b - h₀.length) .dead++[.cells n (es++ys)],?_⟩;rw [List.set_append,if_neg (by omega),zK]
  ·exact ht.elim
 ·exact hok.elim
end
end Go.Abs
namespace Go.Abs
open Go
def Lz (n lo:Nat)(h:af)(x:AV)(es:List (List AV)):Prop:=Ls n lo h x es∨(x= .e0∧es=[])
section
variable {P : Program} {gl : aM} {n lo : Nat} {h h' : af} {x s : AV} {es ys : List (List AV)} {k : AV → af → Prop} {ts : List TypeId}
theorem Ls.z (r:Ls n lo h x es):Lz n lo h x es:= .inl r
theorem Lz.rs (r:Lz n lo h x es):Rs n h x es:=by
 rcases r with r | ⟨rfl,rfl⟩
 ·exact r.rs
 ·exact .inr ⟨rfl,.inr rfl⟩
theorem Lz.more (r:Lz n lo h x es)(g:af):Lz n lo (h++g) x es:=r.imp (fun r=>r.more g) id
theorem Lz.above (r:Lz n lo h x es): ∀b off len,x= .own b off len→lo≤b:=by
 rcases r with r | ⟨rfl,rfl⟩
 ·exact r.above
 ·intro b off len e;cases e
theorem Ls.inside (r:Ls n lo h x es): ∀b off len,x= .own b off len→b<h.length:=by
 intro b off len e;rcases r.1 with⟨e1,_⟩ | ⟨b',e1,_,hb⟩
 ·rw [e1] at e;cases e
 ·rw [e1] at e;injection e with e2;rw [←e2];exact aK hb
theorem Lz.lend (r:Lz n lo h x es): ∃ks,(∀b∈ks,lo≤b∧ ∃off len,x= .own b off len)∧fA ks h x (.ro es):=by
 rcases r with r | ⟨rfl,rfl⟩
 ·exact r.lend
 ·exact⟨[],by simp,.e0⟩
theorem NH (hlo:lo≤h.length)(hok:bE P h ts n x ys)(hl:ys.length≤100000000)
  (hc: ∀s' h',Lz n lo h' s' ys→Grow lo h .e0 h'→(∀b off len,s'= .own b off len→h.length≤b)→k s' h'):aj P h ts .e0 x∧au n h .e0 x k:=by
 unfold bE at hok;split at hok
 ·rename_i t u;obtain⟨hu,huo,ht,hx,hy,hyn⟩:=hok;split at ht
  ·rename_i e he;obtain⟨hz,hcn,hn0,hbt⟩:=ht;have hes:aelems h .e0=[]:=rfl;have hlen:(0+ys.length)*(ai P e).bytes≤140737488355328:=Nat.le_trans (Nat.mul_le_mul (by omega:0+ys.length≤100000000) hbt) (by omega);refine⟨⟨hu,huo,?_⟩,?_⟩
   ·rw [he];refine⟨hz,by omega,trivial,trivial,hx,by rw [hes];simp,by rw [hy,hcn];exact hyn,by rw [hes,hy];exact hlen,by rw [hes,hy];simp;omega⟩
   ·unfold au;rw [hy];refine⟨fun h0=>hc _ _ (.inr ⟨rfl,h0⟩) ⟨fun b o hb _=>hb,fun h₀ _ hg=>hg,Nat.le_refl _⟩ (by simp),fun h0=>hc _ _ (.inl ⟨.inr ⟨h.length,rfl,hlo,by simp⟩,hyn⟩) ⟨fun b o hb _=> ?_,?_,by simp⟩ (by simp)⟩
    ·rw [zC (zA.1 hb).1];exact hb
    ·rintro h₀ _ ⟨g,rfl⟩;exact⟨g++_,by rw [zK]⟩
  ·exact ht.elim
 ·exact hok.elim
theorem NI (r:Lz n lo h s es)(hlo:lo≤h.length)(hok:bE P h ts n x ys)(hl:es.length+ys.length≤100000000)
  (hc: ∀s' h',Lz n lo h' s' (es++ys)→Grow lo h s h'→(∀b off len,s'= .own b off len→h.length≤b)→k s' h'):aj P h ts s x∧au n h s x k:=by
 rcases r with r | ⟨rfl,rfl⟩
 ·exact aN r hlo hok hl fun s' h' a=>hc s' h' a.z
 ·exact NH hlo hok (by simpa using hl) fun s' h' a=>hc s' h' (by simpa using a)
theorem Lc {J:List dL} {w:World} (hh:bR gl h J w)(ks:List Nat) {b:Nat} {es es':List (List AV)} (hb:h[b]? =some (.cells n es))(hbk:b∉ks)(hl:es'.length=es.length)
  (hlen: ∀(i:Nat) (e e':List AV),es[i]? =some e→es'[i]? =some e'→e'.length=e.length)
  (hc: ∀(i:Nat) (e e':List AV) (c:Nat) (x x':AV),es[i]? =some e→es'[i]? =some e'→e[c]? =some x→e'[c]? =some x'→fA ks h x x'):
  bR gl ((killL h ks).set b (.cells n es')) J w∧iK h J w ((killL h ks).set b (.cells n es')) J w∧Own ((killL h ks).set b (.cells n es')) J=Own (killL h ks) J:=by
 obtain⟨hk,ev⟩:=hh.killL ks;have hbK:(killL h ks)[b]? =some (.cells n es):=by rw [kR ks h b hbk];exact hb
 have hbl:=aK hbK;have conv: ∀(b1:Nat) (o:bY),((killL h ks).set b (.cells n es'))[b1]? =some o→ ∃o1,(killL h ks)[b1]? =some o1∧(o≠ .dead→o1≠ .dead)∧(b1≠b→o1=o):=by
  intro b1 o ho;by_cases e:b1=b
  ·subst e;exact⟨_,hbK,fun _=>by simp,fun q=>absurd rfl q⟩
  ·rw [zJ (Ne.symm e)] at ho;exact⟨o,ho,id,fun _=>rfl⟩
 have hO:Own ((killL h ks).set b (.cells n es')) J=Own (killL h ks) J:=by
  funext r
  refine propext ⟨?_,?_⟩
  ·rintro⟨b1,k1,o,h1,h2,h3,h4⟩;obtain⟨o1,q1,q2,_⟩:=conv b1 o h2;exact⟨b1,k1,o1,h1,q1,q2 h3,h4⟩
  ·rintro⟨b1,k1,o,h1,h2,h3,h4⟩;by_cases e:b1=b
   ·subst e;exact⟨b1,k1,.cells n es',h1,zI hbl,by simp,h4⟩
   ·exact⟨b1,k1,o,h1,by rw [zJ (Ne.symm e)];exact h2,h3,h4⟩
 refine⟨⟨by rw [List.length_set];exact hk.len,?_,hk.lt,?_,fun g cs hg=>by rw [hO];exact hk.glob g cs hg⟩,?_,hO⟩
 ·intro b1 b2 k1 k2 o1 o2 h1 h2 h3 h4 h5 h6 h7;obtain⟨p1,q1,q2,_⟩:=conv b1 o1 h3;obtain⟨p2,q3,q4,_⟩:=conv b2 o2 h4;exact hk.inj b1 b2 k1 k2 p1 p2 h1 h2 q1 q3 (q2 h5) (q4 h6) h7
 ·intro b1 k1 o h1 h2;rw [hO];by_cases e:b1=b
  ·subst e;rw [zI hbl] at h2;injection h2 with h2;subst h2;obtain⟨q1,q2,q3,q4,vs,T,q5,q6,q7⟩:=hh.obj b1 k1 _ h1 hb;refine⟨q1,q2,by omega,fun i e' hi=> ?_,vs,T,q5,q6,fun i e' c x' hi hx=> ?_⟩
   ·have hlt:=aK hi;have he:es[i]? =some (es[i]'(by omega)):=zB (by omega);rw [hlen i _ e' he hi];exact q4 i _ he
   ·have hlt:=aK hi;have he:es[i]? =some (es[i]'(by omega)):=zB (by omega);have hcl:=aK hx;have hel:=hlen i _ e' he hi;have hxe:(es[i]'(by omega))[c]? =some ((es[i]'(by omega))[c]'(by omega)):=zB (by omega);obtain⟨u,p1,p2,p3⟩:=q7 i _ c _ he hxe;exact⟨u,p1,p2,fA.sound hh (hc i _ e' c _ x' he hi hxe hx) p3⟩
  ·rw [zJ (Ne.symm e)] at h2;exact hk.obj b1 k1 o h1 h2
 ·refine ev.trans ⟨⟨[],by simp⟩,Nat.le_refl _,fun r _ hn=>⟨rfl,by rw [hO];exact hn⟩,rfl,rfl,rfl⟩
theorem aT.freezeH {N:Nat} {c:Code} {Q:dh} {fr fr':aG} (ks:List Nat) {b:Nat} {es es':List (List AV)} (hb:h[b]? =some (.cells n es))(hbk:b∉ks)(hl:es'.length=es.length)
  (hlen: ∀(i:Nat) (e e':List AV),es[i]? =some e→es'[i]? =some e'→e'.length=e.length)
  (hc: ∀(i:Nat) (e e':List AV) (c:Nat) (x x':AV),es[i]? =some e→es'[i]? =some e'→e[c]? =some x→e'[c]? =some x'→fA ks h x x')
  (hf: ∀t,fA ks h (fr t) (fr' t)) (k:aT P gl N c Q fr' ((killL h ks).set b (.cells n es'))):aT P gl N c Q fr h:=by
 intro J a w r;obtain⟨hk,ev,hO⟩:=Lc r.heap ks hb hbk hl hlen hc;have r':nK gl N J fr' ((killL h ks).set b (.cells n es')) a w:=⟨r.size,r.defers,fun t=>by rw [hO];exact fA.sound r.heap (hf t) (r.tmps t),hk⟩;exact wp_mono (k J a w r') fun _ _ _ hl=>nD ev hl
theorem aT.freezeL {N:Nat} {c:Code} {Q:dh} {fr:aG} (t0:Nat)(hx:fr t0=x)(r:Lz n lo h x es)
  (k: ∀fr' h',fr' t0= .ro es→(∀t,t≠t0→fr' t=fr t)→Grow lo h x h'→h'.length=h.length→aT P gl N c Q fr' h'):aT P gl N c Q fr h:=by
 obtain⟨ks,hks,hf⟩:=r.lend;refine aT.freeze (fr':=fun t=>if t=t0 then .ro es else fr t) ks (fun t=> ?_) (k _ _ (by simp) (fun t ht=>by simp [ht]) ⟨fun b o hb hne=> ?_,fun h₀ hl₀ hg=> ?_,by rw [jJ];exact Nat.le_refl _⟩ (jJ _ _))
 ·by_cases e:t=t0
  ·subst e;rw [if_pos rfl,hx];exact hf
  ·rw [if_neg e];exact .same _
 ·rw [kR ks h b fun hb=> ?_]
  ·exact hb
  ·obtain⟨_,off,len,e⟩:=hks b hb;exact hne off len e
 ·obtain⟨g,rfl⟩:=hg;exact kQ ks h₀ g fun b hb=>by have:=(hks b hb).1;omega
theorem aT.freezeF {N:Nat} {c:Code} {Q:dh} {fr:aG} (t0 b m:Nat)(pre post:List AV)(hx:fr t0=x)(r:Lz n lo h x es)(hb:h[b]? =some (.cells m [pre++x::post]))(hne: ∀off len,x≠ .own b off len)
  (k: ∀fr' h',fr' t0= .ro es→(∀t,t≠t0→fr' t=fr t)→h'[b]? =some (.cells m [pre++ .ro es::post])→(∀(b':Nat) (o:bY),b'≠b→h[b']? =some o→(∀off len,x≠ .own b' off len)→h'[b']? =some o)→
   (∀h₀:af,h₀.length≤lo→h₀.length≤b→(∃g,h=h₀++g)→ ∃g,h'=h₀++g)→h'.length=h.length→aT P gl N c Q fr' h'):aT P gl N c Q fr h:=by
 obtain⟨ks,hks,hf⟩:=r.lend;have hbk:b∉ks:=fun hb=>by obtain⟨_,off,len,e⟩:=hks b hb;exact hne off len e
 have hbl:b<(killL h ks).length:=by rw [jJ];exact aK hb
 refine aT.freezeH (fr':=fun t=>if t=t0 then .ro es else fr t) ks (es':=[pre++ .ro es::post]) hb hbk rfl ?_ ?_ (fun t=> ?_) (k _ _ (by simp) (fun t ht=>by simp [ht]) (zI hbl) (fun b' o hne' ho hx'=> ?_) (fun h₀ hl₀ hl₁ hg=> ?_) (by rw [List.length_set,jJ]))
 ·intro i e e' he he'
  cases i with
  | zero=>simp at he he';subst he;subst he';simp
  | succ i=>simp at he
 ·intro i e e' c y y' he he' hy hy'
  cases i with
  | succ i=>simp at he
  | zero=>
   simp only [List.length_cons,List.length_nil,List.getElem?_cons_zero,Option.some.injEq] at he he';subst he;subst he'
   rcases Nat.lt_trichotomy c pre.length with q | q | q
   ·rw [zC q] at hy hy';rw [hy] at hy';injection hy' with e;rw [e];exact .same _
   ·subst q;rw [zD (Nat.le_refl _),Nat.sub_self] at hy hy';simp at hy hy';subst hy;subst hy'
    exact hf
   ·rw [zD (by omega)] at hy hy';obtain⟨d,hd⟩: ∃d,c - pre.length=d+1:=⟨c - pre.length - 1,by omega⟩;rw [hd] at hy hy';simp only [List.getElem?_cons_succ] at hy hy';rw [hy] at hy';injection hy' with e;rw [e];exact .same _
 ·by_cases e:t=t0
  ·subst e;rw [if_pos rfl,hx];exact hf
  ·rw [if_neg e];exact .same _
 ·rw [zJ (Ne.symm hne'),kR ks h b' fun hb=> ?_]
  ·exact ho
  ·obtain⟨_,off,len,e⟩:=hks b' hb;exact hx' off len e
 ·obtain⟨g,rfl⟩:=hg;obtain⟨g',hg'⟩:=kQ ks h₀ g fun b hb=>by have:=(hks b hb).1;omega
  rw [hg',List.set_append_right _ _ hl₁];exact⟨_,rfl⟩
end
def iP:Code→Nat
 | .region id _ _=>id+1
 | .seq a _=>iP a
 | .block _ c=>iP c
 | _=>0
@[simp] theorem RZ (id:Nat) (ops:Array Oper) (d:Bool):iP (.region id ops d)=id+1:=rfl
@[simp] theorem U0 (a b:Code):iP (.seq a b)=iP a:=rfl
@[simp] theorem SB (id:Nat) (b:Code):iP (.block id b)=iP b:=rfl
@[simp] theorem TP (c:Operand) (a b:Code):iP (.cond c a b)=0:=rfl
@[simp] theorem TS:iP .skip=0:=rfl
@[simp] theorem TR (c:Code):iP (.loop c)=0:=rfl
@[simp] theorem TQ (c:Nat):iP (.exit c)=0:=rfl
@[simp] theorem SC (c:Nat):iP (.label c)=0:=rfl
@[simp] theorem UZ:iP .ret=0:=rfl
def tX (Q:dh):dh
 | .goto _,_,_=>False
 | e,fr,h=>Q e fr h
theorem aT.scope {P:Program} {gl:aM} {N:Nat} {fr:aG} {h:af} {Q:dh} {c:Code} (hc:aT P gl N c (tX Q) fr h):aT P gl N (.scope c) Q fr h:=by
 intro J a w r;refine wp_scope_straight (wp_mono (hc J a w r) ?_);rintro e a' w' ⟨J',fr',h',p1,p2,p3⟩
 cases e with
 | goto l=>exact p3.elim
 | _=>exact⟨J',fr',h',p1,p2,p3⟩
@[simp] theorem R6 {Q:dh} {fr:aG} {h:af}:tX Q .normal fr h↔Q .normal fr h:=Iff.rfl
@[simp] theorem Ve {Q:dh} {fr:aG} {h:af}:tX Q .ret fr h↔Q .ret fr h:=Iff.rfl
@[simp] theorem TZ {Q:dh} {fr:aG} {h:af} (id:Nat):tX Q (.exit id) fr h↔Q (.exit id) fr h:=Iff.rfl
def kG (s:Nat)(P:Program)(gl:aM)(N:Nat):Code→dh→aG→af→Prop
 | .skip,Q,fr,h=>Q .normal fr h
 | .label _,Q,fr,h=>Q .normal fr h
 | .seq a b,Q,fr,h=>kG s P gl N a (gN (fun fr h=>if iP b=s+1 then aT P gl N b Q fr h else kG s P gl N b Q fr h) Q) fr h
 | .cond c x y,Q,fr,h=>(ev gl fr c).gd=true∧KC (ev gl fr c).core (rG (kG s P gl N x Q) (kG s P gl N y Q) fr h)
 | .block id c,Q,fr,h=>kG s P gl N c (jl id Q) fr h
 | .exit id,Q,fr,h=>Q (.exit id) fr h
 | .ret,Q,fr,h=>Q .ret fr h
 | .region _ ops false,Q,fr,h=>fB P gl N false ops ops.toList (Q .normal) fr h
 | .region _ ops true,Q,fr,h=>kJ ops=true∧fB P gl N true ops ops.toList (Q .normal) fr h
 | .loop c,Q,fr,h=>aT P gl N (.loop c) Q fr h
 | .scope c,Q,fr,h=>kG s P gl N c (tX Q) fr h
 | _,_,_,_=>False
section
variable {P : Program} {gl : aM} {N s : Nat} {fr : aG} {h : af} {Q : dh} {ops : Array Oper}
theorem aT.of_awpF (hm:P.follows .mixedOrders=true): ∀(c:Code) (Q:dh) (fr:aG) (h:af),kG s P gl N c Q fr h→aT P gl N c Q fr h
 | .skip,Q,fr,h,hs=>aT.skip hs
 | .label _,Q,fr,h,hs=>aT.label hs
 | .seq a b,Q,fr,h,hs=>by
  refine aT.seq ((aT.of_awpF hm a _ fr h hs).mono ?_);intro e fr' h' q
  cases e with
  | normal=>
   have q:if iP b=s+1 then aT P gl N b Q fr' h' else kG s P gl N b Q fr' h':=q
   split at q
   ·exact q
   ·exact aT.of_awpF hm b Q fr' h' q
  | _=>exact q
 | .cond c x y,Q,fr,h,hs=>by
  obtain⟨hg,hs⟩:=hs;unfold KC at hs;split at hs
  ·rename_i t ht;intro J a w r;have re:=(oP (a:=a) r.heap (fun t' _=>r.tmps t'):aL J (Own h J) w (ev gl fr c) (a.eval c)).core hg;rw [ht] at re;have hc:a.eval c= .bool t:=by
    generalize a.eval c=v at re;cases re
    rfl
   refine wp_cond hc ?_
   cases t with
   | true=>exact aT.of_awpF hm x Q fr h (hs.1 rfl) J a w r
   | false=>exact aT.of_awpF hm y Q fr h (hs.2 rfl) J a w r
  ·exact hs.elim
 | .block id c,Q,fr,h,hs=>aT.block (aT.of_awpF hm c _ fr h hs)
 | .exit id,Q,fr,h,hs=>aT.exit hs
 | .ret,Q,fr,h,hs=>aT.ret hs
 | .region _ ops false,Q,fr,h,hs=>aT.region hs
 | .region _ ops true,Q,fr,h,hs=>aT.region_draw hm hs.1 hs.2
 | .loop c,Q,fr,h,hs=>hs
 | .rangeFunc ..,_,_,_,hs=>hs.elim
 | .scope c,Q,fr,h,hs=>aT.scope (aT.of_awpF hm c _ fr h hs)
 | .goto _,_,_,_,hs=>hs.elim
 | .refuse _,_,_,_,hs=>hs.elim
theorem aa.bodyF (s:Nat) {f:FuncId} (fn:Func)(c:Code) {args:List AV} {R:AV→af→Prop} (hm:P.follows .mixedOrders=true)(hf:P.funcs[f]? =some fn)(hb:fn.body=some c)(hname:(fn.name== "runtime.NumGoroutine")=false)
  (hn:args.length≤fn.ntmps) (hc:kG s P gl fn.ntmps c (nY P fn R) (wL args) h):aa P gl f args h R:=
 aa.of_body' hf hb hname hn (aT.of_awpF hm c _ _ _ hc)
theorem aT.upF (s:Nat) {c:Code} (hm:P.follows .mixedOrders=true)(n:Nat)(I:Nat→aG→af→Prop)(k:Nat)(hk:k≤n)(h0:I k fr h)
  (round: ∀k fr h,k≤n→I k fr h→kG s P gl N c (gN (fun fr' h'=> ∃k',k<k'∧k'≤n∧I k' fr' h') Q) fr h):aT P gl N (.loop c) Q fr h:=
 aT.loop_up n I k hk h0 fun k fr h h1 h2=>aT.of_awpF hm c _ _ _ (round k fr h h1 h2)
@[simp] theorem Vz:kG s P gl N .skip Q fr h↔Q .normal fr h:=Iff.rfl
@[simp] theorem UA (l:Nat):kG s P gl N (.label l) Q fr h↔Q .normal fr h:=Iff.rfl
@[simp] theorem Wz (a b:Code):kG s P gl N (.seq a b) Q fr h↔kG s P gl N a (gN (fun fr h=>if iP b=s+1 then aT P gl N b Q fr h else kG s P gl N b Q fr h) Q) fr h:=Iff.rfl
@[simp] theorem Vv (c:Operand) (x y:Code):kG s P gl N (.cond c x y) Q fr h↔(ev gl fr c).gd=true∧KC (ev gl fr c).core (rG (kG s P gl N x Q) (kG s P gl N y Q) fr h):=Iff.rfl
@[simp] theorem Uz (id:Nat) (c:Code):kG s P gl N (.block id c) Q fr h↔kG s P gl N c (jl id Q) fr h:=Iff.rfl
@[simp] theorem Vx (id:Nat):kG s P gl N (.exit id) Q fr h↔Q (.exit id) fr h:=Iff.rfl
@[simp] theorem Wy:kG s P gl N .ret Q fr h↔Q .ret fr h:=Iff.rfl
@[simp] theorem TB (id:Nat):kG s P gl N (.region id ops false) Q fr h↔fB P gl N false ops ops.toList (Q .normal) fr h:=Iff.rfl
@[simp] theorem Vw (id:Nat):kG s P gl N (.region id ops true) Q fr h↔kJ ops=true∧fB P gl N true ops ops.toList (Q .normal) fr h:=Iff.rfl
@[simp] theorem UB (c:Code):kG s P gl N (.scope c) Q fr h↔kG s P gl N c (tX Q) fr h:=Iff.rfl
@[simp] theorem Vy (c:Code):kG s P gl N (.loop c) Q fr h↔aT P gl N (.loop c) Q fr h:=Iff.rfl
end
end Go.Abs
end
section
namespace Go.Toll
open Go Go.Abs
def lS (a b:Bytes):Int:=if Op.bytesLess a b then -1 else if a=b then 0 else 1
theorem wR (a b:Bytes):lS a b=Lib.compareBytes a b:=by
 have h1:=oK a b;have h2:=wQ a b;have h3:=xZ a b;rw [lS,←h1];by_cases hl:Lib.compareBytes a b<0
 ·rw [if_pos (by simpa using hl)];omega
 ·rw [if_neg (by simpa using hl)];by_cases he:a=b
  ·rw [if_pos he];exact (h2.2 he).symm
  ·rw [if_neg he];have:Lib.compareBytes a b≠0:=fun h=>he (h2.1 h);omega
theorem OT:jm lS:=by
 have:lS=Lib.compareBytes:=by funext a b;exact wR a b
 rw [this];exact qC
theorem iG {a b:Bytes}:lS a b=0↔a=b:=by rw [wR];exact wQ a b
theorem Qb {a b:Bytes}:lS a b<0↔Op.bytesLess a b=true:=by
 rw [wR,←oK];simp
end Go.Toll
end
