/- Part 7 of the lemmas below the statements of this seat: Graph, IndexSystem. -/
import Derived.Test.YtkpioblbeiaefaaGreatPe06
set_option linter.unusedSectionVars false
set_option linter.unusedVariables false
set_option linter.unusedSimpArgs false
set_option linter.unnecessarySimpa false
set_option maxRecDepth 100000
namespace Go.Proofs.YtkpioblbeiaefaaGreat
open Go Go.Abs Go.Toll
variable {gl : aM} {h : ae}
theorem oZ (l:List Pt)(s:Bytes):aW Tryz.prog 9 (.str s) (jU l):=by
 refine⟨by simp [dA],[.str],by simp,by simp,fun p hp=> ?_⟩;obtain⟨q,_,rfl⟩:=List.mem_map.1 hp;simp
theorem Fa (l:List Lk)(a b:Bytes):aW Tryz.prog 202 (.agg [.str a,.str b]) (kV l):=by
 refine⟨by simp [dA],[.str,.str],by simp,by simp,fun p hp=> ?_⟩;obtain⟨q,_,rfl⟩:=List.mem_map.1 hp;simp
set_option maxHeartbeats 2000000 in
theorem qP (n:bg)(hp:n.pts.length≤1000)(hl:n.lks.length≤1000):aa Tryz.prog gl 123 [.agg (dB n)] h fun v h'=>v= .int .i64 (dR n)∧h'=h:=by
 refine aa.data (.int _ _) (aa.body Tryz.f123 _ mixed Tryz.func123 rfl rfl (by simp [Tryz.ntmps123]) ?_);by_cases hb:64<n.pts.length∨128<n.lks.length
 ·have:dR n=3:=by rw [dR,if_pos hb]
  rcases hb with hb | hb
  ·have hb':(64:Int)<n.pts.length:=by omega
   simp [this,hb']
  ·have hb':(128:Int)<n.lks.length:=by omega
   simp [this,hb']
 have hb1: ¬(64:Int)<n.pts.length:=by omega
 have hb2: ¬(128:Int)<n.lks.length:=by omega
 have hne:dR n=if fE [] n.pts≠0 then fE [] n.pts else iA n.pts [] n.lks:=by rw [dR,if_neg hb]
 simp [hb1,hb2];refine aT.up mixed n.pts.length (fun i fr h'=>fr 1= .ptr h.length 0 0∧fr 3= .map (h.length+1)∧fr 22= .ro (n.pts.map eB)∧fr 23= .int .i64 n.pts.length∧fr 24= .int .i64 i∧
  fE [] n.pts=fE (n.pts.take i) (n.pts.drop i)∧ ∃g,h'=h++ .cells 2 [dB n]:: .map (jU (n.pts.take i))::g) 0 (by omega) ⟨by simp,by simp,by simp,by simp,by simp,by simp,[],by simp [jU]⟩ ?_
 rintro i fr h' hi ⟨e1,e3,e22,e23,e24,hf,g,rfl⟩;rcases zN i n.pts.length with hlt | hge
 ·obtain⟨p,hg,hg'⟩:=aN hlt;rw [bv hg,fE] at hf;have ew:=aC (i:=i) (by omega);have ht:n.pts.take (i+1)=n.pts.take i++[p]:=by rw [zM,hg];rfl
  simp [e1,e3,e22,e23,e24,hlt,hg,hg',ew];refine ax.pure _ (fun _=>xC p.name) ?_;simp [e1,e3,e22,e23,e24,hlt,hg,hg',ew,-aW,oZ,uC];refine⟨fun q1=> ?_,fun q1=>⟨fun q2=> ?_,fun q2=>⟨fun q3=> ?_,fun q3 q4=> ?_⟩⟩⟩
  ·rw [hne,hf];simp [q1]
  ·rw [hne,hf];simp [q1,q2]
  ·have q3':p.kind<1∨4<p.kind:=by omega
   rw [hne,hf];simp [q1,q2,q3']
  ·have q3': ¬(p.kind<1∨4<p.kind):=by omega
   refine ax.pure _ (fun _=>xC p.sys) ?_;simp [e1,e3,e22,e23,e24,hlt,hg,hg',ew,-aW,oZ,uC,Jh q2];refine⟨fun q5 q6=> ?_,fun q5=>⟨i+1,by omega,by omega,by omega,?_,by rw [ht]⟩⟩
   ·rw [hne,hf];simp [q1,q2,q3',q5,q6]
   ·rw [hf,ht];have q5': ¬(p.sys≠[]∧dZ p.sys=false):=by rintro⟨a,b⟩;rw [q5 a] at b;cases b
    rw [if_neg (by simp [q1]),if_neg (by simp [q2]),if_neg q3',if_neg q5']
 ·rw [zH hge,fE] at hf;rw [hf] at hne;have hne:dR n=iA n.pts [] n.lks:=by simpa using hne
  simp [e1,e3,e22,e23,e24,Nat.not_lt.2 hge];rw [zG hge];refine aT.up mixed n.lks.length (fun j fr h'=>fr 1= .ptr h.length 0 0∧fr 3= .map (h.length+1)∧fr 6= .map (h.length+(g.length+1+1))∧fr 63= .ro (n.lks.map nT)∧fr 64= .int .i64 n.lks.length∧fr 65= .int .i64 j∧
   iA n.pts [] n.lks=iA n.pts (n.lks.take j) (n.lks.drop j)∧ ∃g1,h'=h++ .cells 2 [dB n]:: .map (jU n.pts)::(g++ .map (kV (n.lks.take j))::g1)) 0 (by omega) ⟨by simp [e1],by simp [e3],by simp,by simp,by simp,by simp,by simp,[],by simp [kV]⟩ ?_
  clear e1 e3 e22 e23 e24 hf hi hge;rintro j fr h' hj ⟨e1,e3,e6,e63,e64,e65,hf,g1,rfl⟩;rcases zN j n.lks.length with hlt | hge
  ·obtain⟨x,hg,hg'⟩:=aN hlt;rw [bv hg,iA] at hf;have ew:=aC (i:=j) (by omega);have ht:n.lks.take (j+1)=n.lks.take j++[x]:=by rw [zM,hg];rfl
   simp [e1,e3,e6,e63,e64,e65,hlt,hg,hg',ew,-aW,oZ,uC,Fa,JS];have hlk:(n.lks.take j).any (fun y=>decide (y.src=x.src) && decide (y.dst=x.dst))=lc (n.lks.take j) x.src x.dst:=rfl;rw [hlk] at hf;refine⟨fun q=> ?_,fun q1 q2 q3=>⟨fun q4=> ?_,fun q4=>⟨fun q5=> ?_,fun q5 q6 q7=> ?_⟩⟩⟩
   ·rw [hne,hf,if_pos (by rcases q with (q | q) | q <;> simp [q])]
   ·rw [hne,hf,if_neg (by simp [q1,q2,q3]),if_pos q4]
   ·rw [hne,hf,if_neg (by simp [q1,q2,q3]),if_neg (by simp [q4]),if_pos (by omega)]
   ·refine⟨j+1,by omega,by omega,by omega,?_,by rw [ht];exact Ji q4⟩;rw [hf,ht,if_neg (by simp [q1,q2,q3]),if_neg (by simp [q4]),if_neg (by omega)]
  ·rw [zH hge,iA] at hf;simp [e1,e3,e6,e63,e64,e65,Nat.not_lt.2 hge,hne,hf]
theorem jQ (n:bg)(s:Bytes)(hp:n.pts.length≤1000)(hl:n.lks.length≤1000):aa Tryz.prog gl 85 [.agg (dB n),.str s] h fun v h'=>v= .tup [.agg (eB ((bS n s).getD I9)),.bool (bS n s).isSome]∧h'=h:=by
 refine aa.data (by simp) (aa.body Tryz.f85 _ mixed Tryz.func85 rfl rfl (by simp [Tryz.ntmps85]) ?_);simp;refine ax.pure _ (fun _=>qP n hp hl) ?_;simp;refine⟨fun hne=>by simp [bS,hne,I9],fun hz=> ?_⟩;refine aT.up mixed n.pts.length (fun i fr h'=>fr 1= .str s∧fr 4= .ptr (h.length+1) 0 0∧fr 13= .ro (n.pts.map eB)∧fr 14= .int .i64 n.pts.length∧fr 15= .int .i64 i∧
  bS n s=(n.pts.drop i).find? (fun p=>decide (p.name=s))∧ ∃g,h'=h++ .cells 2 [dB n]:: .cells 3 [eB I9]::g) 0 (by omega) ⟨by simp,by simp,by simp,by simp,by simp,by simp [bS,hz],[],by simp [I9]⟩ ?_
 rintro i fr h' hi ⟨e1,e4,e13,e14,e15,hf,g,rfl⟩;rcases zN i n.pts.length with hlt | hge
 ·obtain⟨p,hg,hg'⟩:=aN hlt;rw [bv hg,List.find?_cons] at hf;have ew:=aC (i:=i) (by omega);simp [e1,e4,e13,e14,e15,hlt,hg,hg',ew];refine⟨fun hq=> ?_,fun hq=>⟨i+1,by omega,by omega,by omega,?_⟩⟩
  ·simp [hq] at hf;simp [hf,hq]
  ·simp [hq] at hf;exact hf
 ·rw [zH hge] at hf;simp at hf;simp [e1,e4,e13,e14,e15,Nat.not_lt.2 hge,hf,I9]
theorem nA (l:List Pt)(m:Nat)(s:Bytes)(hl:l.length≤1000):aa Tryz.prog gl 89 [.ro (l.map eB),.int .i64 m,.str s] h fun v h'=>v= .int .i64 (kT (fun p:Pt=>decide (p.name=s)) (l.take m))∧h'=h:=by
 refine aa.data (.int _ _) (aa.body Tryz.f89 _ mixed Tryz.func89 rfl rfl (by simp [Tryz.ntmps89]) ?_);simp;refine aT.up mixed (l.take m).length (fun i fr h'=>fr 0= .ro (l.map eB)∧fr 1= .int .i64 m∧fr 2= .str s∧fr 7= .int .i64 i∧
  kT (fun p:Pt=>decide (p.name=s)) (l.take m)=idxFrom (fun p:Pt=>decide (p.name=s)) i ((l.take m).drop i)∧ ∃g,h'=h++g) 0 (by omega) ⟨by simp,by simp,by simp,by simp,by simp [kT],[],by simp⟩ ?_
 rintro i fr h' hi ⟨e0,e1,e2,e7,hf,g,rfl⟩;rcases zN i (l.take m).length with hlt | hge
 ·obtain⟨p,hg,hg'⟩:=aN hlt;rw [bv hg,idxFrom] at hf;rw [List.length_take] at hlt hi;rw [List.getElem?_take_of_lt (by omega)] at hg;have hg2:l[i]'(by omega)=p:=by rw [zB (by omega)] at hg;exact Option.some.inj hg
  have ew:=aC (i:=i) (by omega);have h1:i<m:=by omega
  have h2:i<l.length:=by omega
  simp [e0,e1,e2,e7,h1,h2,hg,hg2,ew];refine⟨fun hq=> ?_,fun hq=>⟨i+1,by omega,by omega,by omega,?_⟩⟩
  ·simp [hq] at hf;rw [hf]
  ·simp [hq] at hf;exact hf
 ·rw [zH hge,idxFrom] at hf;rw [List.length_take] at hge;by_cases h1:i<m
  ·have h2: ¬i<l.length:=by omega
   simp [e0,e1,e2,e7,h1,h2,hf]
  ·simp [e0,e1,e2,e7,h1,hf]
set_option maxHeartbeats 2000000 in
theorem yg (n:bg)(hp:n.pts.length≤1000)(hl:n.lks.length≤1000):aa Tryz.prog gl 57 [.agg (dB n)] h fun v h'=>v= .int .i64 (dR n)∧h'=h:=by
 refine aa.data (.int _ _) (aa.body Tryz.f57 _ mixed Tryz.func57 rfl rfl (by simp [Tryz.ntmps57]) ?_);by_cases hb:64<n.pts.length∨128<n.lks.length
 ·have:dR n=3:=by rw [dR,if_pos hb]
  rcases hb with hb | hb
  ·have hb':(64:Int)<n.pts.length:=by omega
   simp [this,hb']
  ·have hb':(128:Int)<n.lks.length:=by omega
   simp [this,hb']
 have hb1: ¬(64:Int)<n.pts.length:=by omega
 have hb2: ¬(128:Int)<n.lks.length:=by omega
 have hne:dR n=if fE [] n.pts≠0 then fE [] n.pts else iA n.pts [] n.lks:=by rw [dR,if_neg hb]
 simp [hb1,hb2];refine aT.up mixed n.pts.length (fun i fr h'=>fr 1= .ptr h.length 0 0∧fr 3= .int .i64 i∧
  fE [] n.pts=fE (n.pts.take i) (n.pts.drop i)∧ ∃g,h'=h++ .cells 2 [dB n]::g) 0 (by omega) ⟨by simp,by simp,by simp,[],by simp⟩ ?_
 rintro i fr h' hi ⟨e1,e3,hf,g,rfl⟩;rcases zN i n.pts.length with hlt | hge
 ·obtain⟨p,hg,hg'⟩:=aN hlt;rw [bv hg,fE] at hf;have ew:=aC (i:=i) (by omega);have ht:n.pts.take (i+1)=n.pts.take i++[p]:=by rw [zM,hg];rfl
  simp [e1,e3,hlt,hg,hg',ew];refine ax.pure _ (fun _=>pG p.name) ?_;simp [e1,e3,hlt,hg,hg',ew];refine⟨fun q1=>by rw [hne,hf];simp [q1],fun q1=> ?_⟩;refine ax.pure _ (fun _=>nA n.pts i p.name hp) ?_;simp [e1,e3,hlt,hg,hg',ew,vO];refine⟨fun q2=>by rw [hne,hf];simp [q1,q2],fun q2=>⟨fun q3=> ?_,fun q3 q4=> ?_⟩⟩
  ·have q3':p.kind<1∨4<p.kind:=by omega
   rw [hne,hf];simp [q1,q2,q3']
  ·have q3': ¬(p.kind<1∨4<p.kind):=by omega
   refine ax.pure _ (fun _=>pG p.sys) ?_;simp [e1,e3,hlt,hg,hg',ew];refine⟨fun q5 q6=> ?_,fun q5=>⟨i+1,by omega,by omega,by omega,?_⟩⟩
   ·rw [hne,hf];simp [q1,q2,q3',q5,q6]
   ·rw [hf,ht];have q5': ¬(p.sys≠[]∧dZ p.sys=false):=by rintro⟨a,b⟩;rw [q5 a] at b;cases b
    rw [if_neg (by simp [q1]),if_neg (by simp [q2]),if_neg q3',if_neg q5']
 ·rw [zH hge,fE] at hf;rw [hf] at hne;have hne:dR n=iA n.pts [] n.lks:=by simpa using hne
  simp [e1,e3,Nat.not_lt.2 hge];refine aT.up mixed n.lks.length (fun j fr h'=>fr 1= .ptr h.length 0 0∧fr 5= .int .i64 j∧
   iA n.pts [] n.lks=iA n.pts (n.lks.take j) (n.lks.drop j)∧ ∃g,h'=h++ .cells 2 [dB n]::g) 0 (by omega) ⟨by simp [e1],by simp,by simp,g,by simp⟩ ?_
  clear e1 e3 hf hi hge;rintro j fr h' hj ⟨e1,e5,hf,g,rfl⟩;rcases zN j n.lks.length with hlt | hge
  ·obtain⟨x,hg,hg'⟩:=aN hlt;rw [bv hg,iA] at hf;have hlk:(n.lks.take j).any (fun y=>decide (y.src=x.src) && decide (y.dst=x.dst))=lc (n.lks.take j) x.src x.dst:=rfl;rw [hlk] at hf;have ew:=aC (i:=j) (by omega);have ht:n.lks.take (j+1)=n.lks.take j++[x]:=by rw [zM,hg];rfl
   simp [e1,e5,hlt,hg,hg',ew];refine ax.pure _ (fun _=>nA n.pts 64 x.src hp) ?_;simp [e1,e5,hlt,hg,hg',ew,G6,qQ n.pts _ 64 (by omega)];refine ax.pure _ (fun _=>nA n.pts 64 x.dst hp) ?_;simp [e1,e5,hlt,hg,hg',ew,G6,qQ n.pts _ 64 (by omega)];refine⟨fun q=> ?_,fun q1 q2 q3=> ?_⟩
   ·rw [hne,hf,if_pos (by rcases q with (q | q) | q <;> simp [q])]
   refine aT.up mixed j (fun k fr h'=>fr 1= .ptr h.length 0 0∧fr 5= .int .i64 j∧fr 6= .ptr (h.length+(g.length+1)) 0 0∧fr 7= .int .i64 k∧lc (n.lks.take k) x.src x.dst=false∧
    h'=h++ .cells 2 [dB n]::(g++[.cells 4 [nT x]])) 0 (by omega) ⟨by simp [e1],by simp [e5],by simp,by simp,by simp [lc],by simp⟩ ?_
   clear e1 e5;rintro k fr h' hk ⟨e1,e5,e6,e7,hno,rfl⟩;rcases zN k j with hlt2 | hge2
   ·obtain⟨y,hy,hy'⟩:=aN (l:=n.lks) (i:=k) (by omega);have ew2:=aC (i:=k) (by omega);have hk2:k<n.lks.length:=by omega
    have hno2:lc (n.lks.take (k+1)) x.src x.dst=(decide (y.src=x.src) && decide (y.dst=x.dst)):=by
     rw [zM,hy,lc,List.any_append];rw [lc] at hno;rw [hno];simp
    simp [e1,e5,e6,e7,hlt2,hk2,hy,hy',ew2];refine⟨by decide,fun s1 s2=> ?_,fun s1=>⟨k+1,by omega,by omega,by omega,?_⟩⟩
    ·have:lc (n.lks.take j) x.src x.dst=true:=by
      rw [lc,List.any_eq_true];refine⟨y,?_,by simp [s1,s2]⟩;rw [List.mem_iff_getElem?];exact⟨k,by rw [List.getElem?_take_of_lt hlt2];exact hy⟩
     rw [hne,hf,if_neg (by simp [q1,q2,q3]),if_pos this]
    ·rw [hno2];by_cases s2:y.src=x.src
     ·simp [s1 s2]
     ·simp [s2]
   ·obtain rfl:k=j:=by omega
    simp [e1,e5,e6,e7,ew];refine⟨fun q5=> ?_,fun q5 q6 q7=>⟨k+1,by omega,by omega,by omega,?_⟩⟩
    ·rw [hne,hf,if_neg (by simp [q1,q2,q3]),if_neg (by simp [hno]),if_pos (by omega)]
    ·rw [hf,ht,if_neg (by simp [q1,q2,q3]),if_neg (by simp [hno]),if_neg (by omega)]
  ·rw [zH hge,iA] at hf;simp [e1,e5,Nat.not_lt.2 hge,hne,hf]
theorem Il (n:bg)(hp:n.pts.length≤1000)(hl:n.lks.length≤1000):aa Tryz.prog gl 88 [.agg (dB n)] h fun v h'=>v= .agg (dB (bW n))∧h'=h:=by
 refine aa.fresh (aa.body Tryz.f88 _ mixed Tryz.func88 rfl rfl (by simp [Tryz.ntmps88]) ?_);simp;refine ax.pure _ (fun _=>yg n hp hl) ?_;simp;refine⟨fun hz=> ?_,fun hz=> ?_⟩
 ·simp [bW,hz];exact .agg' (.cons .nil (.cons .nil .nil))
 ·simp [bW,hz];exact .data _ (by simp)
theorem mH (n:bg)(s:Bytes)(hp:n.pts.length≤1000)(hl:n.lks.length≤1000):aa Tryz.prog gl 50 [.agg (dB n),.str s] h fun v h'=>v= .tup [.agg (eB ((bS n s).getD I9)),.bool (bS n s).isSome]∧h'=h:=by
 refine aa.data (by simp) (aa.body Tryz.f50 _ mixed Tryz.func50 rfl rfl (by simp [Tryz.ntmps50]) ?_);simp;refine ax.pure _ (fun _=>Il n hp hl) ?_;have hv:=KS n;rw [Mq];generalize bW n=v at*;simp;refine ax.pure _ (fun _=>nA v.pts 64 s (by omega)) ?_;rw [zG (by omega)];rcases lT (fun p:Pt=>decide (p.name=s)) v.pts with⟨h1,h2⟩ | ⟨k,x,h1,h2,h3⟩
 ·rw [h1,h2];simp [I9]
 ·rw [h1,h3];obtain⟨hk,hk'⟩:=zA.1 h2;have hk0: ¬(k:Int)<0:=by omega
  simp [hk,hk',h2]
theorem wL (x:AV)(es:List (List AV))(hx:Rd 3 h x es)(hl:es.length≤1152921504606846976)(f:FuncId)(caps:List AV)(p:List AV→Bool)
  (hp: ∀e∈es,∀g,aa Tryz.prog gl f (.agg e::caps) (h++g) fun v h'=>v= .bool (p e)∧h'=h++g):
  aa Tryz.prog gl 125 [x,.fn (.func f) [] caps] h fun v h'=>v= .int .i64 (kT p es)∧h'=h:=by
 refine aa.data (by simp) (aa.body Tryz.f125 _ mixed Tryz.func125 rfl rfl (by simp [Tryz.ntmps125]) ?_);simp [hx.core,hx.gd,hx.lenOk,hx.alen];refine aT.up mixed es.length (fun i fr h'=>fr 0=x∧fr 1= .fn (.func f) [] caps∧fr 7= .int .i64 es.length∧fr 8= .int .i64 i∧kT p es=idxFrom p i (es.drop i)∧ ∃g,h'=h++g) 0 (by omega) ⟨by simp,by simp,by simp,by simp,by simp [kT],[],by simp⟩ ?_;rintro i fr h' hi ⟨e0,e1,e7,e8,hf,g,rfl⟩;have hx:=hx.append g;rcases zN i es.length with hlt | hge
 ·obtain⟨y,hg,hg'⟩:=aN hlt;have hy:y.length=3:=hx.2 y (hg'▸List.getElem_mem hlt);rw [bv hg,idxFrom] at hf;have ew:=aC (i:=i) (by omega);have h0:(0:Int)≤i:=by omega
  have h1:(i:Int)<es.length:=by omega
  simp [e0,e1,e7,e8,hlt,hx.core,hx.gd,hx.iaddrOk,h0,h1,hx.icore,hx.igd,hx.loadV h0 h1 hg,hx.loadOk h0 h1 hg,hy];rw [zG (by omega)];refine ax.pure _ (fun _=>hp y (hg'▸List.getElem_mem hlt) g) ?_;simp [e0,e1,e7,e8,ew];refine⟨fun hpy=>by simp [hf,hpy],fun hpy=>⟨i+1,by omega,by omega,by simp,by simp [hf,hpy]⟩⟩
 ·rw [zH hge] at hf;simp [e0,e1,e7,e8,hf,Nat.not_lt.2 hge,idxFrom]
end Go.Proofs.YtkpioblbeiaefaaGreat
