/- Part 6 of the lemmas below the statements of this seat: TollNet, Name, Graph, IndexSystem. -/
import Derived.Test.YtkpioblbeiaefaaGreatPr05
set_option linter.unusedSectionVars false
set_option linter.unusedVariables false
set_option linter.unusedSimpArgs false
set_option linter.unnecessarySimpa false
set_option maxRecDepth 100000
section
namespace Go.Toll
open Go Go.Abs
def Va (n:Nat):Bool:=decide (97≤n) && decide (n≤122)
def UT (n:Nat):Bool:=(decide (48≤n) && decide (n≤57)) || decide (n=45)
def UL (i:Nat)(n:Nat):Bool:=Va n || (!decide (i=0) && UT n)
def Eg:Nat→Bytes→Bool
 | _,[]=>true
 | i,c::s=>UL i c.toNat && Eg (i+1) s
def dW (s:Bytes):Bool:=decide (0<s.length) && decide (s.length≤12) && Eg 0 s
theorem MN (i m:Nat):UL i m=true↔((97≤m∧m≤122)∨(i≠0∧((48≤m∧m≤57)∨m=45))):=by simp [UL,Va,UT]
theorem Sk {i n:Nat} (h:128≤n):UL i n=false:=by
 have h1: ¬n≤122:=by omega
 have h2: ¬n≤57:=by omega
 have h3: ¬n=45:=by omega
 simp [UL,Va,UT,h1,h2,h3]
structure Pt where
 name:Bytes
 kind:Int
 sys:Bytes
 deriving DecidableEq
structure Lk where
 src:Bytes
 dst:Bytes
 min:Int
 max:Int
 deriving DecidableEq
structure bn where
 pts:List Pt
 lks:List Lk
 deriving DecidableEq
structure nL where
 name:Bytes
 closed:Bool
 most:Int
 deriving DecidableEq
structure aY where
 net:bn
 sys:List nL
 deriving DecidableEq
def jI (p:Pt):List AV:=[.str p.name,.int .i64 p.kind,.str p.sys]
def ja (l:Lk):List AV:=[.str l.src,.str l.dst,.int .i64 l.min,.int .i64 l.max]
def bU (n:bn):List AV:=[.ro (n.pts.map jI),.ro (n.lks.map ja)]
def dO (s:nL):List AV:=[.str s.name,.bool s.closed,.int .i64 s.most]
def aA (t:aY):List AV:=[.ro (t.net.pts.map jI),.ro (t.net.lks.map ja),.ro (t.sys.map dO)]
attribute [simp] jI ja bU dO aA
def aF (l:List Pt)(s:Bytes):Bool:=l.any fun p=>decide (p.name=s)
def fT (before:List Pt):List Pt→Int
 | []=>0
 | p::l=>if dW p.name=false then 6 else if aF before p.name then 9 else if p.kind<1∨4<p.kind then 1 else if p.sys≠[]∧dW p.sys=false then 6 else fT (before++[p]) l
def iR (pts:List Pt)(before:List Lk):List Lk→Int
 | []=>0
 | x::l=>if aF pts x.src=false∨aF pts x.dst=false∨x.src=x.dst then 16
  else if before.any (fun y=>decide (y.src=x.src) && decide (y.dst=x.dst)) then 9
  else if x.min<1∨x.max<x.min∨2147483648<x.max then 12 else iR pts (before++[x]) l
def d9 (n:bn):Int:=if 64<n.pts.length∨128<n.lks.length then 3 else if fT [] n.pts≠0 then fT [] n.pts else iR n.pts [] n.lks
def KD:Pt:=⟨[],0,[]⟩
def sys0:nL:=⟨[],false,0⟩
def dF (n:bn)(s:Bytes):Option Pt:=if d9 n=0 then n.pts.find? fun p=>decide (p.name=s) else none
def dY (l:List nL)(s:Bytes):Option nL:=l.find? fun y=>decide (y.name=s)
def qg (l:List nL)(p:Pt):Bool:=
 if p.kind=2∨p.kind=3 then (match dY l p.sys with | some s=>s.closed | none=>false)
 else if p.kind=1 then (match dY l p.sys with | some s=> !s.closed | none=>false)
 else (dY l p.sys).isSome || decide (p.sys=[])
def eO (before:List nL):List nL→Int
 | []=>0
 | s::l=>if dW s.name=false then 6 else if (dY before s.name).isSome then 9 else if s.most<0∨2147483648<s.most∨(s.closed=true∧s.most=0) then 12 else eO (before++[s]) l
def bX (t:aY):Int:=if d9 t.net≠0 then d9 t.net else if 64<t.sys.length then 3 else if eO [] t.sys≠0 then eO [] t.sys else if t.net.pts.all (qg t.sys) then 0 else 16
def FX:aY:=⟨⟨[],[]⟩,[]⟩
def aH (t:aY):aY:=if bX t=0 then t else FX
def kindOf (t:aY)(s:Bytes):Int:=((dF (aH t).net s).getD KD).kind
def fF (t:aY)(s:Bytes):Option nL:=match dF (aH t).net s with
 | some p=>if p.sys=[] then none else dY (aH t).sys p.sys
 | none=>none
def kS (l:List Pt):List (AV×AV):=l.map fun p=>(.str p.name,.bool true)
def lW (l:List Lk):List (AV×AV):=l.map fun x=>(.agg [.str x.src,.str x.dst],.bool true)
def l9 (l:List Lk)(a b:Bytes):Bool:=l.any fun y=>decide (y.src=a) && decide (y.dst=b)
theorem Ar (a b:Bytes):jv (ah (.str a)) (ah (.str b))=decide (b=a):=by
 by_cases h:b=a
 ·subst h;simp [ah,jv,mE]
 ·have h': ¬a=b:=fun e=>h e.symm;simp [ah,jv,mE,h,h']
theorem IQ (a b c d:Bytes):jv (ah (.agg [.str a,.str b])) (ah (.agg [.str c,.str d]))=(decide (c=a) && decide (d=b)):=by
 have h1:=Ar a c;have h2:=Ar b d;simp only [ah,jv,mE,Bool.and_true] at h1 h2 ⊢;rw [h1,h2]
theorem BG (s:Bytes): ∀l:List Pt,((kS l).find? fun p=>jv (ah (.str s)) (ah p.1)).map (·.2)=if aF l s then some (.bool true) else none
 | []=>rfl
 | p::l=>by
  have ih:=BG s l;rw [kS,List.map_cons,List.find?_cons,Ar,aF,List.any_cons];by_cases h:p.name=s
  ·simp [h]
  ·rw [show decide (p.name=s)=false from by simp [h],Bool.false_or];exact ih
theorem vO (l:List Pt)(s:Bytes):(gp (kS l) (.str s)).getD (.bool false)= .bool (aF l s):=by
 unfold gp;rw [BG];cases aF l s <;> rfl
theorem A8 {s:Bytes}: ∀ {l:List Pt},aF l s=false→nM (kS l) (.str s)=none
 | [],_=>rfl
 | p::l,h=>by
  rw [aF,List.any_cons,Bool.or_eq_false_iff] at h;have ih:=A8 (l:=l) h.2;rw [nM,kS,List.map_cons,List.findIdx?_cons,Ar,h.1];rw [nM,kS] at ih;rw [ih];simp
theorem KO {l:List Pt} {p:Pt} (h:aF l p.name=false):vB (kS l) (.str p.name) (.bool true)=kS (l++[p]):=by
 rw [vB,A8 h];simp [kS]
theorem BH (a b:Bytes): ∀l:List Lk,((lW l).find? fun p=>jv (ah (.agg [.str a,.str b])) (ah p.1)).map (·.2)=if l9 l a b then some (.bool true) else none
 | []=>rfl
 | x::l=>by
  have ih:=BH a b l;rw [lW,List.map_cons,List.find?_cons,IQ,l9,List.any_cons]
  cases h:decide (x.src=a) && decide (x.dst=b) with
  | true=>simp
  | false=>rw [Bool.false_or];exact ih
theorem Lt (l:List Lk)(a b:Bytes):(gp (lW l) (.agg [.str a,.str b])).getD (.bool false)= .bool (l9 l a b):=by
 unfold gp;rw [BH];cases l9 l a b <;> rfl
theorem A9 {a b:Bytes}: ∀ {l:List Lk},l9 l a b=false→nM (lW l) (.agg [.str a,.str b])=none
 | [],_=>rfl
 | x::l,h=>by
  rw [l9,List.any_cons,Bool.or_eq_false_iff] at h;have ih:=A9 (l:=l) h.2;rw [nM,lW,List.map_cons,List.findIdx?_cons,IQ,h.1];rw [nM,lW] at ih;rw [ih];simp
theorem KP {l:List Lk} {x:Lk} (h:l9 l x.src x.dst=false):vB (lW l) (.agg [.str x.src,.str x.dst]) (.bool true)=lW (l++[x]):=by
 rw [vB,A9 h];simp [lW]
theorem wZ {α:Type} (p:α→Bool): ∀(l:List α) (i:Nat),(idxFrom p i l= -1∧l.find? p=none)∨ ∃(k:Nat) (x:α),idxFrom p i l=((i+k:Nat):Int)∧l[k]? =some x∧l.find? p=some x
 | [],i=> .inl ⟨rfl,rfl⟩
 | x::l,i=>by
  rw [idxFrom,List.find?_cons]
  cases hx:p x with
  | true=>exact .inr ⟨0,x,by simp,rfl,rfl⟩
  | false=>
   rcases wZ p l (i+1) with⟨h1,h2⟩ | ⟨k,y,h1,h2,h3⟩
   ·exact .inl ⟨by simpa using h1,h2⟩
   ·exact .inr ⟨k+1,y,by show idxFrom p (i+1) l=_;rw [h1];omega,h2,h3⟩
theorem o8 {α:Type} (p:α→Bool)(l:List α):(kN p l= -1∧l.find? p=none)∨ ∃(k:Nat) (x:α),kN p l=(k:Int)∧l[k]? =some x∧l.find? p=some x:=by
 have:=wZ p l 0;simpa [kN] using this
theorem zh {α β:Type} (f:α→β)(p:β→Bool)(q:α→Bool)(h: ∀x,p (f x)=q x): ∀(l:List α) (i:Nat),idxFrom p i (l.map f)=idxFrom q i l
 | [],_=>rfl
 | x::l,i=>by rw [List.map_cons,idxFrom,idxFrom,h,zh f p q h l (i+1)]
theorem Jg {α β:Type} (f:α→β)(p:β→Bool)(q:α→Bool)(h: ∀x,p (f x)=q x)(l:List α):kN p (l.map f)=kN q l:=zh f p q h l 0
theorem xc (l:List Pt)(s:Bytes):decide (0≤kN (fun q:Pt=>decide (q.name=s)) l)=aF l s:=Jh _ _
theorem BV (l:List Pt)(s:Bytes):decide (kN (fun q:Pt=>decide (q.name=s)) l<0)= !aF l s:=by
 rw [←xc,←decide_not];congr 1
 simp
def cu (n:bn):bn:=if d9 n=0 then n else ⟨[],[]⟩
theorem vR {n:bn} (h:d9 n=0):n.pts.length≤64∧n.lks.length≤128:=by
 unfold d9 at h;split at h
 ·cases h
 ·omega
theorem MG (n:bn):(cu n).pts.length≤64∧(cu n).lks.length≤128:=by
 unfold cu;split
 ·rename_i h;exact vR h
 ·simp
theorem Oc (n:bn)(s:Bytes):dF n s=(cu n).pts.find? fun p=>decide (p.name=s):=by
 unfold dF cu;split <;> rfl
theorem sI (l:List Pt)(s:Bytes)(k:Nat)(h:l.length≤k):aF (l.take k) s=aF l s:=by rw [zG h]
theorem xD: ∀ {l before:List Pt},fT before l=0→ ∀p∈l,dW p.name=true∧1≤p.kind∧p.kind≤4
 | [],_,_=>by simp
 | p::l,before,h=>by
  rw [fT] at h;split at h
  ·cases h
  rename_i h1;split at h
  ·cases h
  split at h
  ·cases h
  rename_i h3;split at h
  ·cases h
  intro q hq;rcases List.mem_cons.1 hq with rfl | hq
  ·exact⟨by simpa using h1,by omega,by omega⟩
  ·exact xD h q hq
theorem jY {n:bn} (h:d9 n=0): ∀p∈n.pts,dW p.name=true∧1≤p.kind∧p.kind≤4:=by
 unfold d9 at h;split at h
 ·cases h
 split at h
 ·rename_i h2;exact absurd h h2
 ·rename_i h2;exact xD (by simpa using h2)
theorem nZ {t:aY} (h:bX t=0):d9 t.net=0∧t.sys.length≤64∧eO [] t.sys=0∧t.net.pts.all (qg t.sys)=true:=by
 unfold bX at h;split at h
 ·rename_i h2;exact absurd h h2
 rename_i h1;split at h
 ·cases h
 rename_i h2;split at h
 ·rename_i h3;exact absurd h h3
 rename_i h3;split at h
 ·rename_i h4;exact⟨by simpa using h1,by omega,by simpa using h3,h4⟩
 ·cases h
theorem fE (t:aY):d9 (aH t).net=0:=by
 unfold aH;split
 ·rename_i h;exact (nZ h).1
 ·rfl
theorem jC (t:aY):(aH t).net.pts.length≤64∧(aH t).net.lks.length≤128∧(aH t).sys.length≤64:=by
 have:=vR (fE t);refine⟨this.1,this.2,?_⟩;unfold aH;split
 ·rename_i h;exact (nZ h).2.1
 ·simp [FX]
def Xr:Sh:=Yd .str Nr .str
def Xq:Sh:=YK .str .str Nr Nr
def Ru:Sh:=Yd .str .bool Nr
def Rt:Sh:=XN (.sl Xr) (.sl Xq)
def H7:Sh:=XN Rt (.sl Ru)
theorem Ya {es:List AV} (h:Sh.bool.ok es): ∃b,es=[.bool b]:=h
theorem Xn {es:List AV} (h:Xr.ok es): ∃x:Pt,es=jI x∧True:=by
 obtain⟨_,_,_,rfl,h1,h2,h3⟩:=QN h;obtain⟨a,rfl,ha⟩:=Ev h1;obtain⟨b,rfl,hb⟩:=Hg h2;obtain⟨c,rfl,hc⟩:=Ev h3;exact⟨⟨a,b,c⟩,rfl,trivial⟩
theorem Xm {es:List AV} (h:Xq.ok es): ∃x:Lk,es=ja x∧True:=by
 obtain⟨_,_,_,_,rfl,h1,h2,h3,h4⟩:=Vi h;obtain⟨a,rfl,ha⟩:=Ev h1;obtain⟨b,rfl,hb⟩:=Ev h2;obtain⟨c,rfl,hc⟩:=Hg h3;obtain⟨d,rfl,hd⟩:=Hg h4;exact⟨⟨a,b,c,d⟩,rfl,trivial⟩
theorem Vh {es:List AV} (h:Ru.ok es): ∃x:nL,es=dO x∧True:=by
 obtain⟨_,_,_,rfl,h1,h2,h3⟩:=QN h;obtain⟨a,rfl,ha⟩:=Ev h1;obtain⟨b,rfl⟩:=Ya h2;obtain⟨c,rfl,hc⟩:=Hg h3;exact⟨⟨a,b,c⟩,rfl,trivial⟩
theorem Vg {es:List AV} (h:Rt.ok es): ∃x:bn,es=bU x∧True:=by
 obtain⟨_,_,rfl,h1,h2⟩:=LA h;obtain⟨a,rfl,ha⟩:=QL h1 fun _=>Xn;obtain⟨b,rfl,hb⟩:=QL h2 fun _=>Xm;exact⟨⟨a,b⟩,rfl,trivial⟩
theorem SX {es:List AV} (h:H7.ok es): ∃x:aY,es=aA x∧True:=by
 obtain⟨_,_,rfl,h1,h2⟩:=LA h;obtain⟨a,rfl,ha⟩:=Vg h1;obtain⟨b,rfl,hb⟩:=QL h2 fun _=>Vh;exact⟨⟨a,b⟩,rfl,trivial⟩
theorem IK {x:AV} (h:Cv H7 x): ∃t:aY,x= .agg (aA t):=by
 obtain⟨t,h,_⟩:=Wt (f:= .cons Rt (.cons (.sl Ru) .none)) h fun _=>SX;exact⟨t,h⟩
end Go.Toll
end
section
namespace Go.Proofs.YtkpioblbeiaefaaGreat
open Go Go.Abs Go.Toll
variable {gl : aM} {h : af}
set_option maxHeartbeats 1000000 in
theorem yQ (s:Bytes):aa Tryz.prog gl 161 [.str s] h fun v h'=>v= .bool (dW s)∧h'=h:=by
 refine aa.data (.bool _) (aa.body Tryz.f161 _ mixed Tryz.func161 rfl rfl (by simp [Tryz.ntmps161]) ?_);by_cases h0:s=[]
 ·subst h0;simp [dW]
 by_cases h12:(12:Int)<s.length
 ·simp [h0,h12,dW];omega
 have hp:0<s.length:=List.length_pos_iff.2 h0;have hn:dW s=Eg 0 s:=by simp [dW,hp];omega
 simp [h0,h12];refine aT.up mixed s.length (fun i fr h'=>fr 14= .obj h.length∧h'=h++[pQ s i]∧dW s=Eg i (s.drop i)) 0 (by omega) ⟨by simp,by simp,by simp [hn]⟩ ?_;rintro i fr h' hi ⟨e14,rfl,hf⟩;rcases zN i s.length with hlt | hge
 ·obtain⟨c,hg,hg'⟩:=aJ hlt;rw [bq hg,Eg] at hf;by_cases hc:c.toNat<128
  ·have hr:=HY hg hc;simp [e14];refine⟨s,i,⟨rfl,rfl⟩,?_⟩;rw [hr];have key:=MN i c.toNat;simp only;generalize c.toNat=m at*;refine⟨fun _=>⟨by omega,by omega,by omega,fun a b=> ?_,fun a=>⟨i+1,by omega,by omega,⟨trivial,rfl⟩,?_⟩⟩,fun hh=>absurd hh (by omega)⟩
   ·have:UL i m=false:=by rw [Bool.eq_false_iff,ne_eq,key];omega
    rw [hf,this];rfl
   ·rw [hf,key.2 (by omega),Bool.true_and]
  ·have hr:=(L8 hg hc).1;rw [Sk (by omega)] at hf;simp [e14];refine⟨s,i,⟨rfl,rfl⟩,?_⟩;generalize (lX s i).1=m at*;refine⟨fun _=>⟨by omega,by omega,by omega,fun a b=>hf,fun a=>by omega⟩,fun hh=>absurd hh (by omega)⟩
 ·rw [zH hge,Eg] at hf;simp [e14];exact⟨s,i,⟨rfl,rfl⟩,fun hh=>absurd hh (by omega),fun _=>hf⟩
set_option maxHeartbeats 1000000 in
theorem qG (s:Bytes):aa Tryz.prog gl 58 [.str s] h fun v h'=>v= .bool (dW s)∧h'=h:=by
 refine aa.data (.bool _) (aa.body Tryz.f58 _ mixed Tryz.func58 rfl rfl (by simp [Tryz.ntmps58]) ?_);by_cases h0:(s.length:Int)<1
 ·simp [h0,dW];omega
 by_cases h12:(12:Int)<s.length
 ·simp [h0,h12,dW];omega
 have hn:dW s=Eg 0 s:=by simp [dW];omega
 simp [h0,h12];refine aT.up mixed s.length (fun i fr h'=>fr 0= .str s∧fr 3= .int .i64 i∧h'=h∧dW s=Eg i (s.drop i)) 0 (by omega) ⟨by simp,by simp,by simp,by simp [hn]⟩ ?_;rintro i fr h' hi ⟨e0,e3,rfl,hf⟩;rcases zN i s.length with hlt | hge
 ·obtain⟨c,hg,hg'⟩:=aJ hlt;rw [bq hg,Eg] at hf;have ew:=aB (i:=i) (by omega);simp [e0,e3,hlt,hg,hg',ew];have key:=MN i c.toNat;generalize c.toNat=m at*;refine⟨by omega,by omega,fun a b=> ?_,fun a=>⟨i+1,by omega,by omega,by omega,?_⟩⟩
  ·have:UL i m=false:=by rw [Bool.eq_false_iff,ne_eq,key];omega
   rw [hf,this];rfl
  ·rw [hf,key.2 (by omega),Bool.true_and]
 ·rw [zH hge,Eg] at hf;simp [e0,e3,Nat.not_lt.2 hge,hf]
theorem qp (l:List Pt)(s:Bytes):bg Tryz.prog 9 (.str s) (kS l):=by
 refine⟨by simp [dE],[.str],by simp,by simp,fun p hp=> ?_⟩;obtain⟨q,_,rfl⟩:=List.mem_map.1 hp;simp
theorem GR (l:List Lk)(a b:Bytes):bg Tryz.prog 202 (.agg [.str a,.str b]) (lW l):=by
 refine⟨by simp [dE],[.str,.str],by simp,by simp,fun p hp=> ?_⟩;obtain⟨q,_,rfl⟩:=List.mem_map.1 hp;simp
set_option maxHeartbeats 2000000 in
theorem sH (n:bn)(hp:n.pts.length≤1000)(hl:n.lks.length≤1000):aa Tryz.prog gl 123 [.agg (bU n)] h fun v h'=>v= .int .i64 (d9 n)∧h'=h:=by
 refine aa.data (.int _ _) (aa.body Tryz.f123 _ mixed Tryz.func123 rfl rfl (by simp [Tryz.ntmps123]) ?_);by_cases hb:64<n.pts.length∨128<n.lks.length
 ·have:d9 n=3:=by rw [d9,if_pos hb]
  rcases hb with hb | hb
  ·have hb':(64:Int)<n.pts.length:=by omega
   simp [this,hb']
  ·have hb':(128:Int)<n.lks.length:=by omega
   simp [this,hb']
 have hb1: ¬(64:Int)<n.pts.length:=by omega
 have hb2: ¬(128:Int)<n.lks.length:=by omega
 have hne:d9 n=if fT [] n.pts≠0 then fT [] n.pts else iR n.pts [] n.lks:=by rw [d9,if_neg hb]
 simp [hb1,hb2];refine aT.up mixed n.pts.length (fun i fr h'=>fr 1= .ptr h.length 0 0∧fr 3= .map (h.length+1)∧fr 22= .ro (n.pts.map jI)∧fr 23= .int .i64 n.pts.length∧fr 24= .int .i64 i∧
  fT [] n.pts=fT (n.pts.take i) (n.pts.drop i)∧ ∃g,h'=h++ .cells 2 [bU n]:: .map (kS (n.pts.take i))::g) 0 (by omega) ⟨by simp,by simp,by simp,by simp,by simp,by simp,[],by simp [kS]⟩ ?_
 rintro i fr h' hi ⟨e1,e3,e22,e23,e24,hf,g,rfl⟩;rcases zN i n.pts.length with hlt | hge
 ·obtain⟨p,hg,hg'⟩:=aJ hlt;rw [bq hg,fT] at hf;have ew:=aB (i:=i) (by omega);have ht:n.pts.take (i+1)=n.pts.take i++[p]:=by rw [zM,hg];rfl
  simp [e1,e3,e22,e23,e24,hlt,hg,hg',ew];refine ax.pure _ (fun _=>yQ p.name) ?_;simp [e1,e3,e22,e23,e24,hlt,hg,hg',ew,-bg,qp,vO];refine⟨fun q1=> ?_,fun q1=>⟨fun q2=> ?_,fun q2=>⟨fun q3=> ?_,fun q3 q4=> ?_⟩⟩⟩
  ·rw [hne,hf];simp [q1]
  ·rw [hne,hf];simp [q1,q2]
  ·have q3':p.kind<1∨4<p.kind:=by omega
   rw [hne,hf];simp [q1,q2,q3']
  ·have q3': ¬(p.kind<1∨4<p.kind):=by omega
   refine ax.pure _ (fun _=>yQ p.sys) ?_;simp [e1,e3,e22,e23,e24,hlt,hg,hg',ew,-bg,qp,vO,KO q2];refine⟨fun q5 q6=> ?_,fun q5=>⟨i+1,by omega,by omega,by omega,?_,by rw [ht]⟩⟩
   ·rw [hne,hf];simp [q1,q2,q3',q5,q6]
   ·rw [hf,ht];have q5': ¬(p.sys≠[]∧dW p.sys=false):=by rintro⟨a,b⟩;rw [q5 a] at b;cases b
    rw [if_neg (by simp [q1]),if_neg (by simp [q2]),if_neg q3',if_neg q5']
 ·rw [zH hge,fT] at hf;rw [hf] at hne;have hne:d9 n=iR n.pts [] n.lks:=by simpa using hne
  simp [e1,e3,e22,e23,e24,Nat.not_lt.2 hge];rw [zG hge];refine aT.up mixed n.lks.length (fun j fr h'=>fr 1= .ptr h.length 0 0∧fr 3= .map (h.length+1)∧fr 6= .map (h.length+(g.length+1+1))∧fr 63= .ro (n.lks.map ja)∧fr 64= .int .i64 n.lks.length∧fr 65= .int .i64 j∧
   iR n.pts [] n.lks=iR n.pts (n.lks.take j) (n.lks.drop j)∧ ∃g1,h'=h++ .cells 2 [bU n]:: .map (kS n.pts)::(g++ .map (lW (n.lks.take j))::g1)) 0 (by omega) ⟨by simp [e1],by simp [e3],by simp,by simp,by simp,by simp,by simp,[],by simp [lW]⟩ ?_
  clear e1 e3 e22 e23 e24 hf hi hge;rintro j fr h' hj ⟨e1,e3,e6,e63,e64,e65,hf,g1,rfl⟩;rcases zN j n.lks.length with hlt | hge
  ·obtain⟨x,hg,hg'⟩:=aJ hlt;rw [bq hg,iR] at hf;have ew:=aB (i:=j) (by omega);have ht:n.lks.take (j+1)=n.lks.take j++[x]:=by rw [zM,hg];rfl
   simp [e1,e3,e6,e63,e64,e65,hlt,hg,hg',ew,-bg,qp,vO,GR,Lt];have hlk:(n.lks.take j).any (fun y=>decide (y.src=x.src) && decide (y.dst=x.dst))=l9 (n.lks.take j) x.src x.dst:=rfl;rw [hlk] at hf;refine⟨fun q=> ?_,fun q1 q2 q3=>⟨fun q4=> ?_,fun q4=>⟨fun q5=> ?_,fun q5 q6 q7=> ?_⟩⟩⟩
   ·rw [hne,hf,if_pos (by rcases q with (q | q) | q <;> simp [q])]
   ·rw [hne,hf,if_neg (by simp [q1,q2,q3]),if_pos q4]
   ·rw [hne,hf,if_neg (by simp [q1,q2,q3]),if_neg (by simp [q4]),if_pos (by omega)]
   ·refine⟨j+1,by omega,by omega,by omega,?_,by rw [ht];exact KP q4⟩;rw [hf,ht,if_neg (by simp [q1,q2,q3]),if_neg (by simp [q4]),if_neg (by omega)]
  ·rw [zH hge,iR] at hf;simp [e1,e3,e6,e63,e64,e65,Nat.not_lt.2 hge,hne,hf]
theorem kL (n:bn)(s:Bytes)(hp:n.pts.length≤1000)(hl:n.lks.length≤1000):aa Tryz.prog gl 85 [.agg (bU n),.str s] h fun v h'=>v= .tup [.agg (jI ((dF n s).getD KD)),.bool (dF n s).isSome]∧h'=h:=by
 refine aa.data (by simp) (aa.body Tryz.f85 _ mixed Tryz.func85 rfl rfl (by simp [Tryz.ntmps85]) ?_);simp;refine ax.pure _ (fun _=>sH n hp hl) ?_;simp;refine⟨fun hne=>by simp [dF,hne,KD],fun hz=> ?_⟩;refine aT.up mixed n.pts.length (fun i fr h'=>fr 1= .str s∧fr 4= .ptr (h.length+1) 0 0∧fr 13= .ro (n.pts.map jI)∧fr 14= .int .i64 n.pts.length∧fr 15= .int .i64 i∧
  dF n s=(n.pts.drop i).find? (fun p=>decide (p.name=s))∧ ∃g,h'=h++ .cells 2 [bU n]:: .cells 3 [jI KD]::g) 0 (by omega) ⟨by simp,by simp,by simp,by simp,by simp,by simp [dF,hz],[],by simp [KD]⟩ ?_
 rintro i fr h' hi ⟨e1,e4,e13,e14,e15,hf,g,rfl⟩;rcases zN i n.pts.length with hlt | hge
 ·obtain⟨p,hg,hg'⟩:=aJ hlt;rw [bq hg,List.find?_cons] at hf;have ew:=aB (i:=i) (by omega);simp [e1,e4,e13,e14,e15,hlt,hg,hg',ew];refine⟨fun hq=> ?_,fun hq=>⟨i+1,by omega,by omega,by omega,?_⟩⟩
  ·simp [hq] at hf;simp [hf,hq]
  ·simp [hq] at hf;exact hf
 ·rw [zH hge] at hf;simp at hf;simp [e1,e4,e13,e14,e15,Nat.not_lt.2 hge,hf,KD]
theorem gz (l:List Pt)(m:Nat)(s:Bytes)(hl:l.length≤1000):aa Tryz.prog gl 89 [.ro (l.map jI),.int .i64 m,.str s] h fun v h'=>v= .int .i64 (kN (fun p:Pt=>decide (p.name=s)) (l.take m))∧h'=h:=by
 refine aa.data (.int _ _) (aa.body Tryz.f89 _ mixed Tryz.func89 rfl rfl (by simp [Tryz.ntmps89]) ?_);simp;refine aT.up mixed (l.take m).length (fun i fr h'=>fr 0= .ro (l.map jI)∧fr 1= .int .i64 m∧fr 2= .str s∧fr 7= .int .i64 i∧
  kN (fun p:Pt=>decide (p.name=s)) (l.take m)=idxFrom (fun p:Pt=>decide (p.name=s)) i ((l.take m).drop i)∧ ∃g,h'=h++g) 0 (by omega) ⟨by simp,by simp,by simp,by simp,by simp [kN],[],by simp⟩ ?_
 rintro i fr h' hi ⟨e0,e1,e2,e7,hf,g,rfl⟩;rcases zN i (l.take m).length with hlt | hge
 ·obtain⟨p,hg,hg'⟩:=aJ hlt;rw [bq hg,idxFrom] at hf;rw [List.length_take] at hlt hi;rw [List.getElem?_take_of_lt (by omega)] at hg;have hg2:l[i]'(by omega)=p:=by rw [zB (by omega)] at hg;exact Option.some.inj hg
  have ew:=aB (i:=i) (by omega);have h1:i<m:=by omega
  have h2:i<l.length:=by omega
  simp [e0,e1,e2,e7,h1,h2,hg,hg2,ew];refine⟨fun hq=> ?_,fun hq=>⟨i+1,by omega,by omega,by omega,?_⟩⟩
  ·simp [hq] at hf;rw [hf]
  ·simp [hq] at hf;exact hf
 ·rw [zH hge,idxFrom] at hf;rw [List.length_take] at hge;by_cases h1:i<m
  ·have h2: ¬i<l.length:=by omega
   simp [e0,e1,e2,e7,h1,h2,hf]
  ·simp [e0,e1,e2,e7,h1,hf]
set_option maxHeartbeats 2000000 in
theorem zx (n:bn)(hp:n.pts.length≤1000)(hl:n.lks.length≤1000):aa Tryz.prog gl 57 [.agg (bU n)] h fun v h'=>v= .int .i64 (d9 n)∧h'=h:=by
 refine aa.data (.int _ _) (aa.body Tryz.f57 _ mixed Tryz.func57 rfl rfl (by simp [Tryz.ntmps57]) ?_);by_cases hb:64<n.pts.length∨128<n.lks.length
 ·have:d9 n=3:=by rw [d9,if_pos hb]
  rcases hb with hb | hb
  ·have hb':(64:Int)<n.pts.length:=by omega
   simp [this,hb']
  ·have hb':(128:Int)<n.lks.length:=by omega
   simp [this,hb']
 have hb1: ¬(64:Int)<n.pts.length:=by omega
 have hb2: ¬(128:Int)<n.lks.length:=by omega
 have hne:d9 n=if fT [] n.pts≠0 then fT [] n.pts else iR n.pts [] n.lks:=by rw [d9,if_neg hb]
 simp [hb1,hb2];refine aT.up mixed n.pts.length (fun i fr h'=>fr 1= .ptr h.length 0 0∧fr 3= .int .i64 i∧
  fT [] n.pts=fT (n.pts.take i) (n.pts.drop i)∧ ∃g,h'=h++ .cells 2 [bU n]::g) 0 (by omega) ⟨by simp,by simp,by simp,[],by simp⟩ ?_
 rintro i fr h' hi ⟨e1,e3,hf,g,rfl⟩;rcases zN i n.pts.length with hlt | hge
 ·obtain⟨p,hg,hg'⟩:=aJ hlt;rw [bq hg,fT] at hf;have ew:=aB (i:=i) (by omega);have ht:n.pts.take (i+1)=n.pts.take i++[p]:=by rw [zM,hg];rfl
  simp [e1,e3,hlt,hg,hg',ew];refine ax.pure _ (fun _=>qG p.name) ?_;simp [e1,e3,hlt,hg,hg',ew];refine⟨fun q1=>by rw [hne,hf];simp [q1],fun q1=> ?_⟩;refine ax.pure _ (fun _=>gz n.pts i p.name hp) ?_;simp [e1,e3,hlt,hg,hg',ew,xc];refine⟨fun q2=>by rw [hne,hf];simp [q1,q2],fun q2=>⟨fun q3=> ?_,fun q3 q4=> ?_⟩⟩
  ·have q3':p.kind<1∨4<p.kind:=by omega
   rw [hne,hf];simp [q1,q2,q3']
  ·have q3': ¬(p.kind<1∨4<p.kind):=by omega
   refine ax.pure _ (fun _=>qG p.sys) ?_;simp [e1,e3,hlt,hg,hg',ew];refine⟨fun q5 q6=> ?_,fun q5=>⟨i+1,by omega,by omega,by omega,?_⟩⟩
   ·rw [hne,hf];simp [q1,q2,q3',q5,q6]
   ·rw [hf,ht];have q5': ¬(p.sys≠[]∧dW p.sys=false):=by rintro⟨a,b⟩;rw [q5 a] at b;cases b
    rw [if_neg (by simp [q1]),if_neg (by simp [q2]),if_neg q3',if_neg q5']
 ·rw [zH hge,fT] at hf;rw [hf] at hne;have hne:d9 n=iR n.pts [] n.lks:=by simpa using hne
  simp [e1,e3,Nat.not_lt.2 hge];refine aT.up mixed n.lks.length (fun j fr h'=>fr 1= .ptr h.length 0 0∧fr 5= .int .i64 j∧
   iR n.pts [] n.lks=iR n.pts (n.lks.take j) (n.lks.drop j)∧ ∃g,h'=h++ .cells 2 [bU n]::g) 0 (by omega) ⟨by simp [e1],by simp,by simp,g,by simp⟩ ?_
  clear e1 e3 hf hi hge;rintro j fr h' hj ⟨e1,e5,hf,g,rfl⟩;rcases zN j n.lks.length with hlt | hge
  ·obtain⟨x,hg,hg'⟩:=aJ hlt;rw [bq hg,iR] at hf;have hlk:(n.lks.take j).any (fun y=>decide (y.src=x.src) && decide (y.dst=x.dst))=l9 (n.lks.take j) x.src x.dst:=rfl;rw [hlk] at hf;have ew:=aB (i:=j) (by omega);have ht:n.lks.take (j+1)=n.lks.take j++[x]:=by rw [zM,hg];rfl
   simp [e1,e5,hlt,hg,hg',ew];refine ax.pure _ (fun _=>gz n.pts 64 x.src hp) ?_;simp [e1,e5,hlt,hg,hg',ew,BV,sI n.pts _ 64 (by omega)];refine ax.pure _ (fun _=>gz n.pts 64 x.dst hp) ?_;simp [e1,e5,hlt,hg,hg',ew,BV,sI n.pts _ 64 (by omega)];refine⟨fun q=> ?_,fun q1 q2 q3=> ?_⟩
   ·rw [hne,hf,if_pos (by rcases q with (q | q) | q <;> simp [q])]
   refine aT.up mixed j (fun k fr h'=>fr 1= .ptr h.length 0 0∧fr 5= .int .i64 j∧fr 6= .ptr (h.length+(g.length+1)) 0 0∧fr 7= .int .i64 k∧l9 (n.lks.take k) x.src x.dst=false∧
    h'=h++ .cells 2 [bU n]::(g++[.cells 4 [ja x]])) 0 (by omega) ⟨by simp [e1],by simp [e5],by simp,by simp,by simp [l9],by simp⟩ ?_
   clear e1 e5;rintro k fr h' hk ⟨e1,e5,e6,e7,hno,rfl⟩;rcases zN k j with hlt2 | hge2
   ·obtain⟨y,hy,hy'⟩:=aJ (l:=n.lks) (i:=k) (by omega);have ew2:=aB (i:=k) (by omega);have hk2:k<n.lks.length:=by omega
    have hno2:l9 (n.lks.take (k+1)) x.src x.dst=(decide (y.src=x.src) && decide (y.dst=x.dst)):=by
     rw [zM,hy,l9,List.any_append];rw [l9] at hno;rw [hno];simp
    simp [e1,e5,e6,e7,hlt2,hk2,hy,hy',ew2];refine⟨by decide,fun s1 s2=> ?_,fun s1=>⟨k+1,by omega,by omega,by omega,?_⟩⟩
    ·have:l9 (n.lks.take j) x.src x.dst=true:=by
      rw [l9,List.any_eq_true];refine⟨y,?_,by simp [s1,s2]⟩;rw [List.mem_iff_getElem?];exact⟨k,by rw [List.getElem?_take_of_lt hlt2];exact hy⟩
     rw [hne,hf,if_neg (by simp [q1,q2,q3]),if_pos this]
    ·rw [hno2];by_cases s2:y.src=x.src
     ·simp [s1 s2]
     ·simp [s2]
   ·obtain rfl:k=j:=by omega
    simp [e1,e5,e6,e7,ew];refine⟨fun q5=> ?_,fun q5 q6 q7=>⟨k+1,by omega,by omega,by omega,?_⟩⟩
    ·rw [hne,hf,if_neg (by simp [q1,q2,q3]),if_neg (by simp [hno]),if_pos (by omega)]
    ·rw [hf,ht,if_neg (by simp [q1,q2,q3]),if_neg (by simp [hno]),if_neg (by omega)]
  ·rw [zH hge,iR] at hf;simp [e1,e5,Nat.not_lt.2 hge,hne,hf]
theorem zy (n:bn)(hp:n.pts.length≤1000)(hl:n.lks.length≤1000):aa Tryz.prog gl 88 [.agg (bU n)] h fun v h'=>v= .agg (bU (cu n))∧h'=h:=by
 refine aa.fresh (aa.body Tryz.f88 _ mixed Tryz.func88 rfl rfl (by simp [Tryz.ntmps88]) ?_);simp;refine ax.pure _ (fun _=>zx n hp hl) ?_;simp;refine⟨fun hz=> ?_,fun hz=> ?_⟩
 ·simp [cu,hz];exact .agg' (.cons .nil (.cons .nil .nil))
 ·simp [cu,hz];exact .data _ (by simp)
theorem vY (n:bn)(s:Bytes)(hp:n.pts.length≤1000)(hl:n.lks.length≤1000):aa Tryz.prog gl 50 [.agg (bU n),.str s] h fun v h'=>v= .tup [.agg (jI ((dF n s).getD KD)),.bool (dF n s).isSome]∧h'=h:=by
 refine aa.data (by simp) (aa.body Tryz.f50 _ mixed Tryz.func50 rfl rfl (by simp [Tryz.ntmps50]) ?_);simp;refine ax.pure _ (fun _=>zy n hp hl) ?_;have hv:=MG n;rw [Oc];generalize cu n=v at*;simp;refine ax.pure _ (fun _=>gz v.pts 64 s (by omega)) ?_;rw [zG (by omega)];rcases o8 (fun p:Pt=>decide (p.name=s)) v.pts with⟨h1,h2⟩ | ⟨k,x,h1,h2,h3⟩
 ·rw [h1,h2];simp [KD]
 ·rw [h1,h3];obtain⟨hk,hk'⟩:=zA.1 h2;have hk0: ¬(k:Int)<0:=by omega
  simp [hk,hk',h2]
theorem xR (x:AV)(es:List (List AV))(hx:Rd 3 h x es)(hl:es.length≤1152921504606846976)(f:FuncId)(caps:List AV)(p:List AV→Bool)
  (hp: ∀e∈es,∀g,aa Tryz.prog gl f (.agg e::caps) (h++g) fun v h'=>v= .bool (p e)∧h'=h++g):
  aa Tryz.prog gl 125 [x,.fn (.func f) [] caps] h fun v h'=>v= .int .i64 (kN p es)∧h'=h:=by
 refine aa.data (by simp) (aa.body Tryz.f125 _ mixed Tryz.func125 rfl rfl (by simp [Tryz.ntmps125]) ?_);simp [hx.core,hx.gd,hx.lenOk,hx.alen];refine aT.up mixed es.length (fun i fr h'=>fr 0=x∧fr 1= .fn (.func f) [] caps∧fr 7= .int .i64 es.length∧fr 8= .int .i64 i∧kN p es=idxFrom p i (es.drop i)∧ ∃g,h'=h++g) 0 (by omega) ⟨by simp,by simp,by simp,by simp,by simp [kN],[],by simp⟩ ?_;rintro i fr h' hi ⟨e0,e1,e7,e8,hf,g,rfl⟩;have hx:=hx.append g;rcases zN i es.length with hlt | hge
 ·obtain⟨y,hg,hg'⟩:=aJ hlt;have hy:y.length=3:=hx.2 y (hg'▸List.getElem_mem hlt);rw [bq hg,idxFrom] at hf;have ew:=aB (i:=i) (by omega);have h0:(0:Int)≤i:=by omega
  have h1:(i:Int)<es.length:=by omega
  simp [e0,e1,e7,e8,hlt,hx.core,hx.gd,hx.iaddrOk,h0,h1,hx.icore,hx.igd,hx.loadV h0 h1 hg,hx.loadOk h0 h1 hg,hy];rw [zG (by omega)];refine ax.pure _ (fun _=>hp y (hg'▸List.getElem_mem hlt) g) ?_;simp [e0,e1,e7,e8,ew];refine⟨fun hpy=>by simp [hf,hpy],fun hpy=>⟨i+1,by omega,by omega,by simp,by simp [hf,hpy]⟩⟩
 ·rw [zH hge] at hf;simp [e0,e1,e7,e8,hf,Nat.not_lt.2 hge,idxFrom]
end Go.Proofs.YtkpioblbeiaefaaGreat
end
