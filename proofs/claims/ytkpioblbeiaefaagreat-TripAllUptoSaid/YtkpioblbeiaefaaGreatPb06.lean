/- Part 6 of the lemmas below the statements of this seat: TollNet, Name, Graph, IndexSystem. -/
import Derived.Test.YtkpioblbeiaefaaGreatPb05
set_option linter.unusedSectionVars false
set_option linter.unusedVariables false
set_option linter.unusedSimpArgs false
set_option linter.unnecessarySimpa false
set_option maxRecDepth 100000
section
namespace Go.Toll
open Go Go.Abs
def Xf (n:Nat):Bool:=decide (97≤n) && decide (n≤122)
def WP (n:Nat):Bool:=(decide (48≤n) && decide (n≤57)) || decide (n=45)
def WJ (i:Nat)(n:Nat):Bool:=Xf n || (!decide (i=0) && WP n)
def FW:Nat→Bytes→Bool
 | _,[]=>true
 | i,c::s=>WJ i c.toNat && FW (i+1) s
def fE (s:Bytes):Bool:=decide (0<s.length) && decide (s.length≤12) && FW 0 s
theorem O1 (i m:Nat):WJ i m=true↔((97≤m∧m≤122)∨(i≠0∧((48≤m∧m≤57)∨m=45))):=by simp [WJ,Xf,WP]
theorem UK {i n:Nat} (h:128≤n):WJ i n=false:=by
 have h1: ¬n≤122:=by omega
 have h2: ¬n≤57:=by omega
 have h3: ¬n=45:=by omega
 simp [WJ,Xf,WP,h1,h2,h3]
structure Pt where
 name:Bytes
 kind:Int
 sys:Bytes
 deriving DecidableEq
structure Lk where
 src:Bytes
 dst:Bytes
 min:Int
 max:Int
 deriving DecidableEq
structure bv where
 pts:List Pt
 lks:List Lk
 deriving DecidableEq
structure ow where
 name:Bytes
 closed:Bool
 most:Int
 deriving DecidableEq
structure bn where
 net:bv
 sys:List ow
 deriving DecidableEq
def aZ (p:Pt):List AV:=[.str p.name,.int .i64 p.kind,.str p.sys]
def jF (l:Lk):List AV:=[.str l.src,.str l.dst,.int .i64 l.min,.int .i64 l.max]
def bE (n:bv):List AV:=[.ro (n.pts.map aZ),.ro (n.lks.map jF)]
def dH (s:ow):List AV:=[.str s.name,.bool s.closed,.int .i64 s.most]
def av (t:bn):List AV:=[.ro (t.net.pts.map aZ),.ro (t.net.lks.map jF),.ro (t.sys.map dH)]
attribute [simp] aZ jF bE dH av
def aL (l:List Pt)(s:Bytes):Bool:=l.any fun p=>decide (p.name=s)
def ib (before:List Pt):List Pt→Int
 | []=>0
 | p::l=>if fE p.name=false then 6 else if aL before p.name then 9 else if p.kind<1∨4<p.kind then 1 else if p.sys≠[]∧fE p.sys=false then 6 else ib (before++[p]) l
def jM (pts:List Pt)(before:List Lk):List Lk→Int
 | []=>0
 | x::l=>if aL pts x.src=false∨aL pts x.dst=false∨x.src=x.dst then 16
  else if before.any (fun y=>decide (y.src=x.src) && decide (y.dst=x.dst)) then 9
  else if x.min<1∨x.max<x.min∨2147483648<x.max then 12 else jM pts (before++[x]) l
def fA (n:bv):Int:=if 64<n.pts.length∨128<n.lks.length then 3 else if ib [] n.pts≠0 then ib [] n.pts else jM n.pts [] n.lks
def JR:Pt:=⟨[],0,[]⟩
def sys0:ow:=⟨[],false,0⟩
def bH (n:bv)(s:Bytes):Option Pt:=if fA n=0 then n.pts.find? fun p=>decide (p.name=s) else none
def dM (l:List ow)(s:Bytes):Option ow:=l.find? fun y=>decide (y.name=s)
def pq (l:List ow)(p:Pt):Bool:=
 if p.kind=2∨p.kind=3 then (match dM l p.sys with | some s=>s.closed | none=>false)
 else if p.kind=1 then (match dM l p.sys with | some s=> !s.closed | none=>false)
 else (dM l p.sys).isSome || decide (p.sys=[])
def gp (before:List ow):List ow→Int
 | []=>0
 | s::l=>if fE s.name=false then 6 else if (dM before s.name).isSome then 9 else if s.most<0∨2147483648<s.most∨(s.closed=true∧s.most=0) then 12 else gp (before++[s]) l
def bZ (t:bn):Int:=if fA t.net≠0 then fA t.net else if 64<t.sys.length then 3 else if gp [] t.sys≠0 then gp [] t.sys else if t.net.pts.all (pq t.sys) then 0 else 16
def y9:bn:=⟨⟨[],[]⟩,[]⟩
def aI (t:bn):bn:=if bZ t=0 then t else y9
def kindOf (t:bn)(s:Bytes):Int:=((bH (aI t).net s).getD JR).kind
def eu (t:bn)(s:Bytes):Option ow:=match bH (aI t).net s with
 | some p=>if p.sys=[] then none else dM (aI t).sys p.sys
 | none=>none
def lK (l:List Pt):List (AV×AV):=l.map fun p=>(.str p.name,.bool true)
def mU (l:List Lk):List (AV×AV):=l.map fun x=>(.agg [.str x.src,.str x.dst],.bool true)
def nk (l:List Lk)(a b:Bytes):Bool:=l.any fun y=>decide (y.src=a) && decide (y.dst=b)
theorem Cg (a b:Bytes):ku (ah (.str a)) (ah (.str b))=decide (b=a):=by
 by_cases h:b=a
 ·subst h;simp [ah,ku,nJ]
 ·have h': ¬a=b:=fun e=>h e.symm;simp [ah,ku,nJ,h,h']
theorem KG (a b c d:Bytes):ku (ah (.agg [.str a,.str b])) (ah (.agg [.str c,.str d]))=(decide (c=a) && decide (d=b)):=by
 have h1:=Cg a c;have h2:=Cg b d;simp only [ah,ku,nJ,Bool.and_true] at h1 h2 ⊢;rw [h1,h2]
theorem Dy (s:Bytes): ∀l:List Pt,((lK l).find? fun p=>ku (ah (.str s)) (ah p.1)).map (·.2)=if aL l s then some (.bool true) else none
 | []=>rfl
 | p::l=>by
  have ih:=Dy s l;rw [lK,List.map_cons,List.find?_cons,Cg,aL,List.any_cons];by_cases h:p.name=s
  ·simp [h]
  ·rw [show decide (p.name=s)=false from by simp [h],Bool.false_or];exact ih
theorem xD (l:List Pt)(s:Bytes):(iy (lK l) (.str s)).getD (.bool false)= .bool (aL l s):=by
 unfold iy;rw [Dy];cases aL l s <;> rfl
theorem CL {s:Bytes}: ∀ {l:List Pt},aL l s=false→o9 (lK l) (.str s)=none
 | [],_=>rfl
 | p::l,h=>by
  rw [aL,List.any_cons,Bool.or_eq_false_iff] at h;have ih:=CL (l:=l) h.2;rw [o9,lK,List.map_cons,List.findIdx?_cons,Cg,h.1];rw [o9,lK] at ih;rw [ih];simp
theorem M7 {l:List Pt} {p:Pt} (h:aL l p.name=false):w9 (lK l) (.str p.name) (.bool true)=lK (l++[p]):=by
 rw [w9,CL h];simp [lK]
theorem Dz (a b:Bytes): ∀l:List Lk,((mU l).find? fun p=>ku (ah (.agg [.str a,.str b])) (ah p.1)).map (·.2)=if nk l a b then some (.bool true) else none
 | []=>rfl
 | x::l=>by
  have ih:=Dz a b l;rw [mU,List.map_cons,List.find?_cons,KG,nk,List.any_cons]
  cases h:decide (x.src=a) && decide (x.dst=b) with
  | true=>simp
  | false=>rw [Bool.false_or];exact ih
theorem NM (l:List Lk)(a b:Bytes):(iy (mU l) (.agg [.str a,.str b])).getD (.bool false)= .bool (nk l a b):=by
 unfold iy;rw [Dz];cases nk l a b <;> rfl
theorem CO {a b:Bytes}: ∀ {l:List Lk},nk l a b=false→o9 (mU l) (.agg [.str a,.str b])=none
 | [],_=>rfl
 | x::l,h=>by
  rw [nk,List.any_cons,Bool.or_eq_false_iff] at h;have ih:=CO (l:=l) h.2;rw [o9,mU,List.map_cons,List.findIdx?_cons,KG,h.1];rw [o9,mU] at ih;rw [ih];simp
theorem M8 {l:List Lk} {x:Lk} (h:nk l x.src x.dst=false):w9 (mU l) (.agg [.str x.src,.str x.dst]) (.bool true)=mU (l++[x]):=by
 rw [w9,CO h];simp [mU]
theorem yA {α:Type} (p:α→Bool): ∀(l:List α) (i:Nat),(idxFrom p i l= -1∧l.find? p=none)∨ ∃(k:Nat) (x:α),idxFrom p i l=((i+k:Nat):Int)∧l[k]? =some x∧l.find? p=some x
 | [],i=> .inl ⟨rfl,rfl⟩
 | x::l,i=>by
  rw [idxFrom,List.find?_cons]
  cases hx:p x with
  | true=>exact .inr ⟨0,x,by simp,rfl,rfl⟩
  | false=>
   rcases yA p l (i+1) with⟨h1,h2⟩ | ⟨k,y,h1,h2,h3⟩
   ·exact .inl ⟨by simpa using h1,h2⟩
   ·exact .inr ⟨k+1,y,by show idxFrom p (i+1) l=_;rw [h1];omega,h2,h3⟩
theorem nV {α:Type} (p:α→Bool)(l:List α):(lv p l= -1∧l.find? p=none)∨ ∃(k:Nat) (x:α),lv p l=(k:Int)∧l[k]? =some x∧l.find? p=some x:=by
 have:=yA p l 0;simpa [lv] using this
theorem A7 {α β:Type} (f:α→β)(p:β→Bool)(q:α→Bool)(h: ∀x,p (f x)=q x): ∀(l:List α) (i:Nat),idxFrom p i (l.map f)=idxFrom q i l
 | [],_=>rfl
 | x::l,i=>by rw [List.map_cons,idxFrom,idxFrom,h,A7 f p q h l (i+1)]
theorem K7 {α β:Type} (f:α→β)(p:β→Bool)(q:α→Bool)(h: ∀x,p (f x)=q x)(l:List α):lv p (l.map f)=lv q l:=A7 f p q h l 0
theorem yB (l:List Pt)(s:Bytes):decide (0≤lv (fun q:Pt=>decide (q.name=s)) l)=aL l s:=K8 _ _
theorem uJ (l:List Pt)(s:Bytes):decide (lv (fun q:Pt=>decide (q.name=s)) l<0)= !aL l s:=by
 rw [←yB,←decide_not];congr 1
 simp
def cO (n:bv):bv:=if fA n=0 then n else ⟨[],[]⟩
theorem xI {n:bv} (h:fA n=0):n.pts.length≤64∧n.lks.length≤128:=by
 unfold fA at h;split at h
 ·cases h
 ·omega
theorem OQ (n:bv):(cO n).pts.length≤64∧(cO n).lks.length≤128:=by
 unfold cO;split
 ·rename_i h;exact xI h
 ·simp
theorem Qs (n:bv)(s:Bytes):bH n s=(cO n).pts.find? fun p=>decide (p.name=s):=by
 unfold bH cO;split <;> rfl
theorem uH (l:List Pt)(s:Bytes)(k:Nat)(h:l.length≤k):aL (l.take k) s=aL l s:=by rw [zG h]
theorem yS: ∀ {l before:List Pt},ib before l=0→ ∀p∈l,fE p.name=true∧1≤p.kind∧p.kind≤4
 | [],_,_=>by simp
 | p::l,before,h=>by
  rw [ib] at h;split at h
  ·cases h
  rename_i h1;split at h
  ·cases h
  split at h
  ·cases h
  rename_i h3;split at h
  ·cases h
  intro q hq;rcases List.mem_cons.1 hq with rfl | hq
  ·exact⟨by simpa using h1,by omega,by omega⟩
  ·exact yS h q hq
theorem kY {n:bv} (h:fA n=0): ∀p∈n.pts,fE p.name=true∧1≤p.kind∧p.kind≤4:=by
 unfold fA at h;split at h
 ·cases h
 split at h
 ·rename_i h2;exact absurd h h2
 ·rename_i h2;exact yS (by simpa using h2)
theorem mK {t:bn} (h:bZ t=0):fA t.net=0∧t.sys.length≤64∧gp [] t.sys=0∧t.net.pts.all (pq t.sys)=true:=by
 unfold bZ at h;split at h
 ·rename_i h2;exact absurd h h2
 rename_i h1;split at h
 ·cases h
 rename_i h2;split at h
 ·rename_i h3;exact absurd h h3
 rename_i h3;split at h
 ·rename_i h4;exact⟨by simpa using h1,by omega,by simpa using h3,h4⟩
 ·cases h
theorem fC (t:bn):fA (aI t).net=0:=by
 unfold aI;split
 ·rename_i h;exact (mK h).1
 ·rfl
theorem eQ (t:bn):(aI t).net.pts.length≤64∧(aI t).net.lks.length≤128∧(aI t).sys.length≤64:=by
 have:=xI (fC t);refine⟨this.1,this.2,?_⟩;unfold aI;split
 ·rename_i h;exact (mK h).2.1
 ·simp [y9]
theorem Ru {t:bn} {s:Bytes} {p:Pt} (hp:bH (aI t).net s=some p)(hs:p.sys≠[]): ∃y,dM (aI t).sys p.sys=some y:=by
 unfold bH at hp;split at hp
 ·have hm:=List.mem_of_find?_eq_some hp;unfold aI at hm ⊢;split at hm
  ·rename_i h;obtain⟨_,_,_,h4⟩:=mK h;rw [if_pos h];have:=List.all_eq_true.1 h4 p hm;unfold pq at this
   cases hf:dM t.sys p.sys with
   | some y=>exact⟨y,rfl⟩
   | none=>rw [hf] at this;simp [hs] at this
  ·simp [y9] at hm
 ·cases hp
def Zc:Sh:=ZZ .str RQ .str
def Zb:Sh:=sh4 .str .str RQ RQ
def Ua:Sh:=ZZ .str .bool RQ
def T9:Sh:=ZA (.sl Zc) (.sl Zb)
def J5:Sh:=ZA T9 (.sl Ua)
theorem ZX {es:List AV} (h:Sh.bool.ok es): ∃b,es=[.bool b]:=h
theorem Y9 {es:List AV} (h:Zc.ok es): ∃x:Pt,es=aZ x∧True:=by
 obtain⟨_,_,_,rfl,h1,h2,h3⟩:=Te h;obtain⟨a,rfl,ha⟩:=Gj h1;obtain⟨b,rfl,hb⟩:=LG h2;obtain⟨c,rfl,hc⟩:=Gj h3;exact⟨⟨a,b,c⟩,rfl,trivial⟩
theorem Y8 {es:List AV} (h:Zb.ok es): ∃x:Lk,es=jF x∧True:=by
 obtain⟨_,_,_,_,rfl,h1,h2,h3,h4⟩:=Xn h;obtain⟨a,rfl,ha⟩:=Gj h1;obtain⟨b,rfl,hb⟩:=Gj h2;obtain⟨c,rfl,hc⟩:=LG h3;obtain⟨d,rfl,hd⟩:=LG h4;exact⟨⟨a,b,c,d⟩,rfl,trivial⟩
theorem Xm {es:List AV} (h:Ua.ok es): ∃x:ow,es=dH x∧True:=by
 obtain⟨_,_,_,rfl,h1,h2,h3⟩:=Te h;obtain⟨a,rfl,ha⟩:=Gj h1;obtain⟨b,rfl⟩:=ZX h2;obtain⟨c,rfl,hc⟩:=LG h3;exact⟨⟨a,b,c⟩,rfl,trivial⟩
theorem Xl {es:List AV} (h:T9.ok es): ∃x:bv,es=bE x∧True:=by
 obtain⟨_,_,rfl,h1,h2⟩:=NT h;obtain⟨a,rfl,ha⟩:=Tc h1 fun _=>Y9;obtain⟨b,rfl,hb⟩:=Tc h2 fun _=>Y8;exact⟨⟨a,b⟩,rfl,trivial⟩
theorem Ve {es:List AV} (h:J5.ok es): ∃x:bn,es=av x∧True:=by
 obtain⟨_,_,rfl,h1,h2⟩:=NT h;obtain⟨a,rfl,ha⟩:=Xl h1;obtain⟨b,rfl,hb⟩:=Tc h2 fun _=>Xm;exact⟨⟨a,b⟩,rfl,trivial⟩
theorem KA {x:AV} (h:Ib J5 x): ∃t:bn,x= .agg (av t):=by
 obtain⟨t,h,_⟩:=Yq (f:= .cons T9 (.cons (.sl Ua) .none)) h fun _=>Ve;exact⟨t,h⟩
end Go.Toll
end
section
namespace Go.Proofs.YtkpioblbeiaefaaGreat
open Go Go.Abs Go.Toll
variable {gl : aR} {h : ak}
set_option maxHeartbeats 1000000 in
theorem Ay (s:Bytes):af Tryz.prog gl 161 [.str s] h fun v h'=>v= .bool (fE s)∧h'=h:=by
 refine af.data (.bool _) (af.body Tryz.f161 _ mixed Tryz.func161 rfl rfl (by simp [Tryz.ntmps161]) ?_);by_cases h0:s=[]
 ·subst h0;simp [fE]
 by_cases h12:(12:Int)<s.length
 ·simp [h0,h12,fE];omega
 have hp:0<s.length:=List.length_pos_iff.2 h0;have hn:fE s=FW 0 s:=by simp [fE,hp];omega
 simp [h0,h12];refine aW.up mixed s.length (fun i fr h'=>fr 14= .obj h.length∧h'=h++[rH s i]∧fE s=FW i (s.drop i)) 0 (by omega) ⟨by simp,by simp,by simp [hn]⟩ ?_;rintro i fr h' hi ⟨e14,rfl,hf⟩;rcases zN i s.length with hlt | hge
 ·obtain⟨c,hg,hg'⟩:=aN hlt;rw [bF hg,FW] at hf;by_cases hc:c.toNat<128
  ·have hr:=J3 hg hc;simp [e14];refine⟨s,i,⟨rfl,rfl⟩,?_⟩;rw [hr];have key:=O1 i c.toNat;simp only;generalize c.toNat=m at*;refine⟨fun _=>⟨by omega,by omega,by omega,fun a b=> ?_,fun a=>⟨i+1,by omega,by omega,⟨trivial,rfl⟩,?_⟩⟩,fun hh=>absurd hh (by omega)⟩
   ·have:WJ i m=false:=by rw [Bool.eq_false_iff,ne_eq,key];omega
    rw [hf,this];rfl
   ·rw [hf,key.2 (by omega),Bool.true_and]
  ·have hr:=(Om hg hc).1;rw [UK (by omega)] at hf;simp [e14];refine⟨s,i,⟨rfl,rfl⟩,?_⟩;generalize (mV s i).1=m at*;refine⟨fun _=>⟨by omega,by omega,by omega,fun a b=>hf,fun a=>by omega⟩,fun hh=>absurd hh (by omega)⟩
 ·rw [zH hge,FW] at hf;simp [e14];exact⟨s,i,⟨rfl,rfl⟩,fun hh=>absurd hh (by omega),fun _=>hf⟩
set_option maxHeartbeats 1000000 in
theorem sO (s:Bytes):af Tryz.prog gl 58 [.str s] h fun v h'=>v= .bool (fE s)∧h'=h:=by
 refine af.data (.bool _) (af.body Tryz.f58 _ mixed Tryz.func58 rfl rfl (by simp [Tryz.ntmps58]) ?_);by_cases h0:(s.length:Int)<1
 ·simp [h0,fE];omega
 by_cases h12:(12:Int)<s.length
 ·simp [h0,h12,fE];omega
 have hn:fE s=FW 0 s:=by simp [fE];omega
 simp [h0,h12];refine aW.up mixed s.length (fun i fr h'=>fr 0= .str s∧fr 3= .int .i64 i∧h'=h∧fE s=FW i (s.drop i)) 0 (by omega) ⟨by simp,by simp,by simp,by simp [hn]⟩ ?_;rintro i fr h' hi ⟨e0,e3,rfl,hf⟩;rcases zN i s.length with hlt | hge
 ·obtain⟨c,hg,hg'⟩:=aN hlt;rw [bF hg,FW] at hf;have ew:=aB (i:=i) (by omega);simp [e0,e3,hlt,hg,hg',ew];have key:=O1 i c.toNat;generalize c.toNat=m at*;refine⟨by omega,by omega,fun a b=> ?_,fun a=>⟨i+1,by omega,by omega,by omega,?_⟩⟩
  ·have:WJ i m=false:=by rw [Bool.eq_false_iff,ne_eq,key];omega
   rw [hf,this];rfl
  ·rw [hf,key.2 (by omega),Bool.true_and]
 ·rw [zH hge,FW] at hf;simp [e0,e3,Nat.not_lt.2 hge,hf]
theorem rZ (l:List Pt)(s:Bytes):bC Tryz.prog 9 (.str s) (lK l):=by
 refine⟨by simp [dY],[.str],by simp,by simp,fun p hp=> ?_⟩;obtain⟨q,_,rfl⟩:=List.mem_map.1 hp;simp
theorem Jz (l:List Lk)(a b:Bytes):bC Tryz.prog 202 (.agg [.str a,.str b]) (mU l):=by
 refine⟨by simp [dY],[.str,.str],by simp,by simp,fun p hp=> ?_⟩;obtain⟨q,_,rfl⟩:=List.mem_map.1 hp;simp
set_option maxHeartbeats 2000000 in
theorem uG (n:bv)(hp:n.pts.length≤1000)(hl:n.lks.length≤1000):af Tryz.prog gl 123 [.agg (bE n)] h fun v h'=>v= .int .i64 (fA n)∧h'=h:=by
 refine af.data (.int _ _) (af.body Tryz.f123 _ mixed Tryz.func123 rfl rfl (by simp [Tryz.ntmps123]) ?_);by_cases hb:64<n.pts.length∨128<n.lks.length
 ·have:fA n=3:=by rw [fA,if_pos hb]
  rcases hb with hb | hb
  ·have hb':(64:Int)<n.pts.length:=by omega
   simp [this,hb']
  ·have hb':(128:Int)<n.lks.length:=by omega
   simp [this,hb']
 have hb1: ¬(64:Int)<n.pts.length:=by omega
 have hb2: ¬(128:Int)<n.lks.length:=by omega
 have hne:fA n=if ib [] n.pts≠0 then ib [] n.pts else jM n.pts [] n.lks:=by rw [fA,if_neg hb]
 simp [hb1,hb2];refine aW.up mixed n.pts.length (fun i fr h'=>fr 1= .ptr h.length 0 0∧fr 3= .map (h.length+1)∧fr 22= .ro (n.pts.map aZ)∧fr 23= .int .i64 n.pts.length∧fr 24= .int .i64 i∧
  ib [] n.pts=ib (n.pts.take i) (n.pts.drop i)∧ ∃g,h'=h++ .cells 2 [bE n]:: .map (lK (n.pts.take i))::g) 0 (by omega) ⟨by simp,by simp,by simp,by simp,by simp,by simp,[],by simp [lK]⟩ ?_
 rintro i fr h' hi ⟨e1,e3,e22,e23,e24,hf,g,rfl⟩;rcases zN i n.pts.length with hlt | hge
 ·obtain⟨p,hg,hg'⟩:=aN hlt;rw [bF hg,ib] at hf;have ew:=aB (i:=i) (by omega);have ht:n.pts.take (i+1)=n.pts.take i++[p]:=by rw [zM,hg];rfl
  simp [e1,e3,e22,e23,e24,hlt,hg,hg',ew];refine ay.pure _ (fun _=>Ay p.name) ?_;simp [e1,e3,e22,e23,e24,hlt,hg,hg',ew,-bC,rZ,xD];refine⟨fun q1=> ?_,fun q1=>⟨fun q2=> ?_,fun q2=>⟨fun q3=> ?_,fun q3 q4=> ?_⟩⟩⟩
  ·rw [hne,hf];simp [q1]
  ·rw [hne,hf];simp [q1,q2]
  ·have q3':p.kind<1∨4<p.kind:=by omega
   rw [hne,hf];simp [q1,q2,q3']
  ·have q3': ¬(p.kind<1∨4<p.kind):=by omega
   refine ay.pure _ (fun _=>Ay p.sys) ?_;simp [e1,e3,e22,e23,e24,hlt,hg,hg',ew,-bC,rZ,xD,M7 q2];refine⟨fun q5 q6=> ?_,fun q5=>⟨i+1,by omega,by omega,by omega,?_,by rw [ht]⟩⟩
   ·rw [hne,hf];simp [q1,q2,q3',q5,q6]
   ·rw [hf,ht];have q5': ¬(p.sys≠[]∧fE p.sys=false):=by rintro⟨a,b⟩;rw [q5 a] at b;cases b
    rw [if_neg (by simp [q1]),if_neg (by simp [q2]),if_neg q3',if_neg q5']
 ·rw [zH hge,ib] at hf;rw [hf] at hne;have hne:fA n=jM n.pts [] n.lks:=by simpa using hne
  simp [e1,e3,e22,e23,e24,Nat.not_lt.2 hge];rw [zG hge];refine aW.up mixed n.lks.length (fun j fr h'=>fr 1= .ptr h.length 0 0∧fr 3= .map (h.length+1)∧fr 6= .map (h.length+(g.length+1+1))∧fr 63= .ro (n.lks.map jF)∧fr 64= .int .i64 n.lks.length∧fr 65= .int .i64 j∧
   jM n.pts [] n.lks=jM n.pts (n.lks.take j) (n.lks.drop j)∧ ∃g1,h'=h++ .cells 2 [bE n]:: .map (lK n.pts)::(g++ .map (mU (n.lks.take j))::g1)) 0 (by omega) ⟨by simp [e1],by simp [e3],by simp,by simp,by simp,by simp,by simp,[],by simp [mU]⟩ ?_
  clear e1 e3 e22 e23 e24 hf hi hge;rintro j fr h' hj ⟨e1,e3,e6,e63,e64,e65,hf,g1,rfl⟩;rcases zN j n.lks.length with hlt | hge
  ·obtain⟨x,hg,hg'⟩:=aN hlt;rw [bF hg,jM] at hf;have ew:=aB (i:=j) (by omega);have ht:n.lks.take (j+1)=n.lks.take j++[x]:=by rw [zM,hg];rfl
   simp [e1,e3,e6,e63,e64,e65,hlt,hg,hg',ew,-bC,rZ,xD,Jz,NM];have hlk:(n.lks.take j).any (fun y=>decide (y.src=x.src) && decide (y.dst=x.dst))=nk (n.lks.take j) x.src x.dst:=rfl;rw [hlk] at hf;refine⟨fun q=> ?_,fun q1 q2 q3=>⟨fun q4=> ?_,fun q4=>⟨fun q5=> ?_,fun q5 q6 q7=> ?_⟩⟩⟩
   ·rw [hne,hf,if_pos (by rcases q with (q | q) | q <;> simp [q])]
   ·rw [hne,hf,if_neg (by simp [q1,q2,q3]),if_pos q4]
   ·rw [hne,hf,if_neg (by simp [q1,q2,q3]),if_neg (by simp [q4]),if_pos (by omega)]
   ·refine⟨j+1,by omega,by omega,by omega,?_,by rw [ht];exact M8 q4⟩;rw [hf,ht,if_neg (by simp [q1,q2,q3]),if_neg (by simp [q4]),if_neg (by omega)]
  ·rw [zH hge,jM] at hf;simp [e1,e3,e6,e63,e64,e65,Nat.not_lt.2 hge,hne,hf]
theorem lI (n:bv)(s:Bytes)(hp:n.pts.length≤1000)(hl:n.lks.length≤1000):af Tryz.prog gl 85 [.agg (bE n),.str s] h fun v h'=>v= .tup [.agg (aZ ((bH n s).getD JR)),.bool (bH n s).isSome]∧h'=h:=by
 refine af.data (by simp) (af.body Tryz.f85 _ mixed Tryz.func85 rfl rfl (by simp [Tryz.ntmps85]) ?_);simp;refine ay.pure _ (fun _=>uG n hp hl) ?_;simp;refine⟨fun hne=>by simp [bH,hne,JR],fun hz=> ?_⟩;refine aW.up mixed n.pts.length (fun i fr h'=>fr 1= .str s∧fr 4= .ptr (h.length+1) 0 0∧fr 13= .ro (n.pts.map aZ)∧fr 14= .int .i64 n.pts.length∧fr 15= .int .i64 i∧
  bH n s=(n.pts.drop i).find? (fun p=>decide (p.name=s))∧ ∃g,h'=h++ .cells 2 [bE n]:: .cells 3 [aZ JR]::g) 0 (by omega) ⟨by simp,by simp,by simp,by simp,by simp,by simp [bH,hz],[],by simp [JR]⟩ ?_
 rintro i fr h' hi ⟨e1,e4,e13,e14,e15,hf,g,rfl⟩;rcases zN i n.pts.length with hlt | hge
 ·obtain⟨p,hg,hg'⟩:=aN hlt;rw [bF hg,List.find?_cons] at hf;have ew:=aB (i:=i) (by omega);simp [e1,e4,e13,e14,e15,hlt,hg,hg',ew];refine⟨fun hq=> ?_,fun hq=>⟨i+1,by omega,by omega,by omega,?_⟩⟩
  ·simp [hq] at hf;simp [hf,hq]
  ·simp [hq] at hf;exact hf
 ·rw [zH hge] at hf;simp at hf;simp [e1,e4,e13,e14,e15,Nat.not_lt.2 hge,hf,JR]
theorem fo (l:List Pt)(m:Nat)(s:Bytes)(hl:l.length≤1000):af Tryz.prog gl 89 [.ro (l.map aZ),.int .i64 m,.str s] h fun v h'=>v= .int .i64 (lv (fun p:Pt=>decide (p.name=s)) (l.take m))∧h'=h:=by
 refine af.data (.int _ _) (af.body Tryz.f89 _ mixed Tryz.func89 rfl rfl (by simp [Tryz.ntmps89]) ?_);simp;refine aW.up mixed (l.take m).length (fun i fr h'=>fr 0= .ro (l.map aZ)∧fr 1= .int .i64 m∧fr 2= .str s∧fr 7= .int .i64 i∧
  lv (fun p:Pt=>decide (p.name=s)) (l.take m)=idxFrom (fun p:Pt=>decide (p.name=s)) i ((l.take m).drop i)∧ ∃g,h'=h++g) 0 (by omega) ⟨by simp,by simp,by simp,by simp,by simp [lv],[],by simp⟩ ?_
 rintro i fr h' hi ⟨e0,e1,e2,e7,hf,g,rfl⟩;rcases zN i (l.take m).length with hlt | hge
 ·obtain⟨p,hg,hg'⟩:=aN hlt;rw [bF hg,idxFrom] at hf;rw [List.length_take] at hlt hi;rw [List.getElem?_take_of_lt (by omega)] at hg;have hg2:l[i]'(by omega)=p:=by rw [zB (by omega)] at hg;exact Option.some.inj hg
  have ew:=aB (i:=i) (by omega);have h1:i<m:=by omega
  have h2:i<l.length:=by omega
  simp [e0,e1,e2,e7,h1,h2,hg,hg2,ew];refine⟨fun hq=> ?_,fun hq=>⟨i+1,by omega,by omega,by omega,?_⟩⟩
  ·simp [hq] at hf;rw [hf]
  ·simp [hq] at hf;exact hf
 ·rw [zH hge,idxFrom] at hf;rw [List.length_take] at hge;by_cases h1:i<m
  ·have h2: ¬i<l.length:=by omega
   simp [e0,e1,e2,e7,h1,h2,hf]
  ·simp [e0,e1,e2,e7,h1,hf]
set_option maxHeartbeats 2000000 in
theorem Bg (n:bv)(hp:n.pts.length≤1000)(hl:n.lks.length≤1000):af Tryz.prog gl 57 [.agg (bE n)] h fun v h'=>v= .int .i64 (fA n)∧h'=h:=by
 refine af.data (.int _ _) (af.body Tryz.f57 _ mixed Tryz.func57 rfl rfl (by simp [Tryz.ntmps57]) ?_);by_cases hb:64<n.pts.length∨128<n.lks.length
 ·have:fA n=3:=by rw [fA,if_pos hb]
  rcases hb with hb | hb
  ·have hb':(64:Int)<n.pts.length:=by omega
   simp [this,hb']
  ·have hb':(128:Int)<n.lks.length:=by omega
   simp [this,hb']
 have hb1: ¬(64:Int)<n.pts.length:=by omega
 have hb2: ¬(128:Int)<n.lks.length:=by omega
 have hne:fA n=if ib [] n.pts≠0 then ib [] n.pts else jM n.pts [] n.lks:=by rw [fA,if_neg hb]
 simp [hb1,hb2];refine aW.up mixed n.pts.length (fun i fr h'=>fr 1= .ptr h.length 0 0∧fr 3= .int .i64 i∧
  ib [] n.pts=ib (n.pts.take i) (n.pts.drop i)∧ ∃g,h'=h++ .cells 2 [bE n]::g) 0 (by omega) ⟨by simp,by simp,by simp,[],by simp⟩ ?_
 rintro i fr h' hi ⟨e1,e3,hf,g,rfl⟩;rcases zN i n.pts.length with hlt | hge
 ·obtain⟨p,hg,hg'⟩:=aN hlt;rw [bF hg,ib] at hf;have ew:=aB (i:=i) (by omega);have ht:n.pts.take (i+1)=n.pts.take i++[p]:=by rw [zM,hg];rfl
  simp [e1,e3,hlt,hg,hg',ew];refine ay.pure _ (fun _=>sO p.name) ?_;simp [e1,e3,hlt,hg,hg',ew];refine⟨fun q1=>by rw [hne,hf];simp [q1],fun q1=> ?_⟩;refine ay.pure _ (fun _=>fo n.pts i p.name hp) ?_;simp [e1,e3,hlt,hg,hg',ew,yB];refine⟨fun q2=>by rw [hne,hf];simp [q1,q2],fun q2=>⟨fun q3=> ?_,fun q3 q4=> ?_⟩⟩
  ·have q3':p.kind<1∨4<p.kind:=by omega
   rw [hne,hf];simp [q1,q2,q3']
  ·have q3': ¬(p.kind<1∨4<p.kind):=by omega
   refine ay.pure _ (fun _=>sO p.sys) ?_;simp [e1,e3,hlt,hg,hg',ew];refine⟨fun q5 q6=> ?_,fun q5=>⟨i+1,by omega,by omega,by omega,?_⟩⟩
   ·rw [hne,hf];simp [q1,q2,q3',q5,q6]
   ·rw [hf,ht];have q5': ¬(p.sys≠[]∧fE p.sys=false):=by rintro⟨a,b⟩;rw [q5 a] at b;cases b
    rw [if_neg (by simp [q1]),if_neg (by simp [q2]),if_neg q3',if_neg q5']
 ·rw [zH hge,ib] at hf;rw [hf] at hne;have hne:fA n=jM n.pts [] n.lks:=by simpa using hne
  simp [e1,e3,Nat.not_lt.2 hge];refine aW.up mixed n.lks.length (fun j fr h'=>fr 1= .ptr h.length 0 0∧fr 5= .int .i64 j∧
   jM n.pts [] n.lks=jM n.pts (n.lks.take j) (n.lks.drop j)∧ ∃g,h'=h++ .cells 2 [bE n]::g) 0 (by omega) ⟨by simp [e1],by simp,by simp,g,by simp⟩ ?_
  clear e1 e3 hf hi hge;rintro j fr h' hj ⟨e1,e5,hf,g,rfl⟩;rcases zN j n.lks.length with hlt | hge
  ·obtain⟨x,hg,hg'⟩:=aN hlt;rw [bF hg,jM] at hf;have hlk:(n.lks.take j).any (fun y=>decide (y.src=x.src) && decide (y.dst=x.dst))=nk (n.lks.take j) x.src x.dst:=rfl;rw [hlk] at hf;have ew:=aB (i:=j) (by omega);have ht:n.lks.take (j+1)=n.lks.take j++[x]:=by rw [zM,hg];rfl
   simp [e1,e5,hlt,hg,hg',ew];refine ay.pure _ (fun _=>fo n.pts 64 x.src hp) ?_;simp [e1,e5,hlt,hg,hg',ew,uJ,uH n.pts _ 64 (by omega)];refine ay.pure _ (fun _=>fo n.pts 64 x.dst hp) ?_;simp [e1,e5,hlt,hg,hg',ew,uJ,uH n.pts _ 64 (by omega)];refine⟨fun q=> ?_,fun q1 q2 q3=> ?_⟩
   ·rw [hne,hf,if_pos (by rcases q with (q | q) | q <;> simp [q])]
   refine aW.up mixed j (fun k fr h'=>fr 1= .ptr h.length 0 0∧fr 5= .int .i64 j∧fr 6= .ptr (h.length+(g.length+1)) 0 0∧fr 7= .int .i64 k∧nk (n.lks.take k) x.src x.dst=false∧
    h'=h++ .cells 2 [bE n]::(g++[.cells 4 [jF x]])) 0 (by omega) ⟨by simp [e1],by simp [e5],by simp,by simp,by simp [nk],by simp⟩ ?_
   clear e1 e5;rintro k fr h' hk ⟨e1,e5,e6,e7,hno,rfl⟩;rcases zN k j with hlt2 | hge2
   ·obtain⟨y,hy,hy'⟩:=aN (l:=n.lks) (i:=k) (by omega);have ew2:=aB (i:=k) (by omega);have hk2:k<n.lks.length:=by omega
    have hno2:nk (n.lks.take (k+1)) x.src x.dst=(decide (y.src=x.src) && decide (y.dst=x.dst)):=by
     rw [zM,hy,nk,List.any_append];rw [nk] at hno;rw [hno];simp
    simp [e1,e5,e6,e7,hlt2,hk2,hy,hy',ew2];refine⟨by decide,fun s1 s2=> ?_,fun s1=>⟨k+1,by omega,by omega,by omega,?_⟩⟩
    ·have:nk (n.lks.take j) x.src x.dst=true:=by
      rw [nk,List.any_eq_true];refine⟨y,?_,by simp [s1,s2]⟩;rw [List.mem_iff_getElem?];exact⟨k,by rw [List.getElem?_take_of_lt hlt2];exact hy⟩
     rw [hne,hf,if_neg (by simp [q1,q2,q3]),if_pos this]
    ·rw [hno2];by_cases s2:y.src=x.src
     ·simp [s1 s2]
     ·simp [s2]
   ·obtain rfl:k=j:=by omega
    simp [e1,e5,e6,e7,ew];refine⟨fun q5=> ?_,fun q5 q6 q7=>⟨k+1,by omega,by omega,by omega,?_⟩⟩
    ·rw [hne,hf,if_neg (by simp [q1,q2,q3]),if_neg (by simp [hno]),if_pos (by omega)]
    ·rw [hf,ht,if_neg (by simp [q1,q2,q3]),if_neg (by simp [hno]),if_neg (by omega)]
  ·rw [zH hge,jM] at hf;simp [e1,e5,Nat.not_lt.2 hge,hne,hf]
theorem pW (n:bv)(hp:n.pts.length≤1000)(hl:n.lks.length≤1000):af Tryz.prog gl 88 [.agg (bE n)] h fun v h'=>v= .agg (bE (cO n))∧h'=h:=by
 refine af.fresh (af.body Tryz.f88 _ mixed Tryz.func88 rfl rfl (by simp [Tryz.ntmps88]) ?_);simp;refine ay.pure _ (fun _=>Bg n hp hl) ?_;simp;refine⟨fun hz=> ?_,fun hz=> ?_⟩
 ·simp [cO,hz];exact .agg' (.cons .nil (.cons .nil .nil))
 ·simp [cO,hz];exact .data _ (by simp)
theorem bJ (n:bv)(s:Bytes)(hp:n.pts.length≤1000)(hl:n.lks.length≤1000):af Tryz.prog gl 50 [.agg (bE n),.str s] h fun v h'=>v= .tup [.agg (aZ ((bH n s).getD JR)),.bool (bH n s).isSome]∧h'=h:=by
 refine af.data (by simp) (af.body Tryz.f50 _ mixed Tryz.func50 rfl rfl (by simp [Tryz.ntmps50]) ?_);simp;refine ay.pure _ (fun _=>pW n hp hl) ?_;have hv:=OQ n;rw [Qs];generalize cO n=v at*;simp;refine ay.pure _ (fun _=>fo v.pts 64 s (by omega)) ?_;rw [zG (by omega)];rcases nV (fun p:Pt=>decide (p.name=s)) v.pts with⟨h1,h2⟩ | ⟨k,x,h1,h2,h3⟩
 ·rw [h1,h2];simp [JR]
 ·rw [h1,h3];obtain⟨hk,hk'⟩:=zA.1 h2;have hk0: ¬(k:Int)<0:=by omega
  simp [hk,hk',h2]
theorem zl (x:AV)(es:List (List AV))(hx:Rd 3 h x es)(hl:es.length≤1152921504606846976)(f:FuncId)(caps:List AV)(p:List AV→Bool)
  (hp: ∀e∈es,∀g,af Tryz.prog gl f (.agg e::caps) (h++g) fun v h'=>v= .bool (p e)∧h'=h++g):
  af Tryz.prog gl 125 [x,.fn (.func f) [] caps] h fun v h'=>v= .int .i64 (lv p es)∧h'=h:=by
 refine af.data (by simp) (af.body Tryz.f125 _ mixed Tryz.func125 rfl rfl (by simp [Tryz.ntmps125]) ?_);simp [hx.core,hx.gd,hx.lenOk,hx.alen];refine aW.up mixed es.length (fun i fr h'=>fr 0=x∧fr 1= .fn (.func f) [] caps∧fr 7= .int .i64 es.length∧fr 8= .int .i64 i∧lv p es=idxFrom p i (es.drop i)∧ ∃g,h'=h++g) 0 (by omega) ⟨by simp,by simp,by simp,by simp,by simp [lv],[],by simp⟩ ?_;rintro i fr h' hi ⟨e0,e1,e7,e8,hf,g,rfl⟩;have hx:=hx.append g;rcases zN i es.length with hlt | hge
 ·obtain⟨y,hg,hg'⟩:=aN hlt;have hy:y.length=3:=hx.2 y (hg'▸List.getElem_mem hlt);rw [bF hg,idxFrom] at hf;have ew:=aB (i:=i) (by omega);have h0:(0:Int)≤i:=by omega
  have h1:(i:Int)<es.length:=by omega
  simp [e0,e1,e7,e8,hlt,hx.core,hx.gd,hx.iaddrOk,h0,h1,hx.icore,hx.igd,hx.loadV h0 h1 hg,hx.loadOk h0 h1 hg,hy];rw [zG (by omega)];refine ay.pure _ (fun _=>hp y (hg'▸List.getElem_mem hlt) g) ?_;simp [e0,e1,e7,e8,ew];refine⟨fun hpy=>by simp [hf,hpy],fun hpy=>⟨i+1,by omega,by omega,by simp,by simp [hf,hpy]⟩⟩
 ·rw [zH hge] at hf;simp [e0,e1,e7,e8,hf,Nat.not_lt.2 hge,idxFrom]
end Go.Proofs.YtkpioblbeiaefaaGreat
end
