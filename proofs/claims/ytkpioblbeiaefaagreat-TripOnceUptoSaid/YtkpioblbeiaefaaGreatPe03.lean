/- Part 3 of the lemmas below the statements of this seat: Tab, TollBase, Clock, Cmp. -/
import Derived.Test.YtkpioblbeiaefaaGreatPe02
import Derived.Test.YtkpioblbeiaefaaGreatProg
import Derived.Lib.Bytealg
import Derived.WalkKit
import Derived.Lib.Walk
set_option linter.unusedSectionVars false
set_option linter.unusedVariables false
set_option linter.unusedSimpArgs false
set_option linter.unnecessarySimpa false
set_option maxRecDepth 100000
section
namespace Go.Proofs.YtkpioblbeiaefaaGreat
open Go Go.Abs
@[simp] theorem Xp:ah Tryz.prog 3= { ok:=true,agg:=false,cells:=1,bytes:=8,kind:= .int .i64,zok:=true,zero:=[.int .i64 0] }:=by kernel_rfl
@[simp] theorem Xm:flat Tryz.prog 50 3=some [.int]:=by kernel_rfl
@[simp] theorem Xq:ah Tryz.prog 4= { ok:=true,agg:=false,cells:=1,bytes:=1,kind:= .bool,zok:=true,zero:=[.bool false] }:=by kernel_rfl
@[simp] theorem Xn:flat Tryz.prog 50 4=some [.bool]:=by kernel_rfl
@[simp] theorem Xr:ah Tryz.prog 5= { ok:=true,agg:=false,cells:=1,bytes:=1,kind:= .int .u8,zok:=true,zero:=[.int .u8 0] }:=by kernel_rfl
@[simp] theorem Xt:ah Tryz.prog 9= { ok:=true,agg:=false,cells:=1,bytes:=16,kind:= .string,zok:=true,zero:=[.str []] }:=by kernel_rfl
@[simp] theorem Xo:flat Tryz.prog 50 9=some [.str]:=by kernel_rfl
@[simp] theorem WT:ah Tryz.prog 22= { ok:=true,agg:=false,cells:=1,bytes:=24,kind:= .slice 85,zok:=true,zero:=[.nil] }:=by kernel_rfl
@[simp] theorem WU:ah Tryz.prog 23= { ok:=true,agg:=false,cells:=1,bytes:=24,kind:= .slice 134,zok:=true,zero:=[.nil] }:=by kernel_rfl
@[simp] theorem WV:ah Tryz.prog 25= { ok:=true,agg:=true,cells:=2,bytes:=48,kind:= .struct [(0,1,22),(1,1,23)],zok:=true,zero:=[.nil,.nil] }:=by kernel_rfl
@[simp] theorem WW:ah Tryz.prog 26= { ok:=true,agg:=false,cells:=1,bytes:=24,kind:= .slice 79,zok:=true,zero:=[.nil] }:=by kernel_rfl
@[simp] theorem WX:ah Tryz.prog 28= { ok:=true,agg:=true,cells:=3,bytes:=72,kind:= .struct [(0,2,25),(2,1,26)],zok:=true,zero:=[.nil,.nil,.nil] }:=by kernel_rfl
@[simp] theorem WY:ah Tryz.prog 29= { ok:=true,agg:=false,cells:=1,bytes:=24,kind:= .slice 57,zok:=true,zero:=[.nil] }:=by kernel_rfl
@[simp] theorem WZ:ah Tryz.prog 32= { ok:=true,agg:=false,cells:=1,bytes:=24,kind:= .slice 41,zok:=true,zero:=[.nil] }:=by kernel_rfl
@[simp] theorem W9:ah Tryz.prog 33= { ok:=true,agg:=false,cells:=1,bytes:=24,kind:= .slice 59,zok:=true,zero:=[.nil] }:=by kernel_rfl
@[simp] theorem Xa:ah Tryz.prog 39= { ok:=true,agg:=false,cells:=1,bytes:=24,kind:= .slice 49,zok:=true,zero:=[.nil] }:=by kernel_rfl
@[simp] theorem Xb:ah Tryz.prog 41= { ok:=true,agg:=true,cells:=5,bytes:=80,kind:= .struct [(0,1,9),(1,1,9),(2,1,9),(3,1,3),(4,1,39)],zok:=true,zero:=[.str [],.str [],.str [],.int .i64 0,.nil] }:=by kernel_rfl
@[simp] theorem Xc:ah Tryz.prog 46= { ok:=true,agg:=false,cells:=1,bytes:=24,kind:= .slice 9,zok:=true,zero:=[.nil] }:=by kernel_rfl
@[simp] theorem Xd:ah Tryz.prog 49= { ok:=true,agg:=true,cells:=3,bytes:=40,kind:= .struct [(0,1,9),(1,1,3),(2,1,9)],zok:=true,zero:=[.str [],.int .i64 0,.str []] }:=by kernel_rfl
@[simp] theorem WM:flat Tryz.prog 50 49=some [.str,.int,.str]:=by kernel_rfl
@[simp] theorem Xe:ah Tryz.prog 52= { ok:=true,agg:=true,cells:=2,bytes:=16,kind:= .struct [(0,1,3),(1,1,3)],zok:=true,zero:=[.int .i64 0,.int .i64 0] }:=by kernel_rfl
@[simp] theorem WN:flat Tryz.prog 50 52=some [.int,.int]:=by kernel_rfl
@[simp] theorem Xf:ah Tryz.prog 55= { ok:=true,agg:=false,cells:=1,bytes:=24,kind:= .slice 66,zok:=true,zero:=[.nil] }:=by kernel_rfl
@[simp] theorem Xg:ah Tryz.prog 57= { ok:=true,agg:=true,cells:=8,bytes:=112,kind:= .struct [(0,1,9),(1,1,9),(2,1,3),(3,1,9),(4,1,9),(5,1,3),(6,1,3),(7,1,55)],zok:=true,zero:=[.str [],.str [],.int .i64 0,.str [],.str [],.int .i64 0,.int .i64 0,.nil] }:=by kernel_rfl
@[simp] theorem Xh:ah Tryz.prog 59= { ok:=true,agg:=true,cells:=2,bytes:=24,kind:= .struct [(0,1,9),(1,1,3)],zok:=true,zero:=[.str [],.int .i64 0] }:=by kernel_rfl
@[simp] theorem Xi:ah Tryz.prog 66= { ok:=true,agg:=true,cells:=2,bytes:=24,kind:= .struct [(0,1,9),(1,1,3)],zok:=true,zero:=[.str [],.int .i64 0] }:=by kernel_rfl
@[simp] theorem Xj:ah Tryz.prog 79= { ok:=true,agg:=true,cells:=3,bytes:=32,kind:= .struct [(0,1,9),(1,1,4),(2,1,3)],zok:=true,zero:=[.str [],.bool false,.int .i64 0] }:=by kernel_rfl
@[simp] theorem Xk:ah Tryz.prog 85= { ok:=true,agg:=true,cells:=3,bytes:=40,kind:= .struct [(0,1,9),(1,1,3),(2,1,9)],zok:=true,zero:=[.str [],.int .i64 0,.str []] }:=by kernel_rfl
@[simp] theorem Wl:ah Tryz.prog 100= { ok:=true,agg:=false,cells:=1,bytes:=8,kind:= .map 9 4,zok:=true,zero:=[.lit (.map none)] }:=by kernel_rfl
@[simp] theorem Wm:ah Tryz.prog 110= { ok:=true,agg:=false,cells:=1,bytes:=8,kind:= .map 9 3,zok:=true,zero:=[.lit (.map none)] }:=by kernel_rfl
@[simp] theorem Wn:ah Tryz.prog 112= { ok:=true,agg:=true,cells:=10,bytes:=200,kind:= .struct [(0,3,28),(3,1,9),(4,1,110),(5,1,32),(6,1,33),(7,1,39),(8,1,9),(9,1,9)],zok:=true,zero:=[.nil,.nil,.nil,.str [],.lit (.map none),.nil,.nil,.nil,.str [],.str []] }:=by kernel_rfl
@[simp] theorem Wo:ah Tryz.prog 121= { ok:=true,agg:=false,cells:=1,bytes:=8,kind:= .map 9 9,zok:=true,zero:=[.lit (.map none)] }:=by kernel_rfl
@[simp] theorem Wp:ah Tryz.prog 134= { ok:=true,agg:=true,cells:=4,bytes:=48,kind:= .struct [(0,1,9),(1,1,9),(2,1,3),(3,1,3)],zok:=true,zero:=[.str [],.str [],.int .i64 0,.int .i64 0] }:=by kernel_rfl
@[simp] theorem Wq:ah Tryz.prog 135= { ok:=true,agg:=false,cells:=1,bytes:=24,kind:= .slice 5,zok:=true,zero:=[.nil] }:=by kernel_rfl
@[simp] theorem Ws:ah Tryz.prog 141= { ok:=true,agg:=false,cells:=1,bytes:=24,kind:= .slice 3,zok:=true,zero:=[.nil] }:=by kernel_rfl
@[simp] theorem Wt:ah Tryz.prog 160= { ok:=true,agg:=false,cells:=1,bytes:=8,kind:= .int .u64,zok:=true,zero:=[.int .u64 0] }:=by kernel_rfl
@[simp] theorem Wu:ah Tryz.prog 175= { ok:=true,agg:=false,cells:=1,bytes:=24,kind:= .slice 141,zok:=true,zero:=[.nil] }:=by kernel_rfl
@[simp] theorem Wv:ah Tryz.prog 183= { ok:=true,agg:=false,cells:=1,bytes:=24,kind:= .slice 46,zok:=true,zero:=[.nil] }:=by kernel_rfl
@[simp] theorem Ww:ah Tryz.prog 200= { ok:=true,agg:=false,cells:=1,bytes:=8,kind:= .int .u64,zok:=true,zero:=[.int .u64 0] }:=by kernel_rfl
@[simp] theorem Wx:ah Tryz.prog 201= { ok:=true,agg:=false,cells:=1,bytes:=8,kind:= .map 202 4,zok:=true,zero:=[.lit (.map none)] }:=by kernel_rfl
@[simp] theorem Wy:ah Tryz.prog 202= { ok:=true,agg:=true,cells:=2,bytes:=32,kind:= .array 2 9,zok:=true,zero:=[.str [],.str []] }:=by kernel_rfl
@[simp] theorem VV:flat Tryz.prog 50 202=some [.str,.str]:=by kernel_rfl
@[simp] theorem Wz:ah Tryz.prog 211= { ok:=true,agg:=true,cells:=10,bytes:=80,kind:= .array 10 3,zok:=true,zero:=[.int .i64 0,.int .i64 0,.int .i64 0,.int .i64 0,.int .i64 0,.int .i64 0,.int .i64 0,.int .i64 0,.int .i64 0,.int .i64 0] }:=by kernel_rfl
@[simp] theorem WA:ah Tryz.prog 221= { ok:=true,agg:=false,cells:=1,bytes:=24,kind:= .slice 225,zok:=true,zero:=[.nil] }:=by kernel_rfl
@[simp] theorem WB:ah Tryz.prog 223= { ok:=true,agg:=true,cells:=3,bytes:=56,kind:= .struct [(0,1,46),(1,1,110),(2,1,221)],zok:=true,zero:=[.nil,.lit (.map none),.nil] }:=by kernel_rfl
@[simp] theorem WC:ah Tryz.prog 225= { ok:=true,agg:=false,cells:=1,bytes:=24,kind:= .slice 228,zok:=true,zero:=[.nil] }:=by kernel_rfl
@[simp] theorem WE:ah Tryz.prog 228= { ok:=true,agg:=true,cells:=3,bytes:=24,kind:= .struct [(0,1,3),(1,1,3),(2,1,3)],zok:=true,zero:=[.int .i64 0,.int .i64 0,.int .i64 0] }:=by kernel_rfl
@[simp] theorem WF:ah Tryz.prog 239= { ok:=true,agg:=false,cells:=1,bytes:=24,kind:= .slice 242,zok:=true,zero:=[.nil] }:=by kernel_rfl
@[simp] theorem WG:ah Tryz.prog 242= { ok:=true,agg:=true,cells:=2,bytes:=16,kind:= .struct [(0,1,3),(1,1,3)],zok:=true,zero:=[.int .i64 0,.int .i64 0] }:=by kernel_rfl
@[simp] theorem VW:flat Tryz.prog 50 242=some [.int,.int]:=by kernel_rfl
@[simp] theorem WH:ah Tryz.prog 243= { ok:=true,agg:=false,cells:=1,bytes:=24,kind:= .slice 4,zok:=true,zero:=[.nil] }:=by kernel_rfl
@[simp] theorem WI:ah Tryz.prog 244= { ok:=true,agg:=false,cells:=1,bytes:=8,kind:= .func,zok:=true,zero:=[.lit .nilFunc] }:=by kernel_rfl
@[simp] theorem WJ:ah Tryz.prog 250= { ok:=true,agg:=false,cells:=1,bytes:=16,kind:= .iface,zok:=true,zero:=[.lit .nilIface] }:=by kernel_rfl
theorem mixed:Tryz.prog.follows .mixedOrders=true:=by kernel_rfl
end Go.Proofs.YtkpioblbeiaefaaGreat
end
section
namespace Go.Toll
open Go Go.Abs
abbrev Bytes:=List UInt8
structure Iv where
 lo:Int
 hi:Int
 deriving DecidableEq
def pX (i:Iv):List AV:=[.int .i64 i.lo,.int .i64 i.hi]
attribute [simp] pX
section
open AV
@[simp] theorem Uc (b:Bool):(AV.bool b).Data:= .bool b
@[simp] theorem Va (k:IntKind) (n:Int):(AV.int k n).Data:= .int k n
@[simp] theorem Vb (s:List UInt8):(AV.str s).Data:= .str s
@[simp] theorem U9 (cs:List AV):(AV.agg cs).Data↔ ∀x∈cs,x.Data:=⟨fun h=>by cases h;assumption,.agg cs⟩
@[simp] theorem Vd (cs:List AV):(AV.tup cs).Data↔ ∀x∈cs,x.Data:=⟨fun h=>by cases h;assumption,.tup cs⟩
@[simp] theorem VH (es:List (List AV)):(AV.ro es).Data↔ ∀e∈es,∀x∈e,x.Data:=⟨fun h=>by cases h;assumption,.ro es⟩
end
theorem Su:IntKind.i64.bits=64:=rfl
theorem Qq:IntKind.u64.bits=64:=rfl
attribute [simp] Su Qq
def bE (t:Int):Bool:=decide (0≤t) && decide (t<68719476736)
def RI:List Int→Int
 | []=>0
 | n::l=>if n=0 then RI l else n
def idxFrom {α:Type} (p:α→Bool):Nat→List α→Int
 | _,[]=> -1
 | i,x::l=>if p x then (i:Int) else idxFrom p (i+1) l
def kT {α:Type} (p:α→Bool)(l:List α):Int:=idxFrom p 0 l
theorem qR {α:Type} (p:α→Bool): ∀(l:List α) (i:Nat),decide (0≤idxFrom p i l)=l.any p
 | [],i=>by simp [idxFrom]
 | x::l,i=>by
  rw [idxFrom,List.any_cons];cases hx:p x
  ·simpa using qR p l (i+1)
  ·simp
theorem G5 {α:Type} (p:α→Bool)(l:List α):decide (0≤kT p l)=l.any p:=qR p l 0
theorem bv {α:Type} {l:List α} {i:Nat} {b:α} (h:l[i]? =some b):l.drop i=b::l.drop (i+1):=by
 obtain⟨hi,rfl⟩:=zA.1 h;exact List.drop_eq_getElem_cons hi
theorem aN {α:Type} {l:List α} {i:Nat} (h:i<l.length): ∃b,l[i]? =some b∧l[i]=b:=⟨_,zB h,rfl⟩
theorem NS {i:Nat} (h:i<9223372036854775807):IntKind.i64.wrap ((i:Int)+1)=(i:Int)+1:=by
 rw [IntKind.wrap_i64];omega
theorem aC {i:Nat} (h:i<9223372036854775807):IntKind.i64.wrap ((i:Int)+1)=((i+1:Nat):Int):=by
 rw [IntKind.wrap_i64];omega
theorem gV {t:Int} (h:bE t=true):0≤t∧t<68719476736:=by simpa [bE] using h
theorem aD {n:Int} (h1: -9223372036854775808≤n)(h2:n≤9223372036854775807):IntKind.i64.wrap n=n:=by
 rw [IntKind.wrap_i64];omega
end Go.Toll
end
section
namespace Go.Proofs.YtkpioblbeiaefaaGreat
open Go Go.Abs Go.Toll
variable {gl : aM} {h : ae}
theorem FL (t:Int):aa Tryz.prog gl 61 [.int .i64 t] h fun x h'=>x= .bool (bE t)∧h'=h:=by
 refine aa.body Tryz.f61 _ mixed Tryz.func61 rfl rfl (by simp [Tryz.ntmps61]) ?_;simp [bE]
end Go.Proofs.YtkpioblbeiaefaaGreat
end
section
namespace Go.Proofs.YtkpioblbeiaefaaGreat
open Go Go.Abs Go.Toll Go.RowKit
variable {gl : aM} {h : ae}
theorem SA (x:AV)(l:List Int)(hx:Rd 1 h x (l.map fun n=>[.int .i64 n]))(hl:l.length≤1000):aa Tryz.prog gl 70 [x] h fun v h'=>v= .int .i64 (RI l)∧h'=h:=by
 refine aa.data (by simp) (aa.body Tryz.f70 _ mixed Tryz.func70 rfl rfl (by simp [Tryz.ntmps70]) ?_);simp [hx.core,hx.gd,hx.lenOk,hx.alen];refine aT.up mixed l.length (fun i fr h'=>fr 3= .int .i64 0∧fr 6=x∧fr 7= .int .i64 l.length∧fr 8= .int .i64 i∧RI l=RI (l.drop i)∧ ∃g,h'=h++g) 0 (by omega) ⟨by simp,by simp,by simp,by simp,by simp,[],by simp⟩ ?_;rintro i fr h' hi ⟨e3,e6,e7,e8,hf,g,rfl⟩;have hx:=hx.append g;rcases zN i l.length with hlt | hge
 ·obtain⟨y,hg,hg'⟩:=aN hlt;rw [bv hg,RI] at hf;have ew:=aC (i:=i) (by omega);have h0:(0:Int)≤i:=by omega
  have h1:(i:Int)<(l.map fun n=>[AV.int .i64 n]).length:=by simp;omega
  have hm:(l.map fun n=>[AV.int .i64 n])[(i:Int).toNat]? =some [.int .i64 y]:=by simp [hg]
  simp [e3,e6,e7,e8,hlt,hx.core,hx.gd,hx.lenOk,hx.alen,hx.iaddrOk,h0,h1,hx.icore,hx.igd,hx.loadV h0 h1 hm,hx.loadOk h0 h1 hm,ew];refine⟨fun hy=>by rw [hf,if_neg hy],fun hy=>⟨i+1,by omega,by omega,by simp,by rw [hf,if_pos hy]⟩⟩
 ·rw [zH hge] at hf;simp [e3,e6,e7,e8,hf,RI,Nat.not_lt.2 hge]
end Go.Proofs.YtkpioblbeiaefaaGreat
end
