/- Part 3 of the lemmas below the statements of this seat: Tab, TollBase, Clock, Cmp. -/
import Derived.Test.YtkpioblbeiaefaaGreatPb02
import Derived.Test.YtkpioblbeiaefaaGreatProg
import Derived.Lib.Bytealg
import Derived.WalkKit
import Derived.Lib.Walk
set_option linter.unusedSectionVars false
set_option linter.unusedVariables false
set_option linter.unusedSimpArgs false
set_option linter.unnecessarySimpa false
set_option maxRecDepth 100000
section
namespace Go.Proofs.YtkpioblbeiaefaaGreat
open Go Go.Abs
@[simp] theorem aaV:ax Tryz.prog 3= { ok:=true,agg:=false,cells:=1,bytes:=8,kind:= .int .i64,zok:=true,zero:=[.int .i64 0] }:=by kernel_rfl
@[simp] theorem aaS:flat Tryz.prog 50 3=some [.int]:=by kernel_rfl
@[simp] theorem aaW:ax Tryz.prog 4= { ok:=true,agg:=false,cells:=1,bytes:=1,kind:= .bool,zok:=true,zero:=[.bool false] }:=by kernel_rfl
@[simp] theorem aaT:flat Tryz.prog 50 4=some [.bool]:=by kernel_rfl
@[simp] theorem aaX:ax Tryz.prog 5= { ok:=true,agg:=false,cells:=1,bytes:=1,kind:= .int .u8,zok:=true,zero:=[.int .u8 0] }:=by kernel_rfl
@[simp] theorem aaY:ax Tryz.prog 9= { ok:=true,agg:=false,cells:=1,bytes:=16,kind:= .string,zok:=true,zero:=[.str []] }:=by kernel_rfl
@[simp] theorem aaU:flat Tryz.prog 50 9=some [.str]:=by kernel_rfl
@[simp] theorem aay:ax Tryz.prog 22= { ok:=true,agg:=false,cells:=1,bytes:=24,kind:= .slice 85,zok:=true,zero:=[.nil] }:=by kernel_rfl
@[simp] theorem aaz:ax Tryz.prog 23= { ok:=true,agg:=false,cells:=1,bytes:=24,kind:= .slice 134,zok:=true,zero:=[.nil] }:=by kernel_rfl
@[simp] theorem aaA:ax Tryz.prog 25= { ok:=true,agg:=true,cells:=2,bytes:=48,kind:= .struct [(0,1,22),(1,1,23)],zok:=true,zero:=[.nil,.nil] }:=by kernel_rfl
@[simp] theorem aaB:ax Tryz.prog 26= { ok:=true,agg:=false,cells:=1,bytes:=24,kind:= .slice 79,zok:=true,zero:=[.nil] }:=by kernel_rfl
@[simp] theorem aaC:ax Tryz.prog 28= { ok:=true,agg:=true,cells:=3,bytes:=72,kind:= .struct [(0,2,25),(2,1,26)],zok:=true,zero:=[.nil,.nil,.nil] }:=by kernel_rfl
@[simp] theorem aaD:ax Tryz.prog 29= { ok:=true,agg:=false,cells:=1,bytes:=24,kind:= .slice 57,zok:=true,zero:=[.nil] }:=by kernel_rfl
@[simp] theorem aaE:ax Tryz.prog 32= { ok:=true,agg:=false,cells:=1,bytes:=24,kind:= .slice 41,zok:=true,zero:=[.nil] }:=by kernel_rfl
@[simp] theorem aaF:ax Tryz.prog 33= { ok:=true,agg:=false,cells:=1,bytes:=24,kind:= .slice 59,zok:=true,zero:=[.nil] }:=by kernel_rfl
@[simp] theorem aaG:ax Tryz.prog 39= { ok:=true,agg:=false,cells:=1,bytes:=24,kind:= .slice 49,zok:=true,zero:=[.nil] }:=by kernel_rfl
@[simp] theorem aaH:ax Tryz.prog 41= { ok:=true,agg:=true,cells:=5,bytes:=80,kind:= .struct [(0,1,9),(1,1,9),(2,1,9),(3,1,3),(4,1,39)],zok:=true,zero:=[.str [],.str [],.str [],.int .i64 0,.nil] }:=by kernel_rfl
@[simp] theorem aaI:ax Tryz.prog 46= { ok:=true,agg:=false,cells:=1,bytes:=24,kind:= .slice 9,zok:=true,zero:=[.nil] }:=by kernel_rfl
@[simp] theorem aaJ:ax Tryz.prog 49= { ok:=true,agg:=true,cells:=3,bytes:=40,kind:= .struct [(0,1,9),(1,1,3),(2,1,9)],zok:=true,zero:=[.str [],.int .i64 0,.str []] }:=by kernel_rfl
@[simp] theorem aar:flat Tryz.prog 50 49=some [.str,.int,.str]:=by kernel_rfl
@[simp] theorem aaK:ax Tryz.prog 52= { ok:=true,agg:=true,cells:=2,bytes:=16,kind:= .struct [(0,1,3),(1,1,3)],zok:=true,zero:=[.int .i64 0,.int .i64 0] }:=by kernel_rfl
@[simp] theorem aas:flat Tryz.prog 50 52=some [.int,.int]:=by kernel_rfl
@[simp] theorem aaL:ax Tryz.prog 55= { ok:=true,agg:=false,cells:=1,bytes:=24,kind:= .slice 66,zok:=true,zero:=[.nil] }:=by kernel_rfl
@[simp] theorem aaM:ax Tryz.prog 57= { ok:=true,agg:=true,cells:=8,bytes:=112,kind:= .struct [(0,1,9),(1,1,9),(2,1,3),(3,1,9),(4,1,9),(5,1,3),(6,1,3),(7,1,55)],zok:=true,zero:=[.str [],.str [],.int .i64 0,.str [],.str [],.int .i64 0,.int .i64 0,.nil] }:=by kernel_rfl
@[simp] theorem aaN:ax Tryz.prog 59= { ok:=true,agg:=true,cells:=2,bytes:=24,kind:= .struct [(0,1,9),(1,1,3)],zok:=true,zero:=[.str [],.int .i64 0] }:=by kernel_rfl
@[simp] theorem aat:flat Tryz.prog 50 59=some [.str,.int]:=by kernel_rfl
@[simp] theorem aaO:ax Tryz.prog 66= { ok:=true,agg:=true,cells:=2,bytes:=24,kind:= .struct [(0,1,9),(1,1,3)],zok:=true,zero:=[.str [],.int .i64 0] }:=by kernel_rfl
@[simp] theorem aaP:ax Tryz.prog 79= { ok:=true,agg:=true,cells:=3,bytes:=32,kind:= .struct [(0,1,9),(1,1,4),(2,1,3)],zok:=true,zero:=[.str [],.bool false,.int .i64 0] }:=by kernel_rfl
@[simp] theorem aaQ:ax Tryz.prog 85= { ok:=true,agg:=true,cells:=3,bytes:=40,kind:= .struct [(0,1,9),(1,1,3),(2,1,9)],zok:=true,zero:=[.str [],.int .i64 0,.str []] }:=by kernel_rfl
@[simp] theorem Z0:ax Tryz.prog 100= { ok:=true,agg:=false,cells:=1,bytes:=8,kind:= .map 9 4,zok:=true,zero:=[.lit (.map none)] }:=by kernel_rfl
@[simp] theorem Z4:ax Tryz.prog 110= { ok:=true,agg:=false,cells:=1,bytes:=8,kind:= .map 9 3,zok:=true,zero:=[.lit (.map none)] }:=by kernel_rfl
@[simp] theorem Z5:ax Tryz.prog 112= { ok:=true,agg:=true,cells:=10,bytes:=200,kind:= .struct [(0,3,28),(3,1,9),(4,1,110),(5,1,32),(6,1,33),(7,1,39),(8,1,9),(9,1,9)],zok:=true,zero:=[.nil,.nil,.nil,.str [],.lit (.map none),.nil,.nil,.nil,.str [],.str []] }:=by kernel_rfl
@[simp] theorem Z6:ax Tryz.prog 121= { ok:=true,agg:=false,cells:=1,bytes:=8,kind:= .map 9 9,zok:=true,zero:=[.lit (.map none)] }:=by kernel_rfl
@[simp] theorem Z7:ax Tryz.prog 134= { ok:=true,agg:=true,cells:=4,bytes:=48,kind:= .struct [(0,1,9),(1,1,9),(2,1,3),(3,1,3)],zok:=true,zero:=[.str [],.str [],.int .i64 0,.int .i64 0] }:=by kernel_rfl
@[simp] theorem Z8:ax Tryz.prog 135= { ok:=true,agg:=false,cells:=1,bytes:=24,kind:= .slice 5,zok:=true,zero:=[.nil] }:=by kernel_rfl
@[simp] theorem Z9:ax Tryz.prog 141= { ok:=true,agg:=false,cells:=1,bytes:=24,kind:= .slice 3,zok:=true,zero:=[.nil] }:=by kernel_rfl
@[simp] theorem aaa:ax Tryz.prog 160= { ok:=true,agg:=false,cells:=1,bytes:=8,kind:= .int .u64,zok:=true,zero:=[.int .u64 0] }:=by kernel_rfl
@[simp] theorem aab:ax Tryz.prog 175= { ok:=true,agg:=false,cells:=1,bytes:=24,kind:= .slice 141,zok:=true,zero:=[.nil] }:=by kernel_rfl
@[simp] theorem aac:ax Tryz.prog 183= { ok:=true,agg:=false,cells:=1,bytes:=24,kind:= .slice 46,zok:=true,zero:=[.nil] }:=by kernel_rfl
@[simp] theorem aad:ax Tryz.prog 200= { ok:=true,agg:=false,cells:=1,bytes:=8,kind:= .int .u64,zok:=true,zero:=[.int .u64 0] }:=by kernel_rfl
@[simp] theorem aae:ax Tryz.prog 201= { ok:=true,agg:=false,cells:=1,bytes:=8,kind:= .map 202 4,zok:=true,zero:=[.lit (.map none)] }:=by kernel_rfl
@[simp] theorem aaf:ax Tryz.prog 202= { ok:=true,agg:=true,cells:=2,bytes:=32,kind:= .array 2 9,zok:=true,zero:=[.str [],.str []] }:=by kernel_rfl
@[simp] theorem ZI:flat Tryz.prog 50 202=some [.str,.str]:=by kernel_rfl
@[simp] theorem aag:ax Tryz.prog 211= { ok:=true,agg:=true,cells:=10,bytes:=80,kind:= .array 10 3,zok:=true,zero:=[.int .i64 0,.int .i64 0,.int .i64 0,.int .i64 0,.int .i64 0,.int .i64 0,.int .i64 0,.int .i64 0,.int .i64 0,.int .i64 0] }:=by kernel_rfl
@[simp] theorem aah:ax Tryz.prog 221= { ok:=true,agg:=false,cells:=1,bytes:=24,kind:= .slice 225,zok:=true,zero:=[.nil] }:=by kernel_rfl
@[simp] theorem aai:ax Tryz.prog 223= { ok:=true,agg:=true,cells:=3,bytes:=56,kind:= .struct [(0,1,46),(1,1,110),(2,1,221)],zok:=true,zero:=[.nil,.lit (.map none),.nil] }:=by kernel_rfl
@[simp] theorem aaj:ax Tryz.prog 225= { ok:=true,agg:=false,cells:=1,bytes:=24,kind:= .slice 228,zok:=true,zero:=[.nil] }:=by kernel_rfl
@[simp] theorem aak:ax Tryz.prog 228= { ok:=true,agg:=true,cells:=3,bytes:=24,kind:= .struct [(0,1,3),(1,1,3),(2,1,3)],zok:=true,zero:=[.int .i64 0,.int .i64 0,.int .i64 0] }:=by kernel_rfl
@[simp] theorem aal:ax Tryz.prog 239= { ok:=true,agg:=false,cells:=1,bytes:=24,kind:= .slice 242,zok:=true,zero:=[.nil] }:=by kernel_rfl
@[simp] theorem aam:ax Tryz.prog 242= { ok:=true,agg:=true,cells:=2,bytes:=16,kind:= .struct [(0,1,3),(1,1,3)],zok:=true,zero:=[.int .i64 0,.int .i64 0] }:=by kernel_rfl
@[simp] theorem ZJ:flat Tryz.prog 50 242=some [.int,.int]:=by kernel_rfl
@[simp] theorem aan:ax Tryz.prog 243= { ok:=true,agg:=false,cells:=1,bytes:=24,kind:= .slice 4,zok:=true,zero:=[.nil] }:=by kernel_rfl
@[simp] theorem aao:ax Tryz.prog 244= { ok:=true,agg:=false,cells:=1,bytes:=8,kind:= .func,zok:=true,zero:=[.lit .nilFunc] }:=by kernel_rfl
@[simp] theorem aap:ax Tryz.prog 250= { ok:=true,agg:=false,cells:=1,bytes:=16,kind:= .iface,zok:=true,zero:=[.lit .nilIface] }:=by kernel_rfl
theorem mixed:Tryz.prog.follows .mixedOrders=true:=by kernel_rfl
end Go.Proofs.YtkpioblbeiaefaaGreat
end
section
namespace Go.Toll
open Go Go.Abs
abbrev Bytes:=List UInt8
structure Iv where
 lo:Int
 hi:Int
 deriving DecidableEq
def Dm (i:Iv):List AV:=[.int .i64 i.lo,.int .i64 i.hi]
attribute [simp] Dm
section
open AV
@[simp] theorem X3 (b:Bool):(AV.bool b).Data:= .bool b
@[simp] theorem YW (k:IntKind) (n:Int):(AV.int k n).Data:= .int k n
@[simp] theorem YX (s:List UInt8):(AV.str s).Data:= .str s
@[simp] theorem YV (cs:List AV):(AV.agg cs).Data↔ ∀x∈cs,x.Data:=⟨fun h=>by cases h;assumption,.agg cs⟩
@[simp] theorem YY (cs:List AV):(AV.tup cs).Data↔ ∀x∈cs,x.Data:=⟨fun h=>by cases h;assumption,.tup cs⟩
@[simp] theorem Zu (es:List (List AV)):(AV.ro es).Data↔ ∀e∈es,∀x∈e,x.Data:=⟨fun h=>by cases h;assumption,.ro es⟩
end
theorem WH:IntKind.i64.bits=64:=rfl
theorem UH:IntKind.u64.bits=64:=rfl
attribute [simp] WH UH
def bS (t:Int):Bool:=decide (0≤t) && decide (t<68719476736)
def VX:List Int→Int
 | []=>0
 | n::l=>if n=0 then VX l else n
def idxFrom {α:Type} (p:α→Bool):Nat→List α→Int
 | _,[]=> -1
 | i,x::l=>if p x then (i:Int) else idxFrom p (i+1) l
def lv {α:Type} (p:α→Bool)(l:List α):Int:=idxFrom p 0 l
theorem uI {α:Type} (p:α→Bool): ∀(l:List α) (i:Nat),decide (0≤idxFrom p i l)=l.any p
 | [],i=>by simp [idxFrom]
 | x::l,i=>by
  rw [idxFrom,List.any_cons];cases hx:p x
  ·simpa using uI p l (i+1)
  ·simp
theorem K8 {α:Type} (p:α→Bool)(l:List α):decide (0≤lv p l)=l.any p:=uI p l 0
theorem bF {α:Type} {l:List α} {i:Nat} {b:α} (h:l[i]? =some b):l.drop i=b::l.drop (i+1):=by
 obtain⟨hi,rfl⟩:=zA.1 h;exact List.drop_eq_getElem_cons hi
theorem aN {α:Type} {l:List α} {i:Nat} (h:i<l.length): ∃b,l[i]? =some b∧l[i]=b:=⟨_,zB h,rfl⟩
theorem RN {i:Nat} (h:i<9223372036854775807):IntKind.i64.wrap ((i:Int)+1)=(i:Int)+1:=by
 rw [IntKind.wrap_i64];omega
theorem aB {i:Nat} (h:i<9223372036854775807):IntKind.i64.wrap ((i:Int)+1)=((i+1:Nat):Int):=by
 rw [IntKind.wrap_i64];omega
theorem dU {t:Int} (h:bS t=true):0≤t∧t<68719476736:=by simpa [bS] using h
theorem aD {n:Int} (h1: -9223372036854775808≤n)(h2:n≤9223372036854775807):IntKind.i64.wrap n=n:=by
 rw [IntKind.wrap_i64];omega
end Go.Toll
end
section
namespace Go.Proofs.YtkpioblbeiaefaaGreat
open Go Go.Abs Go.Toll
variable {gl : aR} {h : ak}
theorem jB (t:Int):af Tryz.prog gl 61 [.int .i64 t] h fun x h'=>x= .bool (bS t)∧h'=h:=by
 refine af.body Tryz.f61 _ mixed Tryz.func61 rfl rfl (by simp [Tryz.ntmps61]) ?_;simp [bS]
end Go.Proofs.YtkpioblbeiaefaaGreat
end
section
namespace Go.Proofs.YtkpioblbeiaefaaGreat
open Go Go.Abs Go.Toll Go.RowKit
variable {gl : aR} {h : ak}
theorem WL (x:AV)(l:List Int)(hx:Rd 1 h x (l.map fun n=>[.int .i64 n]))(hl:l.length≤1000):af Tryz.prog gl 70 [x] h fun v h'=>v= .int .i64 (VX l)∧h'=h:=by
 refine af.data (by simp) (af.body Tryz.f70 _ mixed Tryz.func70 rfl rfl (by simp [Tryz.ntmps70]) ?_);simp [hx.core,hx.gd,hx.lenOk,hx.alen];refine aW.up mixed l.length (fun i fr h'=>fr 3= .int .i64 0∧fr 6=x∧fr 7= .int .i64 l.length∧fr 8= .int .i64 i∧VX l=VX (l.drop i)∧ ∃g,h'=h++g) 0 (by omega) ⟨by simp,by simp,by simp,by simp,by simp,[],by simp⟩ ?_;rintro i fr h' hi ⟨e3,e6,e7,e8,hf,g,rfl⟩;have hx:=hx.append g;rcases zN i l.length with hlt | hge
 ·obtain⟨y,hg,hg'⟩:=aN hlt;rw [bF hg,VX] at hf;have ew:=aB (i:=i) (by omega);have h0:(0:Int)≤i:=by omega
  have h1:(i:Int)<(l.map fun n=>[AV.int .i64 n]).length:=by simp;omega
  have hm:(l.map fun n=>[AV.int .i64 n])[(i:Int).toNat]? =some [.int .i64 y]:=by simp [hg]
  simp [e3,e6,e7,e8,hlt,hx.core,hx.gd,hx.lenOk,hx.alen,hx.iaddrOk,h0,h1,hx.icore,hx.igd,hx.loadV h0 h1 hm,hx.loadOk h0 h1 hm,ew];refine⟨fun hy=>by rw [hf,if_neg hy],fun hy=>⟨i+1,by omega,by omega,by simp,by rw [hf,if_pos hy]⟩⟩
 ·rw [zH hge] at hf;simp [e3,e6,e7,e8,hf,VX,Nat.not_lt.2 hge]
end Go.Proofs.YtkpioblbeiaefaaGreat
end
