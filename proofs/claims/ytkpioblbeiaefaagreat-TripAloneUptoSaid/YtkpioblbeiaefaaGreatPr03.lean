/- Part 3 of the lemmas below the statements of this seat: Tab, TollBase, Clock, Cmp. -/
import Derived.Test.YtkpioblbeiaefaaGreatPr02
import Derived.Test.YtkpioblbeiaefaaGreatProg
import Derived.Lib.Bytealg
import Derived.WalkKit
import Derived.Lib.Walk
set_option linter.unusedSectionVars false
set_option linter.unusedVariables false
set_option linter.unusedSimpArgs false
set_option linter.unnecessarySimpa false
set_option maxRecDepth 100000
section
namespace Go.Proofs.YtkpioblbeiaefaaGreat
open Go Go.Abs
@[simp] theorem Y8:ai Tryz.prog 3= { ok:=true,agg:=false,cells:=1,bytes:=8,kind:= .int .i64,zok:=true,zero:=[.int .i64 0] }:=by kernel_rfl
@[simp] theorem Y5:flat Tryz.prog 50 3=some [.int]:=by kernel_rfl
@[simp] theorem Y9:ai Tryz.prog 4= { ok:=true,agg:=false,cells:=1,bytes:=1,kind:= .bool,zok:=true,zero:=[.bool false] }:=by kernel_rfl
@[simp] theorem Y6:flat Tryz.prog 50 4=some [.bool]:=by kernel_rfl
@[simp] theorem Za:ai Tryz.prog 5= { ok:=true,agg:=false,cells:=1,bytes:=1,kind:= .int .u8,zok:=true,zero:=[.int .u8 0] }:=by kernel_rfl
@[simp] theorem Zb:ai Tryz.prog 9= { ok:=true,agg:=false,cells:=1,bytes:=16,kind:= .string,zok:=true,zero:=[.str []] }:=by kernel_rfl
@[simp] theorem Y7:flat Tryz.prog 50 9=some [.str]:=by kernel_rfl
@[simp] theorem YL:ai Tryz.prog 22= { ok:=true,agg:=false,cells:=1,bytes:=24,kind:= .slice 85,zok:=true,zero:=[.nil] }:=by kernel_rfl
@[simp] theorem YM:ai Tryz.prog 23= { ok:=true,agg:=false,cells:=1,bytes:=24,kind:= .slice 134,zok:=true,zero:=[.nil] }:=by kernel_rfl
@[simp] theorem YN:ai Tryz.prog 25= { ok:=true,agg:=true,cells:=2,bytes:=48,kind:= .struct [(0,1,22),(1,1,23)],zok:=true,zero:=[.nil,.nil] }:=by kernel_rfl
@[simp] theorem YO:ai Tryz.prog 26= { ok:=true,agg:=false,cells:=1,bytes:=24,kind:= .slice 79,zok:=true,zero:=[.nil] }:=by kernel_rfl
@[simp] theorem YP:ai Tryz.prog 28= { ok:=true,agg:=true,cells:=3,bytes:=72,kind:= .struct [(0,2,25),(2,1,26)],zok:=true,zero:=[.nil,.nil,.nil] }:=by kernel_rfl
@[simp] theorem YQ:ai Tryz.prog 29= { ok:=true,agg:=false,cells:=1,bytes:=24,kind:= .slice 57,zok:=true,zero:=[.nil] }:=by kernel_rfl
@[simp] theorem YR:ai Tryz.prog 32= { ok:=true,agg:=false,cells:=1,bytes:=24,kind:= .slice 41,zok:=true,zero:=[.nil] }:=by kernel_rfl
@[simp] theorem YS:ai Tryz.prog 33= { ok:=true,agg:=false,cells:=1,bytes:=24,kind:= .slice 59,zok:=true,zero:=[.nil] }:=by kernel_rfl
@[simp] theorem YT:ai Tryz.prog 39= { ok:=true,agg:=false,cells:=1,bytes:=24,kind:= .slice 49,zok:=true,zero:=[.nil] }:=by kernel_rfl
@[simp] theorem YU:ai Tryz.prog 41= { ok:=true,agg:=true,cells:=5,bytes:=80,kind:= .struct [(0,1,9),(1,1,9),(2,1,9),(3,1,3),(4,1,39)],zok:=true,zero:=[.str [],.str [],.str [],.int .i64 0,.nil] }:=by kernel_rfl
@[simp] theorem YV:ai Tryz.prog 46= { ok:=true,agg:=false,cells:=1,bytes:=24,kind:= .slice 9,zok:=true,zero:=[.nil] }:=by kernel_rfl
@[simp] theorem YW:ai Tryz.prog 49= { ok:=true,agg:=true,cells:=3,bytes:=40,kind:= .struct [(0,1,9),(1,1,3),(2,1,9)],zok:=true,zero:=[.str [],.int .i64 0,.str []] }:=by kernel_rfl
@[simp] theorem YE:flat Tryz.prog 50 49=some [.str,.int,.str]:=by kernel_rfl
@[simp] theorem YX:ai Tryz.prog 52= { ok:=true,agg:=true,cells:=2,bytes:=16,kind:= .struct [(0,1,3),(1,1,3)],zok:=true,zero:=[.int .i64 0,.int .i64 0] }:=by kernel_rfl
@[simp] theorem YF:flat Tryz.prog 50 52=some [.int,.int]:=by kernel_rfl
@[simp] theorem YY:ai Tryz.prog 55= { ok:=true,agg:=false,cells:=1,bytes:=24,kind:= .slice 66,zok:=true,zero:=[.nil] }:=by kernel_rfl
@[simp] theorem YZ:ai Tryz.prog 57= { ok:=true,agg:=true,cells:=8,bytes:=112,kind:= .struct [(0,1,9),(1,1,9),(2,1,3),(3,1,9),(4,1,9),(5,1,3),(6,1,3),(7,1,55)],zok:=true,zero:=[.str [],.str [],.int .i64 0,.str [],.str [],.int .i64 0,.int .i64 0,.nil] }:=by kernel_rfl
@[simp] theorem Y0:ai Tryz.prog 59= { ok:=true,agg:=true,cells:=2,bytes:=24,kind:= .struct [(0,1,9),(1,1,3)],zok:=true,zero:=[.str [],.int .i64 0] }:=by kernel_rfl
@[simp] theorem Y1:ai Tryz.prog 66= { ok:=true,agg:=true,cells:=2,bytes:=24,kind:= .struct [(0,1,9),(1,1,3)],zok:=true,zero:=[.str [],.int .i64 0] }:=by kernel_rfl
@[simp] theorem Y2:ai Tryz.prog 79= { ok:=true,agg:=true,cells:=3,bytes:=32,kind:= .struct [(0,1,9),(1,1,4),(2,1,3)],zok:=true,zero:=[.str [],.bool false,.int .i64 0] }:=by kernel_rfl
@[simp] theorem Y3:ai Tryz.prog 85= { ok:=true,agg:=true,cells:=3,bytes:=40,kind:= .struct [(0,1,9),(1,1,3),(2,1,9)],zok:=true,zero:=[.str [],.int .i64 0,.str []] }:=by kernel_rfl
@[simp] theorem Ye:ai Tryz.prog 100= { ok:=true,agg:=false,cells:=1,bytes:=8,kind:= .map 9 4,zok:=true,zero:=[.lit (.map none)] }:=by kernel_rfl
@[simp] theorem Yf:ai Tryz.prog 110= { ok:=true,agg:=false,cells:=1,bytes:=8,kind:= .map 9 3,zok:=true,zero:=[.lit (.map none)] }:=by kernel_rfl
@[simp] theorem Yg:ai Tryz.prog 112= { ok:=true,agg:=true,cells:=10,bytes:=200,kind:= .struct [(0,3,28),(3,1,9),(4,1,110),(5,1,32),(6,1,33),(7,1,39),(8,1,9),(9,1,9)],zok:=true,zero:=[.nil,.nil,.nil,.str [],.lit (.map none),.nil,.nil,.nil,.str [],.str []] }:=by kernel_rfl
@[simp] theorem Yh:ai Tryz.prog 121= { ok:=true,agg:=false,cells:=1,bytes:=8,kind:= .map 9 9,zok:=true,zero:=[.lit (.map none)] }:=by kernel_rfl
@[simp] theorem Yi:ai Tryz.prog 134= { ok:=true,agg:=true,cells:=4,bytes:=48,kind:= .struct [(0,1,9),(1,1,9),(2,1,3),(3,1,3)],zok:=true,zero:=[.str [],.str [],.int .i64 0,.int .i64 0] }:=by kernel_rfl
@[simp] theorem Yj:ai Tryz.prog 135= { ok:=true,agg:=false,cells:=1,bytes:=24,kind:= .slice 5,zok:=true,zero:=[.nil] }:=by kernel_rfl
@[simp] theorem Yk:ai Tryz.prog 141= { ok:=true,agg:=false,cells:=1,bytes:=24,kind:= .slice 3,zok:=true,zero:=[.nil] }:=by kernel_rfl
@[simp] theorem Yl:ai Tryz.prog 160= { ok:=true,agg:=false,cells:=1,bytes:=8,kind:= .int .u64,zok:=true,zero:=[.int .u64 0] }:=by kernel_rfl
@[simp] theorem Ym:ai Tryz.prog 175= { ok:=true,agg:=false,cells:=1,bytes:=24,kind:= .slice 141,zok:=true,zero:=[.nil] }:=by kernel_rfl
@[simp] theorem Yn:ai Tryz.prog 183= { ok:=true,agg:=false,cells:=1,bytes:=24,kind:= .slice 46,zok:=true,zero:=[.nil] }:=by kernel_rfl
@[simp] theorem Yo:ai Tryz.prog 200= { ok:=true,agg:=false,cells:=1,bytes:=8,kind:= .int .u64,zok:=true,zero:=[.int .u64 0] }:=by kernel_rfl
@[simp] theorem Yp:ai Tryz.prog 201= { ok:=true,agg:=false,cells:=1,bytes:=8,kind:= .map 202 4,zok:=true,zero:=[.lit (.map none)] }:=by kernel_rfl
@[simp] theorem Yq:ai Tryz.prog 202= { ok:=true,agg:=true,cells:=2,bytes:=32,kind:= .array 2 9,zok:=true,zero:=[.str [],.str []] }:=by kernel_rfl
@[simp] theorem XU:flat Tryz.prog 50 202=some [.str,.str]:=by kernel_rfl
@[simp] theorem Yr:ai Tryz.prog 211= { ok:=true,agg:=true,cells:=10,bytes:=80,kind:= .array 10 3,zok:=true,zero:=[.int .i64 0,.int .i64 0,.int .i64 0,.int .i64 0,.int .i64 0,.int .i64 0,.int .i64 0,.int .i64 0,.int .i64 0,.int .i64 0] }:=by kernel_rfl
@[simp] theorem Yt:ai Tryz.prog 221= { ok:=true,agg:=false,cells:=1,bytes:=24,kind:= .slice 225,zok:=true,zero:=[.nil] }:=by kernel_rfl
@[simp] theorem Yu:ai Tryz.prog 223= { ok:=true,agg:=true,cells:=3,bytes:=56,kind:= .struct [(0,1,46),(1,1,110),(2,1,221)],zok:=true,zero:=[.nil,.lit (.map none),.nil] }:=by kernel_rfl
@[simp] theorem Yv:ai Tryz.prog 225= { ok:=true,agg:=false,cells:=1,bytes:=24,kind:= .slice 228,zok:=true,zero:=[.nil] }:=by kernel_rfl
@[simp] theorem Yw:ai Tryz.prog 228= { ok:=true,agg:=true,cells:=3,bytes:=24,kind:= .struct [(0,1,3),(1,1,3),(2,1,3)],zok:=true,zero:=[.int .i64 0,.int .i64 0,.int .i64 0] }:=by kernel_rfl
@[simp] theorem Yx:ai Tryz.prog 239= { ok:=true,agg:=false,cells:=1,bytes:=24,kind:= .slice 242,zok:=true,zero:=[.nil] }:=by kernel_rfl
@[simp] theorem Yy:ai Tryz.prog 242= { ok:=true,agg:=true,cells:=2,bytes:=16,kind:= .struct [(0,1,3),(1,1,3)],zok:=true,zero:=[.int .i64 0,.int .i64 0] }:=by kernel_rfl
@[simp] theorem XV:flat Tryz.prog 50 242=some [.int,.int]:=by kernel_rfl
@[simp] theorem Yz:ai Tryz.prog 243= { ok:=true,agg:=false,cells:=1,bytes:=24,kind:= .slice 4,zok:=true,zero:=[.nil] }:=by kernel_rfl
@[simp] theorem YA:ai Tryz.prog 244= { ok:=true,agg:=false,cells:=1,bytes:=8,kind:= .func,zok:=true,zero:=[.lit .nilFunc] }:=by kernel_rfl
@[simp] theorem YB:ai Tryz.prog 250= { ok:=true,agg:=false,cells:=1,bytes:=16,kind:= .iface,zok:=true,zero:=[.lit .nilIface] }:=by kernel_rfl
theorem mixed:Tryz.prog.follows .mixedOrders=true:=by kernel_rfl
end Go.Proofs.YtkpioblbeiaefaaGreat
end
section
namespace Go.Toll
open Go Go.Abs
abbrev Bytes:=List UInt8
structure Iv where
 lo:Int
 hi:Int
 deriving DecidableEq
def Bt (i:Iv):List AV:=[.int .i64 i.lo,.int .i64 i.hi]
attribute [simp] Bt
section
open AV
@[simp] theorem VU (b:Bool):(AV.bool b).Data:= .bool b
@[simp] theorem WZ (k:IntKind) (n:Int):(AV.int k n).Data:= .int k n
@[simp] theorem W9 (s:List UInt8):(AV.str s).Data:= .str s
@[simp] theorem WY (cs:List AV):(AV.agg cs).Data↔ ∀x∈cs,x.Data:=⟨fun h=>by cases h;assumption,.agg cs⟩
@[simp] theorem Xa (cs:List AV):(AV.tup cs).Data↔ ∀x∈cs,x.Data:=⟨fun h=>by cases h;assumption,.tup cs⟩
@[simp] theorem XH (es:List (List AV)):(AV.ro es).Data↔ ∀e∈es,∀x∈e,x.Data:=⟨fun h=>by cases h;assumption,.ro es⟩
end
theorem UJ:IntKind.i64.bits=64:=rfl
theorem Sg:IntKind.u64.bits=64:=rfl
attribute [simp] UJ Sg
def bK (t:Int):Bool:=decide (0≤t) && decide (t<68719476736)
def T9:List Int→Int
 | []=>0
 | n::l=>if n=0 then T9 l else n
def idxFrom {α:Type} (p:α→Bool):Nat→List α→Int
 | _,[]=> -1
 | i,x::l=>if p x then (i:Int) else idxFrom p (i+1) l
def kN {α:Type} (p:α→Bool)(l:List α):Int:=idxFrom p 0 l
theorem sJ {α:Type} (p:α→Bool): ∀(l:List α) (i:Nat),decide (0≤idxFrom p i l)=l.any p
 | [],i=>by simp [idxFrom]
 | x::l,i=>by
  rw [idxFrom,List.any_cons];cases hx:p x
  ·simpa using sJ p l (i+1)
  ·simp
theorem Jh {α:Type} (p:α→Bool)(l:List α):decide (0≤kN p l)=l.any p:=sJ p l 0
theorem bq {α:Type} {l:List α} {i:Nat} {b:α} (h:l[i]? =some b):l.drop i=b::l.drop (i+1):=by
 obtain⟨hi,rfl⟩:=zA.1 h;exact List.drop_eq_getElem_cons hi
theorem aJ {α:Type} {l:List α} {i:Nat} (h:i<l.length): ∃b,l[i]? =some b∧l[i]=b:=⟨_,zB h,rfl⟩
theorem PN {i:Nat} (h:i<9223372036854775807):IntKind.i64.wrap ((i:Int)+1)=(i:Int)+1:=by
 rw [IntKind.wrap_i64];omega
theorem aB {i:Nat} (h:i<9223372036854775807):IntKind.i64.wrap ((i:Int)+1)=((i+1:Nat):Int):=by
 rw [IntKind.wrap_i64];omega
theorem fq {t:Int} (h:bK t=true):0≤t∧t<68719476736:=by simpa [bK] using h
theorem aC {n:Int} (h1: -9223372036854775808≤n)(h2:n≤9223372036854775807):IntKind.i64.wrap n=n:=by
 rw [IntKind.wrap_i64];omega
end Go.Toll
end
section
namespace Go.Proofs.YtkpioblbeiaefaaGreat
open Go Go.Abs Go.Toll
variable {gl : aM} {h : af}
theorem qH (t:Int):aa Tryz.prog gl 61 [.int .i64 t] h fun x h'=>x= .bool (bK t)∧h'=h:=by
 refine aa.body Tryz.f61 _ mixed Tryz.func61 rfl rfl (by simp [Tryz.ntmps61]) ?_;simp [bK]
end Go.Proofs.YtkpioblbeiaefaaGreat
end
section
namespace Go.Proofs.YtkpioblbeiaefaaGreat
open Go Go.Abs Go.Toll Go.RowKit
variable {gl : aM} {h : af}
theorem UN (x:AV)(l:List Int)(hx:Rd 1 h x (l.map fun n=>[.int .i64 n]))(hl:l.length≤1000):aa Tryz.prog gl 70 [x] h fun v h'=>v= .int .i64 (T9 l)∧h'=h:=by
 refine aa.data (by simp) (aa.body Tryz.f70 _ mixed Tryz.func70 rfl rfl (by simp [Tryz.ntmps70]) ?_);simp [hx.core,hx.gd,hx.lenOk,hx.alen];refine aT.up mixed l.length (fun i fr h'=>fr 3= .int .i64 0∧fr 6=x∧fr 7= .int .i64 l.length∧fr 8= .int .i64 i∧T9 l=T9 (l.drop i)∧ ∃g,h'=h++g) 0 (by omega) ⟨by simp,by simp,by simp,by simp,by simp,[],by simp⟩ ?_;rintro i fr h' hi ⟨e3,e6,e7,e8,hf,g,rfl⟩;have hx:=hx.append g;rcases zN i l.length with hlt | hge
 ·obtain⟨y,hg,hg'⟩:=aJ hlt;rw [bq hg,T9] at hf;have ew:=aB (i:=i) (by omega);have h0:(0:Int)≤i:=by omega
  have h1:(i:Int)<(l.map fun n=>[AV.int .i64 n]).length:=by simp;omega
  have hm:(l.map fun n=>[AV.int .i64 n])[(i:Int).toNat]? =some [.int .i64 y]:=by simp [hg]
  simp [e3,e6,e7,e8,hlt,hx.core,hx.gd,hx.lenOk,hx.alen,hx.iaddrOk,h0,h1,hx.icore,hx.igd,hx.loadV h0 h1 hm,hx.loadOk h0 h1 hm,ew];refine⟨fun hy=>by rw [hf,if_neg hy],fun hy=>⟨i+1,by omega,by omega,by simp,by rw [hf,if_pos hy]⟩⟩
 ·rw [zH hge] at hf;simp [e3,e6,e7,e8,hf,T9,Nat.not_lt.2 hge]
end Go.Proofs.YtkpioblbeiaefaaGreat
end
