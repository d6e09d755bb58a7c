/-
  The operations that only compute or read: their abstract values ('vval'), what is asked ('vok'), and soundness.
-/
import Derived.Test.YtillfoacekifbaaDoorAbsVal
set_option linter.unusedVariables false
set_option linter.unusedSimpArgs false
namespace Go.Abs
open Go

def ibin (op : BinOp) (k : IntKind) (a b : Int) : AV := match op with
  | .add => .int k (k.wrap (a + b))
  | .sub => .int k (k.wrap (a - b))
  | .mul => .int k (k.wrap (a * b))
  | .quo => .int k (k.wrap (a.tdiv b))
  | .rem => .int k (a.tmod b)
  | .and => .int k (bits .and k a b)
  | .or => .int k (bits .or k a b)
  | .xor => .int k (bits .xor k a b)
  | .andNot => .int k (bits .andNot k a b)
  | .shl => .int k (k.wrap (a * 2 ^ (min b.toNat k.bits)))
  | .shr => .int k (a.fdiv (2 ^ (min b.toNat k.bits)))
  | .eql => .bool (a == b)
  | .neq => .bool (a != b)
  | .lss => .bool (decide (a < b))
  | .leq => .bool (decide (a ≤ b))
  | .gtr => .bool (decide (b < a))
  | .geq => .bool (decide (b ≤ a))
def ibinOk (op : BinOp) (k k' : IntKind) (b : Int) : Prop := match op with
  | .quo | .rem => k = k' ∧ b ≠ 0
  | .shl | .shr => 0 ≤ b
  | _ => k = k'
def sbin (op : BinOp) (a b : List UInt8) : AV := match op with
  | .add => .str (a ++ b)
  | .eql => .bool (a == b)
  | .neq => .bool (!(a == b))
  | .lss => .bool (Op.bytesLess a b)
  | .leq => .bool (Op.bytesLess a b || a == b)
  | .gtr => .bool (!(Op.bytesLess a b || a == b))
  | .geq => .bool (!(Op.bytesLess a b))
  | _ => .junk
def sbinOk (op : BinOp) (a b : List UInt8) : Prop := match op with
  | .add => a.length + b.length ≤ 9223372036854775807
  | .eql | .neq | .lss | .leq | .gtr | .geq => True
  | _ => False

/-- The basic kinds that a comparable type without references is made of. -/
inductive BK where | int | str | bool deriving DecidableEq
def ceq1 : AV → AV → Bool
  | .int _ a, .int _ b => a == b
  | .str a, .str b => a == b
  | .bool a, .bool b => a == b
  | _, _ => false
def ceq : List AV → List AV → Bool
  | [], [] => true
  | x :: xs, y :: ys => ceq1 x y && ceq xs ys
  | _, _ => false
def cok1 : BK → AV → AV → Prop
  | .int, .int k _, .int k' _ => k = k'
  | .str, .str _, .str _ => True
  | .bool, .bool _, .bool _ => True
  | _, _, _ => False
def cok : List BK → List AV → List AV → Prop
  | [], [], [] => True
  | b :: bs, x :: xs, y :: ys => cok1 b x y ∧ cok bs xs ys
  | _, _, _ => False

/-- The basic kinds of a type, cell by cell. -/
def flatFields (flat : TypeId → Option (List BK)) : Nat → List Field → Option (List BK)
  | _, [] => some []
  | off, f :: fs => if f.name ≠ "_" ∧ f.offset = off then
      match flat f.type with
      | some b => match flatFields flat (off + b.length) fs with
        | some r => some (b ++ r)
        | none => none
      | none => none
    else none
def flat (P : Program) : Nat → TypeId → Option (List BK)
  | 0, _ => none
  | d + 1, t => match P.underlying t, P.info? t with
    | some (.int _), some i => if i.size = 1 then some [.int] else none
    | some .string, some i => if i.size = 1 then some [.str] else none
    | some .bool, some i => if i.size = 1 then some [.bool] else none
    | some (.struct fs), some i => if P.stoodInHeld t then none else
      match flatFields (flat P d) 0 fs.toList with
      | some r => if r.length = i.size then some r else none
      | none => none
    | some (.array n e), some i => match flat P d e with
      | some r => if n * r.length = i.size ∧ P.cellsOf e = r.length then some ((List.range n).flatMap fun _ => r) else none
      | none => none
    | _, _ => none

def acells : AV → List AV
  | .agg cs => cs
  | x => [x]

/-- The elements that a slice shows. -/
def aelems (h : AHeap) : AV → List (List AV)
  | .ro es => es
  | .own b off len => ((hcells h b).drop off).take len
  | .str s => s.map fun c => [.int .u8 (c.toNat : Int)]
  | _ => []

def byteOf : List AV → UInt8
  | [.int _ n] => UInt8.ofNat n.toNat
  | _ => 0

/-- A struct's or an array's value is a row of cells, every other is none. -/
def aggFit (T : TI) (x : AV) : Prop := match T.agg, x with
  | true, .agg _ => True
  | true, _ => False
  | false, .agg _ => False
  | false, _ => True

def abin (op : BinOp) (x y : AV) : AV := match x, y with
  | .int k a, .int _ b => ibin op k a b
  | .str a, .str b => sbin op a b
  | .bool a, .bool b => match op with
    | .eql => .bool (a == b)
    | .neq => .bool (!(a == b))
    | _ => .junk
  | .agg xs, .agg ys => match op with
    | .eql => .bool (ceq xs ys)
    | .neq => .bool (!(ceq xs ys))
    | _ => .junk
  | .nil, .nil => match op with
    | .eql => .bool true
    | .neq => .bool false
    | _ => .junk
  | .own _ _ _, .nil => match op with
    | .eql => .bool false
    | .neq => .bool true
    | _ => .junk
  | _, _ => .junk
def abinOk (P : Program) (op : BinOp) (t : TypeId) (x y : AV) : Prop := match x, y with
  | .int k _, .int k' b => ibinOk op k k' b
  | .str a, .str b => sbinOk op a b
  | .bool _, .bool _ => (op = .eql ∨ op = .neq) ∧ (tinfo P t).kind = .bool
  | .agg xs, .agg ys => (op = .eql ∨ op = .neq) ∧ P.eqGuardType P.depth t = false ∧ (tinfo P t).agg = true ∧ ∃ bs, flat P 50 t = some bs ∧ cok bs xs ys
  | .nil, .nil | .own _ _ _, .nil => (op = .eql ∨ op = .neq) ∧ ∃ e, (tinfo P t).kind = .slice e
  | _, _ => False

def aun (op : UnOp) (x : AV) : AV := match op, x with
  | .neg, .int k n => .int k (k.wrap (0 - n))
  | .not, .bool b => .bool (!b)
  | _, _ => .junk
def aunOk (op : UnOp) (x : AV) : Prop := match op, x with
  | .neg, .int _ _ => True
  | .not, .bool _ => True
  | _, _ => False

def aconv (P : Program) (dst : TypeId) (x : AV) : AV := match (tinfo P dst).kind, x with
  | .int k, .int _ n => .int k (k.wrap n)
  | .string, .str s => .str s
  | _, _ => .junk
def aconvOk (P : Program) (src dst : TypeId) (x : AV) : Prop := (tinfo P src).ok = true ∧ match (tinfo P dst).kind, x with
  | .int _, .int _ _ => True
  | .string, .str _ => True
  | _, _ => False

/-- A map's entry. -/
def alook (kvs : List (AV × AV)) (k : AV) : Option AV := (kvs.find? fun p => ceq (acells k) (acells p.1)).map (·.2)
def azero (T : TI) : AV := match T.agg with
  | true => .agg T.zero
  | false => T.zero.getD 0 .junk
def kbasic (P : Program) (t : TypeId) (k : AV) : Prop := match (tinfo P t).kind, k with
  | .int _, .int _ _ => True
  | .string, .str _ => True
  | .bool, .bool _ => True
  | _, _ => False

def hiOf (hi : Option Int) (len : Nat) : Nat := (hi.map Int.toNat).getD len
def aslice (x : AV) (lo hi : Option Int) : AV := match x with
  | .str s => .str ((s.take (hiOf hi s.length)).drop ((lo.map Int.toNat).getD 0))
  | .ro es => .ro ((es.take (hiOf hi es.length)).drop ((lo.map Int.toNat).getD 0))
  | .own b off len => .own b (off + (lo.map Int.toNat).getD 0) (hiOf hi len - (lo.map Int.toNat).getD 0)
  | .nil => .nil
  | .e0 => .e0
  | _ => .junk
def loOk (lo : Option Int) (hi : Nat) : Prop := match lo with
  | none => True
  | some l => 0 ≤ l ∧ l ≤ hi
def sliceOk (len : Nat) (lo hi : Option Int) : Prop := loOk hi len ∧ loOk lo (hiOf hi len)
def aint : AV → Int
  | .int _ n => n
  | _ => 0
def isInt : AV → Prop
  | .int _ _ => True
  | _ => False

def alen (h : AHeap) : AV → Int
  | .str s => s.length
  | .ro es => es.length
  | .own _ _ len => len
  | .map b => (hmap h b).length
  | _ => 0

def AV.bval : AV → Bool
  | .bool b => b
  | _ => false
def isBoolV : AV → Prop
  | .bool _ => True
  | _ => False
def pickV (c a b : AV) : AV := match c with
  | .bool t => .bool (bif t then a.bval else b.bval)
  | _ => .junk

def placeIn : List (Nat × Nat × TypeId) → Nat → Nat × Nat × TypeId := fun l i => l.getD i (0, 0, 0)
def fieldsOf (T : TI) : List (Nat × Nat × TypeId) := match T.kind with
  | .struct fs => fs
  | _ => []
def foff (T : TI) (f : Nat) : Nat := ((fieldsOf T).getD f (0, 0, 0)).1
def fsz (T : TI) (f : Nat) : Nat := ((fieldsOf T).getD f (0, 0, 0)).2.1
def fty (T : TI) (f : Nat) : TypeId := ((fieldsOf T).getD f (0, 0, 0)).2.2

/-- A struct's cells, some of its fields written. -/
def splice {α : Type} (e : List α) (c : Nat) (cs : List α) : List α := e.take c ++ cs ++ e.drop (c + cs.length)
def abuildS (T : TI) : List (Nat × AV) → List AV → List AV
  | [], cs => cs
  | (i, x) :: r, cs => abuildS T r (splice cs (foff T i) (acells x))
def abuildA (n : Nat) : List (Nat × AV) → List AV → List AV
  | [], cs => cs
  | (i, x) :: r, cs => abuildA n r (splice cs (i * n) (acells x))

def AV.solid : AV → Bool
  | .junk | .tup _ | .opt _ _ => false
  | _ => true
def buildSOk (T : TI) : List (Nat × AV) → Prop
  | [] => True
  | (i, x) :: r => x.solid = true ∧ i < (fieldsOf T).length ∧ (acells x).length = fsz T i ∧ foff T i + fsz T i ≤ T.cells ∧ buildSOk T r
def buildAOk (n : Nat) (cells : Nat) : List (Nat × AV) → Prop
  | [] => True
  | (i, x) :: r => x.solid = true ∧ (acells x).length = n ∧ i * n + n ≤ cells ∧ buildAOk n cells r

/-- The cells of a slice type's element. -/
def elemCells (P : Program) (t : TypeId) : Nat := match (tinfo P t).kind with
  | .slice e => (tinfo P e).cells
  | _ => 0

def loadV (P : Program) (h : AHeap) (t : TypeId) : AV → AV
  | .ptr b i c => acut (tinfo P t) ((hcells h b).getD i []) c
  | .rop es i c => acut (tinfo P t) (es.getD i []) c
  | _ => .junk
def loadOk (P : Program) (h : AHeap) (t : TypeId) : AV → Prop
  | .ptr b i c => i < (hcells h b).length ∧ cutOk (tinfo P t) ((hcells h b).getD i []) c
  | .rop es i c => i < es.length ∧ cutOk (tinfo P t) (es.getD i []) c
  | _ => False
def faddrV (P : Program) (s : TypeId) (f : Nat) : AV → AV
  | .ptr b i c => .ptr b i (c + foff (tinfo P s) f)
  | .rop es i c => .rop es i (c + foff (tinfo P s) f)
  | _ => .junk
def faddrOk : AV → Prop
  | .ptr _ _ _ => True
  | .rop _ _ _ => True
  | _ => False
def fieldV (P : Program) (s : TypeId) (f : Nat) : AV → AV
  | .agg cs => acut (tinfo P (fty (tinfo P s) f)) cs (foff (tinfo P s) f)
  | _ => .junk
def fieldOk (P : Program) (s : TypeId) (f : Nat) : AV → Prop
  | .agg cs => cutOk (tinfo P (fty (tinfo P s) f)) cs (foff (tinfo P s) f)
  | _ => False
def iaddrV (P : Program) (k : TK) (x : AV) (n : Int) : AV := match k, x with
  | .slice _, .own b off _ => .ptr b (off + n.toNat) 0
  | .slice _, .ro es => .rop es n.toNat 0
  | .array _ e, .ptr b i c => .ptr b i (c + n.toNat * (tinfo P e).cells)
  | .array _ e, .rop es i c => .rop es i (c + n.toNat * (tinfo P e).cells)
  | _, _ => .junk
def iaddrOk (P : Program) (h : AHeap) (k : TK) (x : AV) (n : Int) : Prop := match k, x with
  | .slice e, .own b off len => (tinfo P e).ok = true ∧ n < len ∧ off + len ≤ (hcells h b).length ∧ hsz h b = (tinfo P e).cells
  | .slice e, .ro es => (tinfo P e).ok = true ∧ n < es.length ∧ (es.getD n.toNat []).length = (tinfo P e).cells
  | .array m e, .ptr _ _ _ => (tinfo P e).ok = true ∧ n < m
  | .array m e, .rop _ _ _ => (tinfo P e).ok = true ∧ n < m
  | _, _ => False
def indexV (P : Program) (k : TK) (x : AV) (n : Int) : AV := match k, x with
  | .string, .str s => .int .u8 ((s.getD n.toNat 0).toNat : Int)
  | .array _ e, .agg cs => acut (tinfo P e) cs (n.toNat * (tinfo P e).cells)
  | _, _ => .junk
def indexOk (P : Program) (k : TK) (x : AV) (n : Int) : Prop := match k, x with
  | .string, .str s => n < s.length
  | .array m e, .agg cs => (tinfo P e).ok = true ∧ n < m ∧ cutOk (tinfo P e) cs (n.toNat * (tinfo P e).cells)
  | _, _ => False
def zeroOk (T : TI) : Prop := T.ok = true ∧ T.zok = true ∧ T.zero.length = T.cells
def lookV (P : Program) (h : AHeap) (kd : TK) (x k : AV) (ok : Bool) : AV := match kd, x with
  | .map _ e, .map b => match ok with
    | true => .tup [(alook (hmap h b) k).getD (azero (tinfo P e)), .bool (alook (hmap h b) k).isSome]
    | false => (alook (hmap h b) k).getD (azero (tinfo P e))
  | .map _ e, .lit (.map none) => match ok with
    | true => .tup [azero (tinfo P e), .bool false]
    | false => azero (tinfo P e)
  | _, _ => .junk
/-- The keys of a map compare with a key. -/
def keysOk (P : Program) (t : TypeId) (k : AV) (kvs : List (AV × AV)) : Prop := aggFit (tinfo P t) k ∧ ∃ bs, flat P 50 t = some bs ∧ cok bs (acells k) (acells k) ∧ ∀ p ∈ kvs, aggFit (tinfo P t) p.1 ∧ cok bs (acells k) (acells p.1)
def lookOk (P : Program) (h : AHeap) (kd : TK) (x k : AV) : Prop := match kd, x with
  | .map t e, .map b => isMap h b = true ∧ zeroOk (tinfo P e) ∧ keysOk P t k (hmap h b)
  | .map t e, .lit (.map none) => zeroOk (tinfo P e) ∧ keysOk P t k []
  | _, _ => False
def extractV (i : Nat) : AV → AV
  | .tup l => l.getD i .junk
  | _ => .junk
def extractOk (i : Nat) : AV → Prop
  | .tup l => i < l.length
  | _ => False
def buildV (P : Program) (t : TypeId) (parts : List (Nat × AV)) : AV := match (tinfo P t).kind with
  | .struct _ => .agg (abuildS (tinfo P t) parts (tinfo P t).zero)
  | .array _ e => .agg (abuildA (tinfo P e).cells parts (tinfo P t).zero)
  | _ => .junk
def buildOk (P : Program) (t : TypeId) (parts : List (Nat × AV)) : Prop := (tinfo P t).zok = true ∧ (tinfo P t).zero.length = (tinfo P t).cells ∧ match (tinfo P t).kind with
  | .struct fs => buildSOk (tinfo P t) parts ∧ ∀ p ∈ fs, (tinfo P p.2.2).ok = true
  | .array _ e => (tinfo P e).ok = true ∧ buildAOk (tinfo P e).cells (tinfo P t).cells parts
  | _ => False
def sliceTOk (P : Program) (h : AHeap) (k : TK) (x : AV) (lo hi : Option Int) : Prop := match k, x with
  | .string, .str s => sliceOk s.length lo hi
  | .slice e, .ro es => (tinfo P e).ok = true ∧ (∀ y ∈ es, y.length = (tinfo P e).cells) ∧ sliceOk es.length lo hi
  | .slice e, .own b off len => (tinfo P e).ok = true ∧ 0 < hsz h b ∧ hsz h b = (tinfo P e).cells ∧ sliceOk len lo hi
  | .slice e, .nil => (tinfo P e).ok = true ∧ sliceOk 0 lo hi
  | .slice e, .e0 => (tinfo P e).ok = true ∧ sliceOk 0 lo hi
  | _, _ => False
def builtinV (h : AHeap) (b : Builtin) (xs : List AV) : AV := match b, xs with
  | .len, [x] => .int .i64 (alen h x)
  | .min, [.int k x, .int _ y] => .int k (min x y)
  | .max, [.int k x, .int _ y] => .int k (max x y)
  | .min, [.int k x, .int _ y, .int _ z] => .int k (min (min x y) z)
  | .max, [.int k x, .int _ y, .int _ z] => .int k (max (max x y) z)
  | _, _ => .junk
def lenOk (h : AHeap) (k : TK) (x : AV) : Prop := match k, x with
  | .string, .str _ => True
  | .slice _, .ro _ => True
  | .slice _, .own _ _ _ => True
  | .slice _, .nil => True
  | .slice _, .e0 => True
  | .map _ _, .map b => isMap h b = true
  | .map _ _, .lit (.map none) => True
  | _, _ => False
def builtinOk (P : Program) (h : AHeap) (b : Builtin) (ts : List TypeId) (xs : List AV) : Prop := match b, xs with
  | .len, [x] => match ts with
    | [t] => lenOk h (tinfo P t).kind x
    | _ => False
  | .min, [.int _ _, .int _ _] => True
  | .max, [.int _ _, .int _ _] => True
  | .min, [.int _ _, .int _ _, .int _ _] => True
  | .max, [.int _ _, .int _ _, .int _ _] => True
  | _, _ => False
def pickOk (c a b : AV) : Prop := match c.core with
  | .bool t => (t = true → a.gd = true ∧ isBoolV a.core) ∧ (t = false → b.gd = true ∧ isBoolV b.core)
  | _ => False
def nilOk : AV → Prop
  | .ptr _ _ _ => True
  | .fn (.func _) _ _ => True
  | _ => False
def ifaceOk (k : TK) : Prop := match k with
  | .iface => False
  | _ => True
def isIntO : Option AV → Prop
  | none => True
  | some x => x.gd = true ∧ isInt x.core

def vval (P : Program) (gl : Globs) (fr : AFrame) (h : AHeap) : Op → AV
  | .move x => (ev gl fr x).core
  | .assign x => (ev gl fr x).core
  | .pick c a b => pickV (ev gl fr c).core (ev gl fr a).core (ev gl fr b).core
  | .build t parts => buildV P t (parts.toList.map fun p => (p.1, (ev gl fr p.2).core))
  | .load t a => loadV P h t (ev gl fr a).core
  | .nilCheck x => (ev gl fr x).core
  | .binOp op _ x y _ => abin op (ev gl fr x).core (ev gl fr y).core
  | .unOp op _ x => aun op (ev gl fr x).core
  | .convert _ dst x => aconv P dst (ev gl fr x).core
  | .makeInterface t x => .iface t (ev gl fr x).core
  | .makeFunc f first caps => .fn f (first.toList.map fun x => (ev gl fr x).core) (caps.toList.map fun x => (ev gl fr x).core)
  | .slice _ x lo hi _ => aslice (ev gl fr x).core (lo.map fun x => aint (ev gl fr x).core) (hi.map fun x => aint (ev gl fr x).core)
  | .fieldAddr s x f => faddrV P s f (ev gl fr x).core
  | .field s x f => fieldV P s f (ev gl fr x).core
  | .indexAddr t x ix => iaddrV P (tinfo P t).kind (ev gl fr x).core (aint (ev gl fr ix).core)
  | .index t x ix => indexV P (tinfo P t).kind (ev gl fr x).core (aint (ev gl fr ix).core)
  | .lookup t x ix ok => lookV P h (tinfo P t).kind (ev gl fr x).core (ev gl fr ix).core ok
  | .extract x i => extractV i (ev gl fr x).core
  | _ => .junk

def vok (P : Program) (gl : Globs) (fr : AFrame) (h : AHeap) : Op → Prop
  | .move x => (ev gl fr x).gd = true
  | .assign x => (ev gl fr x).gd = true
  | .pick c a b => (ev gl fr c).gd = true ∧ pickOk (ev gl fr c) (ev gl fr a) (ev gl fr b)
  | .build t parts => (∀ p ∈ parts.toList, (ev gl fr p.2).gd = true) ∧ buildOk P t (parts.toList.map fun p => (p.1, (ev gl fr p.2).core))
  | .load t a => (ev gl fr a).gd = true ∧ (tinfo P t).ok = true ∧ loadOk P h t (ev gl fr a).core
  | .nilCheck x => (ev gl fr x).gd = true ∧ nilOk (ev gl fr x).core
  | .binOp op t x y _ => (ev gl fr x).gd = true ∧ (ev gl fr y).gd = true ∧ abinOk P op t (ev gl fr x).core (ev gl fr y).core
  | .unOp op _ x => (ev gl fr x).gd = true ∧ aunOk op (ev gl fr x).core
  | .convert src dst x => (ev gl fr x).gd = true ∧ aconvOk P src dst (ev gl fr x).core
  | .makeInterface t x => (ev gl fr x).gd = true ∧ (tinfo P t).ok = true ∧ ifaceOk (tinfo P t).kind
  | .makeFunc _ first caps => (∀ x ∈ first.toList, (ev gl fr x).gd = true) ∧ (∀ x ∈ caps.toList, (ev gl fr x).gd = true)
  | .slice t x lo hi mx => (ev gl fr x).gd = true ∧ mx = none ∧ isIntO (lo.map (ev gl fr)) ∧ isIntO (hi.map (ev gl fr)) ∧
    sliceTOk P h (tinfo P t).kind (ev gl fr x).core (lo.map fun x => aint (ev gl fr x).core) (hi.map fun x => aint (ev gl fr x).core)
  | .fieldAddr s x f => (ev gl fr x).gd = true ∧ f < (fieldsOf (tinfo P s)).length ∧ 0 < fsz (tinfo P s) f ∧ (tinfo P (fty (tinfo P s) f)).ok = true ∧ faddrOk (ev gl fr x).core
  | .field s x f => (ev gl fr x).gd = true ∧ f < (fieldsOf (tinfo P s)).length ∧ (tinfo P (fty (tinfo P s) f)).ok = true ∧ fieldOk P s f (ev gl fr x).core
  | .indexAddr t x ix => (ev gl fr x).gd = true ∧ (ev gl fr ix).gd = true ∧ isInt (ev gl fr ix).core ∧ 0 ≤ aint (ev gl fr ix).core ∧ iaddrOk P h (tinfo P t).kind (ev gl fr x).core (aint (ev gl fr ix).core)
  | .index t x ix => (ev gl fr x).gd = true ∧ (ev gl fr ix).gd = true ∧ isInt (ev gl fr ix).core ∧ 0 ≤ aint (ev gl fr ix).core ∧ indexOk P (tinfo P t).kind (ev gl fr x).core (aint (ev gl fr ix).core)
  | .lookup t x ix _ => (ev gl fr x).gd = true ∧ (ev gl fr ix).gd = true ∧ lookOk P h (tinfo P t).kind (ev gl fr x).core (ev gl fr ix).core
  | .extract x i => (ev gl fr x).gd = true ∧ extractOk i (ev gl fr x).core
  | _ => False
end Go.Abs
