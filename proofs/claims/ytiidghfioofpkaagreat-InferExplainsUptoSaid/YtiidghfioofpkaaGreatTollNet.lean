/-
  Names, networks, topologies: their data, how they show as abstract values, and what makes them valid.
-/
import Derived.Test.YtiidghfioofpkaaGreatTollBase
import Derived.Test.YtiidghfioofpkaaGreatTollRate
import Derived.Test.YtiidghfioofpkaaGreatTollShape
set_option linter.unusedVariables false
set_option linter.unusedSimpArgs false
namespace Go.Toll
open Go Go.Abs

/-! ### Names -/
def letB (n : Nat) : Bool := decide (97 ≤ n) && decide (n ≤ 122)
def digB (n : Nat) : Bool := (decide (48 ≤ n) && decide (n ≤ 57)) || decide (n = 45)
/-- May a byte stand at a place of a name? -/
def chB (i : Nat) (n : Nat) : Bool := letB n || (!decide (i = 0) && digB n)
def chsB : Nat → Bytes → Bool
  | _, [] => true
  | i, c :: s => chB i c.toNat && chsB (i + 1) s
def nameB (s : Bytes) : Bool := decide (0 < s.length) && decide (s.length ≤ 12) && chsB 0 s
theorem chB_iff (i m : Nat) : chB i m = true ↔ ((97 ≤ m ∧ m ≤ 122) ∨ (i ≠ 0 ∧ ((48 ≤ m ∧ m ≤ 57) ∨ m = 45))) := by simp [chB, letB, digB]
theorem chB_big {i n : Nat} (h : 128 ≤ n) : chB i n = false := by
  have h1 : ¬ n ≤ 122 := by omega
  have h2 : ¬ n ≤ 57 := by omega
  have h3 : ¬ n = 45 := by omega
  simp [chB, letB, digB, h1, h2, h3]

/-! ### Networks -/
structure Pt where
  name : Bytes
  kind : Int
  sys : Bytes
  deriving DecidableEq
structure Lk where
  src : Bytes
  dst : Bytes
  min : Int
  max : Int
  deriving DecidableEq
structure Net where
  pts : List Pt
  lks : List Lk
  deriving DecidableEq
structure TSys where
  name : Bytes
  closed : Bool
  most : Int
  deriving DecidableEq
structure Topo where
  net : Net
  sys : List TSys
  deriving DecidableEq
def encPt (p : Pt) : List AV := [.str p.name, .int .i64 p.kind, .str p.sys]
def encLk (l : Lk) : List AV := [.str l.src, .str l.dst, .int .i64 l.min, .int .i64 l.max]
def encNet (n : Net) : List AV := [.ro (n.pts.map encPt), .ro (n.lks.map encLk)]
def encSys (s : TSys) : List AV := [.str s.name, .bool s.closed, .int .i64 s.most]
def encTopo (t : Topo) : List AV := [.ro (t.net.pts.map encPt), .ro (t.net.lks.map encLk), .ro (t.sys.map encSys)]
attribute [simp] encPt encLk encNet encSys encTopo

def hasPt (l : List Pt) (s : Bytes) : Bool := l.any fun p => decide (p.name = s)
/-- The first error of points; 'before' are the earlier ones. -/
def ptsErr (before : List Pt) : List Pt → Int
  | [] => 0
  | p :: l => if nameB p.name = false then 6 else if hasPt before p.name then 9 else if p.kind < 1 ∨ 4 < p.kind then 1 else if p.sys ≠ [] ∧ nameB p.sys = false then 6 else ptsErr (before ++ [p]) l
def lksErr (pts : List Pt) (before : List Lk) : List Lk → Int
  | [] => 0
  | x :: l => if hasPt pts x.src = false ∨ hasPt pts x.dst = false ∨ x.src = x.dst then 16
    else if before.any (fun y => decide (y.src = x.src) && decide (y.dst = x.dst)) then 9
    else if x.min < 1 ∨ x.max < x.min ∨ 2147483648 < x.max then 12 else lksErr pts (before ++ [x]) l
def netErr (n : Net) : Int := if 64 < n.pts.length ∨ 128 < n.lks.length then 3 else if ptsErr [] n.pts ≠ 0 then ptsErr [] n.pts else lksErr n.pts [] n.lks

def pt0 : Pt := ⟨[], 0, []⟩
def sys0 : TSys := ⟨[], false, 0⟩
/-- The point of a name. -/
def findPt (n : Net) (s : Bytes) : Option Pt := if netErr n = 0 then n.pts.find? fun p => decide (p.name = s) else none

/-! ### Topologies -/
def findSys (l : List TSys) (s : Bytes) : Option TSys := l.find? fun y => decide (y.name = s)
def fitB (l : List TSys) (p : Pt) : Bool :=
  if p.kind = 2 ∨ p.kind = 3 then (match findSys l p.sys with | some s => s.closed | none => false)
  else if p.kind = 1 then (match findSys l p.sys with | some s => !s.closed | none => false)
  else (findSys l p.sys).isSome || decide (p.sys = [])
def syssErr (before : List TSys) : List TSys → Int
  | [] => 0
  | s :: l => if nameB s.name = false then 6 else if (findSys before s.name).isSome then 9 else if s.most < 0 ∨ 2147483648 < s.most ∨ (s.closed = true ∧ s.most = 0) then 12 else syssErr (before ++ [s]) l
def topoErr (t : Topo) : Int := if netErr t.net ≠ 0 then netErr t.net else if 64 < t.sys.length then 3 else if syssErr [] t.sys ≠ 0 then syssErr [] t.sys else if t.net.pts.all (fitB t.sys) then 0 else 16
def topo0 : Topo := ⟨⟨[], []⟩, []⟩
def validT (t : Topo) : Topo := if topoErr t = 0 then t else topo0
def kindOf (t : Topo) (s : Bytes) : Int := ((findPt (validT t).net s).getD pt0).kind
def sysOf (t : Topo) (s : Bytes) : Option TSys := match findPt (validT t).net s with
  | some p => if p.sys = [] then none else findSys (validT t).sys p.sys
  | none => none
/-! ### Sets of names, of pairs of names, as maps -/
def knownM (l : List Pt) : List (AV × AV) := l.map fun p => (.str p.name, .bool true)
def pairsM (l : List Lk) : List (AV × AV) := l.map fun x => (.agg [.str x.src, .str x.dst], .bool true)
def hasLk (l : List Lk) (a b : Bytes) : Bool := l.any fun y => decide (y.src = a) && decide (y.dst = b)

theorem ceq_str (a b : Bytes) : ceq (acells (.str a)) (acells (.str b)) = decide (b = a) := by
  by_cases h : b = a
  · subst h; simp [acells, ceq, ceq1]
  · have h' : ¬ a = b := fun e => h e.symm
    simp [acells, ceq, ceq1, h, h']
theorem ceq_pair (a b c d : Bytes) : ceq (acells (.agg [.str a, .str b])) (acells (.agg [.str c, .str d])) = (decide (c = a) && decide (d = b)) := by
  have h1 := ceq_str a c
  have h2 := ceq_str b d
  simp only [acells, ceq, ceq1, Bool.and_true] at h1 h2 ⊢
  rw [h1, h2]
theorem find_known (s : Bytes) : ∀ l : List Pt, ((knownM l).find? fun p => ceq (acells (.str s)) (acells p.1)).map (·.2) = if hasPt l s then some (.bool true) else none
  | [] => rfl
  | p :: l => by
    have ih := find_known s l
    rw [knownM, List.map_cons, List.find?_cons, ceq_str, hasPt, List.any_cons]
    by_cases h : p.name = s
    · simp [h]
    · rw [show decide (p.name = s) = false from by simp [h], Bool.false_or]
      exact ih
theorem look_known (l : List Pt) (s : Bytes) : (alook (knownM l) (.str s)).getD (.bool false) = .bool (hasPt l s) := by
  unfold alook
  rw [find_known]
  cases hasPt l s <;> rfl
theorem aidx_known {s : Bytes} : ∀ {l : List Pt}, hasPt l s = false → aidx (knownM l) (.str s) = none
  | [], _ => rfl
  | p :: l, h => by
    rw [hasPt, List.any_cons, Bool.or_eq_false_iff] at h
    have ih := aidx_known (l := l) h.2
    rw [aidx, knownM, List.map_cons, List.findIdx?_cons, ceq_str, h.1]
    rw [aidx, knownM] at ih
    rw [ih]; simp
theorem aset_known {l : List Pt} {p : Pt} (h : hasPt l p.name = false) : aset (knownM l) (.str p.name) (.bool true) = knownM (l ++ [p]) := by
  rw [aset, aidx_known h]
  simp [knownM]
theorem find_pairs (a b : Bytes) : ∀ l : List Lk, ((pairsM l).find? fun p => ceq (acells (.agg [.str a, .str b])) (acells p.1)).map (·.2) = if hasLk l a b then some (.bool true) else none
  | [] => rfl
  | x :: l => by
    have ih := find_pairs a b l
    rw [pairsM, List.map_cons, List.find?_cons, ceq_pair, hasLk, List.any_cons]
    cases h : decide (x.src = a) && decide (x.dst = b) with
    | true => simp
    | false => rw [Bool.false_or]; exact ih
theorem look_pairs (l : List Lk) (a b : Bytes) : (alook (pairsM l) (.agg [.str a, .str b])).getD (.bool false) = .bool (hasLk l a b) := by
  unfold alook
  rw [find_pairs]
  cases hasLk l a b <;> rfl
theorem aidx_pairs {a b : Bytes} : ∀ {l : List Lk}, hasLk l a b = false → aidx (pairsM l) (.agg [.str a, .str b]) = none
  | [], _ => rfl
  | x :: l, h => by
    rw [hasLk, List.any_cons, Bool.or_eq_false_iff] at h
    have ih := aidx_pairs (l := l) h.2
    rw [aidx, pairsM, List.map_cons, List.findIdx?_cons, ceq_pair, h.1]
    rw [aidx, pairsM] at ih
    rw [ih]; simp
theorem aset_pairs {l : List Lk} {x : Lk} (h : hasLk l x.src x.dst = false) : aset (pairsM l) (.agg [.str x.src, .str x.dst]) (.bool true) = pairsM (l ++ [x]) := by
  rw [aset, aidx_pairs h]
  simp [pairsM]
/-! ### The first of a kind -/
theorem idxFrom_spec {α : Type} (p : α → Bool) : ∀ (l : List α) (i : Nat), (idxFrom p i l = -1 ∧ l.find? p = none) ∨ ∃ (k : Nat) (x : α), idxFrom p i l = ((i + k : Nat) : Int) ∧ l[k]? = some x ∧ l.find? p = some x
  | [], i => .inl ⟨rfl, rfl⟩
  | x :: l, i => by
    rw [idxFrom, List.find?_cons]
    cases hx : p x with
    | true => exact .inr ⟨0, x, by simp, rfl, rfl⟩
    | false =>
      rcases idxFrom_spec p l (i + 1) with ⟨h1, h2⟩ | ⟨k, y, h1, h2, h3⟩
      · exact .inl ⟨by simpa using h1, h2⟩
      · exact .inr ⟨k + 1, y, by show idxFrom p (i + 1) l = _; rw [h1]; omega, h2, h3⟩
theorem idxI_spec {α : Type} (p : α → Bool) (l : List α) : (idxI p l = -1 ∧ l.find? p = none) ∨ ∃ (k : Nat) (x : α), idxI p l = (k : Int) ∧ l[k]? = some x ∧ l.find? p = some x := by
  have := idxFrom_spec p l 0
  simpa [idxI] using this
theorem idxFrom_map {α β : Type} (f : α → β) (p : β → Bool) (q : α → Bool) (h : ∀ x, p (f x) = q x) : ∀ (l : List α) (i : Nat), idxFrom p i (l.map f) = idxFrom q i l
  | [], _ => rfl
  | x :: l, i => by rw [List.map_cons, idxFrom, idxFrom, h, idxFrom_map f p q h l (i + 1)]
theorem idxI_map {α β : Type} (f : α → β) (p : β → Bool) (q : α → Bool) (h : ∀ x, p (f x) = q x) (l : List α) : idxI p (l.map f) = idxI q l := idxFrom_map f p q h l 0
theorem idxI_lt {α : Type} (p : α → Bool) (l : List α) : idxI p l < 0 ↔ l.any p = false := by
  rw [← idxI_nonneg]; simp
theorem idxPt_nonneg (l : List Pt) (s : Bytes) : decide (0 ≤ idxI (fun q : Pt => decide (q.name = s)) l) = hasPt l s := idxI_nonneg _ _
theorem idxPt_lt (l : List Pt) (s : Bytes) : decide (idxI (fun q : Pt => decide (q.name = s)) l < 0) = !hasPt l s := by
  rw [← idxPt_nonneg, ← decide_not]
  congr 1
  simp
def validN (n : Net) : Net := if netErr n = 0 then n else ⟨[], []⟩
theorem netErr_len {n : Net} (h : netErr n = 0) : n.pts.length ≤ 64 ∧ n.lks.length ≤ 128 := by
  unfold netErr at h
  split at h
  · cases h
  · omega
theorem validN_len (n : Net) : (validN n).pts.length ≤ 64 ∧ (validN n).lks.length ≤ 128 := by
  unfold validN
  split
  · rename_i h; exact netErr_len h
  · simp
theorem findPt_eq (n : Net) (s : Bytes) : findPt n s = (validN n).pts.find? fun p => decide (p.name = s) := by
  unfold findPt validN
  split <;> rfl
theorem hasPt_take_len (l : List Pt) (s : Bytes) (k : Nat) (h : l.length ≤ k) : hasPt (l.take k) s = hasPt l s := by rw [List.take_of_length_le h]
theorem ptsErr_kinds : ∀ {l before : List Pt}, ptsErr before l = 0 → ∀ p ∈ l, nameB p.name = true ∧ 1 ≤ p.kind ∧ p.kind ≤ 4
  | [], _, _ => by simp
  | p :: l, before, h => by
    rw [ptsErr] at h
    split at h
    · cases h
    rename_i h1
    split at h
    · cases h
    split at h
    · cases h
    rename_i h3
    split at h
    · cases h
    intro q hq
    rcases List.mem_cons.1 hq with rfl | hq
    · exact ⟨by simpa using h1, by omega, by omega⟩
    · exact ptsErr_kinds h q hq
theorem netErr_kinds {n : Net} (h : netErr n = 0) : ∀ p ∈ n.pts, nameB p.name = true ∧ 1 ≤ p.kind ∧ p.kind ≤ 4 := by
  unfold netErr at h
  split at h
  · cases h
  split at h
  · rename_i h2; exact absurd h h2
  · rename_i h2
    exact ptsErr_kinds (by simpa using h2)
theorem topoErr_net {t : Topo} (h : topoErr t = 0) : netErr t.net = 0 ∧ t.sys.length ≤ 64 ∧ syssErr [] t.sys = 0 ∧ t.net.pts.all (fitB t.sys) = true := by
  unfold topoErr at h
  split at h
  · rename_i h2; exact absurd h h2
  rename_i h1
  split at h
  · cases h
  rename_i h2
  split at h
  · rename_i h3; exact absurd h h3
  rename_i h3
  split at h
  · rename_i h4; exact ⟨by simpa using h1, by omega, by simpa using h3, h4⟩
  · cases h
theorem validT_net (t : Topo) : netErr (validT t).net = 0 := by
  unfold validT
  split
  · rename_i h; exact (topoErr_net h).1
  · rfl
theorem validT_len (t : Topo) : (validT t).net.pts.length ≤ 64 ∧ (validT t).net.lks.length ≤ 128 ∧ (validT t).sys.length ≤ 64 := by
  have := netErr_len (validT_net t)
  refine ⟨this.1, this.2, ?_⟩
  unfold validT
  split
  · rename_i h; exact (topoErr_net h).2.1
  · simp [topo0]
/-- The point of a valid topology's system is there. -/
theorem sys_there {t : Topo} {s : Bytes} {p : Pt} (hp : findPt (validT t).net s = some p) (hs : p.sys ≠ []) : ∃ y, findSys (validT t).sys p.sys = some y := by
  unfold findPt at hp
  split at hp
  · have hm := List.mem_of_find?_eq_some hp
    unfold validT at hm ⊢
    split at hm
    · rename_i h
      obtain ⟨_, _, _, h4⟩ := topoErr_net h
      rw [if_pos h]
      have := List.all_eq_true.1 h4 p hm
      unfold fitB at this
      cases hf : findSys t.sys p.sys with
      | some y => exact ⟨y, rfl⟩
      | none => rw [hf] at this; simp [hs] at this
    · simp [topo0] at hm
  · cases hp

/-! ### Shapes of networks and topologies -/
def shPt : Sh := sh3 .str shI .str
def shLk : Sh := sh4 .str .str shI shI
def shSys : Sh := sh3 .str .bool shI
def shNet : Sh := sh2 (.sl shPt) (.sl shLk)
def shTopo : Sh := sh2 shNet (.sl shSys)
theorem ok_B {es : List AV} (h : Sh.bool.ok es) : ∃ b, es = [.bool b] := h
theorem ok_Pt {es : List AV} (h : shPt.ok es) : ∃ x : Pt, es = encPt x ∧ True := by
  obtain ⟨_, _, _, rfl, h1, h2, h3⟩ := ok_sh3 h
  obtain ⟨a, rfl, ha⟩ := ok_S h1
  obtain ⟨b, rfl, hb⟩ := ok_I h2
  obtain ⟨c, rfl, hc⟩ := ok_S h3
  exact ⟨⟨a, b, c⟩, rfl, trivial⟩
theorem ok_Lk {es : List AV} (h : shLk.ok es) : ∃ x : Lk, es = encLk x ∧ True := by
  obtain ⟨_, _, _, _, rfl, h1, h2, h3, h4⟩ := ok_sh4 h
  obtain ⟨a, rfl, ha⟩ := ok_S h1
  obtain ⟨b, rfl, hb⟩ := ok_S h2
  obtain ⟨c, rfl, hc⟩ := ok_I h3
  obtain ⟨d, rfl, hd⟩ := ok_I h4
  exact ⟨⟨a, b, c, d⟩, rfl, trivial⟩
theorem ok_Sys {es : List AV} (h : shSys.ok es) : ∃ x : TSys, es = encSys x ∧ True := by
  obtain ⟨_, _, _, rfl, h1, h2, h3⟩ := ok_sh3 h
  obtain ⟨a, rfl, ha⟩ := ok_S h1
  obtain ⟨b, rfl⟩ := ok_B h2
  obtain ⟨c, rfl, hc⟩ := ok_I h3
  exact ⟨⟨a, b, c⟩, rfl, trivial⟩
theorem ok_Net {es : List AV} (h : shNet.ok es) : ∃ x : Net, es = encNet x ∧ True := by
  obtain ⟨_, _, rfl, h1, h2⟩ := ok_sh2 h
  obtain ⟨a, rfl, ha⟩ := ok_L h1 fun _ => ok_Pt
  obtain ⟨b, rfl, hb⟩ := ok_L h2 fun _ => ok_Lk
  exact ⟨⟨a, b⟩, rfl, trivial⟩
theorem ok_Topo {es : List AV} (h : shTopo.ok es) : ∃ x : Topo, es = encTopo x ∧ True := by
  obtain ⟨_, _, rfl, h1, h2⟩ := ok_sh2 h
  obtain ⟨a, rfl, ha⟩ := ok_Net h1
  obtain ⟨b, rfl, hb⟩ := ok_L h2 fun _ => ok_Sys
  exact ⟨⟨a, b⟩, rfl, trivial⟩
theorem arg_Topo {x : AV} (h : okArg shTopo x) : ∃ t : Topo, x = .agg (encTopo t) := by
  obtain ⟨t, h, _⟩ := arg_T (f := .cons shNet (.cons (.sl shSys) .none)) h fun _ => ok_Topo
  exact ⟨t, h⟩
theorem arg_Net {x : AV} (h : okArg shNet x) : ∃ t : Net, x = .agg (encNet t) := by
  obtain ⟨t, h, _⟩ := arg_T (f := .cons (.sl shPt) (.cons (.sl shLk) .none)) h fun _ => ok_Net
  exact ⟨t, h⟩
end Go.Toll
