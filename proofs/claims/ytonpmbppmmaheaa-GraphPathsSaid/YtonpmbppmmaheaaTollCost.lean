/-
  What the best paths to a point cost: values that are improved until none can be improved; the path that follows them.
-/
import Derived.Test.YtonpmbppmmaheaaTollRoad
import Derived.Test.YtonpmbppmmaheaaTollBest
set_option linter.unusedVariables false
set_option linter.unusedSimpArgs false
namespace Go.Toll
open Go Go.Abs

structure TC where
  time : Int
  pts : Int
  deriving DecidableEq
def tc0 : TC := ⟨0, -1⟩
def encC (c : TC) : List AV := [.int .i64 c.time, .int .i64 c.pts]
@[simp] theorem encC_eq (c : TC) : encC c = [.int .i64 c.time, .int .i64 c.pts] := rfl
def cless (c d : TC) : Bool := decide (c.time < d.time) || (decide (c.time = d.time) && decide (c.pts < d.pts))
def tcA (v : Net) (L : List TC) (s : Bytes) : TC := L.getD (posN v s) tc0
def cAdd (c : TC) (x : Lk) : TC := ⟨c.time + x.min, c.pts + 1⟩
def setCnt (L : List TC) : Nat := L.countP fun c => decide (0 ≤ c.pts)
def wC (c : TC) : Nat := if c.pts < 0 then 137438953472 * 274877906944 + 274877906944 else c.time.toNat * 274877906944 + c.pts.toNat
def muC (L : List TC) : Nat := (L.map wC).sum

structure CostOk (v : Net) (b : Bytes) (L : List TC) : Prop where
  len : L.length = (ptsN v).length
  root : tcA v L b = ⟨0, 0⟩
  walk : ∀ s, hasPt v.pts s = true → 0 ≤ (tcA v L s).pts → ∃ l t, wk v s l = some t ∧ t.1 = (tcA v L s).time ∧ (l.length : Int) = (tcA v L s).pts ∧ endOf s l = b
  bnd : ∀ s, hasPt v.pts s = true → 0 ≤ (tcA v L s).pts → (tcA v L s).time ≤ 2147483648 * (setCnt L : Int)
/-- A link can't improve. -/
def cFix (v : Net) (L : List TC) (x : Lk) : Prop := (tcA v L x.dst).pts < 0 ∨ (0 ≤ (tcA v L x.src).pts ∧ cless (cAdd (tcA v L x.dst) x) (tcA v L x.src) = false)

section
variable {v : Net} {b : Bytes} {L : List TC}
theorem tcA_get {s : Bytes} (hl : L.length = (ptsN v).length) (hs : hasPt v.pts s = true) : L[posN v s]? = some (tcA v L s) := by
  have h : posN v s < L.length := by rw [hl]; exact posN_lt hs
  rw [tcA, List.getD_eq_getElem?_getD, List.getElem?_eq_getElem h]; rfl
theorem tcA_set (ok : NetOk v) {s t : Bytes} (hl : L.length = (ptsN v).length) (hs : hasPt v.pts s = true) (ht : hasPt v.pts t = true) (c : TC) : tcA v (L.set (posN v s) c) t = if t = s then c else tcA v L t := by
  rw [tcA, tcA, List.getD_eq_getElem?_getD, List.getD_eq_getElem?_getD]
  by_cases e : t = s
  · subst e
    rw [List.getElem?_set_self (by rw [hl]; exact posN_lt ht), if_pos rfl]; rfl
  · rw [List.getElem?_set_ne (fun h => e (posN_inj ok hs ht h).symm), if_neg e]
theorem countP_set {c d : TC} : ∀ {L : List TC} {i : Nat}, L[i]? = some d → 0 ≤ c.pts → setCnt (L.set i c) = setCnt L + if d.pts < 0 then 1 else 0
  | [], i, h, _ => by simp at h
  | e :: L, 0, h, hc => by
    simp at h; subst h
    simp only [setCnt, List.set_cons_zero, List.countP_cons]
    by_cases h : e.pts < 0
    · have : ¬ 0 ≤ e.pts := by omega
      simp [hc, h, this]
    · have : 0 ≤ e.pts := by omega
      simp [hc, h, this]
  | e :: L, i + 1, h, hc => by
    have := countP_set (L := L) (i := i) (d := d) (c := c) (by simpa using h) hc
    simp only [setCnt, List.set_cons_succ, List.countP_cons] at this ⊢
    omega
theorem setCnt_le (L : List TC) : setCnt L ≤ L.length := List.countP_le_length
theorem muC_set {c d : TC} : ∀ {L : List TC} {i : Nat}, L[i]? = some d → wC c < wC d → muC (L.set i c) < muC L
  | [], i, h, _ => by simp at h
  | e :: L, 0, h, hc => by
    simp at h; subst h
    simp only [muC, List.set_cons_zero, List.map_cons, List.sum_cons]
    omega
  | e :: L, i + 1, h, hc => by
    have := muC_set (L := L) (i := i) (by simpa using h) hc
    simp only [muC, List.set_cons_succ, List.map_cons, List.sum_cons] at this ⊢
    omega
theorem CostOk.rng (ok : NetOk v) (c : CostOk v b L) {s : Bytes} (hs : hasPt v.pts s = true) (h : 0 ≤ (tcA v L s).pts) : (tcA v L s).pts ≤ (tcA v L s).time ∧ (tcA v L s).time ≤ 137438953472 := by
  obtain ⟨l, t, h1, h2, h3, _⟩ := c.walk s hs h
  have h4 := wk_rng ok h1
  have h5 := c.bnd s hs h
  have h6 := setCnt_le L
  have h7 := c.len
  have h8 := ptsN_len v
  have h9 := ok.plen
  omega
/-- The start. -/
theorem CostOk.start (ok : NetOk v) (hb : hasPt v.pts b = true) : CostOk v b ((List.replicate (ptsN v).length tc0).set (posN v b) ⟨0, 0⟩) := by
  have hl : (List.replicate (ptsN v).length tc0).length = (ptsN v).length := by simp
  have h0 : ∀ t, tcA v (List.replicate (ptsN v).length tc0) t = tc0 := fun t => by
    rw [tcA, List.getD_eq_getElem?_getD, List.getElem?_replicate]
    split <;> rfl
  have hr : tcA v ((List.replicate (ptsN v).length tc0).set (posN v b) ⟨0, 0⟩) b = ⟨0, 0⟩ := by rw [tcA_set ok hl hb hb, if_pos rfl]
  refine ⟨by simp, hr, fun s hs h => ?_, fun s hs h => ?_⟩
  · rw [tcA_set ok hl hb hs, h0] at h ⊢
    split at h
    · rename_i e
      rw [if_pos e]
      exact ⟨[], (0, 0), rfl, rfl, rfl, e⟩
    · simp [tc0] at h
  · rw [tcA_set ok hl hb hs, h0] at h ⊢
    split at h
    · rename_i e
      rw [if_pos e]
      show (0 : Int) ≤ _
      omega
    · simp [tc0] at h
theorem cless_true {c d : TC} (h : cless c d = true) : c.time < d.time ∨ (c.time = d.time ∧ c.pts < d.pts) := by simpa [cless] using h
theorem cless_false {c d : TC} (h : cless c d = false) : d.time < c.time ∨ (c.time = d.time ∧ d.pts ≤ c.pts) := by
  simp [cless] at h
  obtain ⟨h1, h2⟩ := h
  by_cases e : c.time = d.time
  · exact .inr ⟨e, h2 e⟩
  · exact .inl (by omega)
theorem CostOk.step (ok : NetOk v) (c : CostOk v b L) {x : Lk} (hx : x ∈ v.lks) (hd : 0 ≤ (tcA v L x.dst).pts) (hb : hasPt v.pts b = true) (hi : (tcA v L x.src).pts < 0 ∨ cless (cAdd (tcA v L x.dst) x) (tcA v L x.src) = true) :
    CostOk v b (L.set (posN v x.src) (cAdd (tcA v L x.dst) x)) ∧ muC (L.set (posN v x.src) (cAdd (tcA v L x.dst) x)) < muC L := by
  obtain ⟨p1, p2, p3⟩ := ok.ends x hx
  obtain ⟨r1, r2, r3⟩ := ok.rng x hx
  obtain ⟨q1, q2⟩ := c.rng ok p2 hd
  have hbd := c.bnd x.dst p2 hd
  have hg := tcA_get c.len p1
  have hc := countP_set (c := cAdd (tcA v L x.dst) x) hg (by simp only [cAdd]; omega)
  have hmono : setCnt L ≤ setCnt (L.set (posN v x.src) (cAdd (tcA v L x.dst) x)) := by rw [hc]; omega
  have hcl : setCnt (L.set (posN v x.src) (cAdd (tcA v L x.dst) x)) ≤ 64 := by
    have := setCnt_le (L.set (posN v x.src) (cAdd (tcA v L x.dst) x))
    rw [List.length_set, c.len, ptsN_len] at this
    have := ok.plen
    omega
  have hnew : (tcA v L x.dst).time + x.min ≤ 2147483648 * (setCnt (L.set (posN v x.src) (cAdd (tcA v L x.dst) x)) : Int) := by
    rcases hi with hi | hi
    · rw [hc, if_pos hi]; push_cast; omega
    · by_cases hu : (tcA v L x.src).pts < 0
      · rw [hc, if_pos hu]; push_cast; omega
      · have h1 := cless_true hi
        have h2 := c.bnd x.src p1 (by omega)
        simp only [cAdd] at h1
        omega
  refine ⟨⟨by rw [List.length_set]; exact c.len, ?_, fun s hs h => ?_, fun s hs h => ?_⟩, muC_set hg ?_⟩
  · rw [tcA_set ok c.len p1 hb]
    split
    · rename_i e
      exfalso
      rw [← e, c.root] at hi
      rcases hi with hi | hi
      · simp at hi
      · have := cless_true hi
        simp only [cAdd] at this
        omega
    · exact c.root
  · rw [tcA_set ok c.len p1 hs] at h ⊢
    split at h
    · rename_i e
      subst e
      rw [if_pos rfl]
      obtain ⟨l, t, w1, w2, w3, w4⟩ := c.walk x.dst p2 hd
      exact ⟨x.dst :: l, _, wk_cons.2 ⟨x, t, ok.lkOf hx, w1, rfl⟩, by simp only [cAdd]; omega, by simp only [cAdd, List.length_cons]; push_cast; omega, w4⟩
    · rename_i e
      rw [if_neg e]
      exact c.walk s hs h
  · rw [tcA_set ok c.len p1 hs] at h ⊢
    split at h
    · rename_i e
      rw [if_pos e]
      exact hnew
    · rename_i e
      rw [if_neg e]
      have := c.bnd s hs h
      omega
  · have hw : wC (cAdd (tcA v L x.dst) x) = ((tcA v L x.dst).time + x.min).toNat * 274877906944 + ((tcA v L x.dst).pts + 1).toNat := by
      rw [wC, if_neg (by simp only [cAdd]; omega)]; rfl
    by_cases hu : (tcA v L x.src).pts < 0
    · rw [hw, wC, if_pos hu]
      omega
    · have hi : cless (cAdd (tcA v L x.dst) x) (tcA v L x.src) = true := by
        rcases hi with hi | hi
        · exact absurd hi hu
        · exact hi
      obtain ⟨s1, s2⟩ := c.rng ok p1 (by omega)
      rw [hw, wC, if_neg hu]
      have h1 := cless_true hi
      simp only [cAdd] at h1
      rcases h1 with h1 | ⟨h1, h2⟩
      · have : ((tcA v L x.dst).time + x.min).toNat + 1 ≤ (tcA v L x.src).time.toNat := by omega
        omega
      · rw [h1]; omega

/-- The costs of the best paths to b. -/
structure Cst (v : Net) (b : Bytes) (L : List TC) : Prop where
  ok : CostOk v b L
  opt : ∀ l s t, hasPt v.pts s = true → wk v s l = some t → endOf s l = b → 0 ≤ (tcA v L s).pts ∧ ((tcA v L s).time < t.1 ∨ ((tcA v L s).time = t.1 ∧ (tcA v L s).pts ≤ l.length))
theorem CostOk.opt (ok : NetOk v) (c : CostOk v b L) (hf : ∀ x ∈ v.lks, cFix v L x) : Cst v b L := by
  refine ⟨c, fun l => ?_⟩
  induction l with
  | nil =>
    intro s t hs h he
    obtain rfl := Option.some.inj h
    have : s = b := he
    subst this
    rw [c.root]
    simp
  | cons d l ih =>
    intro s t hs h he
    obtain ⟨x, u, h1, h2, rfl⟩ := wk_cons.1 h
    obtain ⟨m, rfl, rfl⟩ := lkOf_some h1
    obtain ⟨i1, i2⟩ := ih x.dst u (ok.ends x m).2.1 h2 he
    rcases hf x m with hc | ⟨hc1, hc2⟩
    · omega
    · refine ⟨hc1, ?_⟩
      have := cless_false hc2
      simp only [cAdd] at this
      simp only [List.length_cons]
      push_cast
      omega
/-- A sweep over all links: before point i, and before the k-th link of it. -/
structure Swp1 (v : Net) (L0 : List TC) (ch : Bool) (L : List TC) (i : Nat) : Prop where
  still : ch = false → muC L = muC L0 ∧ ∀ x ∈ v.lks, posN v x.src < i → cFix v L x
  less : ch = true → muC L < muC L0
structure Swp2 (v : Net) (L0 : List TC) (ch : Bool) (L : List TC) (s : Bytes) (k : Nat) : Prop where
  still : ch = false → muC L = muC L0 ∧ (∀ x ∈ v.lks, posN v x.src < posN v s → cFix v L x) ∧ ∀ j y, j < k → (lksOf v s)[j]? = some y → cFix v L y
  less : ch = true → muC L < muC L0
theorem Swp1.start (v : Net) (L : List TC) : Swp1 v L false L 0 := ⟨fun _ => ⟨rfl, fun x _ h => by omega⟩, by simp⟩
theorem Swp1.open {v : Net} {L0 L : List TC} {ch : Bool} {s : Bytes} (w : Swp1 v L0 ch L (posN v s)) : Swp2 v L0 ch L s 0 := ⟨fun c => ⟨(w.still c).1, (w.still c).2, fun j y hj => by omega⟩, w.less⟩
theorem Swp2.close {v : Net} (ok : NetOk v) {L0 L : List TC} {ch : Bool} {s : Bytes} {k : Nat} (hs : hasPt v.pts s = true) (w : Swp2 v L0 ch L s k) (hk : (lksOf v s).length ≤ k) : Swp1 v L0 ch L (posN v s + 1) := by
  refine ⟨fun c => ⟨(w.still c).1, fun x hx hxi => ?_⟩, w.less⟩
  rcases Nat.lt_or_ge (posN v x.src) (posN v s) with h1 | h1
  · exact (w.still c).2.1 x hx h1
  · have : x.src = s := posN_inj ok (ok.ends x hx).1 hs (by omega)
    obtain ⟨j, hj⟩ := List.getElem?_of_mem ((lksOf_mem v s x).2 ⟨hx, this⟩)
    exact (w.still c).2.2 j x (by have := lt_of_get hj; omega) hj
theorem Swp2.keep {v : Net} {L0 L : List TC} {ch : Bool} {s : Bytes} {k : Nat} {x : Lk} (w : Swp2 v L0 ch L s k) (hx : (lksOf v s)[k]? = some x) (hf : cFix v L x) : Swp2 v L0 ch L s (k + 1) := by
  refine ⟨fun c => ⟨(w.still c).1, (w.still c).2.1, fun j y hj hy => ?_⟩, w.less⟩
  rcases Nat.lt_or_ge j k with h1 | h1
  · exact (w.still c).2.2 j y h1 hy
  · obtain rfl : j = k := by omega
    rw [hx] at hy
    obtain rfl := Option.some.inj hy
    exact hf
theorem Swp2.turn {v : Net} {L0 L L' : List TC} {ch : Bool} {s : Bytes} {k k' : Nat} (w : Swp2 v L0 ch L s k) (h : muC L' < muC L) : Swp2 v L0 true L' s k' := by
  refine ⟨by simp, fun _ => ?_⟩
  cases ch with
  | false => rw [← (w.still rfl).1]; exact h
  | true => exact Nat.lt_trans h (w.less rfl)
theorem Swp1.down {v : Net} {L0 L : List TC} {ch : Bool} {i : Nat} (w : Swp1 v L0 ch L i) : 2 * muC L + ch.toNat < 2 * muC L0 + 1 := by
  cases ch with
  | false => have := (w.still rfl).1; simp; omega
  | true => have := w.less rfl; simp; omega
/-- The head of the sweeps. -/
structure Swp0 (v : Net) (ch : Bool) (L : List TC) (M : Nat) : Prop where
  fix : ch = false → ∀ x ∈ v.lks, cFix v L x
  mu : M = 2 * muC L + ch.toNat
def initL (n i : Nat) : List TC := List.replicate i tc0 ++ List.replicate (n - i) ⟨0, 0⟩
theorem initL_zero (n : Nat) : initL n 0 = List.replicate n ⟨0, 0⟩ := by simp [initL]
theorem initL_all (n : Nat) : initL n n = List.replicate n tc0 := by simp [initL]
theorem initL_len {n i : Nat} (h : i ≤ n) : (initL n i).length = n := by simp [initL]; omega
theorem initL_get {n i : Nat} (h : i < n) : (initL n i)[i]? = some ⟨0, 0⟩ := by
  rw [initL, List.getElem?_append_right (by simp), List.length_replicate, Nat.sub_self, show n - i = (n - (i + 1)) + 1 by omega, List.replicate_succ]; rfl
theorem initL_set {n i : Nat} (h : i < n) : (initL n i).set i tc0 = initL n (i + 1) := by
  rw [initL, initL, List.set_append_right _ _ (by simp), List.length_replicate, Nat.sub_self, show n - i = (n - (i + 1)) + 1 by omega, List.replicate_succ, List.set_cons_zero, show List.replicate (i + 1) tc0 = List.replicate i tc0 ++ [tc0] from List.replicate_succ', List.append_assoc]
  rfl
/-- A road that the best path may take. -/
def onWay (v : Net) (L : List TC) (x : Lk) : Prop := 0 ≤ (tcA v L x.dst).pts ∧ cAdd (tcA v L x.dst) x = tcA v L x.src
theorem Cst.tight (ok : NetOk v) (c : Cst v b L) {x : Lk} (hx : x ∈ v.lks) {l : List Bytes} {t : Int × Int} (h : wk v x.dst l = some t) (he : endOf x.dst l = b) (h1 : x.min + t.1 = (tcA v L x.src).time) (h2 : (l.length : Int) + 1 = (tcA v L x.src).pts) : onWay v L x := by
  obtain ⟨p1, p2, p3⟩ := ok.ends x hx
  obtain ⟨o1, o2⟩ := c.opt l x.dst t p2 h he
  obtain ⟨l', t', w1, w2, w3, w4⟩ := c.ok.walk x.dst p2 o1
  obtain ⟨o3, o4⟩ := c.opt (x.dst :: l') x.src _ p1 (wk_cons.2 ⟨x, t', ok.lkOf hx, w1, rfl⟩) w4
  simp only [List.length_cons] at o4
  push_cast at o4
  refine ⟨o1, ?_⟩
  have e1 : (cAdd (tcA v L x.dst) x).time = (tcA v L x.src).time := by simp only [cAdd]; omega
  have e2 : (cAdd (tcA v L x.dst) x).pts = (tcA v L x.src).pts := by simp only [cAdd]; omega
  cases h5 : cAdd (tcA v L x.dst) x with
  | mk p q => cases h6 : tcA v L x.src with
    | mk p' q' => rw [h5, h6] at e1 e2; simp only at e1 e2; rw [e1, e2]

/-- The path as far as it is found. -/
structure TWay (v : Net) (a b : Bytes) (L : List TC) (x : List Bytes) (u : Bytes) : Prop where
  ends : endOf a x = u
  pt : hasPt v.pts u = true
  set : 0 ≤ (tcA v L u).pts
  walk : ∃ t, wk v a x = some t ∧ t.1 + (tcA v L u).time = (tcA v L a).time
  len : (x.length : Int) + (tcA v L u).pts = (tcA v L a).pts
  first : ∀ l s, wk v a l = some s → endOf a l = b → s.1 = (tcA v L a).time → (l.length : Int) = (tcA v L a).pts → pcmp x (l.take x.length) ≤ 0
theorem TWay.start {a : Bytes} (ha : hasPt v.pts a = true) (h : 0 ≤ (tcA v L a).pts) : TWay v a b L [] a :=
  ⟨rfl, ha, h, ⟨(0, 0), rfl, by simp⟩, by simp, fun l s _ _ _ _ => by simp [pcmp]⟩
theorem TWay.exists (ok : NetOk v) (c : Cst v b L) {a u : Bytes} {x : List Bytes} (w : TWay v a b L x u) (hne : u ≠ b) : ∃ y ∈ v.lks, y.src = u ∧ onWay v L y := by
  obtain ⟨l, t, w1, w2, w3, w4⟩ := c.ok.walk u w.pt w.set
  cases l with
  | nil => exact absurd w4 hne
  | cons d l =>
    obtain ⟨y, t', h1, h2, rfl⟩ := wk_cons.1 w1
    obtain ⟨m, rfl, rfl⟩ := lkOf_some h1
    exact ⟨y, m, rfl, c.tight ok m h2 w4 w2 (by simp only [List.length_cons] at w3; push_cast at w3; exact w3)⟩
theorem TWay.step (ok : NetOk v) (c : Cst v b L) {a u : Bytes} {x : List Bytes} (w : TWay v a b L x u) {k : Nat} {y : Lk} (hk : (lksOf v u)[k]? = some y) (hy : onWay v L y) (hfirst : ∀ j z, j < k → (lksOf v u)[j]? = some z → ¬ onWay v L z) :
    TWay v a b L (x ++ [y.dst]) y.dst ∧ (tcA v L y.dst).pts + 1 = (tcA v L u).pts := by
  obtain ⟨hym, hys⟩ := (lksOf_mem v u y).1 (List.mem_of_getElem? hk)
  obtain ⟨p1, p2, p3⟩ := ok.ends y hym
  obtain ⟨o1, o2⟩ := hy
  rw [hys] at o2
  have e1 : (tcA v L y.dst).time + y.min = (tcA v L u).time := congrArg TC.time o2
  have e2 : (tcA v L y.dst).pts + 1 = (tcA v L u).pts := congrArg TC.pts o2
  obtain ⟨t, t1, t2⟩ := w.walk
  have hlen := w.len
  refine ⟨⟨endOf_snoc _ _ _, p2, o1, ⟨_, wk_app.2 ⟨t, (y.min + 0, y.max + 0), t1, ?_, rfl⟩, ?_⟩, ?_, ?_⟩, e2⟩
  · rw [w.ends, ← hys]
    exact wk_cons.2 ⟨y, (0, 0), ok.lkOf hym, rfl, rfl⟩
  · show t.1 + (y.min + 0) + _ = _; omega
  · simp; omega
  · intro l s h he hs hl
    have hf := w.first l s h he hs hl
    have hll : x.length < l.length := by
      have := c.ok.rng ok p2 o1
      omega
    obtain ⟨e, hle, _⟩ : ∃ e, l[x.length]? = some e ∧ True := ⟨_, List.getElem?_eq_getElem hll, trivial⟩
    rw [List.length_append, List.length_singleton, List.take_add_one, hle, Option.toList_some, pcmp_app _ _ (by simp; omega)]
    split
    · rename_i hz
      have hxe : x = l.take x.length := pcmp_zero.1 hz
      rw [pcmp_one, cmpS_le]
      have hsplit : l = x ++ e :: l.drop (x.length + 1) := by
        conv => lhs; rw [← List.take_append_drop x.length l, ← hxe]
        rw [List.drop_eq_getElem_cons hll, (List.getElem?_eq_some_iff.1 hle).2]
      rw [hsplit] at h he
      obtain ⟨t', w1, h1, h2, rfl⟩ := wk_app.1 h
      rw [t1] at h1
      obtain rfl := Option.some.inj h1
      rw [w.ends] at h2
      rw [endOf_app, w.ends] at he
      obtain ⟨z, w2, z1, z2, rfl⟩ := wk_cons.1 h2
      obtain ⟨zm, zs, zd⟩ := lkOf_some z1
      subst zd
      have hon : onWay v L z := by
        refine c.tight ok zm z2 he ?_ ?_
        · rw [zs]; simp only at hs; omega
        · rw [zs]; simp; omega
      have hzm : z ∈ lksOf v u := (lksOf_mem v u z).2 ⟨zm, zs⟩
      obtain ⟨j, hj⟩ := List.getElem?_of_mem hzm
      rcases Nat.lt_trichotomy j k with hjk | hjk | hjk
      · exact absurd hon (hfirst j z hjk hj)
      · subst hjk
        rw [hk] at hj
        rw [Option.some.inj hj]
        exact List.le_refl _
      · obtain ⟨b1, c1⟩ := List.getElem?_eq_some_iff.1 hk
        obtain ⟨b2, c2⟩ := List.getElem?_eq_some_iff.1 hj
        have := List.pairwise_iff_getElem.1 (lksOf_asc v u) k j b1 b2 hjk
        rw [c1, c2] at this
        exact of_decide_eq_true this
    · exact hf
theorem TWay.best (ok : NetOk v) (c : Cst v b L) {a : Bytes} {x : List Bytes} (ha : hasPt v.pts a = true) (w : TWay v a b L x b) : IsBest v a b x (tcA v L a).time := by
  obtain ⟨t, t1, t2⟩ := w.walk
  have hl := w.len
  rw [c.ok.root] at t2 hl
  refine ⟨⟨t, t1, by simpa using t2⟩, w.ends, fun l s h he => ?_⟩
  obtain ⟨o1, o2⟩ := c.opt l a s ha h he
  rcases o2 with o2 | ⟨o2, o3⟩
  · exact .inl o2
  · refine .inr ⟨o2, ?_⟩
    simp only [List.length_cons]
    by_cases e : (l.length : Int) = (tcA v L a).pts
    · right
      have hxl : x.length = l.length := by simp at hl; omega
      have := w.first l s h he o2.symm e
      rw [hxl, List.take_length] at this
      exact ⟨by omega, by rw [pcmp_cons]; exact this⟩
    · left
      simp at hl
      omega
/-- Best paths are short. -/
theorem Cst.short (ok : NetOk v) (c : Cst v b L) {a : Bytes} (ha : hasPt v.pts a = true) (h : 0 ≤ (tcA v L a).pts) : (tcA v L a).pts ≤ 63 := by
  obtain ⟨l, t, w1, w2, w3, w4⟩ := c.ok.walk a ha h
  obtain ⟨l', t', q1, q2, q3, _, q5⟩ := simple_le ok _ a l t (Nat.le_refl _) w1
  have hl := simple_len ok q1 ha q3
  have hp := ok.plen
  rcases q5 with rfl | ⟨q5, _⟩
  · omega
  · obtain ⟨_, o2⟩ := c.opt l' a t' ha q1 (q2.trans w4)
    omega
theorem onWay_iff (x : Lk) : onWay v L x ↔ 0 ≤ (tcA v L x.dst).pts ∧ (tcA v L x.dst).time + x.min = (tcA v L x.src).time ∧ (tcA v L x.dst).pts + 1 = (tcA v L x.src).pts := by
  unfold onWay cAdd
  cases tcA v L x.src with
  | mk p q => simp
end
end Go.Toll
