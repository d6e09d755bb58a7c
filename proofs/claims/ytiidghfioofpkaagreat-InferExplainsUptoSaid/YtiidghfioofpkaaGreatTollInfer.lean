/-
  What is inferred: missed points, times of a path, stops.
  The example of the inference: what its values are.
  What the laws of the inference say without the reference: times rise, stops are whole.
-/
import Derived.Test.YtiidghfioofpkaaGreatTollMove
set_option linter.unusedVariables false
set_option linter.unusedSimpArgs false

section 

namespace Go.Toll
open Go Go.Abs

/-! ### Times of a path -/
/-- A path whose duration is known. -/
theorem bounds_path {v : Net} {p : List Bytes} (h : (boundsM v p).2.2 = 0) : ∃ a l s, p = a :: l ∧ (∀ z ∈ a :: l, hasPt v.pts z = true) ∧ wk v a l = some s ∧ boundsM v p = (s.1, s.2, 0) := by
  cases p with
  | nil => simp [boundsM] at h
  | cons a l =>
    by_cases hall : (a :: l).all (hasPt v.pts) = true
    · have hall2 := List.all_eq_true.1 hall
      rw [boundsM_ok hall2] at h
      cases hw : wk v a l with
      | none => rw [hw] at h; simp at h
      | some s => exact ⟨a, l, s, rfl, hall2, hw, by rw [boundsM_ok hall2, hw]⟩
    · rw [boundsM, if_neg hall] at h
      simp at h
/-- Of the first k points. -/
def lowI (v : Net) (p : List Bytes) (k : Nat) : Nat := (boundsM v (p.take k)).1.toNat
theorem bounds_take {v : Net} (ok : NetOk v) {p : List Bytes} (h : (boundsM v p).2.2 = 0) {k : Nat} (hk : 1 ≤ k) (hkp : k ≤ p.length) :
    (boundsM v (p.take k)).2.2 = 0 ∧ (boundsM v (p.take k)).1 = (lowI v p k : Int) ∧ lowI v p k ≤ lowI v p p.length := by
  obtain ⟨a, l, s, rfl, hall, hw, hb⟩ := bounds_path h
  obtain ⟨j, rfl⟩ : ∃ j, k = j + 1 := ⟨k - 1, by omega⟩
  have hsp : l = l.take j ++ l.drop j := (List.take_append_drop j l).symm
  rw [hsp] at hw
  obtain ⟨t, u, h1, h2, rfl⟩ := wk_app.1 hw
  have r1 := wk_rng ok h1
  have r2 := wk_rng ok h2
  have hall2 : ∀ z ∈ a :: l.take j, hasPt v.pts z = true := fun z hz => hall z (by
    rcases List.mem_cons.1 hz with rfl | hz
    · simp
    · exact List.mem_cons_of_mem _ (List.mem_of_mem_take hz))
  have hb2 : boundsM v ((a :: l).take (j + 1)) = (t.1, t.2, 0) := by rw [List.take_succ_cons, boundsM_ok hall2, h1]
  have hl0 := Int.natCast_nonneg (l.take j).length
  have hl1 := Int.natCast_nonneg (l.drop j).length
  refine ⟨by rw [hb2], ?_, ?_⟩
  · rw [lowI, hb2]; show t.1 = (t.1.toNat : Int); omega
  · rw [lowI, lowI, hb2, List.take_length, hb]
    show t.1.toNat ≤ (t.1 + u.1).toNat
    omega
theorem low_all {v : Net} (ok : NetOk v) {p : List Bytes} (h : (boundsM v p).2.2 = 0) (hp : p.length ≤ 16) : (boundsM v p).1 = (lowI v p p.length : Int) ∧ lowI v p p.length < 68719476736 ∧ (2 ≤ p.length → 1 ≤ lowI v p p.length) ∧ lowI v p 1 = 0 ∧ 1 ≤ p.length := by
  obtain ⟨a, l, s, rfl, hall, hw, hb⟩ := bounds_path h
  obtain ⟨r1, r2, r3⟩ := wk_rng ok hw
  have hl0 := Int.natCast_nonneg l.length
  have hll : (l.length : Int) ≤ 15 := by simp at hp; omega
  have h1 : lowI v (a :: l) 1 = 0 := by
    have : boundsM v ((a :: l).take 1) = (0, 0, 0) := by
      rw [List.take_succ_cons, List.take_zero, boundsM_ok (fun z hz => hall z (by simp at hz; simp [hz])), wk_nil]
    rw [lowI, this]; rfl
  have e : lowI v (a :: l) (a :: l).length = s.1.toNat := by rw [lowI, List.take_length, hb]
  rw [e, hb]
  refine ⟨by show s.1 = (s.1.toNat : Int); omega, by omega, fun h2 => ?_, h1, by simp⟩
  have : (1 : Int) ≤ l.length := by simp at h2; omega
  omega
/-- When the k-th point was passed. -/
def timeAt (v : Net) (p : List Bytes) (s t : Int) (k : Nat) : Int := s + (((t - s).toNat * lowI v p (k + 1) / lowI v p p.length : Nat) : Int)
def timesL (v : Net) (p : List Bytes) (s t : Int) : List Int := (List.range p.length).map (timeAt v p s t)
def timesM (v : Net) (p : List Bytes) (s t : Int) : List Int × Int :=
  if 16 < p.length then ([], 3)
  else if (isTimeB s && isTimeB t && decide (s ≤ t)) = false then ([], 12)
  else if (boundsM v p).2.2 ≠ 0 then ([], (boundsM v p).2.2) else (timesL v p s t, 0)
def encNs (n : Int) : List AV := [.int .i64 n]
@[simp] theorem encNs_len (n : Int) : (encNs n).length = 1 := rfl
def timesI (v : Net) (p : List Bytes) (s t : Int) (k : Nat) : List Int := (List.range k).map (timeAt v p s t)
theorem timesI_succ (v : Net) (p : List Bytes) (s t : Int) (k : Nat) : timesI v p s t (k + 1) = timesI v p s t k ++ [timeAt v p s t k] := by rw [timesI, List.range_succ, List.map_append]; rfl
theorem timesI_len (v : Net) (p : List Bytes) (s t : Int) (k : Nat) : (timesI v p s t k).length = k := by simp [timesI]
theorem timesI_all (v : Net) (p : List Bytes) (s t : Int) : timesI v p s t p.length = timesL v p s t := rfl

/-! ### Missed points -/
def innerL (q : List Bytes) : List Bytes := (q.take (q.length - 1)).drop 1
def missM (v : Net) (a b : Bytes) (s t : Int) : List Bytes × Int :=
  if (routeM v a b s t).2 ≠ 0 then ([], (routeM v a b s t).2)
  else if 1 < (routeM v a b s t).1.length then ([], 11) else (innerL ((routeM v a b s t).1.headD []), 0)
theorem inner_path {a : Bytes} {l : List Bytes} {b : Bytes} (hl : l ≠ []) (he : endOf a l = b) : a :: l = a :: (innerL (a :: l) ++ [b]) := by
  rcases List.eq_nil_or_concat l with rfl | ⟨m, x, rfl⟩
  · exact absurd rfl hl
  · have hx : x = b := by rw [← he]; simp only [List.concat_eq_append]; exact (endOf_snoc a m x).symm
    subst hx
    simp [innerL]
theorem route_two' {v : Net} (a b : Bytes) (s t : Int) : (routeM v a b s t).2 = 0 → (routeM v a b s t).1 ≠ [] := by
  unfold routeM
  split
  · simp
  split
  · simp
  split
  · rename_i h; exact fun e => absurd e h
  split
  · simp
  · rename_i h; exact fun _ => h
/-- What the missed points say. -/
theorem miss_ok {v : Net} (ok : NetOk v) {a b : Bytes} {s t : Int} (h : (missM v a b s t).2 = 0) :
    (boundsM v (a :: ((missM v a b s t).1 ++ [b]))).2.2 = 0 ∧ (a :: ((missM v a b s t).1 ++ [b])).length ≤ 16 ∧ isTimeB s = true ∧ isTimeB t = true ∧ s < t ∧
      timesM v (a :: ((missM v a b s t).1 ++ [b])) s t = (timesL v (a :: ((missM v a b s t).1 ++ [b])) s t, 0) ∧ ∃ q, (routeM v a b s t) = ([q], 0) ∧ q = a :: ((missM v a b s t).1 ++ [b]) := by
  by_cases h1 : (routeM v a b s t).2 = 0
  · by_cases h2 : 1 < (routeM v a b s t).1.length
    · rw [missM, if_neg (by simp [h1]), if_pos h2] at h; cases h
    · have hne := route_two' a b s t h1
      obtain ⟨q, r, hqr⟩ := List.exists_cons_of_ne_nil hne
      have hr : r = [] := by
        rw [hqr] at h2
        cases r with
        | nil => rfl
        | cons x r => simp at h2
      subst hr
      have hq : q ∈ (routeM v a b s t).1 := by rw [hqr]; simp
      obtain ⟨l, w, hp, _, _, hlat, _, _⟩ := route_at ok hq
      obtain ⟨_, hq2⟩ := route_feas ok hq
      have hl : l ≠ [] := by rintro rfl; rw [hp.eq] at hq2; simp at hq2
      have hm : (missM v a b s t).1 = innerL q := by rw [missM, if_neg (by simp [h1]), if_neg h2, hqr]; rfl
      have hpath : a :: ((missM v a b s t).1 ++ [b]) = q := by rw [hm, hp.eq]; exact (inner_path hl hp.ends).symm
      rw [hpath]
      have hb : (boundsM v q).2.2 = 0 := by rw [hp.bnd]
      have hlat' : (isTimeB s = true ∧ isTimeB t = true) ∧ s < t := by
        unfold laterB at hlat
        simpa [Bool.and_eq_true] using hlat
      have hlen := hp.len
      refine ⟨hb, hlen, hlat'.1.1, hlat'.1.2, hlat'.2, ?_, q, ?_, rfl⟩
      · rw [timesM, if_neg (by omega), if_neg (by rw [hlat'.1.1, hlat'.1.2, decide_eq_true (by omega : s ≤ t)]; simp), if_neg (by simp [hb])]
      · have : routeM v a b s t = ((routeM v a b s t).1, (routeM v a b s t).2) := rfl
        rw [this, hqr, h1]
  · rw [missM, if_pos h1] at h; exact absurd h h1

/-! ### Stops -/
structure TStop where
  point : Bytes
  time : Int
  pass : Bytes
deriving DecidableEq
def encStop (x : TStop) : List AV := [.str x.point, .int .i64 x.time, .str x.pass]
@[simp] theorem encStop_len (x : TStop) : (encStop x).length = 3 := rfl
/-- The first k of the inferred stops. -/
def betwI (v : Net) (m : List Bytes) (a b : TPass) (k : Nat) : List TStop := (List.range k).map fun i => ⟨m.getD i [], timeAt v (a.point :: (m ++ [b.point])) a.time b.time (i + 1), []⟩
def betwM (v : Net) (a b : TPass) : List TStop :=
  if (missM v a.point b.point a.time b.time).2 ≠ 0 then [] else betwI v (missM v a.point b.point a.time b.time).1 a b (missM v a.point b.point a.time b.time).1.length
theorem betwI_succ (v : Net) (m : List Bytes) (a b : TPass) (k : Nat) : betwI v m a b (k + 1) = betwI v m a b k ++ [⟨m.getD k [], timeAt v (a.point :: (m ++ [b.point])) a.time b.time (k + 1), []⟩] := by rw [betwI, List.range_succ, List.map_append]; rfl
theorem betwI_len (v : Net) (m : List Bytes) (a b : TPass) (k : Nat) : (betwI v m a b k).length = k := by simp [betwI]
theorem miss_len {v : Net} (ok : NetOk v) (a b : Bytes) (s t : Int) : (missM v a b s t).1.length ≤ 16 := by
  by_cases h : (missM v a b s t).2 = 0
  · have := (miss_ok ok h).2.1
    simp at this
    omega
  · have : (missM v a b s t).1 = [] := by
      unfold missM at h ⊢
      split
      · rfl
      · split
        · rfl
        · rename_i h1 h2
          rw [if_neg h1, if_neg h2] at h
          exact absurd rfl h
    rw [this]; simp
theorem betwM_len {v : Net} (ok : NetOk v) (a b : TPass) : (betwM v a b).length ≤ 16 := by
  unfold betwM
  split
  · simp
  · rw [betwI_len]; exact miss_len ok _ _ _ _
def stopOf (p : TPass) : TStop := ⟨p.point, p.time, p.id⟩
def stopsI (v : Net) (l : List TPass) : Nat → List TStop
  | 0 => []
  | i + 1 => match l[i]? with
    | some p => stopsI v l i ++ ((match i with | 0 => [] | j + 1 => (match l[j]? with | some a => betwM v a p | none => [])) ++ [stopOf p])
    | none => stopsI v l i
theorem stopsI_zero {v : Net} {l : List TPass} {p : TPass} (h : l[0]? = some p) : stopsI v l 1 = [stopOf p] := by simp [stopsI, h]
theorem stopsI_succ {v : Net} {l : List TPass} {j : Nat} {a p : TPass} (ha : l[j]? = some a) (hp : l[j + 1]? = some p) : stopsI v l (j + 1 + 1) = stopsI v l (j + 1) ++ (betwM v a p ++ [stopOf p]) := by
  rw [stopsI, hp]
  simp only [ha]
theorem stopsI_len {v : Net} (ok : NetOk v) {l : List TPass} : ∀ i : Nat, (stopsI v l i).length ≤ 17 * i
  | 0 => by simp [stopsI]
  | i + 1 => by
    have ih := stopsI_len ok (l := l) i
    rw [stopsI]
    split
    · rename_i p _
      cases i with
      | zero => simp [stopsI]
      | succ j =>
        simp only
        split
        · rename_i a _
          have := betwM_len ok a p
          simp
          omega
        · simp; omega
    · omega
instance (before : Option TPass) (p : TPass) : Decidable (∃ a, before = some a ∧ p.time ≤ a.time) := match before with
  | none => isFalse (by rintro ⟨a, e, _⟩; cases e)
  | some a => if h : p.time ≤ a.time then isTrue ⟨a, rfl, h⟩ else isFalse (by rintro ⟨b, e, h2⟩; cases e; exact h h2)
/-- The first error of passages. -/
def passErr (v : Net) (before : Option TPass) : List TPass → Int
  | [] => 0
  | p :: l => if hasPt v.pts p.point = false then 16 else if isTimeB p.time = false then 12 else if (∃ a, before = some a ∧ p.time ≤ a.time) then 15 else passErr v (some p) l
def stopErr (v : Net) (l : List TPass) : Int := if 1024 < l.length then 3 else passErr v none l
def stopsM (v : Net) (l : List TPass) : List TStop × Int := if stopErr v l ≠ 0 then ([], stopErr v l) else (stopsI v l l.length, 0)
/-- The passage before the i-th. -/
def befI (l : List TPass) (i : Nat) : Option TPass := match i with
  | 0 => none
  | j + 1 => l[j]?
theorem passErr_step {v : Net} {l : List TPass} {i : Nat} {p : TPass} (h : l[i]? = some p) : passErr v (befI l i) (l.drop i) = if hasPt v.pts p.point = false then 16 else if isTimeB p.time = false then 12 else if (∃ a, befI l i = some a ∧ p.time ≤ a.time) then 15 else passErr v (befI l (i + 1)) (l.drop (i + 1)) := by
  rw [drop_get h, passErr, show befI l (i + 1) = some p from h]
end Go.Toll
end

section 

namespace Go.Toll
open Go Go.Abs

def ibT : Topo := ⟨⟨[⟨[97], 1, [115]⟩, ⟨[98], 1, [115]⟩, ⟨[99], 1, [115]⟩], [⟨[97], [98], 10, 20⟩, ⟨[98], [99], 30, 60⟩]⟩, [⟨[115], false, 0⟩]⟩
def ibX : TPass := ⟨[120], [97], 100, [], [], 0, 0, []⟩
def ibY : TPass := ⟨[121], [99], 160, [], [], 0, 0, []⟩
def ibZ : TPass := ⟨[121], [99], 139, [], [], 0, 0, []⟩
theorem ib_err : topoErr ibT = 0 := by decide +kernel
theorem ib_valid : validT ibT = ibT := by rw [validT, if_pos ib_err]
theorem ib_ok : NetOk ibT.net := by have := okT ibT; rwa [ib_valid] at this
theorem ib_na : nextL ibT.net [97] = [[98]] := by rw [nextL_eq ib_ok]; decide +kernel
theorem ib_nb : nextL ibT.net [98] = [[99]] := by rw [nextL_eq ib_ok]; decide +kernel
theorem ib_nc : nextL ibT.net [99] = [] := by rw [nextL_eq ib_ok]; decide +kernel
theorem ib_c2 : complB ibT.net [[97], [98], [99]] [99] = true := by simp [complB, cplB, lastT]
theorem ib_c1 : complB ibT.net [[97], [98]] [99] = true := by simp [complB, cplB, cplLev, cplMore, cplAdd, lastT, ib_nb]
theorem ib_ac : pathsM ibT.net [97] [99] = ([[[97], [98], [99]]], 0) := by
  have e : extM ibT.net [99] 15 [[97]] [] = [[[97], [98], [99]]] := by simp [extM, lastT, ib_na, ib_nb, ib_c1, ib_c2]
  have h1 : hasPt ibT.net.pts [97] = true := by decide
  have h2 : hasPt ibT.net.pts [99] = true := by decide
  unfold pathsM
  rw [if_pos ⟨h1, h2⟩, e]
  rfl
theorem ib_r1 : routeM ibT.net [97] [99] 100 160 = ([[[97], [98], [99]]], 0) := by
  unfold routeM routeL; rw [ib_ac]; decide +kernel
theorem ib_r2 : routeM ibT.net [97] [99] 100 139 = ([], 21) := by
  unfold routeM routeL; rw [ib_ac]; decide +kernel
theorem ib_m1 : missM ibT.net [97] [99] 100 160 = ([[98]], 0) := by unfold missM; rw [ib_r1]; decide +kernel
theorem ib_m2 : missM ibT.net [97] [99] 100 139 = ([], 21) := by unfold missM; rw [ib_r2]; decide +kernel
theorem ib_t : timesM ibT.net [[97], [98], [99]] 100 160 = ([100, 115, 160], 0) := by decide +kernel
theorem ib_b : betwM ibT.net ibX ibY = [⟨[98], 115, []⟩] := by
  have : missM ibT.net ibX.point ibY.point ibX.time ibY.time = ([[98]], 0) := ib_m1
  unfold betwM
  rw [this]
  decide +kernel
theorem ib_s : stopsM ibT.net [ibX, ibY] = ([⟨[97], 100, [120]⟩, ⟨[98], 115, []⟩, ⟨[99], 160, [121]⟩], 0) := by
  have e : stopErr ibT.net [ibX, ibY] = 0 := by decide +kernel
  unfold stopsM
  rw [if_neg (by rw [e]; decide)]
  have : stopsI ibT.net [ibX, ibY] 2 = stopsI ibT.net [ibX, ibY] 1 ++ (betwM ibT.net ibX ibY ++ [stopOf ibY]) := stopsI_succ rfl rfl
  show (stopsI ibT.net [ibX, ibY] 2, (0 : Int)) = _
  rw [this, ib_b, stopsI_zero (p := ibX) rfl]
  rfl

/-- A passage without sources, as it is built. -/
def encPass0 (p : TPass) : List AV := [.str p.id, .str p.point, .int .i64 p.time, .str p.tag, .str p.plate, .int .i64 p.cls, .int .i64 p.score, .nil]
theorem frz_pass0 {ks : List Nat} {H : AHeap} {b : Nat} (l : List TPass) (hs : ∀ p ∈ l, p.sources = []) (hb : H[b]? = some (.cells 8 (l.map encPass0))) (hk : b ∈ ks) : FrzK ks H (.own b 0 l.length) (.ro (l.map encPass)) := by
  have get : ∀ (i : Nat) (e e' : List AV), (l.map encPass0)[0 + i]? = some e → (l.map encPass)[i]? = some e' → ∃ p ∈ l, e = encPass0 p ∧ e' = encPass p := by
    intro i e e' h1 h2
    rw [Nat.zero_add] at h1
    rw [List.getElem?_map, Option.map_eq_some_iff] at h1 h2
    obtain ⟨p, hp, rfl⟩ := h1
    obtain ⟨q, hq, rfl⟩ := h2
    rw [hp] at hq
    injection hq with hq
    subst hq
    exact ⟨p, List.mem_of_getElem? hp, rfl, rfl⟩
  refine .own b 0 l.length 8 _ _ hk hb (by simp) (by simp) (fun i e e' h1 h2 => ?_) (fun i e e' c x x' h1 h2 h3 h4 => ?_)
  · obtain ⟨p, _, rfl, rfl⟩ := get i e e' h1 h2
    rfl
  · obtain ⟨p, hp, rfl, rfl⟩ := get i e e' h1 h2
    have hsp := hs p hp
    have hc : c < 8 := by have := lt_of_get h3; simpa [encPass0] using this
    rcases (by omega : c = 0 ∨ c = 1 ∨ c = 2 ∨ c = 3 ∨ c = 4 ∨ c = 5 ∨ c = 6 ∨ c = 7) with q | q | q | q | q | q | q | q
    all_goals subst q
    all_goals simp [encPass0] at h3 h4
    all_goals subst h3
    all_goals subst h4
    all_goals try exact .same _
    rw [hsp]; exact .nil
theorem frz_cells3 {ks : List Nat} {H : AHeap} {x1 x2 x3 y1 y2 y3 : AV} (f1 : FrzK ks H x1 y1) (f2 : FrzK ks H x2 y2) (f3 : FrzK ks H x3 y3) :
    (∀ (i : Nat) (e e' : List AV), [[x1, x2, x3]][i]? = some e → [[y1, y2, y3]][i]? = some e' → e'.length = e.length) ∧
    ∀ (i : Nat) (e e' : List AV) (c : Nat) (x x' : AV), [[x1, x2, x3]][i]? = some e → [[y1, y2, y3]][i]? = some e' → e[c]? = some x → e'[c]? = some x' → FrzK ks H x x' := by
  refine ⟨fun i e e' h1 h2 => ?_, fun i e e' c x x' h1 h2 h3 h4 => ?_⟩
  · cases i with
    | zero => simp at h1 h2; subst h1; subst h2; rfl
    | succ i => simp at h1
  · cases i with
    | succ i => simp at h1
    | zero =>
      simp at h1 h2
      subst h1; subst h2
      have hc : c < 3 := by have := lt_of_get h3; simpa using this
      rcases (by omega : c = 0 ∨ c = 1 ∨ c = 2) with q | q | q
      all_goals subst q
      all_goals simp at h3 h4
      all_goals subst h3
      all_goals subst h4
      all_goals assumption
end Go.Toll
end

section 

namespace Go.Toll
open Go Go.Abs

theorem endOf_take {a : Bytes} : ∀ {i : Nat} {x : Bytes} {l : List Bytes}, (x :: l)[i]? = some a → endOf x (l.take i) = a
  | 0, x, l, h => by simp at h; simp [endOf, h]
  | i + 1, x, [], h => by simp at h
  | i + 1, x, y :: l, h => by
    rw [List.take_succ_cons, endOf]
    exact endOf_take (by simpa using h)
section
variable {v : Net} {p : List Bytes} {s t : Int}
theorem low_step (ok : NetOk v) (h : (boundsM v p).2.2 = 0) {i : Nat} {a b : Bytes} (ha : p[i]? = some a) (hb : p[i + 1]? = some b) :
    ∃ k : Nat, (boundsM v [a, b]).2.2 = 0 ∧ (boundsM v [a, b]).1 = (k : Int) ∧ lowI v p (i + 2) = lowI v p (i + 1) + k := by
  obtain ⟨x, l, z, rfl, hall, hw, _⟩ := bounds_path h
  have hb' : l[i]? = some b := by simpa using hb
  have htk : l.take (i + 1) = l.take i ++ [b] := by rw [List.take_add_one, hb']; rfl
  have hsp : l = l.take (i + 1) ++ l.drop (i + 1) := (List.take_append_drop _ l).symm
  rw [hsp] at hw
  obtain ⟨q, u, h1, _, _⟩ := wk_app.1 hw
  rw [htk] at h1
  obtain ⟨q1, u1, h3, h4, rfl⟩ := wk_app.1 h1
  rw [endOf_take ha] at h4
  have r1 := wk_rng ok h3
  have r2 := wk_rng ok h4
  have hpa : hasPt v.pts a = true := hall a (List.mem_of_getElem? ha)
  have hpb : hasPt v.pts b = true := hall b (List.mem_of_getElem? hb)
  have e1 : boundsM v [a, b] = (u1.1, u1.2, 0) := by
    rw [boundsM_ok (by intro z hz; simp at hz; rcases hz with rfl | rfl <;> assumption), h4]
  have sub : ∀ k, ∀ z ∈ x :: l.take k, hasPt v.pts z = true := fun k z hz => hall z (by
    rcases List.mem_cons.1 hz with rfl | hz
    · simp
    · exact List.mem_cons_of_mem _ (List.mem_of_mem_take hz))
  have e2 : boundsM v ((x :: l).take (i + 1)) = (q1.1, q1.2, 0) := by rw [List.take_succ_cons, boundsM_ok (sub i), h3]
  have e3 : boundsM v ((x :: l).take (i + 2)) = (q1.1 + u1.1, q1.2 + u1.2, 0) := by
    rw [show i + 2 = (i + 1) + 1 from rfl, List.take_succ_cons, boundsM_ok (sub (i + 1)), htk, h1]
  have hn0 := Int.natCast_nonneg (l.take i).length
  simp only [List.length_singleton] at r2
  refine ⟨u1.1.toNat, by rw [e1], ?_, ?_⟩
  · rw [e1]; show u1.1 = _; omega
  · rw [lowI, lowI, e2, e3]
    show (q1.1 + u1.1).toNat = q1.1.toNat + u1.1.toNat
    omega
theorem low_mono (ok : NetOk v) (h : (boundsM v p).2.2 = 0) {j k : Nat} (h1 : 1 ≤ j) (h2 : j ≤ k) (h3 : k ≤ p.length) : lowI v p j ≤ lowI v p k := by
  obtain ⟨b1, b2, _⟩ := bounds_take ok h (k := k) (by omega) h3
  have hl : (p.take k).length = k := by rw [List.length_take]; omega
  obtain ⟨_, _, b3⟩ := bounds_take ok b1 (k := j) h1 (by omega)
  have e1 : lowI v (p.take k) j = lowI v p j := by rw [lowI, lowI, List.take_take, Nat.min_eq_left h2]
  have e2 : lowI v (p.take k) (p.take k).length = lowI v p k := by rw [lowI, lowI, List.take_length]
  rw [e1, e2] at b3
  exact b3
theorem time_mono (ok : NetOk v) (h : (boundsM v p).2.2 = 0) {j k : Nat} (h2 : j ≤ k) (h3 : k < p.length) : timeAt v p s t j ≤ timeAt v p s t k := by
  have := low_mono ok h (j := j + 1) (k := k + 1) (by omega) (by omega) (by omega)
  have := Nat.div_le_div_right (c := lowI v p p.length) (Nat.mul_le_mul_left (t - s).toNat this)
  unfold timeAt
  omega
theorem time_first (ok : NetOk v) (h : (boundsM v p).2.2 = 0) (hp : p.length ≤ 16) : timeAt v p s t 0 = s := by
  have := (low_all ok h hp).2.2.2.1
  unfold timeAt
  rw [this]
  simp
theorem time_last (ok : NetOk v) (h : (boundsM v p).2.2 = 0) (hp : p.length ≤ 16) (h2 : 2 ≤ p.length) (hst : s ≤ t) {k : Nat} (hk : k + 1 = p.length) : timeAt v p s t k = t := by
  have := (low_all ok h hp).2.2.1 h2
  unfold timeAt
  rw [hk, Nat.mul_div_cancel _ (by omega)]
  omega
theorem time_gap (ok : NetOk v) (h : (boundsM v p).2.2 = 0) (hp : p.length ≤ 16) {i : Nat} {a b : Bytes} (ha : p[i]? = some a) (hb : p[i + 1]? = some b) (hd : (boundsM v p).1 ≤ t - s) : (boundsM v [a, b]).1 ≤ timeAt v p s t (i + 1) - timeAt v p s t i := by
  obtain ⟨k, h1, h2, h3⟩ := low_step ok h ha hb
  obtain ⟨a1, a2, a3, a4, a5⟩ := low_all ok h hp
  have hlen : i + 1 < p.length := (List.getElem?_eq_some_iff.1 hb).1
  have hA := a3 (by omega)
  rw [h2]
  unfold timeAt
  rw [show i + 1 + 1 = i + 2 from rfl, h3]
  rw [a1] at hd
  generalize hD : (t - s).toNat = D
  generalize lowI v p p.length = A at *
  have hDA : A ≤ D := by omega
  have e : D * (lowI v p (i + 1) + k) ≥ D * lowI v p (i + 1) + A * k := by
    rw [Nat.mul_add]; exact Nat.add_le_add_left (Nat.mul_le_mul_right k hDA) _
  have := Nat.div_le_div_right (c := A) e
  rw [Nat.add_mul_div_left _ _ (by omega)] at this
  omega
theorem times_ok (h : (timesM v p s t).2 = 0) : p.length ≤ 16 ∧ isTimeB s = true ∧ isTimeB t = true ∧ s ≤ t ∧ (boundsM v p).2.2 = 0 ∧ timesM v p s t = (timesL v p s t, 0) := by
  unfold timesM at h ⊢
  split at h
  · cases h
  split at h
  · cases h
  split at h
  · rename_i h1 h2 h3; exact absurd h h3
  rename_i h1 h2 h3
  rw [if_neg h1, if_neg h2, if_neg h3]
  simp only [Bool.not_eq_false, Bool.and_eq_true, decide_eq_true_eq] at h2
  exact ⟨by omega, h2.1.1, h2.1.2, h2.2, by simpa using h3, rfl⟩
theorem times_no (h : (timesM v p s t).2 ≠ 0) : (timesM v p s t).1 = [] := by
  unfold timesM at h ⊢
  split
  · rfl
  split
  · rfl
  split
  · rfl
  · rename_i h1 h2 h3; rw [if_neg h1, if_neg h2, if_neg h3] at h; exact absurd rfl h
end
theorem net_of_path {t : Topo} {p : List Bytes} (h : (boundsM (validT t).net p).2.2 = 0) : validN t.net = (validT t).net := by
  by_cases hz : topoErr t = 0
  · have e : validT t = t := by rw [validT, if_pos hz]
    have hn := validT_net t
    rw [e] at hn ⊢
    rw [validN, if_pos hn]
  · have e : validT t = topo0 := by rw [validT, if_neg hz]
    obtain ⟨a, l, s, rfl, hall, _⟩ := bounds_path h
    have := hall a (by simp)
    rw [e] at this
    simp [hasPt, topo0] at this

/-! ### Stops -/
section
variable {v : Net} {l : List TPass}
def nbS (x : TStop) : Bool := decide (x.pass ≠ [])
theorem betw_pass (a p : TPass) : ∀ x ∈ betwM v a p, x.pass = [] := by
  intro x hx
  unfold betwM at hx
  split at hx
  · cases hx
  · rw [betwI, List.mem_map] at hx
    obtain ⟨_, _, rfl⟩ := hx
    rfl
theorem betw_time (ok : NetOk v) (a p : TPass) : (betwM v a p).Pairwise (fun x y => x.time ≤ y.time) ∧ ∀ x ∈ betwM v a p, a.time ≤ x.time ∧ x.time ≤ p.time := by
  unfold betwM
  split
  · simp
  · rename_i h
    have h0 : (missM v a.point p.point a.time p.time).2 = 0 := by simpa using h
    obtain ⟨b1, b2, _, _, b5, _, _⟩ := miss_ok ok h0
    generalize (missM v a.point p.point a.time p.time).1 = m at *
    have hl : (a.point :: (m ++ [p.point])).length = m.length + 2 := by simp
    refine ⟨?_, fun x hx => ?_⟩
    · rw [betwI]
      refine List.pairwise_map.2 (List.Pairwise.imp_of_mem ?_ (List.pairwise_lt_range (n := m.length)))
      intro i j hi hj hij
      have hj' := List.mem_range.1 hj
      exact time_mono ok b1 (by omega) (by omega)
    · rw [betwI, List.mem_map] at hx
      obtain ⟨i, hi, rfl⟩ := hx
      have hi' := List.mem_range.1 hi
      have e1 := time_first (s := a.time) (t := p.time) ok b1 b2
      have e2 := time_last (s := a.time) (t := p.time) ok b1 b2 (by omega) (by omega) (k := m.length + 1) (by omega)
      have m1 := time_mono (s := a.time) (t := p.time) ok b1 (j := 0) (k := i + 1) (by omega) (by omega)
      have m2 := time_mono (s := a.time) (t := p.time) ok b1 (j := i + 1) (k := m.length + 1) (by omega) (by omega)
      rw [e1] at m1
      rw [e2] at m2
      exact ⟨m1, m2⟩
theorem betw_filter (a p : TPass) : (betwM v a p).filter nbS = [] := by
  rw [List.filter_eq_nil_iff]
  intro x hx
  simp [nbS, betw_pass a p x hx]
theorem stops_filter (hid : ∀ p ∈ l, p.id ≠ []) : ∀ i : Nat, i ≤ l.length → (stopsI v l i).filter nbS = (l.take i).map stopOf
  | 0, _ => by simp [stopsI]
  | 1, h => by
    obtain ⟨p, hp, _⟩ := get_lt (l := l) (i := 0) (by omega)
    have hq : nbS (stopOf p) = true := decide_eq_true (hid p (List.mem_of_getElem? hp))
    rw [stopsI_zero hp, List.take_add_one, hp]
    simp [hq]
  | i + 2, h => by
    obtain ⟨a, ha, _⟩ := get_lt (l := l) (i := i) (by omega)
    obtain ⟨p, hp, _⟩ := get_lt (l := l) (i := i + 1) (by omega)
    have hq : nbS (stopOf p) = true := decide_eq_true (hid p (List.mem_of_getElem? hp))
    rw [stopsI_succ ha hp, List.filter_append, stops_filter hid (i + 1) (by omega), List.filter_append, betw_filter, List.take_add_one (i := i + 1), hp]
    simp [hq]
theorem pass_rest (h : passErr v none l = 0) : ∀ i : Nat, i ≤ l.length → passErr v (befI l i) (l.drop i) = 0
  | 0, _ => by simpa [befI] using h
  | i + 1, hi => by
    have ih := pass_rest h i (by omega)
    obtain ⟨p, hp, _⟩ := get_lt (l := l) (i := i) (by omega)
    rw [passErr_step hp] at ih
    split at ih
    · cases ih
    split at ih
    · cases ih
    split at ih
    · cases ih
    exact ih
theorem pass_asc (h : stopErr v l = 0) {j : Nat} {a p : TPass} (ha : l[j]? = some a) (hp : l[j + 1]? = some p) : a.time < p.time := by
  have h0 : passErr v none l = 0 := by
    unfold stopErr at h
    split at h
    · cases h
    · exact h
  have := pass_rest h0 (j + 1) (by have := lt_of_get hp; omega)
  rw [passErr_step hp] at this
  split at this
  · cases this
  split at this
  · cases this
  split at this
  · cases this
  rename_i hn
  rcases Int.lt_or_le a.time p.time with q | q
  · exact q
  · exact absurd ⟨a, ha, q⟩ hn
theorem stops_time (ok : NetOk v) (h : stopErr v l = 0) : ∀ (i : Nat) (p : TPass), l[i]? = some p → (stopsI v l (i + 1)).Pairwise (fun x y => x.time ≤ y.time) ∧ ∀ x ∈ stopsI v l (i + 1), x.time ≤ p.time
  | 0, p, hp => by
    rw [stopsI_zero hp]
    simp [stopOf]
  | i + 1, p, hp => by
    obtain ⟨a, ha, _⟩ := get_lt (l := l) (i := i) (by have := lt_of_get hp; omega)
    obtain ⟨h1, h2⟩ := stops_time ok h i a ha
    obtain ⟨b1, b2⟩ := betw_time ok a p
    have hlt := pass_asc h ha hp
    rw [stopsI_succ ha hp]
    have hr : ∀ x ∈ betwM v a p ++ [stopOf p], a.time ≤ x.time ∧ x.time ≤ p.time := by
      intro x hx
      rcases List.mem_append.1 hx with hx | hx
      · exact b2 x hx
      · obtain rfl := List.mem_singleton.1 hx
        exact ⟨Int.le_of_lt hlt, Int.le_refl _⟩
    refine ⟨List.pairwise_append.2 ⟨h1, List.pairwise_append.2 ⟨b1, by simp, fun x hx y hy => ?_⟩, fun x hx y hy => ?_⟩, fun x hx => ?_⟩
    · obtain rfl := List.mem_singleton.1 hy
      exact (b2 x hx).2
    · exact Int.le_trans (h2 x hx) (hr y hy).1
    · rcases List.mem_append.1 hx with hx | hx
      · have := h2 x hx; omega
      · exact (hr x hx).2
theorem stops_head {p : TPass} (hp : l[0]? = some p) : ∀ i : Nat, i < l.length → ∃ r, stopsI v l (i + 1) = stopOf p :: r
  | 0, _ => ⟨[], stopsI_zero hp⟩
  | i + 1, hi => by
    obtain ⟨r, hr⟩ := stops_head hp i (by omega)
    obtain ⟨a, ha, _⟩ := get_lt (l := l) (i := i) (by omega)
    obtain ⟨b, hb, _⟩ := get_lt hi
    exact ⟨_, by rw [stopsI_succ ha hb, hr]; rfl⟩
theorem stops_last {i : Nat} {p : TPass} (hp : l[i]? = some p) : ∃ r, stopsI v l (i + 1) = r ++ [stopOf p] := by
  cases i with
  | zero => exact ⟨[], stopsI_zero hp⟩
  | succ i =>
    obtain ⟨a, ha, _⟩ := get_lt (l := l) (i := i) (by have := lt_of_get hp; omega)
    exact ⟨stopsI v l (i + 1) ++ betwM v a p, by rw [stopsI_succ ha hp, List.append_assoc]⟩
theorem stops_no (h : (stopsM v l).2 ≠ 0) : (stopsM v l).1 = [] := by
  unfold stopsM at h ⊢
  split
  · rfl
  · rename_i h1; rw [if_neg h1] at h; exact absurd rfl h
theorem stops_ok (h : (stopsM v l).2 = 0) : stopErr v l = 0 ∧ stopsM v l = (stopsI v l l.length, 0) := by
  unfold stopsM at h ⊢
  split at h
  · rename_i h1; exact absurd h h1
  · rename_i h1; rw [if_neg h1]; exact ⟨by simpa using h1, rfl⟩
/-- The next passage that a stop must be. -/
theorem stops_next (hid : ∀ p ∈ l, p.id ≠ []) {S : List TStop} (hS : S.filter nbS = l.map stopOf) {i n : Nat} {x : TStop} (hx : S[i]? = some x) (hb : x.pass ≠ []) (hn : (S.take i).filter nbS = (l.take n).map stopOf) (hnl : n ≤ l.length) :
    ∃ p, l[n]? = some p ∧ x = stopOf p ∧ (S.take (i + 1)).filter nbS = (l.take (n + 1)).map stopOf := by
  have hq : nbS x = true := decide_eq_true hb
  have e1 : (S.take (i + 1)).filter nbS = (l.take n).map stopOf ++ [x] := by
    rw [List.take_add_one, hx, List.filter_append, hn]
    simp [hq]
  have e2 : S.filter nbS = (S.take (i + 1)).filter nbS ++ (S.drop (i + 1)).filter nbS := by rw [← List.filter_append, List.take_append_drop]
  rw [e1, hS, List.append_assoc] at e2
  have e3 : (l.map stopOf)[n]? = some x := by
    rw [e2, List.getElem?_append_right (by simp; omega), List.length_map, List.length_take, Nat.min_eq_left hnl, Nat.sub_self]
    rfl
  rw [List.getElem?_map, Option.map_eq_some_iff] at e3
  obtain ⟨p, hp, rfl⟩ := e3
  refine ⟨p, hp, rfl, ?_⟩
  rw [e1, List.take_add_one, hp]
  simp
end
end Go.Toll
end
