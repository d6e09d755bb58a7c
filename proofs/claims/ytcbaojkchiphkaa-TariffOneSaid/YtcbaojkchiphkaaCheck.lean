/-
  The plain law of checking tariffs, and the contracts.
-/
import Derived.Test.YtcbaojkchiphkaaTopo
import Derived.Test.YtcbaojkchiphkaaClock
import Derived.Test.YtcbaojkchiphkaaIndexBand
import Derived.Test.YtcbaojkchiphkaaIndexRate
import Derived.Test.YtcbaojkchiphkaaTollNet
set_option linter.unusedVariables false
set_option linter.unusedSimpArgs false
set_option maxRecDepth 100000
namespace Go.Toll
open Go Go.Abs

def placeB (t : Topo) (r : Rate) : Bool :=
  if r.dst = [] then decide (kindOf t r.src = 1)
  else decide (kindOf t r.src = 2) && decide (kindOf t r.dst = 3) && decide ((sysOf t r.src).getD sys0 = (sysOf t r.dst).getD sys0)

theorem findSys_name {l : List TSys} {s : Bytes} {y : TSys} (h : findSys l s = some y) : y.name = s := by
  have := List.find?_some h
  simpa using this

theorem sysOf_some {t : Topo} {s : Bytes} {y : TSys} (h : sysOf t s = some y) : y.name ≠ [] ∧ findSys (validT t).sys y.name = some y := by
  rw [sysOf] at h
  split at h
  · rename_i p hp
    split at h
    · simp at h
    · rename_i hne
      have := findSys_name h
      rw [this]
      exact ⟨hne, h⟩
  · simp at h

/-- Names tell the systems of points apart. -/
theorem sys_names (t : Topo) (a b : Bytes) : ((sysOf t a).getD sys0).name = ((sysOf t b).getD sys0).name ↔ (sysOf t a).getD sys0 = (sysOf t b).getD sys0 := by
  constructor
  · intro h
    cases ha : sysOf t a with
    | none =>
      cases hb : sysOf t b with
      | none => rfl
      | some y =>
        rw [ha, hb] at h
        exact absurd h.symm (sysOf_some hb).1
    | some x =>
      cases hb : sysOf t b with
      | none =>
        rw [ha, hb] at h
        exact absurd h (sysOf_some ha).1
      | some y =>
        rw [ha, hb] at h
        have h : x.name = y.name := h
        have h1 := (sysOf_some ha).2
        rw [h, (sysOf_some hb).2] at h1
        simpa using h1.symm
  · intro h; rw [h]

def bandsErr : List Band → Int
  | [] => 0
  | b :: l => if nameB b.name = false then 6 else if validWB b.win = false then 1 else bandsErr l

def namedB (l : List Band) (s : Bytes) : Bool := l.any fun b => decide (b.name = s)
def sameR (r o : Rate) : Bool := decide (o.src = r.src) && decide (o.dst = r.dst) && decide (o.cls = r.cls) && decide (o.band = r.band)
theorem sameR_eq (r o : Rate) : decide ({ o with cents := r.cents } = r) = sameR r o := by
  rw [Bool.eq_iff_iff]
  cases r; cases o
  simp [sameR, and_assoc]

def rateErr (t : Topo) (bs : List Band) (before : List Rate) (r : Rate) : Int :=
  if placeB t r = false then 16 else if r.cls < 1 ∨ 9 < r.cls then 20 else if r.band ≠ [] ∧ namedB bs r.band = false then 10
  else if r.cents < 0 ∨ 1125899906842624 < r.cents then 13 else if before.any (sameR r) then 9 else 0
def ratesErr (t : Topo) (bs : List Band) (before : List Rate) : List Rate → Int
  | [] => 0
  | r :: l => if rateErr t bs before r ≠ 0 then rateErr t bs before r else ratesErr t bs (before ++ [r]) l
def tarErr (x : Tariff) (t : Topo) : Int :=
  if validIB x.valid = false then 12 else if 1024 < x.bands.length ∨ 1024 < x.rates.length then 3
  else if bandsErr x.bands ≠ 0 then bandsErr x.bands else ratesErr t x.bands [] x.rates
def overB (x y : Tariff) : Bool := decide (x.valid.lo < y.valid.hi) && decide (y.valid.lo < x.valid.hi)
def tarsErr (t : Topo) (before : List Tariff) : List Tariff → Int
  | [] => 0
  | x :: l => if tarErr x t ≠ 0 then tarErr x t else if before.any (overB x) then 12 else tarsErr t (before ++ [x]) l
def allErr (l : List Tariff) (t : Topo) : Int := if 1024 < l.length then 3 else tarsErr t [] l
def smallB (t : Topo) : Bool := decide ((t.net.pts.length : Int) ≤ 12) && decide ((t.net.lks.length : Int) ≤ 30) && decide ((t.sys.length : Int) ≤ 100)

/-! ### One tariff of a time -/
theorem overB_comm (x y : Tariff) : overB x y = overB y x := by rw [overB, overB, Bool.and_comm]

theorem tarsErr_zero {t : Topo} : ∀ {l before : List Tariff}, tarsErr t before l = 0 ↔ (∀ x ∈ l, tarErr x t = 0) ∧ (∀ x ∈ l, ∀ y ∈ before, overB x y = false) ∧ l.Pairwise fun a b => overB a b = false
  | [], before => by simp [tarsErr]
  | x :: l, before => by
    rw [tarsErr]
    by_cases h1 : tarErr x t = 0
    · rw [if_neg (by simp [h1])]
      by_cases h2 : before.any (overB x) = true
      · rw [if_pos h2]
        constructor
        · intro h; simp at h
        · rintro ⟨_, h, _⟩
          obtain ⟨y, hy, hy'⟩ := List.any_eq_true.1 h2
          rw [h x (by simp) y hy] at hy'
          simp at hy'
      · rw [if_neg h2, tarsErr_zero]
        have h2' : ∀ y ∈ before, overB x y = false := fun y hy => by
          cases hq : overB x y with
          | false => rfl
          | true => exact absurd (List.any_eq_true.2 ⟨y, hy, hq⟩) h2
        constructor
        · rintro ⟨a, b, c⟩
          refine ⟨?_, ?_, ?_⟩
          · intro z hz
            rcases List.mem_cons.1 hz with rfl | hz
            · exact h1
            · exact a z hz
          · intro z hz y hy
            rcases List.mem_cons.1 hz with rfl | hz
            · exact h2' y hy
            · exact b z hz y (by simp [hy])
          · exact List.pairwise_cons.2 ⟨fun z hz => by rw [overB_comm]; exact b z hz x (by simp), c⟩
        · rintro ⟨a, b, c⟩
          obtain ⟨c1, c2⟩ := List.pairwise_cons.1 c
          refine ⟨fun z hz => a z (by simp [hz]), ?_, c2⟩
          intro z hz y hy
          rcases List.mem_append.1 hy with hy | hy
          · exact b z (by simp [hz]) y hy
          · have : y = x := by simpa using hy
            rw [this, overB_comm]; exact c1 z hz
    · rw [if_pos (by simpa using h1)]
      constructor
      · intro h; exact absurd h h1
      · rintro ⟨a, _, _⟩; exact absurd (a x (by simp)) h1

theorem allErr_zero {l : List Tariff} {t : Topo} (hl : l.length ≤ 1024) : allErr l t = 0 ↔ (∀ x ∈ l, tarErr x t = 0) ∧ l.Pairwise fun a b => overB a b = false := by
  rw [allErr, if_neg (by omega), tarsErr_zero]
  simp
theorem allErr_reverse {l : List Tariff} {t : Topo} (hl : l.length ≤ 1024) (h : allErr l t = 0) : allErr l.reverse t = 0 := by
  obtain ⟨a, b⟩ := (allErr_zero hl).1 h
  refine (allErr_zero (by simp; omega)).2 ⟨by simpa using a, ?_⟩
  rw [List.pairwise_reverse]
  exact b.imp fun {x y} h => by rw [overB_comm]; exact h

def inIv (i : Iv) (t : Int) : Bool := decide (i.lo ≤ t) && decide (t < i.hi)
theorem hasB_in {x : Tariff} {tp : Topo} (h : tarErr x tp = 0) (t : Int) : hasB x.valid t = inIv x.valid t := by
  have : validIB x.valid = true := by
    rw [tarErr] at h
    cases hv : validIB x.valid with
    | true => rfl
    | false => simp [hv] at h
  simp [hasB, inIv, this]

theorem atT_none {l : List Tariff} {t : Int} (h : ∀ x ∈ l, hasB x.valid t = false) : atT l t = (⟨⟨0, 0⟩, [], []⟩, 22) := by
  induction l with
  | nil => rfl
  | cons x l ih => rw [atT, if_neg (by simp [h x (by simp)]), ih fun y hy => h y (by simp [hy])]

theorem atT_append {a b : List Tariff} {t : Int} (h : ∀ x ∈ a, hasB x.valid t = false) : atT (a ++ b) t = atT b t := by
  induction a with
  | nil => rfl
  | cons x l ih => rw [List.cons_append, atT, if_neg (by simp [h x (by simp)]), ih fun y hy => h y (by simp [hy])]

def countIn (l : List Tariff) (t : Int) : Nat := l.countP fun x => inIv x.valid t

theorem over_of_both {x y : Tariff} {t : Int} (hx : inIv x.valid t = true) (hy : inIv y.valid t = true) : overB x y = true := by
  simp [inIv, overB] at *
  omega

/-- In a list without overlaps at most one tariff has a time: it is what 'At' finds, in either order. -/
theorem one_law {l : List Tariff} {tp : Topo} (hl : l.length ≤ 1024) (h : allErr l tp = 0) (t : Int) :
    (countIn l t = 0 ∧ atT l t = (⟨⟨0, 0⟩, [], []⟩, 22) ∧ atT l.reverse t = (⟨⟨0, 0⟩, [], []⟩, 22)) ∨ (∃ x, countIn l t = 1 ∧ atT l t = (x, 0) ∧ atT l.reverse t = (x, 0)) := by
  obtain ⟨a, b⟩ := (allErr_zero hl).1 h
  have hh : ∀ x ∈ l, hasB x.valid t = inIv x.valid t := fun x hx => hasB_in (a x hx) t
  by_cases hq : ∃ x ∈ l, inIv x.valid t = true
  · obtain ⟨x, hx, hin⟩ := hq
    obtain ⟨p, q, rfl⟩ := List.append_of_mem hx
    refine .inr ⟨x, ?_⟩
    obtain ⟨b1, b2, b3⟩ := List.pairwise_append.1 b
    have hp : ∀ y ∈ p, inIv y.valid t = false := fun y hy => by
      cases hc : inIv y.valid t with
      | false => rfl
      | true => have := b3 y hy x (by simp); rw [over_of_both hc hin] at this; simp at this
    have hqq : ∀ y ∈ q, inIv y.valid t = false := fun y hy => by
      cases hc : inIv y.valid t with
      | false => rfl
      | true => have := (List.pairwise_cons.1 b2).1 y hy; rw [over_of_both hin hc] at this; simp at this
    have hxx : hasB x.valid t = true := by rw [hh x (by simp), hin]
    refine ⟨?_, ?_, ?_⟩
    · rw [countIn, List.countP_append, List.countP_cons, if_pos hin, List.countP_eq_zero.2 (by intro y hy; rw [hp y hy]; simp), List.countP_eq_zero.2 (by intro y hy; rw [hqq y hy]; simp)]
    · rw [atT_append fun y hy => by rw [hh y (by simp [hy]), hp y hy], atT, if_pos hxx]
    · rw [List.reverse_append, List.reverse_cons, List.append_assoc, atT_append fun y hy => by
        rw [List.mem_reverse] at hy
        rw [hh y (by simp [hy]), hqq y hy]]
      rw [List.singleton_append, atT, if_pos hxx]
  · have hn : ∀ y ∈ l, inIv y.valid t = false := fun y hy => by
      cases hc : inIv y.valid t with
      | false => rfl
      | true => exact absurd ⟨y, hy, hc⟩ hq
    refine .inl ⟨List.countP_eq_zero.2 (by intro y hy; rw [hn y hy]; simp), atT_none fun y hy => by rw [hh y hy, hn y hy], atT_none fun y hy => ?_⟩
    rw [List.mem_reverse] at hy
    rw [hh y hy, hn y hy]

end Go.Toll

namespace Go.Proofs.Ytcbaojkchiphkaa
open Go Go.Abs Go.Toll
variable {gl : Globs} {h : AHeap}

theorem law_small (t : Topo) : ACalls Try.prog gl 23 [.agg (encTopo t)] h fun v h' => v = .bool (smallB t) ∧ h' = h := by
  refine ACalls.data (.bool _) (ACalls.body Try.f23 _ mixed Try.func23 rfl rfl (by simp [Try.ntmps23]) ?_)
  simp [smallB]
theorem tariff_route (r : Rate) (t : Topo) (hp : t.net.pts.length ≤ 1000) (hl : t.net.lks.length ≤ 1000) (hs : t.sys.length ≤ 1000) : ACalls Try.prog gl 61 [.agg (encRate r), .agg (encTopo t)] h fun v h' => v = .bool (placeB t r) ∧ h' = h := by
  refine ACalls.data (by simp) (ACalls.body Try.f61 _ mixed Try.func61 rfl rfl (by simp [Try.ntmps61]) ?_)
  simp
  refine ⟨fun hd => ?_, fun hd => ?_⟩
  · refine callS.pure _ (fun _ => topology_Kind t r.src hp hl hs) ?_
    simp [placeB, hd]
    rw [Bool.eq_iff_iff]; simp
  refine callS.pure _ (fun _ => topology_System t r.src hp hl hs) ?_
  simp
  refine callS.pure _ (fun _ => topology_System t r.dst hp hl hs) ?_
  simp
  refine callS.pure _ (fun _ => topology_Kind t r.src hp hl hs) ?_
  simp
  refine callS.pure _ (fun _ => topology_Kind t r.dst hp hl hs) ?_
  simp
  rw [placeB, if_neg hd]
  generalize kindOf t r.src = k1
  generalize kindOf t r.dst = k2
  generalize (sysOf t r.src).getD sys0 = a
  generalize (sysOf t r.dst).getD sys0 = b
  rw [Bool.eq_iff_iff]; cases a; cases b; simp [and_assoc]
theorem ref22_place (r : Rate) (t : Topo) (hp : t.net.pts.length ≤ 1000) (hl : t.net.lks.length ≤ 1000) (hs : t.sys.length ≤ 1000) : ACalls Try.prog gl 64 [.agg (encTopo t), .agg (encRate r)] h fun v h' => v = .bool (placeB t r) ∧ h' = h := by
  refine ACalls.data (.bool _) (ACalls.body Try.f64 _ mixed Try.func64 rfl rfl (by simp [Try.ntmps64]) ?_)
  simp
  refine ⟨fun hd => ?_, fun hd => ?_⟩
  · refine callS.pure _ (fun _ => ref18_Kind t r.src hp hl hs) ?_
    simp [placeB, hd]
    rw [Bool.eq_iff_iff]; simp
  refine callS.pure _ (fun _ => ref18_System t r.src hp hl hs) ?_
  simp
  refine callS.pure _ (fun _ => ref18_System t r.dst hp hl hs) ?_
  simp
  refine callS.pure _ (fun _ => ref18_Kind t r.src hp hl hs) ?_
  simp
  refine callS.pure _ (fun _ => ref18_Kind t r.dst hp hl hs) ?_
  simp
  rw [placeB, if_neg hd]
  have hn := sys_names t r.src r.dst
  generalize kindOf t r.src = k1 at *
  generalize kindOf t r.dst = k2 at *
  generalize (sysOf t r.src).getD sys0 = a at *
  generalize (sysOf t r.dst).getD sys0 = b at *
  rw [Bool.eq_iff_iff]; simp [hn]
theorem ref22_named (l : List Band) (s : Bytes) (hl : l.length ≤ 1000) : ACalls Try.prog gl 65 [.ro (l.map encBand), .str s] h fun v h' => v = .bool (namedB l s) ∧ h' = h := by
  refine ACalls.data (.bool _) (ACalls.body Try.f65 _ mixed Try.func65 rfl rfl (by simp [Try.ntmps65]) ?_)
  simp
  refine AWP.up mixed l.length (fun i fr h' => fr 0 = .ro (l.map encBand) ∧ fr 1 = .str s ∧ fr 5 = .int .i64 i ∧ namedB l s = namedB (l.drop i) s ∧ ∃ g, h' = h ++ g) 0 (by omega) ⟨by simp, by simp, by simp, by simp, [], by simp⟩ ?_
  rintro i fr h' hi ⟨e0, e1, e5, hf, g, rfl⟩
  rcases Nat.lt_or_ge i l.length with hlt | hge
  · obtain ⟨x, hg, hg'⟩ := get_lt hlt
    rw [drop_get hg] at hf
    have hf : namedB l s = (decide (x.name = s) || namedB (l.drop (i + 1)) s) := hf
    have ew := wrap_succ' (i := i) (by omega)
    simp [e0, e1, e5, hlt, hg, hg', ew]
    refine ⟨fun hq => by simp [hf, hq], fun hq => ⟨i + 1, by omega, by omega, by omega, ?_⟩⟩
    rw [hf]; simp [hq]
  · rw [List.drop_eq_nil_of_le hge] at hf
    have hf : namedB l s = false := hf
    simp [e0, e1, e5, hf, Nat.not_lt.2 hge]
theorem tariff_rate1 (b : Nat) (y : Band) (r : Rate) (hb : h[b]? = some (.cells 5 [encRate r])) : ACalls Try.prog gl 59 [.agg (encBand y), .ptr b 0 0] h fun v h' => v = .bool (decide (y.name = r.band)) ∧ h' = h := by
  refine ACalls.data (by simp) (ACalls.body Try.f59 _ mixed Try.func59 rfl rfl (by simp [Try.ntmps59]) ?_)
  obtain ⟨hlt, hb'⟩ := List.getElem?_eq_some_iff.1 hb
  simp [hb', hlt]
  rw [Bool.eq_iff_iff]; simp
theorem tariff_rate2 (b : Nat) (o : Rate) (r : Rate) (hb : h[b]? = some (.cells 5 [encRate r])) : ACalls Try.prog gl 60 [.agg (encRate o), .ptr b 0 0] h fun v h' => v = .bool (sameR r o) ∧ h' = h := by
  refine ACalls.data (by simp) (ACalls.body Try.f60 _ mixed Try.func60 rfl rfl (by simp [Try.ntmps60]) ?_)
  obtain ⟨hlt, hb'⟩ := List.getElem?_eq_some_iff.1 hb
  simp [hb', hlt]
  rw [Bool.eq_iff_iff]; simp [sameR, and_assoc]
theorem tariff_rate (r : Rate) (before : List Rate) (x : Tariff) (t : Topo) (hbf : before.length ≤ 1000) (hb : x.bands.length ≤ 1000) (hp : t.net.pts.length ≤ 1000) (hl : t.net.lks.length ≤ 1000) (hs : t.sys.length ≤ 1000) :
    ACalls Try.prog gl 43 [.agg (encRate r), .ro (before.map encRate), .agg (encTariff x), .agg (encTopo t)] h fun v h' => v = .int .i64 (rateErr t x.bands before r) ∧ h' = h := by
  refine ACalls.data (by simp) (ACalls.body Try.f43 _ mixed Try.func43 rfl rfl (by simp [Try.ntmps43]) ?_)
  simp
  refine callS.pure _ (fun _ => tariff_route r t hp hl hs) ?_
  simp
  refine ⟨fun q => by simp [rateErr, q], fun q => ⟨fun c => by simp [rateErr, q, c], fun c1 c2 => ?_⟩⟩
  have hr : rateErr t x.bands before r = if r.band ≠ [] ∧ namedB x.bands r.band = false then 10 else if r.cents < 0 ∨ 1125899906842624 < r.cents then 13 else if before.any (sameR r) then 9 else 0 := by
    rw [rateErr, if_neg (by simp [q]), if_neg (by omega)]
  refine callS.pure _ (fun _ => ContainsFunc_Band _ (x.bands.map encBand) (Rd.ro (by simp)) (by simp; omega) 59 [.ptr h.length 0 0] (fun e => decide (strOf (e.getD 0 .junk) = r.band)) ?_) ?_
  · intro e he g
    obtain ⟨y, _, rfl⟩ := List.mem_map.1 he
    exact tariff_rate1 h.length y r (by simp)
  have hm : ((x.bands.map encBand).any fun e => decide (strOf (e.getD 0 .junk) = r.band)) = namedB x.bands r.band := by rw [List.any_map]; rfl
  rw [hm]
  simp
  refine ⟨fun a b => by rw [hr, if_pos ⟨a, b⟩], fun a => ⟨fun c => ?_, fun d1 d2 => ?_⟩⟩
  · rw [hr, if_neg (by rintro ⟨u, v⟩; have := a u; simp [v] at this), if_pos c]
  have hr2 : rateErr t x.bands before r = if before.any (sameR r) then 9 else 0 := by
    rw [hr, if_neg (by rintro ⟨u, v⟩; have := a u; simp [v] at this), if_neg (by omega)]
  refine callS.pure _ (fun _ => ContainsFunc_Rate _ (before.map encRate) (Rd.ro (by simp)) (by simp; omega) 60 [.ptr h.length 0 0] (fun e => sameR r (decRate e)) ?_) ?_
  · intro e he g
    obtain ⟨y, _, rfl⟩ := List.mem_map.1 he
    exact tariff_rate2 h.length y r (by simp)
  have hm2 : ((before.map encRate).any fun e => sameR r (decRate e)) = before.any (sameR r) := by rw [List.any_map]; rfl
  rw [hm2]
  generalize before.any (sameR r) = bb at *
  cases bb <;> simp [hr2]
theorem ref22_rate (i : Nat) (r : Rate) (x : Tariff) (t : Topo) (hb : x.bands.length ≤ 1000) (hx : x.rates.length ≤ 1000) (hr : x.rates[i]? = some r) (hp : t.net.pts.length ≤ 1000) (hl : t.net.lks.length ≤ 1000) (hs : t.sys.length ≤ 1000) :
    ACalls Try.prog gl 47 [.agg (encTariff x), .agg (encTopo t), .int .i64 i] h fun v h' => v = .int .i64 (rateErr t x.bands (x.rates.take i) r) ∧ h' = h := by
  refine ACalls.data (.int _ _) (ACalls.body Try.f47 _ mixed Try.func47 rfl rfl (by simp [Try.ntmps47]) ?_)
  obtain ⟨hi, hr'⟩ := List.getElem?_eq_some_iff.1 hr
  simp [hr, hi, hr']
  refine callS.pure _ (fun _ => ref22_place r t hp hl hs) ?_
  simp
  refine ⟨fun q => by simp [rateErr, q], fun q => ⟨fun c => by simp [rateErr, q, c], fun c1 c2 => ?_⟩⟩
  have hq1 : rateErr t x.bands (x.rates.take i) r = if r.band ≠ [] ∧ namedB x.bands r.band = false then 10 else if r.cents < 0 ∨ 1125899906842624 < r.cents then 13 else if (x.rates.take i).any (sameR r) then 9 else 0 := by
    rw [rateErr, if_neg (by simp [q]), if_neg (by omega)]
  refine callS.pure _ (fun _ => ref22_named x.bands r.band hb) ?_
  simp
  refine ⟨fun a b => by rw [hq1, if_pos ⟨a, b⟩], fun a => ⟨fun c => ?_, fun d1 d2 => ?_⟩⟩
  · rw [hq1, if_neg (by rintro ⟨u, v⟩; have := a u; simp [v] at this), if_pos c]
  have hr2 : rateErr t x.bands (x.rates.take i) r = if (x.rates.take i).any (sameR r) then 9 else 0 := by
    rw [hq1, if_neg (by rintro ⟨u, v⟩; have := a u; simp [v] at this), if_neg (by omega)]
  refine AWP.up mixed i (fun j fr h' => fr 2 = .int .i64 i ∧ fr 3 = .ptr h.length 0 0 ∧ fr 7 = .ptr (h.length + 2) 0 0 ∧ fr 8 = .int .i64 j ∧
    (x.rates.take i).any (sameR r) = ((x.rates.take i).drop j).any (sameR r) ∧ ∃ g, h' = h ++ .cells 4 [encTariff x] :: .cells 3 [encTopo t] :: .cells 5 [encRate r] :: g) 0 (by omega) ⟨by simp, by simp, by simp, by simp, by simp, [], by simp⟩ ?_
  rintro j fr h' hj ⟨e2, e3, e7, e8, hf, g, rfl⟩
  rcases Nat.lt_or_ge j i with hlt | hge
  · obtain ⟨y, hg, hg'⟩ := get_lt (l := x.rates) (i := j) (by omega)
    have hlt2 : j < x.rates.length := by omega
    have hd : (x.rates.take i).drop j = y :: (x.rates.take i).drop (j + 1) := drop_get (by rw [List.getElem?_take, if_pos hlt]; exact hg)
    rw [hd, List.any_cons] at hf
    have ew := wrap_succ' (i := j) (by omega)
    simp [e2, e3, e7, e8, hlt, hlt2, hg, hg', ew]
    refine ⟨fun a1 a2 a3 a4 => ?_, fun a1 => ⟨j + 1, by omega, by omega, by omega, ?_⟩⟩
    · rw [hr2, hf]; simp [sameR, a1, a2, a3, a4]
    · have hne : sameR r y = false := Bool.eq_false_iff.2 fun hh => by
        simp [sameR, and_assoc] at hh
        exact a1 hh.1 hh.2.1 hh.2.2.1 hh.2.2.2
      rw [hf, hne, Bool.false_or]
  · rw [List.drop_eq_nil_of_le (by simp; omega)] at hf
    simp [e2, e3, e7, e8, Nat.not_lt.2 hge, hr2, hf]
set_option maxHeartbeats 1000000 in
theorem tariff_Check (x : Tariff) (t : Topo) (hb : x.bands.length ≤ 1000) (hx : x.rates.length ≤ 1000) (hp : t.net.pts.length ≤ 1000) (hl : t.net.lks.length ≤ 1000) (hs : t.sys.length ≤ 1000) :
    ACalls Try.prog gl 24 [.agg (encTariff x), .agg (encTopo t)] h fun v h' => v = .int .i64 (tarErr x t) ∧ h' = h := by
  refine ACalls.data (by simp) (ACalls.body Try.f24 _ mixed Try.func24 rfl rfl (by simp [Try.ntmps24]) ?_)
  simp
  refine callS.pure _ (fun _ => span_Valid x.valid) ?_
  simp
  refine ⟨fun q => by simp [tarErr, q], fun q => ⟨fun c => by omega, fun c1 c2 => ?_⟩⟩
  have ht : tarErr x t = if bandsErr x.bands ≠ 0 then bandsErr x.bands else ratesErr t x.bands [] x.rates := by rw [tarErr, if_neg (by simp [q]), if_neg (by omega)]
  refine AWP.up mixed x.bands.length (fun i fr h' => fr 2 = .ptr h.length 0 0 ∧ fr 3 = .ptr (h.length+1) 0 0 ∧ fr 28 = .ro (x.bands.map encBand) ∧ fr 29 = .int .i64 x.bands.length ∧ fr 30 = .int .i64 i ∧ bandsErr x.bands = bandsErr (x.bands.drop i) ∧
    ∃ g, h' = h ++ .cells 4 [encTariff x] :: .cells 3 [encTopo t] :: g) 0 (by omega) ⟨by simp, by simp, by simp, by simp, by simp, by simp, [], by simp⟩ ?_
  rintro i fr h' hi ⟨e2, e3, e28, e29, e30, hf, g, rfl⟩
  rcases Nat.lt_or_ge i x.bands.length with hlt | hge
  · obtain ⟨y, hg, hg'⟩ := get_lt hlt
    rw [drop_get hg, bandsErr] at hf
    have ew := wrap_succ' (i := i) (by omega)
    simp [e2, e3, e28, e29, e30, hlt, hg, hg', ew]
    refine callS.pure _ (fun _ => text_Name y.name) ?_
    simp [e2, e3, e28, e29, e30, hlt, hg, hg', ew]
    refine ⟨fun a => ?_, fun a => ⟨fun b => ?_, fun b1 b2 b3 b4 b5 => ⟨i + 1, by omega, by omega, by omega, ?_⟩⟩⟩
    · rw [if_pos a] at hf; rw [ht, hf]; simp
    · have hv : validWB y.win = false := by rw [Bool.eq_false_iff]; intro hh; simp [validWB] at hh; omega
      rw [if_neg (by simp [a]), if_pos hv] at hf; rw [ht, hf]; simp
    · have hv : validWB y.win = true := by simp [validWB]; omega
      rw [if_neg (by simp [a]), if_neg (by simp [hv])] at hf; exact hf
  · rw [List.drop_eq_nil_of_le hge, bandsErr] at hf
    rw [hf] at ht
    have ht : tarErr x t = ratesErr t x.bands [] x.rates := by simpa using ht
    simp [e2, e3, e28, e29, e30, Nat.not_lt.2 hge]
    refine AWP.up mixed x.rates.length (fun i fr h' => fr 2 = .ptr h.length 0 0 ∧ fr 3 = .ptr (h.length+1) 0 0 ∧ fr 69 = .ro (x.rates.map encRate) ∧ fr 70 = .int .i64 x.rates.length ∧ fr 71 = .int .i64 i ∧
      ratesErr t x.bands [] x.rates = ratesErr t x.bands (x.rates.take i) (x.rates.drop i) ∧
      ∃ g, h' = h ++ .cells 4 [encTariff x] :: .cells 3 [encTopo t] :: g) 0 (by omega) ⟨by simp [e2], by simp [e3], by simp, by simp, by simp, by simp, g, by simp⟩ ?_
    clear e2 e3 e28 e29 e30 hf hi hge
    rintro i fr h' hi ⟨e2, e3, e69, e70, e71, hf, g, rfl⟩
    rcases Nat.lt_or_ge i x.rates.length with hlt | hge
    · obtain ⟨r, hg, hg'⟩ := get_lt hlt
      rw [drop_get hg, ratesErr] at hf
      have ew := wrap_succ' (i := i) (by omega)
      have htk : x.rates.take (i + 1) = x.rates.take i ++ [r] := by rw [List.take_add_one, hg]; rfl
      have hil : (i : Int) ≤ x.rates.length := by omega
      obtain ⟨A, hA⟩ : ∃ A, x.rates.take i = A := ⟨_, rfl⟩
      have hAl : A.length ≤ 1000 := by rw [← hA]; simp; omega
      have htm : (x.rates.map encRate).take i = A.map encRate := by rw [← hA, List.map_take]
      rw [hA] at hf htk
      simp [e2, e3, e69, e70, e71, hlt, hg, hg', ew, hil, hi, htm]
      refine ⟨by decide, ?_⟩
      refine callS.pure _ (fun _ => tariff_rate r A x t hAl hb hp hl hs) ?_
      simp [e2, e3, e69, e70, e71, hlt, hg, hg', ew]
      refine ⟨fun a => ?_, fun a => ⟨i+1, by omega, by omega, by omega, ?_⟩⟩
      · rw [if_pos a] at hf; rw [ht, hf]
      · rw [if_neg (by simp [a])] at hf; rw [hf, htk]
    · rw [List.drop_eq_nil_of_le hge, ratesErr] at hf
      simp [e2, e3, e69, e70, e71, Nat.not_lt.2 hge, ht, hf]
set_option maxHeartbeats 1000000 in
theorem ref22_Check (x : Tariff) (t : Topo) (hb : x.bands.length ≤ 1000) (hx : x.rates.length ≤ 1000) (hp : t.net.pts.length ≤ 1000) (hl : t.net.lks.length ≤ 1000) (hs : t.sys.length ≤ 1000) :
    ACalls Try.prog gl 25 [.agg (encTariff x), .agg (encTopo t)] h fun v h' => v = .int .i64 (tarErr x t) ∧ h' = h := by
  refine ACalls.data (.int _ _) (ACalls.body Try.f25 _ mixed Try.func25 rfl rfl (by simp [Try.ntmps25]) ?_)
  simp
  refine callS.pure _ (fun _ => ref05_Valid x.valid) ?_
  simp
  refine ⟨fun q => by simp [tarErr, q], fun q => ⟨fun c => by omega, fun c1 c2 => ?_⟩⟩
  have ht : tarErr x t = if bandsErr x.bands ≠ 0 then bandsErr x.bands else ratesErr t x.bands [] x.rates := by rw [tarErr, if_neg (by simp [q]), if_neg (by omega)]
  refine AWP.up mixed x.bands.length (fun i fr h' => fr 2 = .ptr h.length 0 0 ∧ fr 3 = .ptr (h.length+1) 0 0 ∧ fr 5 = .int .i64 i ∧ bandsErr x.bands = bandsErr (x.bands.drop i) ∧
    ∃ g, h' = h ++ .cells 4 [encTariff x] :: .cells 3 [encTopo t] :: g) 0 (by omega) ⟨by simp, by simp, by simp, by simp, [], by simp⟩ ?_
  rintro i fr h' hi ⟨e2, e3, e5, hf, g, rfl⟩
  rcases Nat.lt_or_ge i x.bands.length with hlt | hge
  · obtain ⟨y, hg, hg'⟩ := get_lt hlt
    rw [drop_get hg, bandsErr] at hf
    have ew := wrap_succ' (i := i) (by omega)
    simp [e2, e3, e5, hlt, hg, hg', ew]
    refine callS.pure _ (fun _ => ref01_Name y.name) ?_
    simp [e2, e3, e5, hlt, hg, hg', ew]
    refine ⟨fun a => ?_, fun a => ?_⟩
    · rw [if_pos a] at hf; rw [ht, hf]; simp
    refine callS.pure _ (fun _ => ref04_ValidWindow y.win) ?_
    simp [e2, e3, e5, hlt, hg, hg', ew]
    refine ⟨fun hv => ?_, fun hv => ⟨i + 1, by omega, by omega, by omega, ?_⟩⟩
    · rw [if_neg (by simp [a]), if_pos hv] at hf; rw [ht, hf]; simp
    · rw [if_neg (by simp [a]), if_neg (by simp [hv])] at hf; exact hf
  · rw [List.drop_eq_nil_of_le hge, bandsErr] at hf
    rw [hf] at ht
    have ht : tarErr x t = ratesErr t x.bands [] x.rates := by simpa using ht
    simp [e2, e3, e5, Nat.not_lt.2 hge]
    refine AWP.up mixed x.rates.length (fun i fr h' => fr 2 = .ptr h.length 0 0 ∧ fr 3 = .ptr (h.length+1) 0 0 ∧ fr 6 = .int .i64 i ∧
      ratesErr t x.bands [] x.rates = ratesErr t x.bands (x.rates.take i) (x.rates.drop i) ∧
      ∃ g, h' = h ++ .cells 4 [encTariff x] :: .cells 3 [encTopo t] :: g) 0 (by omega) ⟨by simp [e2], by simp [e3], by simp, by simp, g, by simp⟩ ?_
    clear e2 e3 e5 hf hi hge
    rintro i fr h' hi ⟨e2, e3, e6, hf, g, rfl⟩
    rcases Nat.lt_or_ge i x.rates.length with hlt | hge
    · obtain ⟨r, hg, hg'⟩ := get_lt hlt
      rw [drop_get hg, ratesErr] at hf
      have ew := wrap_succ' (i := i) (by omega)
      have htk : x.rates.take (i + 1) = x.rates.take i ++ [r] := by rw [List.take_add_one, hg]; rfl
      simp [e2, e3, e6, hlt, hg, hg', ew]
      refine callS.pure _ (fun _ => ref22_rate i r x t hb hx hg hp hl hs) ?_
      simp [e2, e3, e6, hlt, hg, hg', ew]
      refine ⟨fun a => ?_, fun a => ⟨i+1, by omega, by omega, by omega, ?_⟩⟩
      · rw [if_pos a] at hf; rw [ht, hf]
      · rw [if_neg (by simp [a])] at hf; rw [hf, htk]
    · rw [List.drop_eq_nil_of_le hge, ratesErr] at hf
      simp [e2, e3, e6, Nat.not_lt.2 hge, ht, hf]
set_option maxHeartbeats 1000000 in
theorem tariff_CheckAll (l : List Tariff) (t : Topo) (hll : l.length ≤ 1000) (hx : ∀ x ∈ l, x.bands.length ≤ 1000 ∧ x.rates.length ≤ 1000) (hp : t.net.pts.length ≤ 1000) (hl : t.net.lks.length ≤ 1000) (hs : t.sys.length ≤ 1000) :
    ACalls Try.prog gl 26 [.ro (l.map encTariff), .agg (encTopo t)] h fun r h' => r = .int .i64 (allErr l t) ∧ h' = h := by
  refine ACalls.data (by simp) (ACalls.body Try.f26 _ mixed Try.func26 rfl rfl (by simp [Try.ntmps26]) ?_)
  simp
  refine ⟨fun c => by omega, fun c => ?_⟩
  have ht : allErr l t = tarsErr t [] l := by rw [allErr, if_neg (by omega)]
  refine AWP.up mixed l.length (fun i fr h' => fr 0 = .ro (l.map encTariff) ∧ fr 3 = .ptr h.length 0 0 ∧ fr 13 = .ro (l.map encTariff) ∧ fr 14 = .int .i64 l.length ∧ fr 15 = .int .i64 i ∧
    tarsErr t [] l = tarsErr t (l.take i) (l.drop i) ∧
    ∃ g, h' = h ++ .cells 3 [encTopo t] :: g) 0 (by omega) ⟨by simp, by simp, by simp, by simp, by simp, by simp, [], by simp⟩ ?_
  rintro i fr h' hi ⟨e0, e3, e13, e14, e15, hf, g, rfl⟩
  rcases Nat.lt_or_ge i l.length with hlt | hge
  · obtain ⟨x, hg, hg'⟩ := get_lt hlt
    have hxx := hx x (List.mem_of_getElem? hg)
    rw [drop_get hg, tarsErr] at hf
    have ew := wrap_succ' (i := i) (by omega)
    have htk : l.take (i + 1) = l.take i ++ [x] := by rw [List.take_add_one, hg]; rfl
    have hil : (i : Int) ≤ l.length := by omega
    obtain ⟨A, hA⟩ : ∃ A, l.take i = A := ⟨_, rfl⟩
    have hAl : A.length = i := by rw [← hA]; simp; omega
    have htm : (l.map encTariff).take i = A.map encTariff := by rw [← hA, List.map_take]
    rw [hA] at hf htk
    simp [e0, e3, e13, e14, e15, hlt, hg, hg', ew]
    refine callS.pure _ (fun _ => tariff_Check x t hxx.1 hxx.2 hp hl hs) ?_
    simp [e0, e3, e13, e14, e15, hlt, hg, hg', ew, hil, hi, htm]
    refine ⟨fun a => ?_, fun a => ?_⟩
    · rw [if_pos a] at hf; rw [ht, hf]
    rw [if_neg (by simp [a])] at hf
    refine AWP.up mixed A.length (fun j fr h' => fr 0 = .ro (l.map encTariff) ∧ fr 3 = .ptr h.length 0 0 ∧ fr 13 = .ro (l.map encTariff) ∧ fr 14 = .int .i64 l.length ∧ fr 15 = .int .i64 i ∧
      fr 6 = .ptr (h.length + (g.length + 1)) 0 0 ∧ fr 28 = .ro (A.map encTariff) ∧ fr 29 = .int .i64 A.length ∧ fr 30 = .int .i64 j ∧ A.any (overB x) = (A.drop j).any (overB x) ∧
      ∃ g2, h' = h ++ .cells 3 [encTopo t] :: (g ++ .cells 4 [encTariff x] :: g2)) 0 (by omega) ⟨by simp [e0], by simp [e3], by simp [e13], by simp [e14], by simp [e15], by simp, by simp, by simp, by simp, by simp, [], by simp⟩ ?_
    clear e0 e3 e13 e14 e15
    rintro j fr h' hj ⟨e0, e3, e13, e14, e15, e6, e28, e29, e30, hf2, g2, rfl⟩
    rcases Nat.lt_or_ge j A.length with hlt2 | hge
    · obtain ⟨y, hq, hq'⟩ := get_lt hlt2
      rw [drop_get hq, List.any_cons] at hf2
      have ew2 := wrap_succ' (i := j) (by omega)
      simp [e0, e3, e13, e14, e15, e6, e28, e29, e30, hlt2, hq, hq', ew2]
      refine ⟨fun a1 a2 => ?_, fun a1 => ⟨j + 1, by omega, by omega, by omega, ?_⟩⟩
      · have ho : A.any (overB x) = true := by rw [hf2]; simp [overB, a1, a2]
        rw [if_pos ho] at hf; rw [ht, hf]
      · have ho : overB x y = false := by
          rw [Bool.eq_false_iff]; intro hh
          simp [overB] at hh
          have := a1 hh.1; omega
        rw [hf2, ho, Bool.false_or]
    · rw [List.drop_eq_nil_of_le hge, List.any_nil] at hf2
      rw [hf2] at hf
      simp [e0, e3, e13, e14, e15, e6, e28, e29, e30, Nat.not_lt.2 hge, ew]
      exact ⟨i + 1, by omega, by omega, by omega, by rw [hf, htk]; simp⟩
  · rw [List.drop_eq_nil_of_le hge, tarsErr] at hf
    simp [e0, e3, e13, e14, e15, Nat.not_lt.2 hge, ht, hf]
set_option maxHeartbeats 1000000 in
theorem ref22_CheckAll (l : List Tariff) (t : Topo) (hll : l.length ≤ 1000) (hx : ∀ x ∈ l, x.bands.length ≤ 1000 ∧ x.rates.length ≤ 1000) (hp : t.net.pts.length ≤ 1000) (hl : t.net.lks.length ≤ 1000) (hs : t.sys.length ≤ 1000) :
    ACalls Try.prog gl 27 [.ro (l.map encTariff), .agg (encTopo t)] h fun r h' => r = .int .i64 (allErr l t) ∧ h' = h := by
  refine ACalls.data (.int _ _) (ACalls.body Try.f27 _ mixed Try.func27 rfl rfl (by simp [Try.ntmps27]) ?_)
  simp
  refine ⟨fun c => by omega, fun c => ?_⟩
  have ht : allErr l t = tarsErr t [] l := by rw [allErr, if_neg (by omega)]
  refine AWP.up mixed l.length (fun i fr h' => fr 0 = .ro (l.map encTariff) ∧ fr 3 = .ptr h.length 0 0 ∧ fr 5 = .int .i64 i ∧
    tarsErr t [] l = tarsErr t (l.take i) (l.drop i) ∧
    ∃ g, h' = h ++ .cells 3 [encTopo t] :: g) 0 (by omega) ⟨by simp, by simp, by simp, by simp, [], by simp⟩ ?_
  rintro i fr h' hi ⟨e0, e3, e5, hf, g, rfl⟩
  rcases Nat.lt_or_ge i l.length with hlt | hge
  · obtain ⟨x, hg, hg'⟩ := get_lt hlt
    have hxx := hx x (List.mem_of_getElem? hg)
    rw [drop_get hg, tarsErr] at hf
    have ew := wrap_succ' (i := i) (by omega)
    have htk : l.take (i + 1) = l.take i ++ [x] := by rw [List.take_add_one, hg]; rfl
    simp [e0, e3, e5, hlt, hg, hg', ew]
    refine ⟨by decide, ?_⟩
    refine callS.pure _ (fun _ => ref22_Check x t hxx.1 hxx.2 hp hl hs) ?_
    simp [e0, e3, e5, hlt, hg, hg', ew]
    refine ⟨fun a => ?_, fun a => ?_⟩
    · rw [if_pos a] at hf; rw [ht, hf]
    rw [if_neg (by simp [a])] at hf
    refine AWP.up mixed i (fun j fr h' => fr 0 = .ro (l.map encTariff) ∧ fr 3 = .ptr h.length 0 0 ∧ fr 5 = .int .i64 i ∧
      fr 7 = .int .i64 j ∧ (l.take i).any (overB x) = ((l.take i).drop j).any (overB x) ∧
      ∃ g, h' = h ++ .cells 3 [encTopo t] :: g) 0 (by omega) ⟨by simp [e0], by simp [e3], by simp [e5], by simp, by simp, g, by simp⟩ ?_
    clear e0 e3 e5
    rintro j fr h' hj ⟨e0, e3, e5, e7, hf2, g, rfl⟩
    rcases Nat.lt_or_ge j i with hlt2 | hge
    · obtain ⟨y, hq, hq'⟩ := get_lt (l := l) (i := j) (by omega)
      have hlt3 : j < l.length := by omega
      have hd : (l.take i).drop j = y :: (l.take i).drop (j + 1) := drop_get (by rw [List.getElem?_take, if_pos hlt2]; exact hq)
      rw [hd, List.any_cons] at hf2
      have ew2 := wrap_succ' (i := j) (by omega)
      simp [e0, e3, e5, e7, hlt, hlt2, hlt3, hg, hg', hq, hq', ew2]
      refine ⟨by decide, fun a1 a2 => ?_, fun a1 => ⟨j + 1, by omega, by omega, by omega, ?_⟩⟩
      · have ho : (l.take i).any (overB x) = true := by rw [hf2]; simp [overB, a1, a2]
        rw [if_pos ho] at hf; rw [ht, hf]
      · have ho : overB x y = false := by
          rw [Bool.eq_false_iff]; intro hh
          simp [overB] at hh
          have := a1 hh.1; omega
        rw [hf2, ho, Bool.false_or]
    · rw [List.drop_eq_nil_of_le (by simp; omega), List.any_nil] at hf2
      rw [hf2] at hf
      simp [e0, e3, e5, e7, Nat.not_lt.2 hge, ew]
      exact ⟨i + 1, by omega, by omega, by omega, by rw [hf, htk]; simp⟩
  · rw [List.drop_eq_nil_of_le hge, tarsErr] at hf
    simp [e0, e3, e5, Nat.not_lt.2 hge, ht, hf]
end Go.Proofs.Ytcbaojkchiphkaa
