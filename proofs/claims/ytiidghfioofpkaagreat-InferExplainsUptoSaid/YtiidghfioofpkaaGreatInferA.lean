/-
  Contracts: missed points; times of a path.
  Contracts: stops, with the inferred ones; their number.
  Contracts: stops of a chain, both ways; their number.
  Contracts: equal stops and numbers; the number of inferred stops.
-/
import Derived.Test.YtiidghfioofpkaaGreatMoveA
import Derived.Test.YtiidghfioofpkaaGreatPart
import Derived.Test.YtiidghfioofpkaaGreatTollInfer
import Derived.Test.YtiidghfioofpkaaGreatTollMove
import Derived.Test.YtiidghfioofpkaaGreatTollSpan
set_option linter.unusedVariables false
set_option linter.unusedSimpArgs false
set_option maxRecDepth 100000

namespace Go.Proofs.YtiidghfioofpkaaGreat
open Go Go.Abs Go.Toll
variable {gl : Globs} {h : AHeap}

theorem validT_idem (t : Topo) : validT (validT t) = validT t := by
  by_cases hz : topoErr t = 0
  · have e : validT t = t := by rw [validT, if_pos hz]
    rw [e, e]
  · have e : validT t = topo0 := by rw [validT, if_neg hz]
    rw [e]; rfl
theorem ref20_valid (t : Topo) (hp : t.net.pts.length ≤ 1000) (hl : t.net.lks.length ≤ 1000) (hs : t.sys.length ≤ 1000) : ACalls Tryz.prog gl 31 [.agg (encTopo t)] h fun v h' => v = .agg (encTopo (validT t)) ∧ h' = h := by
  refine ACalls.fresh (ACalls.body Tryz.f31 _ mixed Tryz.func31 rfl rfl (by simp [Tryz.ntmps31]) ?_)
  simp
  refine callS.pure _ (fun _ => ref18_Check t hp hl hs) ?_
  simp
  refine ⟨fun hz => ?_, fun hz => ?_⟩
  · simp [validT, hz, topo0]
    exact .agg' (.cons .nil (.cons .nil (.cons .nil .nil)))
  · simp [validT, hz]
    exact .data _ (by simp)
theorem infer_isTime (t : Int) : ACalls Tryz.prog gl 32 [.int .i64 t] h fun x h' => x = .bool (isTimeB t) ∧ h' = h := by
  refine ACalls.body Tryz.f32 _ mixed Tryz.func32 rfl rfl (by simp [Tryz.ntmps32]) ?_
  simp [isTimeB]
def missV (v : Net) (a b : Bytes) (s t : Int) : AV := .tup [.ro ((missM v a b s t).1.map encT), .int .i64 (missM v a b s t).2]
theorem route_two {v : Net} (a b : Bytes) (s t : Int) : ((routeM v a b s t).2 ≠ 0 → (routeM v a b s t).1 = []) ∧ ((routeM v a b s t).2 = 0 → (routeM v a b s t).1 ≠ []) := by
  unfold routeM
  split
  · simp
  split
  · simp
  split
  · rename_i h; exact ⟨fun _ => rfl, fun e => absurd e h⟩
  split
  · simp
  · rename_i h; exact ⟨fun e => absurd rfl e, fun _ => h⟩
theorem inner_enc (q : List Bytes) : (List.take (q.length - 1) (List.map encT q)).tail = (innerL q).map encT := by rw [innerL, ← List.map_take, List.drop_one, List.map_tail]
set_option maxHeartbeats 2000000 in
theorem infer_Missing (t : Topo) (a b : TPass) (hp : t.net.pts.length ≤ 1000) (hl : t.net.lks.length ≤ 1000) (hs : t.sys.length ≤ 1000) : ACalls Tryz.prog gl 13 [.agg (encTopo t), .agg (encPass a), .agg (encPass b)] h fun x h' => x = missV (validT t).net a.point b.point a.time b.time ∧ h' = h := by
  refine ACalls.fresh' (ACalls.body Tryz.f13 _ mixed Tryz.func13 rfl rfl (by simp [Tryz.ntmps13]) ?_)
  have c1 := fun H : AHeap => topology_Route (gl := gl) (h := H) t a b hp hl hs
  have ok := okT t
  have h2 := route_two (v := (validT t).net) a.point b.point a.time b.time
  have hat : ∀ q ∈ (routeM (validT t).net a.point b.point a.time b.time).1, 2 ≤ q.length ∧ q.length ≤ 16 := fun q hq => ⟨(route_feas ok hq).2, by obtain ⟨l, w, hp, _⟩ := route_at ok hq; exact hp.len⟩
  unfold routeV at c1
  unfold missV missM
  generalize routeM (validT t).net a.point b.point a.time b.time = R at *
  obtain ⟨L, E⟩ := R
  simp only at c1 h2 hat
  simp
  refine callS.pure _ (fun _ => c1 _) ?_
  by_cases hE : E = 0
  · subst hE
    obtain ⟨q, r, rfl⟩ := List.exists_cons_of_ne_nil (h2.2 rfl)
    obtain ⟨hq, hq16⟩ := hat q (by simp)
    have hie := inner_enc q
    by_cases hr : r = []
    · subst hr
      have d1 : ¬ (q.length : Int) < 2 := by omega
      have d1' : ¬ q.length < 2 := by omega
      have ew : IntKind.i64.wrap ((q.length : Int) - 1) = ((q.length - 1 : Nat) : Int) := by rw [wrap64_of (by omega) (by omega)]; omega
      have hin : (List.map encT q).take (q.length - 1) = (q.take (q.length - 1)).map encT := by rw [List.map_take]
      simp [encPa, d1, d1', ew]
      rw [hie]
      refine ⟨by decide, ⟨fun s _ => rfl, by omega⟩, .data _ ?_⟩
      simp
      exact fun s hs x hx => texts_data (innerL q) (encT s) (List.mem_map_of_mem hs) x hx
    · have hrl : 1 < (q :: r).length := by have := List.length_pos_iff.2 hr; simp; omega
      have hrl' : 0 < r.length := List.length_pos_iff.2 hr
      have hr1 : (1 : Int) < (r.length : Int) + 1 := by omega
      have hr2 : ¬ ((r.length : Int) + 1 ≤ 1) := by omega
      simp [hrl, hrl', hr1, hr2]
      exact frz_err
  · obtain rfl := h2.1 hE
    simp [hE]
    exact frz_err
set_option maxHeartbeats 2000000 in
theorem ref20_Missing (t : Topo) (a b : TPass) (hp : t.net.pts.length ≤ 1000) (hl : t.net.lks.length ≤ 1000) (hs : t.sys.length ≤ 1000) : ACalls Tryz.prog gl 14 [.agg (encTopo t), .agg (encPass a), .agg (encPass b)] h fun x h' => x = missV (validT t).net a.point b.point a.time b.time ∧ h' = h := by
  refine ACalls.fresh' (ACalls.body Tryz.f14 _ mixed Tryz.func14 rfl rfl (by simp [Tryz.ntmps14]) ?_)
  have hvl := validT_len t
  have c1 := fun H : AHeap => ref18_Route (gl := gl) (h := H) (validT t) a b (by omega) (by omega) (by omega)
  rw [validT_idem] at c1
  have ok := okT t
  have h2 := route_two (v := (validT t).net) a.point b.point a.time b.time
  have hat : ∀ q ∈ (routeM (validT t).net a.point b.point a.time b.time).1, 2 ≤ q.length ∧ q.length ≤ 16 := fun q hq => ⟨(route_feas ok hq).2, by obtain ⟨l, w, hp, _⟩ := route_at ok hq; exact hp.len⟩
  unfold routeV at c1
  unfold missV missM
  generalize routeM (validT t).net a.point b.point a.time b.time = R at *
  obtain ⟨L, E⟩ := R
  simp only at c1 h2 hat
  simp
  refine ⟨by decide, ?_⟩
  refine callS.pure _ (fun _ => ref20_valid t hp hl hs) ?_
  simp
  refine callS.pure _ (fun _ => c1 _) ?_
  by_cases hE : E = 0
  · subst hE
    obtain ⟨q, r, rfl⟩ := List.exists_cons_of_ne_nil (h2.2 rfl)
    obtain ⟨hq, hq16⟩ := hat q (by simp)
    have hie := inner_enc q
    by_cases hr : r = []
    · subst hr
      have d1 : ¬ (q.length : Int) < 2 := by omega
      have d1' : ¬ q.length < 2 := by omega
      have ew : IntKind.i64.wrap ((q.length : Int) - 1) = ((q.length - 1 : Nat) : Int) := by rw [wrap64_of (by omega) (by omega)]; omega
      have hin : (List.map encT q).take (q.length - 1) = (q.take (q.length - 1)).map encT := by rw [List.map_take]
      simp [encPa, d1, d1', ew]
      rw [hie]
      refine ⟨by decide, ⟨fun s _ => rfl, by omega⟩, .data _ ?_⟩
      simp
      exact fun s hs x hx => texts_data (innerL q) (encT s) (List.mem_map_of_mem hs) x hx
    · have hrl : 1 < (q :: r).length := by have := List.length_pos_iff.2 hr; simp; omega
      have hrl' : 0 < r.length := List.length_pos_iff.2 hr
      have hr1 : (1 : Int) < (r.length : Int) + 1 := by omega
      have hr2 : ¬ ((r.length : Int) + 1 ≤ 1) := by omega
      simp [hrl, hrl', hr1, hr2]
      exact frz_err
  · obtain rfl := h2.1 hE
    simp [hE]
    exact frz_err
def timesV (v : Net) (p : List Bytes) (s t : Int) : AV := .tup [.ro ((timesM v p s t).1.map encNs), .int .i64 (timesM v p s t).2]
theorem ns_data (l : List Int) : ∀ e ∈ l.map encNs, ∀ y ∈ e, y.Data := by
  intro e he y hy
  obtain ⟨m, _, rfl⟩ := List.mem_map.1 he
  simp [encNs] at hy
  subst hy
  simp
theorem ns_n (l : List Int) : ∀ e ∈ l.map encNs, e.length = 1 := by
  intro e he
  obtain ⟨m, _, rfl⟩ := List.mem_map.1 he
  rfl
theorem timeAt_zero {v : Net} (p : List Bytes) (s t : Int) (h : lowI v p 1 = 0) : timeAt v p s t 0 = s := by rw [timeAt, h]; simp
theorem timeAt_rng {v : Net} {p : List Bytes} {s t : Int} {k : Nat} (hs : isTimeB s = true) (ht : isTimeB t = true) (hst : s ≤ t) (hle : lowI v p (k + 1) ≤ lowI v p p.length) (h0 : 1 ≤ lowI v p p.length) : s ≤ timeAt v p s t k ∧ timeAt v p s t k ≤ t := by
  have h := part_le (d := (t - s).toNat) hle h0
  unfold timeAt
  generalize (t - s).toNat * lowI v p (k + 1) / lowI v p p.length = P at *
  omega
set_option maxHeartbeats 4000000 in
theorem infer_Times (t : Topo) (p : List Bytes) (a b : Int) (hp : t.net.pts.length ≤ 1000) (hl : t.net.lks.length ≤ 1000) (hs : t.sys.length ≤ 1000) (hpl : p.length ≤ 1000000) : ACalls Tryz.prog gl 17 [.agg (encTopo t), .ro (p.map encT), .int .i64 a, .int .i64 b] h fun x h' => x = timesV (validT t).net p a b ∧ h' = h := by
  refine ACalls.fresh' (ACalls.body Tryz.f17 _ mixed Tryz.func17 rfl rfl (by simp [Tryz.ntmps17]) ?_)
  unfold timesV timesM
  by_cases c1 : 16 < p.length
  · have c1' : (16 : Int) < p.length := by omega
    simp [c1, c1']
    exact frz_err
  have c1' : ¬ (16 : Int) < p.length := by omega
  simp [c1, c1']
  refine callS.pure _ (fun _ => infer_isTime a) ?_
  cases ha : isTimeB a with
  | false =>
    simp
    refine callS.pure (.bool true) (fun c => by cases c) ?_
    simp
    exact frz_err
  | true =>
    simp
    refine callS.pure _ (fun _ => infer_isTime b) ?_
    cases hb : isTimeB b with
    | false =>
      simp
      exact frz_err
    | true =>
      by_cases hab : b < a
      · have hab' : ¬ a ≤ b := by omega
        simp [hab, hab']
        exact frz_err
      have hab' : a ≤ b := by omega
      have ra := isTime_range ha
      have rb := isTime_range hb
      simp [hab, hab']
      refine callS.pure _ (fun _ => topology_Check t hp hl hs) ?_
      by_cases hz : topoErr t = 0
      · have hv : validT t = t := by rw [validT, if_pos hz]
        have hvn : validN t.net = t.net := by rw [validN, if_pos (topoErr_net hz).1]
        have ok : NetOk t.net := netErr_ok (topoErr_net hz).1
        rw [hv]
        have c2 := fun (H : AHeap) (q : List Bytes) (hq : q.length ≤ 1000000) => graph_Bounds (gl := gl) (h := H) t.net q hp hl hq
        rw [hvn] at c2
        simp [hz]
        refine callS.pure _ (fun _ => c2 _ p hpl) ?_
        by_cases hE : (boundsM t.net p).2.2 = 0
        · obtain ⟨l1, l2, l3, l4, l5⟩ := low_all ok hE (by omega)
          have htk := fun k h1 h2 => bounds_take ok hE (k := k) h1 h2
          have c3 : ∀ (H : AHeap) (k : Nat), 1 ≤ k → k ≤ p.length → ACalls Tryz.prog gl 27 [.agg (encNet t.net), .ro ((p.map encT).take k)] H fun x h' => x = .tup [.int .i64 (lowI t.net p k : Nat), .int .i64 (boundsM t.net (p.take k)).2.1, .int .i64 0] ∧ h' = H := fun H k h1 h2 => by
            have := c2 H (p.take k) (by simp; omega)
            obtain ⟨t1, t2, _⟩ := htk k h1 h2
            rw [t1, t2, List.map_take] at this
            exact this
          obtain ⟨D, hD⟩ : ∃ D : Nat, D = (b - a).toNat := ⟨_, rfl⟩
          have ewd : IntKind.i64.wrap (b - a) = (D : Int) := by rw [wrap64_of (by omega) (by omega)]; omega
          have rng : ∀ k, 1 ≤ k → k < p.length → a ≤ timeAt t.net p a b k ∧ timeAt t.net p a b k ≤ b := fun k h1 h2 => timeAt_rng ha hb hab' (htk (k + 1) (by omega) (by omega)).2.2 (l3 (by omega))
          simp [hE]
          rw [l1]
          refine AWP.up mixed p.length (fun j fr H => fr 1 = .ro (p.map encT) ∧ fr 2 = .int .i64 a ∧ fr 3 = .int .i64 b ∧ fr 4 = .ptr h.length 0 0 ∧ fr 10 = .int .i64 (lowI t.net p p.length : Nat) ∧ 1 ≤ j ∧ fr 14 = .int .i64 (j + 1 : Nat) ∧ H[h.length]? = some (.cells 3 [encTopo t]) ∧ (∃ g, H = h ++ g) ∧ ∃ x, fr 13 = x ∧ Ls 1 (h.length + 1) H x ((timesI t.net p a b j).map encNs)) 1 l5
            ⟨by simp, by simp, by simp, by simp, by simp, by omega, by simp, by simp, by simp, _, by simp; rfl, ?_⟩ ?_
          · have e0 : timesI t.net p a b 1 = [a] := by rw [timesI_succ, timeAt_zero p a b l4]; rfl
            rw [e0]
            exact Ls.own (by simp [encNs]) (by omega) rfl (by simp)
          rintro j fr H hj ⟨e1, e2, e3, e4, e10, hj1, e14, hT, hB, x, e13, hx⟩
          have hT3 := at3 hT
          simp only [encTopo] at hT3
          have hxf := hx.rs.fix
          have hlen := hT3.2.1
          have htl := timesI_len t.net p a b j
          rcases Nat.lt_or_ge j p.length with hlt | hge
          · have hlt' : ((j + 1 : Nat) : Int) ≤ p.length := by omega
            have hlt2 : j + 1 ≤ p.length := by omega
            have ew : IntKind.i64.wrap (((j + 1 : Nat) : Int) + 1) = ((j + 1 + 1 : Nat) : Int) := by rw [wrap64_of (by omega) (by omega)]; omega
            have htn : (((j + 1 : Nat) : Int)).toNat = j + 1 := by omega
            have hsuc := timesI_succ t.net p a b j
            have hr := rng j hj1 hlt
            have ewt : IntKind.i64.wrap (a + ((D * lowI t.net p (j + 1) / lowI t.net p p.length : Nat) : Int)) = timeAt t.net p a b j := by
              have : a + ((D * lowI t.net p (j + 1) / lowI t.net p p.length : Nat) : Int) = timeAt t.net p a b j := by rw [hD]; rfl
              rw [this]
              exact wrap64_of (by omega) (by omega)
            have c5 := fun H : AHeap => infer_part (gl := gl) (h := H) D (lowI t.net p (j + 1)) (lowI t.net p p.length) (by omega) (htk (j + 1) (by omega) (by omega)).2.2 (l3 (by omega)) (by omega)
            simp [-Int.natCast_add, -appendOk, -appendK, -acells, -AV.solid, e1, e2, e3, e4, e10, e14, e13, hlt', hlt2, hT3, hxf, htn]
            refine ⟨by decide, ?_⟩
            refine ⟨fun s _ => rfl, ?_⟩
            refine callS.pure _ (fun _ => c3 _ (j + 1) (by omega) (by omega)) ?_
            simp [-Int.natCast_add, -Int.natCast_ediv, -Int.natCast_mul, -appendOk, -appendK, -acells, -AV.solid, e1, e2, e3, e4, e10, e14, e13, hT3, hxf, ewd]
            refine callS.pure _ (fun _ => c5 _) ?_
            simp [-Int.natCast_add, -Int.natCast_ediv, -Int.natCast_mul, -appendOk, -appendK, -acells, -AV.solid, e1, e2, e3, e4, e10, e14, e13, hT3, hxf, ewd, ewt]
            refine append_new (lo := h.length + 1) (n := 1) (es := (timesI t.net p a b j).map encNs) (ys := [encNs (timeAt t.net p a b j)]) (by simpa [encNs] using hx.more _) (by simp; omega) (by simp [appOk, encNs]) (by simp; omega) ?_
            intro s1 H1 hs1 hg1 hn1
            have hs1f := hs1.rs.fix
            have hB1 := hg1.base h (by omega) (base_more hB _)
            have hT1 := hg1.keep _ _ (at_more hT _) fun off len e => by have := hx.above _ _ _ e; omega
            simp [-Int.natCast_add, -Int.natCast_ediv, -Int.natCast_mul, -appendOk, -appendK, -acells, -AV.solid, e1, e2, e3, e4, e10, e14, hs1f, ew]
            exact ⟨j + 1, by omega, by omega, by omega, by omega, hT1, hB1, by rw [hsuc]; simpa using hs1⟩
          · have hge' : ¬ ((j + 1 : Nat) : Int) ≤ p.length := by omega
            have hge2 : ¬ j + 1 ≤ p.length := by omega
            obtain rfl : j = p.length := by omega
            rw [timesI_all] at hx
            simp [-Int.natCast_add, e1, e2, e3, e4, e10, e14, e13, hge', hge2, hxf]
            exact ⟨hB, .tup' (.cons (hx.frz (by omega) (ns_data _)) (.cons (.data _ (by simp)) .nil))⟩
        · simp [hE]
          exact frz_err
      · have hv : validT t = topo0 := by rw [validT, if_neg hz]
        rw [hv]
        have hb0 : ∀ q : List Bytes, boundsM ⟨[], []⟩ q = (0, 0, 16) := fun q => by
          cases q with
          | nil => rfl
          | cons x q => exact boundsM_bad (by simp) ⟨x, by simp, rfl⟩
        have c2 := fun (H : AHeap) => graph_Bounds (gl := gl) (h := H) ⟨[], []⟩ p (by simp) (by simp) hpl
        have hvn : validN ⟨[], []⟩ = ⟨[], []⟩ := by decide
        rw [hvn, hb0] at c2
        have c3 : ∀ H : AHeap, ACalls Tryz.prog gl 27 [.agg [.nil, .nil], .ro (p.map encT)] H fun x h' => x = .tup [.int .i64 0, .int .i64 0, .int .i64 16] ∧ h' = H := fun H =>
          ACalls.lend [] (.cons (.agg' (.cons .nil (.cons .nil .nil))) (.cons (.same _) .nil)) (c2 H)
        have hbt : boundsM topo0.net p = (0, 0, 16) := hb0 p
        simp [hz, hbt]
        refine callS.pure _ (fun _ => c3 _) ?_
        simp
        exact frz_err
set_option maxHeartbeats 4000000 in
theorem ref20_Times (t : Topo) (p : List Bytes) (a b : Int) (hp : t.net.pts.length ≤ 1000) (hl : t.net.lks.length ≤ 1000) (hs : t.sys.length ≤ 1000) (hpl : p.length ≤ 1000000) : ACalls Tryz.prog gl 18 [.agg (encTopo t), .ro (p.map encT), .int .i64 a, .int .i64 b] h fun x h' => x = timesV (validT t).net p a b ∧ h' = h := by
  refine ACalls.fresh' (ACalls.body Tryz.f18 _ mixed Tryz.func18 rfl rfl (by simp [Tryz.ntmps18]) ?_)
  unfold timesV timesM
  by_cases c1 : 16 < p.length
  · have c1' : (16 : Int) < p.length := by omega
    simp [c1, c1']
    exact frz_err
  have c1' : ¬ (16 : Int) < p.length := by omega
  simp [c1, c1']
  refine callS.pure _ (fun _ => ref04_IsTime a) ?_
  cases ha : isTimeB a with
  | false =>
    simp
    refine callS.pure (.bool true) (fun c => by cases c) ?_
    simp
    exact frz_err
  | true =>
    simp
    refine callS.pure _ (fun _ => ref04_IsTime b) ?_
    cases hb : isTimeB b with
    | false =>
      simp
      exact frz_err
    | true =>
      by_cases hab : b < a
      · have hab' : ¬ a ≤ b := by omega
        simp [hab, hab']
        exact frz_err
      have hab' : a ≤ b := by omega
      have ra := isTime_range ha
      have rb := isTime_range hb
      simp [hab, hab']
      refine callS.pure _ (fun _ => ref20_valid t hp hl hs) ?_
      have hv := validT_len t
      have hvn := validN_T t
      have ok := okT t
      generalize validT t = V at *
      have c2 := fun (H : AHeap) (q : List Bytes) (hq : q.length ≤ 1000000) => ref07_Bounds (gl := gl) (h := H) V.net q (by omega) (by omega) hq
      rw [hvn] at c2
      simp
      refine callS.pure _ (fun _ => c2 _ p hpl) ?_
      by_cases hE : (boundsM V.net p).2.2 = 0
      · obtain ⟨l1, l2, l3, l4, l5⟩ := low_all ok hE (by omega)
        have htk := fun k h1 h2 => bounds_take ok hE (k := k) h1 h2
        have c3 : ∀ (H : AHeap) (k : Nat), 1 ≤ k → k ≤ p.length → ACalls Tryz.prog gl 36 [.agg (encNet V.net), .ro ((p.map encT).take k)] H fun x h' => x = .tup [.int .i64 (lowI V.net p k : Nat), .int .i64 (boundsM V.net (p.take k)).2.1, .int .i64 0] ∧ h' = H := fun H k h1 h2 => by
          have := c2 H (p.take k) (by simp; omega)
          obtain ⟨t1, t2, _⟩ := htk k h1 h2
          rw [t1, t2, List.map_take] at this
          exact this
        obtain ⟨D, hD⟩ : ∃ D : Nat, D = (b - a).toNat := ⟨_, rfl⟩
        have ewd : IntKind.i64.wrap (b - a) = (D : Int) := by rw [wrap64_of (by omega) (by omega)]; omega
        have rng : ∀ k, 1 ≤ k → k < p.length → a ≤ timeAt V.net p a b k ∧ timeAt V.net p a b k ≤ b := fun k h1 h2 => timeAt_rng ha hb hab' (htk (k + 1) (by omega) (by omega)).2.2 (l3 (by omega))
        simp [hE]
        rw [l1]
        refine AWP.up mixed p.length (fun j fr H => fr 1 = .ro (p.map encT) ∧ fr 2 = .int .i64 a ∧ fr 3 = .int .i64 b ∧ fr 10 = .ptr (h.length + 1) 0 0 ∧ fr 11 = .int .i64 (lowI V.net p p.length : Nat) ∧ 1 ≤ j ∧ fr 15 = .int .i64 j ∧ H[h.length + 1]? = some (.cells 2 [encNet V.net]) ∧ (∃ g, H = h ++ g) ∧ ∃ x, fr 14 = x ∧ Ls 1 (h.length + 2) H x ((timesI V.net p a b j).map encNs)) 1 l5
          ⟨by simp, by simp, by simp, by simp, by simp, by omega, by simp, by simp, by simp, _, by simp; rfl, ?_⟩ ?_
        · have e0 : timesI V.net p a b 1 = [a] := by rw [timesI_succ, timeAt_zero p a b l4]; rfl
          rw [e0]
          exact Ls.own (by simp [encNs]) (by omega) rfl (by simp)
        rintro j fr H hj ⟨e1, e2, e3, e10, e11, hj1, e15, hT, hB, x, e14, hx⟩
        have hT3 := at3 hT
        simp only [encNet] at hT3
        have hxf := hx.rs.fix
        have hlen := hT3.2.1
        have htl := timesI_len V.net p a b j
        rcases Nat.lt_or_ge j p.length with hlt | hge
        · have hlt2 : j + 1 ≤ p.length := by omega
          have ew : IntKind.i64.wrap ((j : Int) + 1) = ((j + 1 : Nat) : Int) := wrap_succ' (by omega)
          have htn : (((j + 1 : Nat) : Int)).toNat = j + 1 := by omega
          have hlt' : ((j + 1 : Nat) : Int) ≤ p.length := by omega
          have hsuc := timesI_succ V.net p a b j
          have hr := rng j hj1 hlt
          have ewt : IntKind.i64.wrap (a + ((D * lowI V.net p (j + 1) / lowI V.net p p.length : Nat) : Int)) = timeAt V.net p a b j := by
            have : a + ((D * lowI V.net p (j + 1) / lowI V.net p p.length : Nat) : Int) = timeAt V.net p a b j := by rw [hD]; rfl
            rw [this]
            exact wrap64_of (by omega) (by omega)
          have c5 := fun H : AHeap => ref20_part (gl := gl) (h := H) D (lowI V.net p (j + 1)) (lowI V.net p p.length) (by omega) (htk (j + 1) (by omega) (by omega)).2.2 (l3 (by omega)) (by omega)
          simp [-Int.natCast_add, -appendOk, -appendK, -acells, -AV.solid, e1, e2, e3, e10, e11, e14, e15, hlt, hlt', hlt2, hT3, hxf, htn, ew]
          refine ⟨by decide, ?_⟩
          refine ⟨fun s _ => rfl, ?_⟩
          refine callS.pure _ (fun _ => c3 _ (j + 1) (by omega) (by omega)) ?_
          simp [-Int.natCast_add, -Int.natCast_ediv, -Int.natCast_mul, -appendOk, -appendK, -acells, -AV.solid, e1, e2, e3, e10, e11, e14, e15, hT3, hxf, ewd, ew]
          refine callS.pure _ (fun _ => c5 _) ?_
          simp [-Int.natCast_add, -Int.natCast_ediv, -Int.natCast_mul, -appendOk, -appendK, -acells, -AV.solid, e1, e2, e3, e10, e11, e14, e15, hT3, hxf, ewd, ewt, ew]
          refine append_new (lo := h.length + 2) (n := 1) (es := (timesI V.net p a b j).map encNs) (ys := [encNs (timeAt V.net p a b j)]) (by simpa [encNs] using hx.more _) (by simp; omega) (by simp [appOk, encNs]) (by simp; omega) ?_
          intro s1 H1 hs1 hg1 hn1
          have hs1f := hs1.rs.fix
          have hB1 := hg1.base h (by omega) (base_more hB _)
          have hT1 := hg1.keep _ _ (at_more hT _) fun off len e => by have := hx.above _ _ _ e; omega
          simp [-Int.natCast_add, -Int.natCast_ediv, -Int.natCast_mul, -appendOk, -appendK, -acells, -AV.solid, e1, e2, e3, e10, e11, e15, hs1f, ew]
          exact ⟨j + 1, by omega, by omega, by omega, by omega, hT1, hB1, by rw [hsuc]; simpa using hs1⟩
        · have hge' : ¬ (j : Int) < p.length := by omega
          obtain rfl : j = p.length := by omega
          rw [timesI_all] at hx
          simp [-Int.natCast_add, e1, e2, e3, e10, e11, e14, e15, hge', hxf]
          exact ⟨hB, .tup' (.cons (hx.frz (by omega) (ns_data _)) (.cons (.data _ (by simp)) .nil))⟩
      · simp [hE]
        exact frz_err
end Go.Proofs.YtiidghfioofpkaaGreat

namespace Go.Proofs.YtiidghfioofpkaaGreat
open Go Go.Abs Go.Toll
variable {gl : Globs} {h : AHeap}

theorem kind_zero (t : Topo) (s : Bytes) : kindOf t s = 0 ↔ hasPt (validT t).net.pts s = false := by
  rw [kindOf, findPt, if_pos (validT_net t)]
  cases hf : (validT t).net.pts.find? fun p => decide (p.name = s) with
  | none =>
    refine ⟨fun _ => ?_, fun _ => rfl⟩
    rw [hasPt, List.any_eq_false]
    intro p hp
    simpa using List.find?_eq_none.1 hf p hp
  | some p =>
    have hm := List.mem_of_find?_eq_some hf
    have he := List.find?_some hf
    have h1 := (netErr_kinds (validT_net t) p hm).2.1
    have : hasPt (validT t).net.pts s = true := by rw [hasPt, List.any_eq_true]; exact ⟨p, hm, he⟩
    rw [this]
    simp
    omega
theorem copy_rs {P : Program} {t u : TypeId} {n b off len : Nat} {H : AHeap} {x : AV} {es ys : List (List AV)} {k : AV → AHeap → Prop} (r : Rs n H x ys) (hk : match (tinfo P t).kind with | .slice e => (tinfo P e).ok = true ∧ (tinfo P e).cells = n ∧ 0 < n | _ => False)
    (hb : H[b]? = some (.cells n es)) (ho : off + len ≤ es.length) (hl : ys.length ≤ len) (hc : k (.int .i64 ys.length) (H.set b (.cells n (es.take off ++ ys ++ es.drop (off + ys.length))))) : copyOk P H [t, u] (.own b off len) x ∧ copyK n H (.own b off len) x k := by
  have hcb : hcells H b = es := by rw [hcells, hb]
  have hsb : hsz H b = n := by rw [hsz, hb]
  unfold copyOk copyK
  simp only
  split at hk
  · obtain ⟨h1, h2, h3⟩ := hk
    simp only [*]
    rw [r.aelems]
    exact ⟨⟨trivial, trivial, r.slOk, r.len, trivial, trivial, hl⟩, hc⟩
  · exact hk.elim
theorem infer_check (t : Topo) (l : List TPass) (hp : t.net.pts.length ≤ 1000) (hl : t.net.lks.length ≤ 1000) (hs : t.sys.length ≤ 1000) (hn : l.length ≤ 1000000) : ACalls Tryz.prog gl 38 [.agg (encTopo t), .ro (l.map encPass)] h fun x h' => x = .int .i64 (stopErr (validT t).net l) ∧ h' = h := by
  refine ACalls.data (by simp) (ACalls.body Tryz.f38 _ mixed Tryz.func38 rfl rfl (by simp [Tryz.ntmps38]) ?_)
  by_cases c1 : 1024 < l.length
  · have c1' : (1024 : Int) < l.length := by omega
    simp [stopErr, c1, c1']
  have c1' : ¬ (1024 : Int) < l.length := by omega
  simp [stopErr, c1, c1']
  refine AWP.up mixed l.length (fun i fr H => fr 1 = .ro (l.map encPass) ∧ fr 2 = .ptr h.length 0 0 ∧ fr 10 = .ro (l.map encPass) ∧ fr 11 = .int .i64 l.length ∧ fr 12 = .int .i64 i ∧ passErr (validT t).net none l = passErr (validT t).net (befI l i) (l.drop i) ∧ ∃ g, H = h ++ .cells 3 [encTopo t] :: g) 0 (by omega)
    ⟨by simp, by simp, by simp, by simp, by simp, by simp [befI], [], by simp⟩ ?_
  rintro i fr H hi ⟨e1, e2, e10, e11, e12, he, g, rfl⟩
  rw [he]
  rcases Nat.lt_or_ge i l.length with hlt | hge
  · obtain ⟨p, hg, hg'⟩ := get_lt hlt
    have ew := wrap_succ' (i := i) (by omega)
    have hk := kind_zero t p.point
    rw [passErr_step hg] at he ⊢
    simp [e1, e2, e10, e11, e12, hlt, hg, hg', ew]
    refine callS.pure _ (fun _ => topology_Kind t p.point hp hl hs) ?_
    cases hpt : hasPt (validT t).net.pts p.point with
    | false =>
      rw [hpt] at hk
      simp [hk.2 rfl]
    | true =>
      rw [hpt] at hk
      have hk0 : ¬ kindOf t p.point = 0 := fun c => by simpa using hk.1 c
      simp [hk0]
      refine callS.pure _ (fun _ => infer_isTime p.time) ?_
      cases hti : isTimeB p.time with
      | false => simp
      | true =>
        simp
        cases i with
        | zero =>
          simp [befI, e1, e2, e10, e11, e12, hg]
          refine ⟨by decide, ?_⟩
          exact ⟨1, by omega, by omega, by decide, by simp [hg]⟩
        | succ j =>
          obtain ⟨q, hq, hq'⟩ := get_lt (l := l) (i := j) (by omega)
          have hj : j < l.length := by omega
          have w1 : IntKind.i64.wrap (((j + 1 : Nat) : Int) - 1) = (j : Int) := by rw [wrap64_of (by omega) (by omega)]; omega
          have w1' : IntKind.i64.wrap ((j : Int) + 1 - 1) = (j : Int) := by rw [wrap64_of (by omega) (by omega)]; omega
          have hpos : (0 : Int) < (j : Int) + 1 := by omega
          have w0 : IntKind.i64.wrap (j : Int) = (j : Int) := wrap64_of (by omega) (by omega)
          have w2 : IntKind.i64.wrap ((j : Int) + 1 + 1) = ((j + 1 + 1 : Nat) : Int) := by rw [wrap64_of (by omega) (by omega)]; omega
          simp [befI, e1, e2, e10, e11, e12, hg, hq, hq', hj, w1, w1', hpos, w0, w2]
          exact ⟨by decide, fun c d => by omega, fun c => ⟨j + 1 + 1, by omega, by omega, by omega, by rw [if_neg (by omega)]; simp [hg]⟩⟩
  · obtain rfl : i = l.length := by omega
    simp [e1, e2, e10, e11, e12, passErr]

theorem infer_join {a b : List (List AV)} {x y : AV} (hx : Rs 3 h x a) (hy : Rs 3 h y b) (ha : a.length ≤ 1000000) (hb : b.length ≤ 1000000) : ACalls Tryz.prog gl 40 [x, y] h fun v h' => v = .own h.length 0 (a.length + b.length) ∧ h' = h ++ [.cells 3 (a ++ b)] := by
  refine ACalls.body Tryz.f40 _ mixed Tryz.func40 rfl rfl (by simp [Tryz.ntmps40]) ?_
  have fx := hx.fix
  have fy := hy.fix
  have lx := hx.len2
  have ly := hy.len2
  have ew : IntKind.i64.wrap ((a.length : Int) + (b.length : Int)) = ((a.length + b.length : Nat) : Int) := by rw [wrap64_of (by omega) (by omega)]; omega
  simp [-copyOk, -copyK, -Int.natCast_add, fx, fy, lx, ly, ew]
  refine ⟨by omega, ?_⟩
  obtain ⟨Z, hZ⟩ : ∃ Z : List (List AV), Z = List.replicate (a.length + b.length) [AV.str [], AV.int IntKind.i64 0, AV.str []] := ⟨_, rfl⟩
  have hZl : Z.length = a.length + b.length := by rw [hZ]; simp
  rw [← hZ]
  refine copy_rs (es := Z) (hx.append _) (by simp) (by simp) (by omega) (by omega) ?_
  have hy2 := hy.append [.cells 3 (a ++ Z.drop a.length)]
  have ly2 := hy2.len2
  have hl1 : (a.length : Int) ≤ ((a.length + b.length : Nat) : Int) := by omega
  have hdl : (Z.drop a.length).length = b.length := by rw [List.length_drop]; omega
  simp [-copyOk, -copyK, -Int.natCast_add, fx, fy, lx, ly, ly2, hl1, hdl]
  refine copy_rs (es := a ++ Z.drop a.length) hy2 (by simp) (by simp) (by simp [hdl]) (by omega) ?_
  simp [hdl]
  omega

/-! ### Stops between two passages -/
theorem r10 : List.range 10 = [0,1,2,3,4,5,6,7,8,9] := rfl
def lxBt : Nat → Option RMode := fun id => if id = 4 then some (.perm [([0, 1, 2, 3, 4, 5, 6, 7, 8, 9], [(6, 0), (6, 3)]), ([0, 1, 2, 3, 5, 6, 7, 4, 8, 9], [(5, 0)]), ([0, 1, 3, 5, 6, 7, 2, 4, 8, 9], [(1, 6)])]) else none
theorem permAll_cut {P : Program} {N : Nat} {ops : Array Oper} {K : AFrame → AHeap → Prop} {fr : AFrame} {h : AHeap} {ps : List (List Nat × List (Nat × Nat))} (I : AFrame → AHeap → Prop) (h0 : I fr h) (k : ∀ fr h, I fr h → permAll P gl N ops K fr h ps) : permAll P gl N ops K fr h ps := k fr h h0
theorem miss_nz {v : Net} {a b : Bytes} {s t : Int} (h : (missM v a b s t).2 ≠ 0) : (missM v a b s t).1 = [] := by
  unfold missM at h ⊢
  split
  · rfl
  · split
    · rfl
    · rename_i h1 h2
      rw [if_neg h1, if_neg h2] at h
      exact absurd rfl h
theorem timesL_get {v : Net} {p : List Bytes} {s t : Int} {k : Nat} (h : k < p.length) : (timesL v p s t)[k]? = some (timeAt v p s t k) := by simp [timesL, h]
theorem timesL_len (v : Net) (p : List Bytes) (s t : Int) : (timesL v p s t).length = p.length := by simp [timesL]
set_option maxHeartbeats 8000000 in
theorem infer_between (t : Topo) (a b : TPass) (hp : t.net.pts.length ≤ 1000) (hl : t.net.lks.length ≤ 1000) (hs : t.sys.length ≤ 1000) : ACalls Tryz.prog gl 39 [.agg (encTopo t), .agg (encPass a), .agg (encPass b)] h fun x h' => Ls 3 h.length h' x ((betwM (validT t).net a b).map encStop) ∧ ∃ g, h' = h ++ g := by
  refine ACalls.bodyN lxBt Tryz.f39 _ mixed Tryz.func39 rfl rfl (by simp [Tryz.ntmps39]) ?_
  have ok := okT t
  have c1 := fun H : AHeap => infer_Missing (gl := gl) (h := H) t a b hp hl hs
  have c2 := fun (H : AHeap) (p : List Bytes) => infer_Times (gl := gl) (h := H) t p a.time b.time hp hl hs
  have hnz := fun h => miss_nz (v := (validT t).net) (a := a.point) (b := b.point) (s := a.time) (t := b.time) h
  have hok := fun h => miss_ok ok (a := a.point) (b := b.point) (s := a.time) (t := b.time) h
  unfold missV at c1
  unfold betwM
  generalize missM (validT t).net a.point b.point a.time b.time = M at *
  obtain ⟨m, E⟩ := M
  simp only at c1 hnz hok
  simp [lxBt, -awp_drawN]
  refine callS.pure _ (fun _ => c1 _) ?_
  by_cases hE : E = 0
  · subst hE
    obtain ⟨o1, o2, o3, o4, o5, o6, _⟩ := hok rfl
    by_cases hm : m = []
    · subst hm
      simp [betwI]
      exact Ls.nil
    · have hm1 : 0 < m.length := List.length_pos_iff.2 hm
      have hm2 : m.length ≤ 14 := by simp at o2; omega
      have hm3 : ¬ ((m.length : Int) = 0) := by omega
      obtain ⟨path, hpath⟩ : ∃ path, path = a.point :: (m ++ [b.point]) := ⟨_, rfl⟩
      have hpl : path.length = m.length + 2 := by rw [hpath]; simp
      rw [← hpath] at o1 o2 o6
      simp [hm, hm3, -awp_drawN]
      rw [awp_drawN]
      simp only [lxBt, if_true]
      refine ⟨by decide, ?_⟩
      generalize hK : AThen _ _ Exit.normal = K
      have key : ∀ fr' h' x, fr' 3 = .ptr h.length 0 0 → fr' 4 = .ptr (h.length + 1) 0 0 → fr' 5 = .ptr (h.length + 2) 0 0 → fr' 7 = .ro (m.map encT) → fr' 9 = x → Ls 1 (h.length + 3) h' x (path.map encT) →
          h'[h.length]? = some (.cells 3 [encTopo t]) → h'[h.length + 1]? = some (.cells 8 [encPass a]) → h'[h.length + 2]? = some (.cells 8 [encPass b]) → (∃ g, h' = h ++ g) → K fr' h' := by
        rintro fr H x e3 e4 e5 e7 e9 hx hT hA hB hBase
        rw [← hK]
        have hT3 := at3 hT
        have hA3 := at3 hA
        have hB3 := at3 hB
        simp only [encTopo, encPass_eq] at hT3 hA3 hB3
        have hlen := hB3.2.1
        have hxf := hx.rs.fix
        obtain ⟨ks, hks, hfr⟩ := hx.lend
        simp [-appendOk, -appendK, -acells, -AV.solid, e3, e4, e5, e7, e9, hT3, hA3, hB3, hxf]
        have hbk : ∀ b ∈ ks, h.length ≤ b := fun b hb => by have := (hks b hb).1; omega
        have hcall : ∀ H' : AHeap, ACalls Tryz.prog gl 17 [.agg (encTopo t), .ro (path.map encT), .int .i64 a.time, .int .i64 b.time] H' fun x h' => x = .tup [.ro ((timesL (validT t).net path a.time b.time).map encNs), .int .i64 0] ∧ h' = H' := fun H' => by
          have := c2 H' path (by omega)
          rw [timesV, o6] at this
          exact this
        refine callS.any (ACalls.lend ks (.cons (.same _) (.cons hfr (.cons (.same _) (.cons (.same _) .nil)))) (hcall _)) ?_
        rintro r H2 ⟨rfl, rfl⟩
        have hBase2 : ∃ g, killL H ks = h ++ g := by obtain ⟨g, e⟩ := hBase; rw [e]; exact killL_base ks h g hbk
        obtain ⟨H3, hH3⟩ : ∃ H3, H3 = killL H ks := ⟨_, rfl⟩
        rw [← hH3] at hBase2 ⊢
        have hlen2 : H3.length = H.length := by rw [hH3]; exact killL_len _ _
        have htl := timesL_len (validT t).net path a.time b.time
        obtain ⟨TL, hTL⟩ : ∃ TL, TL = timesL (validT t).net path a.time b.time := ⟨_, rfl⟩
        rw [← hTL] at htl ⊢
        have htg : ∀ k, k < path.length → TL[k]? = some (timeAt (validT t).net path a.time b.time k) := fun k hk => by rw [hTL]; exact timesL_get hk
        simp [-appendOk, -appendK, -acells, -AV.solid, e3, e4, e5, e7]
        refine AWP.upN lxBt mixed m.length (fun k fr H => fr 49 = .ro (m.map encT) ∧ fr 50 = .int .i64 m.length ∧ fr 51 = .int .i64 k ∧ fr 10 = .ro (TL.map encNs) ∧ (∃ g, H = h ++ g) ∧ ∃ x, fr 11 = x ∧ Ls 3 h.length H x ((betwI (validT t).net m a b k).map encStop)) 0 (by omega)
          ⟨by simp, by simp, by simp, by simp, hBase2, _, by simp; rfl, by simpa [betwI] using Ls.nil⟩ ?_
        rintro k fr H hk ⟨f49, f50, f51, f10, hBa, y, f11, hy⟩
        have hyf := hy.rs.fix
        have hyl := betwI_len (validT t).net m a b k
        rcases Nat.lt_or_ge k m.length with hlt | hge
        · obtain ⟨q, hq, hq'⟩ := get_lt hlt
          have ew := wrap_succ' (i := k) (by omega)
          have hqd : m.getD k [] = q := by rw [List.getD_eq_getElem?_getD, hq]; rfl
          have hsuc := betwI_succ (validT t).net m a b k
          rw [hqd, ← hpath] at hsuc
          have ht2 := htg (k + 1) (by omega)
          have ht2' := (List.getElem?_eq_some_iff.1 ht2).2
          have hkl : k + 1 < TL.length := by omega
          have hlh := base_len hBa
          simp [-Int.natCast_add, -appendOk, -appendK, encT, encNs, f49, f50, f51, f10, f11, hlt, hq, hq', ew, ht2, ht2', hkl, hyf]
          refine append_new (lo := h.length) (n := 3) (es := (betwI (validT t).net m a b k).map encStop) (ys := [encStop ⟨q, timeAt (validT t).net path a.time b.time (k + 1), []⟩]) (by simpa [encStop] using hy.more _) (by simp; omega) (by simp [appOk, encStop]) (by simp; omega) ?_
          intro s1 H1 hs1 hg1 hn1
          have hs1f := hs1.rs.fix
          have hB1 := hg1.base h (by omega) (base_more hBa _)
          simp [-Int.natCast_add, -appendOk, -appendK, -acells, -AV.solid, f49, f50, f51, f10, hs1f, ew]
          exact ⟨k + 1, by omega, by omega, by omega, hB1, by rw [hsuc]; simpa using hs1⟩
        · obtain rfl : k = m.length := by omega
          simp [f49, f50, f51, f10, f11, hyf]
          exact ⟨hy, hBa⟩
      refine permAll_cut (fun F H => F 3 = .ptr h.length 0 0 ∧ F 4 = .ptr (h.length + 1) 0 0 ∧ F 5 = .ptr (h.length + 2) 0 0 ∧ F 7 = .ro (m.map encT) ∧ H.length = h.length + 3 ∧ H[h.length]? = some (.cells 3 [encTopo t]) ∧ H[h.length + 1]? = some (.cells 8 [encPass a]) ∧ H[h.length + 2]? = some (.cells 8 [encPass b]) ∧ ∃ g, H = h ++ g) ⟨by simp, by simp, by simp, by simp, by simp, by simp, by simp, by simp, _, rfl⟩ ?_
      rintro F H ⟨f3, f4, f5, f7, hlH, hT, hA, hB, hBase⟩
      have hT3 := at3 hT
      have hA3 := at3 hA
      have hB3 := at3 hB
      simp only [encTopo, encPass_eq] at hT3 hA3 hB3
      rw [permAll_cons, permAll_cons, permAll_cons]
      have ep : path.map encT = [encT a.point] ++ m.map encT ++ [encT b.point] := by rw [hpath]; simp
      refine ⟨⟨by decide +kernel, ?_⟩, ⟨by decide +kernel, ?_⟩, ⟨by decide +kernel, ?_⟩, trivial⟩
      · simp [-appendOk, -appendK, permOps, permOp, lastAct, isAct, actB, r10, f3, f4, f5, f7, hT3, hA3, hB3, hlH]
        refine append_new (lo := h.length + 3) (n := 1) (es := [encT a.point]) (ys := m.map encT) (Ls.own (by simp [hlH, encT]) (by omega) rfl (by simp [encT])) (by simp; omega) (by simp [appOk, encT]) (by simp; omega) ?_
        intro s1 H1 hs1 hg1 hn1
        have hs1f := hs1.rs.fix
        have hT1 := hg1.keep _ _ (at_more hT _) fun off len e => by simp at e
        have hA1 := hg1.keep _ _ (at_more hA _) fun off len e => by simp at e
        have hB1 := hg1.keep _ _ (at_more hB _) fun off len e => by simp at e
        have hBa := hg1.base h (by omega) (base_more hBase _)
        have hB13 := at3 hB1
        simp only [encPass_eq] at hB13
        have hl1 := base_len hBa
        simp [-appendOk, -appendK, f3, f4, f5, f7, hs1f, hB13]
        refine append_new (lo := h.length + 3) (n := 1) (es := [encT a.point] ++ m.map encT) (ys := [encT b.point]) (by simpa using hs1.more _) (by simp; omega) (by simp [appOk, encT]) (by simp; omega) ?_
        intro s2 H2 hs2 hg2 hn2
        have hs2f := hs2.rs.fix
        have hne : ∀ b, b < h.length + 3 → ∀ off len, s1 ≠ .own b off len := fun b hb off len e => by have := hs1.above _ _ _ e; omega
        have hT2 := hg2.keep _ _ (at_more hT1 _) (hne _ (by omega))
        have hA2 := hg2.keep _ _ (at_more hA1 _) (hne _ (by omega))
        have hB2 := hg2.keep _ _ (at_more hB1 _) (hne _ (by omega))
        have hBa2 := hg2.base h (by omega) (base_more hBa _)
        simp [-appendOk, -appendK, f3, f4, f5, f7, hs2f, hB3]
        exact key _ _ s2 (by simp [f3]) (by simp [f4]) (by simp [f5]) (by simp [f7]) (by simp) (by rw [ep]; exact hs2) hT2 hA2 hB2 hBa2
      · simp [-appendOk, -appendK, permOps, permOp, lastAct, isAct, actB, r10, f3, f4, f5, f7, hT3, hA3, hB3, hlH]
        refine append_new (lo := h.length + 3) (n := 1) (es := [encT a.point]) (ys := m.map encT) (Ls.own (by simp [hlH, encT]) (by omega) rfl (by simp [encT])) (by simp; omega) (by simp [appOk, encT]) (by simp; omega) ?_
        intro s1 H1 hs1 hg1 hn1
        have hs1f := hs1.rs.fix
        have hne0 : ∀ b, b ≠ h.length + 3 → ∀ off len, AV.own (h.length + 3) 0 1 ≠ .own b off len := fun b hb off len e => by injection e; omega
        have hT1 := hg1.keep _ _ (at_more hT _) (hne0 _ (by omega))
        have hA1 := hg1.keep _ _ (at_more hA _) (hne0 _ (by omega))
        have hB1 := hg1.keep _ _ (at_more hB _) (hne0 _ (by omega))
        have hC1 := hg1.keep (h.length + 4) (.cells 1 [[.str b.point]]) (by simp [hlH]) (hne0 _ (by omega))
        have hC13 := at3 hC1
        have hBa := hg1.base h (by omega) (base_more hBase _)
        have hl1 := base_len hBa
        simp [-appendOk, -appendK, f3, f4, f5, f7, hs1f]
        refine append_new (lo := h.length + 3) (n := 1) (es := [encT a.point] ++ m.map encT) (ys := [encT b.point]) hs1 (by have := hC13.2.1; omega) (by simp [appOk, encT, hC13]) (by simp; omega) ?_
        intro s2 H2 hs2 hg2 hn2
        have hs2f := hs2.rs.fix
        have hne : ∀ b, b < h.length + 3 → ∀ off len, s1 ≠ .own b off len := fun b hb off len e => by have := hs1.above _ _ _ e; omega
        have hT2 := hg2.keep _ _ hT1 (hne _ (by omega))
        have hA2 := hg2.keep _ _ hA1 (hne _ (by omega))
        have hB2 := hg2.keep _ _ hB1 (hne _ (by omega))
        have hBa2 := hg2.base h (by omega) hBa
        simp [-appendOk, -appendK, f3, f4, f5, f7, hs2f, hT3, hA3, hB3, hlH]
        exact key _ _ s2 (by simp [f3]) (by simp [f4]) (by simp [f5]) (by simp [f7]) (by simp) (by rw [ep]; exact hs2) hT2 hA2 hB2 hBa2
      · simp [-appendOk, -appendK, permOps, permOp, lastAct, isAct, actB, r10, f3, f4, f5, f7, hT3, hA3, hB3, hlH]
        refine append_new (lo := h.length + 3) (n := 1) (es := [encT a.point]) (ys := m.map encT) (Ls.own (by simp [hlH, encT]) (by omega) rfl (by simp [encT])) (by simp; omega) (by simp [appOk, encT]) (by simp; omega) ?_
        intro s1 H1 hs1 hg1 hn1
        have hs1f := hs1.rs.fix
        have hne0 : ∀ b, b ≠ h.length + 3 + 1 → ∀ off len, AV.own (h.length + 3 + 1) 0 1 ≠ .own b off len := fun b hb off len e => by injection e; omega
        have hT1 := hg1.keep _ _ (at_more hT _) (hne0 _ (by omega))
        have hA1 := hg1.keep _ _ (at_more hA _) (hne0 _ (by omega))
        have hB1 := hg1.keep _ _ (at_more hB _) (hne0 _ (by omega))
        have hC1 := hg1.keep (h.length + 3) (.cells 1 [[.str b.point]]) (by simp [hlH]) (hne0 _ (by omega))
        have hC13 := at3 hC1
        have hBa := hg1.base h (by omega) (base_more hBase _)
        have hl1 := base_len hBa
        simp [-appendOk, -appendK, f3, f4, f5, f7, hs1f]
        refine append_new (lo := h.length + 3) (n := 1) (es := [encT a.point] ++ m.map encT) (ys := [encT b.point]) hs1 (by have := hC13.2.1; omega) (by simp [appOk, encT, hC13]) (by simp; omega) ?_
        intro s2 H2 hs2 hg2 hn2
        have hs2f := hs2.rs.fix
        have hne : ∀ b, b < h.length + 3 → ∀ off len, s1 ≠ .own b off len := fun b hb off len e => by have := hs1.above _ _ _ e; omega
        have hT2 := hg2.keep _ _ hT1 (hne _ (by omega))
        have hA2 := hg2.keep _ _ hA1 (hne _ (by omega))
        have hB2 := hg2.keep _ _ hB1 (hne _ (by omega))
        have hBa2 := hg2.base h (by omega) hBa
        simp [-appendOk, -appendK, f3, f4, f5, f7, hs2f, hT3, hA3, hB3, hlH]
        exact key _ _ s2 (by simp [f3]) (by simp [f4]) (by simp [f5]) (by simp [f7]) (by simp) (by rw [ep]; exact hs2) hT2 hA2 hB2 hBa2
  · obtain rfl := hnz hE
    simp [hE]
    exact Ls.nil
end Go.Proofs.YtiidghfioofpkaaGreat

namespace Go.Proofs.YtiidghfioofpkaaGreat
open Go Go.Abs Go.Toll
variable {gl : Globs} {h : AHeap}

/-! ### Stops -/
def stopsV (v : Net) (l : List TPass) : AV := .tup [.ro ((stopsM v l).1.map encStop), .int .i64 (stopsM v l).2]
theorem stops_data (l : List TStop) : ∀ e ∈ l.map encStop, ∀ y ∈ e, y.Data := by
  intro e he y hy
  obtain ⟨m, _, rfl⟩ := List.mem_map.1 he
  simp [encStop] at hy
  rcases hy with rfl | rfl | rfl <;> simp
def lxS : Nat → Option (Nat × List (Nat × Nat)) := fun id => if id = 10 then some (7, []) else none
set_option maxHeartbeats 4000000 in
theorem infer_Stops (t : Topo) (l : List TPass) (hp : t.net.pts.length ≤ 1000) (hl : t.net.lks.length ≤ 1000) (hs : t.sys.length ≤ 1000) (hn : l.length ≤ 1000000) : ACalls Tryz.prog gl 20 [.agg (encTopo t), .ro (l.map encPass)] h fun x h' => x = stopsV (validT t).net l ∧ h' = h := by
  refine ACalls.fresh' (ACalls.bodyM lxS Tryz.f20 _ mixed Tryz.func20 rfl rfl (by simp [Tryz.ntmps20]) ?_)
  unfold stopsV stopsM
  have hlim : stopErr (validT t).net l = 0 → l.length ≤ 1024 := fun h => by
    unfold stopErr at h
    split at h
    · cases h
    · omega
  simp [lxS]
  refine callS.pure _ (fun _ => infer_check t l hp hl hs hn) ?_
  have ok := okT t
  have c2 := fun (H : AHeap) (a b : TPass) => infer_between (gl := gl) (h := H) t a b hp hl hs
  by_cases hE : stopErr (validT t).net l = 0
  · have hl2 := hlim hE
    simp [hE]
    refine AWP.upM lxS mixed l.length (fun i fr H => fr 1 = .ro (l.map encPass) ∧ fr 2 = .ptr h.length 0 0 ∧ fr 17 = .ro (l.map encPass) ∧ fr 18 = .int .i64 l.length ∧ fr 19 = .int .i64 i ∧ H[h.length]? = some (.cells 3 [encTopo t]) ∧ (∃ g, H = h ++ g) ∧ ∃ x, fr 7 = x ∧ Ls 3 (h.length + 1) H x ((stopsI (validT t).net l i).map encStop)) 0 (by omega)
      ⟨by simp, by simp, by simp, by simp, by simp, by simp, ⟨_, rfl⟩, _, by simp; rfl, by simpa [stopsI] using Ls.nil⟩ ?_
    rintro i fr H hi ⟨e1, e2, e17, e18, e19, hT, hB, x, e7, hx⟩
    have hT3 := at3 hT
    simp only [encTopo] at hT3
    have hxf := hx.rs.fix
    have hlen := hT3.2.1
    have hsl := stopsI_len ok (l := l) i
    rcases Nat.lt_or_ge i l.length with hlt | hge
    · obtain ⟨p, hg, hg'⟩ := get_lt hlt
      have ew := wrap_succ' (i := i) (by omega)
      cases i with
      | zero =>
        simp [lxS, -appendOk, -appendK, e1, e2, e7, e17, e18, e19, hlt, hg, hg', hT3, hxf]
        refine append_new (lo := h.length + 1) (n := 3) (es := ([] : List TStop).map encStop) (ys := [encStop (stopOf p)]) (by simpa [encStop] using Ls.nil) (by simp <;> omega) (by simp [appOk, encStop, stopOf]) (by simp <;> omega) ?_
        intro s1 H1 hs1 hg1 hn1
        have hs1f := hs1.rs.fix
        have hx1 := (hx.more _).grow hg1 (by simp)
        have hT1 := hg1.keep _ _ (at_more hT _) (by simp)
        have hB1 := hg1.base h (by omega) (base_more hB _)
        have hl1 := base_len hB1
        have hl2 := lt_of_get hT1
        simp [-appendOk, -appendK, -List.map_append, e1, e2, e7, e17, e18, e19, hs1f, hxf]
        refine callS.any (infer_join hx1.rs hs1.rs (by simp <;> omega) (by simp <;> omega)) ?_
        rintro v H2 ⟨rfl, rfl⟩
        simp [-appendOk, -appendK, -List.map_append, e1, e2, e7, e17, e18, e19, ew]
        have e0 : stopsI (validT t).net l 1 = [stopOf p] := stopsI_zero hg
        refine ⟨1, by omega, by omega, by decide, ?_, base_more hB1 _, ?_⟩
        · rw [if_pos (by omega)]; exact hT1
        rw [e0]
        exact Ls.own (by simp [stopsI]) (by omega) (by simp [stopsI]) (by simp)
      | succ j =>
        obtain ⟨q, hq, hq'⟩ := get_lt (l := l) (i := j) (by omega)
        have hj : j < l.length := by omega
        have w1' : IntKind.i64.wrap ((j : Int) + 1 - 1) = (j : Int) := by rw [wrap64_of (by omega) (by omega)]; omega
        have w0 : IntKind.i64.wrap (j : Int) = (j : Int) := wrap64_of (by omega) (by omega)
        have w2 : IntKind.i64.wrap ((j : Int) + 1 + 1) = ((j + 1 + 1 : Nat) : Int) := by rw [wrap64_of (by omega) (by omega)]; omega
        have hlt' : (j : Int) + 1 < l.length := by omega
        have hn0 : (0 : Int) ≤ (j : Int) + 1 := by omega
        have ewz : IntKind.i64.wrap ((j : Int) + 1) = (j : Int) + 1 := wrap64_of (by omega) (by omega)
        simp [lxS, preOps, -appendOk, -appendK, e1, e2, e7, e17, e18, e19, hlt', hlt, hg, hg', hT3, hxf, hq, hq', hj, w1', w0, w2, hn0]
        refine ⟨by decide, ?_⟩
        have c3 := c2 (H ++ [AObj.cells 8 [encPass p]]) q p
        simp only [encPass_eq, encTopo] at c3
        refine callS.any c3 ?_
        rintro y H0 ⟨hy, g, hH0⟩
        have hbl := betwM_len ok q p
        have hyf := hy.rs.fix
        have hx0 : Ls 3 (h.length + 1) H0 x ((stopsI (validT t).net l (j + 1)).map encStop) := by rw [hH0, List.append_assoc]; exact hx.more _
        have hT0 : H0[h.length]? = some (.cells 3 [encTopo t]) := by rw [hH0, List.append_assoc]; exact at_more hT _
        have hP0 : H0[H.length]? = some (.cells 8 [encPass p]) := by rw [hH0]; exact at_more (by simp) _
        have hP3 := at3 hP0
        simp only [encPass_eq] at hP3
        have hB0 : ∃ g, H0 = h ++ g := by obtain ⟨g', e⟩ := hB; exact ⟨_, by rw [hH0, e, List.append_assoc, List.append_assoc]⟩
        have hlH : H.length < H0.length := hP3.2.1
        simp [-appendOk, -appendK, encTopo, e1, e2, e7, e17, e18, e19, hyf, hxf, hP3]
        refine append_new (lo := h.length + 1) (n := 3) (es := (betwM (validT t).net q p).map encStop) (ys := [encStop (stopOf p)]) (by simpa [encStop] using (ls_mono hy (by simp <;> omega)).more _) (by simp <;> omega) (by simp [appOk, encStop, stopOf]) (by simp <;> omega) ?_
        intro s1 H1 hs1 hg1 hn1
        have hs1f := hs1.rs.fix
        have hx1 := (hx0.more _).grow hg1 (fun b e hb off len c => by have h1 := hy.above _ _ _ c; have h2 := ls_lt hx e; simp at h1; omega)
        have hT1 := hg1.keep _ _ (at_more hT0 _) (fun off len c => by have h1 := hy.above _ _ _ c; simp at h1; omega)
        have hB1 := hg1.base h (by omega) (base_more hB0 _)
        have hl1 := base_len hB1
        have hl2 := lt_of_get hT1
        simp [-appendOk, -appendK, -List.map_append, e1, e2, e7, e17, e18, e19, hs1f, hxf]
        refine callS.any (infer_join hx1.rs hs1.rs (by simp <;> omega) (by simp <;> omega)) ?_
        rintro v H2 ⟨rfl, rfl⟩
        simp [-appendOk, -appendK, -List.map_append, e1, e2, e7, e17, e18, e19, ew]
        have e0 := stopsI_succ (v := (validT t).net) hq hg
        refine ⟨j + 1 + 1, by omega, by omega, by omega, ?_, base_more hB1 _, ?_⟩
        · rw [if_pos (by omega)]; exact hT1
        rw [e0]
        exact Ls.own (by simp) (by omega) (by simp) (fun e he => by obtain ⟨a, _, rfl⟩ := List.mem_map.1 he; rfl)
    · obtain rfl : i = l.length := by omega
      simp [e1, e2, e7, e17, e18, e19, hxf]
      exact ⟨hB, .tup' (.cons (hx.frz (by omega) (stops_data _)) (.cons (.data _ (by simp)) .nil))⟩
  · simp [hE]
    exact frz_err

/-! ### The reference -/
def lxR : Nat → Option (List (Nat × Nat)) := fun id => if id = 7 then some [(1, 12), (4, 12), (6, 12), (7, 12)] else none
theorem hasPt_find (v : Net) (s : Bytes) (h : netErr v = 0) : (findPt v s).isSome = hasPt v.pts s := by
  rw [findPt, if_pos h, hasPt, List.isSome_find?]
set_option maxHeartbeats 8000000 in
theorem ref20_Stops (t : Topo) (l : List TPass) (hp : t.net.pts.length ≤ 1000) (hl : t.net.lks.length ≤ 1000) (hs : t.sys.length ≤ 1000) (hn : l.length ≤ 1000000) : ACalls Tryz.prog gl 21 [.agg (encTopo t), .ro (l.map encPass)] h fun x h' => x = stopsV (validT t).net l ∧ h' = h := by
  refine ACalls.fresh' (ACalls.bodyL lxR Tryz.f21 _ mixed Tryz.func21 rfl rfl (by simp [Tryz.ntmps21]) ?_)
  unfold stopsV stopsM stopErr
  by_cases c1 : 1024 < l.length
  · have c1' : (1024 : Int) < l.length := by omega
    simp [lxR, c1, c1']
    refine callS.pure _ (fun _ => ref20_valid t hp hl hs) ?_
    simp [lxR, c1, c1']
    exact frz_err
  have c1' : ¬ (1024 : Int) < l.length := by omega
  simp [lxR, c1, c1']
  refine callS.pure _ (fun _ => ref20_valid t hp hl hs) ?_
  have hv := validT_len t
  have hvn := validN_T t
  have hve := validT_net t
  have hvi := validT_idem t
  have ok := okT t
  generalize hV : validT t = V at *
  simp [lxR, c1, c1']
  refine AWP.upL lxR mixed l.length (fun i fr H => fr 1 = .ro (l.map encPass) ∧ fr 6 = .ptr (h.length + 1) 0 0 ∧ fr 7 = .int .i64 i ∧ passErr V.net none l = passErr V.net (befI l i) (l.drop i) ∧ H[h.length + 1]? = some (.cells 3 [encTopo V]) ∧ ∃ g, H = h ++ g) 0 (by omega)
    ⟨by simp, by simp, by simp, by simp [befI], by simp, _, rfl⟩ ?_
  rintro i fr H hi ⟨e1, e6, e7, he, hT, hB⟩
  rw [he]
  have hT3 := at3 hT
  simp only [encTopo] at hT3
  have hlH := base_len hB
  rcases Nat.lt_or_ge i l.length with hlt | hge
  · obtain ⟨p, hg, hg'⟩ := get_lt hlt
    have ew := wrap_succ' (i := i) (by omega)
    have c3 := fun H : AHeap => ref07_Find (gl := gl) (h := H) V.net p.point (by omega) (by omega)
    have hf := hasPt_find V.net p.point hve
    simp only [encNet] at c3
    rw [passErr_step hg] at he ⊢
    cases hfp : findPt V.net p.point with
    | none =>
      rw [hfp] at c3 hf
      have hf2 : hasPt V.net.pts p.point = false := by rw [← hf]; rfl
      simp [lxR, e1, e6, e7, hlt, hg, hg', hT3, ew, hf2]
      refine ⟨by decide, ?_⟩
      refine callS.pure _ (fun _ => c3 _) ?_
      simp [lxR, e1, e6, e7, hlt, hg, hg', hT3, ew]
      refine ⟨?_, ?_⟩
      · refine callS.pure _ (fun _ => c3 _) ?_
        simp
      · exact ⟨base_more hB _, frz_err⟩
    | some pt =>
      rw [hfp] at c3 hf
      have hf2 : hasPt V.net.pts p.point = true := by rw [← hf]; rfl
      simp [lxR, e1, e6, e7, hlt, hg, hg', hT3, ew, hf2]
      refine ⟨by decide, ?_⟩
      refine callS.pure _ (fun _ => c3 _) ?_
      simp [lxR, e1, e6, e7, hlt, hg, hg', hT3, ew]
      refine ⟨?_, ?_⟩
      · refine callS.pure _ (fun _ => c3 _) ?_
        simp
      refine callS.pure _ (fun _ => ref04_IsTime p.time) ?_
      cases hti : isTimeB p.time with
      | false =>
        simp
        exact ⟨base_more hB _, frz_err⟩
      | true =>
        cases i with
        | zero =>
          simp [lxR, befI, e1, e6, e7, hg]
          refine ⟨by decide, ?_⟩
          exact ⟨1, by omega, by omega, by decide, by simp [hg], by rw [if_pos (by have := lt_of_get hT; omega)]; exact hT, base_more hB _⟩
        | succ j =>
          obtain ⟨q, hq, hq'⟩ := get_lt (l := l) (i := j) (by omega)
          have hj : j < l.length := by omega
          have w1' : IntKind.i64.wrap ((j : Int) + 1 - 1) = (j : Int) := by rw [wrap64_of (by omega) (by omega)]; omega
          have hpos : (0 : Int) < (j : Int) + 1 := by omega
          have w0 : IntKind.i64.wrap (j : Int) = (j : Int) := wrap64_of (by omega) (by omega)
          have w2 : IntKind.i64.wrap ((j : Int) + 1 + 1) = ((j + 1 + 1 : Nat) : Int) := by rw [wrap64_of (by omega) (by omega)]; omega
          have hn0 : (0 : Int) ≤ (j : Int) + 1 := by omega
          have hlt' : (j : Int) + 1 < l.length := by omega
          simp [lxR, befI, e1, e6, e7, hg, hg', hq, hq', hj, w1', hpos, w0, w2, hn0, hlt', hlt]
          refine ⟨by decide, fun c => ?_, fun c => ?_⟩
          · rw [if_pos c]
            exact ⟨base_more hB _, frz_err⟩
          · exact ⟨j + 1 + 1, by omega, by omega, by omega, by rw [if_neg (by omega)]; simp [hg], by rw [if_pos (by have := lt_of_get hT; omega)]; exact hT, base_more hB _⟩
  · obtain rfl : i = l.length := by omega
    simp [lxR, e1, e6, e7, hT3, passErr]
    refine AWP.upF 24 mixed l.length (fun i fr H => fr 1 = .ro (l.map encPass) ∧ fr 6 = .ptr (h.length + 1) 0 0 ∧ fr 11 = .int .i64 i ∧ H[h.length + 1]? = some (.cells 3 [encTopo V]) ∧ (∃ g, H = h ++ g) ∧ ∃ x, fr 10 = x ∧ Ls 3 (h.length + 2) H x ((stopsI V.net l i).map encStop)) 0 (by omega)
      ⟨by simp [e1], by simp [e6], by simp, by simpa using hT, hB, _, by simp; rfl, by simpa [stopsI] using Ls.nil⟩ ?_
    clear e1 e6 e7 hT hT3 hB hlH hi he
    rintro i fr H hi ⟨e1, e6, e11, hT, hB, x, e10, hx⟩
    have hT3 := at3 hT
    simp only [encTopo] at hT3
    have hlH := base_len hB
    have hxf := hx.rs.fix
    have hsl := stopsI_len ok (l := l) i
    rcases Nat.lt_or_ge i l.length with hlt | hge
    · obtain ⟨p, hg, hg'⟩ := get_lt hlt
      have ew := wrap_succ' (i := i) (by omega)
      cases i with
      | zero =>
        simp [-appendOk, -appendK, e1, e6, e10, e11, hlt, hg, hg', hT3, hxf]
        refine ⟨by decide, ?_⟩
        have e0 : stopsI V.net l 1 = [stopOf p] := stopsI_zero hg
        refine append_new (lo := h.length + 2) (n := 3) (es := (stopsI V.net l 0).map encStop) (ys := [encStop (stopOf p)]) (by simpa [encStop] using (hx).more _) (by simp <;> omega) (by simp [appOk, encStop, stopOf]) (by simp <;> omega) ?_
        intro s9 H9 hs9 hg9 hn9
        have hs9f := hs9.rs.fix
        have hT9 := hg9.keep _ _ (at_more hT _) fun off len e => by have := (hx).above _ _ _ e; omega
        have hB9 := hg9.base h (by omega) (base_more hB _)
        simp [-appendOk, -appendK, -List.map_append, e1, e6, e11, hs9f, ew]
        exact ⟨1, by omega, by omega, by decide, hT9, hB9, by rw [e0]; simpa [stopsI] using hs9⟩
      | succ j =>
        obtain ⟨q, hq, hq'⟩ := get_lt (l := l) (i := j) (by omega)
        have hj : j < l.length := by omega
        have w1' : IntKind.i64.wrap ((j : Int) + 1 - 1) = (j : Int) := by rw [wrap64_of (by omega) (by omega)]; omega
        have hpos : (0 : Int) < (j : Int) + 1 := by omega
        have w0 : IntKind.i64.wrap (j : Int) = (j : Int) := wrap64_of (by omega) (by omega)
        have w2 : IntKind.i64.wrap ((j : Int) + 1 + 1) = ((j + 1 + 1 : Nat) : Int) := by rw [wrap64_of (by omega) (by omega)]; omega
        have hn0 : (0 : Int) ≤ (j : Int) + 1 := by omega
        have hlt' : (j : Int) + 1 < l.length := by omega
        have c4 := fun H : AHeap => ref20_Missing (gl := gl) (h := H) V q p (by omega) (by omega) (by omega)
        have c5 := fun (H : AHeap) (u : List Bytes) => ref20_Times (gl := gl) (h := H) V u q.time p.time (by omega) (by omega) (by omega)
        have hnz := fun h => miss_nz (v := V.net) (a := q.point) (b := p.point) (s := q.time) (t := p.time) h
        have hok := fun h => miss_ok ok (a := q.point) (b := p.point) (s := q.time) (t := p.time) h
        have e0 := stopsI_succ (v := V.net) hq hg
        have hbl := betwM_len ok q p
        rw [hvi] at c4 c5
        unfold missV at c4
        unfold betwM at e0 hbl
        generalize missM V.net q.point p.point q.time p.time = M at *
        obtain ⟨m, E⟩ := M
        simp only at c4 hnz hok e0 hbl
        simp only [encPass_eq, encTopo] at c4
        simp [-appendOk, -appendK, e1, e6, e10, e11, hlt, hlt', hn0, hpos, hg, hg', hq, hq', hj, w0, w1', w2, hT3, hxf]
        refine ⟨by decide, ?_⟩
        refine callS.pure _ (fun _ => c4 _) ?_
        by_cases hE : E = 0
        · subst hE
          obtain ⟨o1, o2, o3, o4, o5, o6, _⟩ := hok rfl
          simp [-appendOk, -appendK, e1, e6, e10, e11, hlt, hlt', hn0, hpos, hg, hg', hq, hq', hj, w0, w1', w2, hT3, hxf]
          obtain ⟨path, hpath⟩ : ∃ path, path = q.point :: (m ++ [p.point]) := ⟨_, rfl⟩
          have hpl : path.length = m.length + 2 := by rw [hpath]; simp
          have hm2 : m.length ≤ 14 := by simp at o2; omega
          rw [← hpath] at o1 o2 o6
          have ep : path.map encT = [encT q.point] ++ m.map encT ++ [encT p.point] := by rw [hpath]; simp
          have hTl := lt_of_get hT
          refine append_new (lo := H.length) (n := 1) (es := [encT q.point]) (ys := m.map encT) (Ls.own (by simp [encT]) (by omega) rfl (by simp [encT])) (by simp) (by simp [appOk, encT]) (by simp <;> omega) ?_
          intro s1 H1 hs1 hg1 hn1
          have hs1f := hs1.rs.fix
          have hT1 := hg1.keep _ _ (at_more hT _) fun off len e => by injection e; omega
          have hB1 := hg1.base h (by omega) (base_more hB _)
          have hx1 := (hx.more [AObj.cells 1 [[.str q.point]]]).grow hg1 (fun b e hb off len c => by have := ls_lt hx e; injection c; omega)
          have hl1 := hg1.len
          simp at hl1
          simp [-appendOk, -appendK, e1, e6, e10, e11, hlt, hlt', hn0, hpos, hg, hg', hq, hq', hj, w0, w1', w2, hT3, hxf, hs1f]
          refine append_new (lo := H.length) (n := 1) (es := [encT q.point] ++ m.map encT) (ys := [encT p.point]) (by simpa using hs1.more _) (by simp <;> omega) (by simp [appOk, encT]) (by simp <;> omega) ?_
          intro s2 H2 hs2 hg2 hn2
          have hs2f := hs2.rs.fix
          have hT2 := hg2.keep _ _ (at_more hT1 _) fun off len e => by have := hs1.above _ _ _ e; omega
          have hB2 := hg2.base h (by omega) (base_more hB1 _)
          have hx2 := (hx1.more [AObj.cells 1 [[.str p.point]]]).grow hg2 (fun b e hb off len c => by have := ls_lt hx e; have := hs1.above _ _ _ c; omega)
          rw [← ep] at hs2
          simp [-appendOk, -appendK, e1, e6, e10, e11, hxf, hs2f]
          refine AWP.freezeL 14 (by simp) hs2.z ?_
          intro fr1 H3 q14 qf hg3 hl3
          have f1 : fr1 1 = .ro (l.map encPass) := by rw [qf 1 (by decide)]; simp [e1]
          have f6 : fr1 6 = .ptr (h.length + 1) 0 0 := by rw [qf 6 (by decide)]; simp [e6]
          have f10 : fr1 10 = x := by rw [qf 10 (by decide)]; simp [e10]
          have f11 : fr1 11 = .int .i64 (j + 1 : Nat) := by rw [qf 11 (by decide)]; simp [e11]
          have f12 : fr1 12 = .ro (m.map encT) := by rw [qf 12 (by decide)]; simp
          have hT4 := hg3.keep _ _ hT2 fun off len e => by have := hs2.above _ _ _ e; omega
          have hB4 := hg3.base h (by omega) hB2
          have hx4 := hx2.grow hg3 (fun b e hb off len c => by have := ls_lt hx e; have := hs2.above _ _ _ c; omega)
          have hcall : ∀ H' : AHeap, ACalls Tryz.prog gl 18 [.agg (encTopo V), .ro (path.map encT), .int .i64 q.time, .int .i64 p.time] H' fun x h' => x = .tup [.ro ((timesL V.net path q.time p.time).map encNs), .int .i64 0] ∧ h' = H' := fun H' => by
            have := c5 H' path (by omega)
            rw [timesV, o6] at this
            exact this
          have hT43 := at3 hT4
          simp only [encTopo] at hT43 hcall
          refine AWP.of_awp mixed _ _ _ _ ?_
          simp [-appendOk, -appendK, f1, f6, f10, f11, f12, q14, hT43, hlt, hlt', hn0, hpos, hg, hg', hq, hq', hj, w0, w1', w2]
          refine ⟨by decide, ?_⟩
          refine callS.pure _ (fun _ => hcall _) ?_
          have htl := timesL_len V.net path q.time p.time
          obtain ⟨TL, hTL⟩ : ∃ TL, TL = timesL V.net path q.time p.time := ⟨_, rfl⟩
          rw [← hTL] at htl ⊢
          have htg : ∀ k, k < path.length → TL[k]? = some (timeAt V.net path q.time p.time k) := fun k hk => by rw [hTL]; exact timesL_get hk
          simp [-appendOk, -appendK, f1, f6, f10, f11, f12, hT43, hxf]
          refine AWP.up mixed m.length (fun k fr H => fr 1 = .ro (l.map encPass) ∧ fr 6 = .ptr (h.length + 1) 0 0 ∧ fr 11 = .int .i64 (j + 1 : Nat) ∧ fr 12 = .ro (m.map encT) ∧ fr 15 = .ro (TL.map encNs) ∧ fr 17 = .int .i64 k ∧ H[h.length + 1]? = some (.cells 3 [encTopo V]) ∧ (∃ g, H = h ++ g) ∧ ∃ x, fr 10 = x ∧ Ls 3 (h.length + 2) H x ((stopsI V.net l (j + 1) ++ betwI V.net m q p k).map encStop)) 0 (by omega)
            ⟨by simp [f1], by simp [f6], by simp [f11], by simp [f12], by simp, by simp, hT4, hB4, x, by simp [f10], by simpa [betwI] using hx4⟩ ?_
          clear e1 e6 e10 e11 hT4 hT43 hx4 hB4 hxf hT2 hT1 hT3 hx hx1 hx2
          clear f1 f6 f10 f11 f12
          rintro k fr H5 hk ⟨e1, e6, e11, f12, f15, f17, hT5, hB5, y, e10, hy⟩
          have hT53 := at3 hT5
          simp only [encTopo] at hT53
          have hyf := hy.rs.fix
          have hyl := betwI_len V.net m q p k
          have hl5 := base_len hB5
          rcases Nat.lt_or_ge k m.length with hltk | hgek
          · obtain ⟨z, hz, hz'⟩ := get_lt hltk
            have ewk := wrap_succ' (i := k) (by omega)
            have hqd : m.getD k [] = z := by rw [List.getD_eq_getElem?_getD, hz]; rfl
            have hsuc := betwI_succ V.net m q p k
            rw [hqd, ← hpath] at hsuc
            have ht2 := htg (k + 1) (by omega)
            have ht2' := (List.getElem?_eq_some_iff.1 ht2).2
            have hkl : k + 1 < TL.length := by omega
            simp [-Int.natCast_add, -appendOk, -appendK, -List.map_append, encT, encNs, e1, e6, e10, e11, f12, f15, f17, hltk, hz, hz', ewk, ht2, ht2', hkl, hyf]
            refine ⟨by decide, ?_⟩
            refine append_new (lo := h.length + 2) (n := 3) (es := (stopsI V.net l (j + 1) ++ betwI V.net m q p k).map encStop) (ys := [encStop ⟨z, timeAt V.net path q.time p.time (k + 1), []⟩]) (by simpa [encStop] using hy.more _) (by simp <;> omega) (by simp [appOk, encStop]) (by simp <;> omega) ?_
            intro s6 H6 hs6 hg6 hn6
            have hs6f := hs6.rs.fix
            have hT6 := hg6.keep _ _ (at_more hT5 _) fun off len e => by have := hy.above _ _ _ e; omega
            have hB6 := hg6.base h (by omega) (base_more hB5 _)
            simp [-Int.natCast_add, -appendOk, -appendK, -List.map_append, e1, e6, e10, e11, f12, f15, f17, hs6f, ewk]
            exact ⟨k + 1, by omega, by omega, by omega, hT6, hB6, by rw [hsuc]; simpa using hs6⟩
          · obtain rfl : k = m.length := by omega
            simp [-appendOk, -appendK, -List.map_append, e1, e6, e10, e11, f12, f15, f17, hlt, hlt', hn0, hg, hg', hyf, hT53]
            refine ⟨by decide, ?_⟩
            simp at e0 hbl
            refine append_new (lo := h.length + 2) (n := 3) (es := (stopsI V.net l (j + 1) ++ betwI V.net m q p m.length).map encStop) (ys := [encStop (stopOf p)]) (by simpa [encStop] using (hy).more _) (by simp <;> omega) (by simp [appOk, encStop, stopOf]) (by simp <;> omega) ?_
            intro s9 H9 hs9 hg9 hn9
            have hs9f := hs9.rs.fix
            have hT9 := hg9.keep _ _ (at_more hT5 _) fun off len e => by have := (hy).above _ _ _ e; omega
            have hB9 := hg9.base h (by omega) (base_more hB5 _)
            simp [-appendOk, -appendK, -List.map_append, e1, e6, e11, hs9f, ew]
            exact ⟨j + 1 + 1, by omega, by omega, by omega, hT9, hB9, by rw [e0]; simpa using hs9⟩
        · obtain rfl := hnz hE
          rw [if_pos hE] at e0
          simp [-appendOk, -appendK, hE, e1, e6, e10, e11, hlt, hlt', hn0, hpos, hg, hg', hq, hq', hj, w0, w1', w2, hT3, hxf]
          refine ⟨by decide, ?_⟩
          refine append_new (lo := h.length + 2) (n := 3) (es := (stopsI V.net l (j + 1)).map encStop) (ys := [encStop (stopOf p)]) (by simpa [encStop] using (hx).more _) (by simp <;> omega) (by simp [appOk, encStop, stopOf]) (by simp <;> omega) ?_
          intro s9 H9 hs9 hg9 hn9
          have hs9f := hs9.rs.fix
          have hT9 := hg9.keep _ _ (at_more hT _) fun off len e => by have := (hx).above _ _ _ e; omega
          have hB9 := hg9.base h (by omega) (base_more hB _)
          simp [-appendOk, -appendK, -List.map_append, e1, e6, e11, hs9f, ew]
          exact ⟨j + 1 + 1, by omega, by omega, by omega, hT9, hB9, by rw [e0]; simpa using hs9⟩
    · obtain rfl : i = l.length := by omega
      simp [e1, e6, e10, e11, hT3, hxf]
      exact ⟨hB, .tup' (.cons (hx.frz (by omega) (stops_data _)) (.cons (.data _ (by simp)) .nil))⟩
end Go.Proofs.YtiidghfioofpkaaGreat

namespace Go.Proofs.YtiidghfioofpkaaGreat
open Go Go.Abs Go.Toll
variable {gl : Globs} {h : AHeap}

def infN (l : List TStop) : Nat := (l.filter fun s => decide (s.pass = [])).length
theorem infN_succ {l : List TStop} {i : Nat} {s : TStop} (h : l[i]? = some s) : infN (l.take (i + 1)) = if s.pass = [] then infN (l.take i) + 1 else infN (l.take i) := by
  rw [List.take_add_one, h]
  simp only [infN, Option.toList_some, List.filter_append, List.length_append]
  by_cases c : s.pass = [] <;> simp [c]
theorem infN_le (l : List TStop) (i : Nat) : infN (l.take i) ≤ i := by
  have h1 := List.length_filter_le (fun s : TStop => decide (s.pass = [])) (l.take i)
  have h2 := List.length_take_le i l
  unfold infN
  omega
theorem infer_Inferred (l : List TStop) (hn : l.length ≤ 1000000) : ACalls Tryz.prog gl 23 [.ro (l.map encStop)] h fun x h' => x = .int .i64 (infN l) ∧ h' = h := by
  refine ACalls.data (by simp) (ACalls.body Tryz.f23 _ mixed Tryz.func23 rfl rfl (by simp [Tryz.ntmps23]) ?_)
  simp
  refine AWP.up mixed l.length (fun i fr H => fr 6 = .ro (l.map encStop) ∧ fr 7 = .int .i64 l.length ∧ fr 8 = .int .i64 i ∧ fr 3 = .int .i64 (infN (l.take i)) ∧ ∃ g, H = h ++ g) 0 (by omega)
    ⟨by simp, by simp, by simp, by simp [infN], [], by simp⟩ ?_
  rintro i fr H hi ⟨e6, e7, e8, e3, g, rfl⟩
  rcases Nat.lt_or_ge i l.length with hlt | hge
  · obtain ⟨s, hg, hg'⟩ := get_lt hlt
    have ew := wrap_succ' (i := i) (by omega)
    have hs := infN_succ hg
    have hle := infN_le l i
    have ew2 := wrap_succ' (i := infN (l.take i)) (by omega)
    simp [encStop, e3, e6, e7, e8, hlt, hg, hg', ew, ew2]
    exact ⟨fun c => ⟨i + 1, by omega, by omega, by omega, by rw [hs, if_pos c]; simp⟩, fun c => ⟨i + 1, by omega, by omega, by omega, by rw [hs, if_neg c]⟩⟩
  · obtain rfl : i = l.length := by omega
    simp [e3, e6, e7, e8]
theorem ref20_Inferred (l : List TStop) (hn : l.length ≤ 1000000) : ACalls Tryz.prog gl 24 [.ro (l.map encStop)] h fun x h' => x = .int .i64 (infN l) ∧ h' = h := by
  refine ACalls.data (by simp) (ACalls.body Tryz.f24 _ mixed Tryz.func24 rfl rfl (by simp [Tryz.ntmps24]) ?_)
  simp
  refine AWP.up mixed l.length (fun i fr H => fr 0 = .ro (l.map encStop) ∧ fr 4 = .int .i64 i ∧ fr 3 = .int .i64 (infN (l.take i)) ∧ ∃ g, H = h ++ g) 0 (by omega)
    ⟨by simp, by simp, by simp [infN], [], by simp⟩ ?_
  rintro i fr H hi ⟨e0, e4, e3, g, rfl⟩
  rcases Nat.lt_or_ge i l.length with hlt | hge
  · obtain ⟨s, hg, hg'⟩ := get_lt hlt
    have ew := wrap_succ' (i := i) (by omega)
    have hs := infN_succ hg
    have hle := infN_le l i
    have ew2 := wrap_succ' (i := infN (l.take i)) (by omega)
    simp [encStop, e0, e3, e4, hlt, hg, hg', ew, ew2]
    exact ⟨fun c => ⟨i + 1, by omega, by omega, by omega, by rw [hs, if_pos c]; simp⟩, fun c => ⟨i + 1, by omega, by omega, by omega, by rw [hs, if_neg c]⟩⟩
  · obtain rfl : i = l.length := by omega
    simp [e0, e3, e4]
theorem stop_n (l : List TStop) : ∀ e ∈ l.map encStop, e.length = 3 := by
  intro e he
  obtain ⟨a, _, rfl⟩ := List.mem_map.1 he
  rfl
theorem ref20_SameStops (l : List TStop) (hn : l.length ≤ 1000000) (x y : AV) (hx : Rs 3 h x (l.map encStop)) (hy : Rs 3 h y (l.map encStop)) : ACalls Tryz.prog gl 22 [x, y] h fun v h' => v = .bool true ∧ h' = h := by
  refine ACalls.data (by simp) (ACalls.body Tryz.f22 _ mixed Tryz.func22 rfl rfl (by simp [Tryz.ntmps22]) ?_)
  have fx := hx.fix
  have fy := hy.fix
  have lx := hx.len2
  have ly := hy.len2
  simp [fx, fy, lx, ly]
  refine AWP.up mixed l.length (fun i fr h' => fr 0 = x ∧ fr 1 = y ∧ fr 5 = .int .i64 i ∧ h' = h) 0 (by omega) ⟨by simp, by simp, by simp, rfl⟩ ?_
  rintro i fr h' hi ⟨e0, e1, e5, rfl⟩
  rcases Nat.lt_or_ge i l.length with hlt | hge
  · obtain ⟨p, hp, hp'⟩ := get_lt hlt
    have ew := wrap_succ' (i := i) (by omega)
    have rx := Rs.ix Tryz.prog hx i (by omega) (y := encStop p) (by simp [hp])
    have ry := Rs.ix Tryz.prog hy i (by omega) (y := encStop p) (by simp [hp])
    simp [e0, e1, e5, fx, fy, lx, ly, rx, ry, hlt, ew]
    simp [encStop, e0, e1, e5, ew]
    exact ⟨by decide, i + 1, by omega, by omega, by omega⟩
  · obtain rfl : i = l.length := by omega
    simp [e0, e1, e5, fx, fy, lx, ly]
theorem ref20_SameNumbers (l : List Int) (hn : l.length ≤ 1000000) (x y : AV) (hx : Rs 1 h x (l.map encNs)) (hy : Rs 1 h y (l.map encNs)) : ACalls Tryz.prog gl 19 [x, y] h fun v h' => v = .bool true ∧ h' = h := by
  refine ACalls.data (by simp) (ACalls.body Tryz.f19 _ mixed Tryz.func19 rfl rfl (by simp [Tryz.ntmps19]) ?_)
  have fx := hx.fix
  have fy := hy.fix
  have lx := hx.len2
  have ly := hy.len2
  simp [fx, fy, lx, ly]
  refine AWP.up mixed l.length (fun i fr h' => fr 0 = x ∧ fr 1 = y ∧ fr 5 = .int .i64 i ∧ h' = h) 0 (by omega) ⟨by simp, by simp, by simp, rfl⟩ ?_
  rintro i fr h' hi ⟨e0, e1, e5, rfl⟩
  rcases Nat.lt_or_ge i l.length with hlt | hge
  · obtain ⟨p, hp, hp'⟩ := get_lt hlt
    have ew := wrap_succ' (i := i) (by omega)
    have rx := Rs.ix Tryz.prog hx i (by omega) (y := encNs p) (by simp [hp])
    have ry := Rs.ix Tryz.prog hy i (by omega) (y := encNs p) (by simp [hp])
    simp [e0, e1, e5, fx, fy, lx, ly, rx, ry, hlt, ew]
    simp [encNs, e0, e1, e5, ew]
    exact ⟨by decide, i + 1, by omega, by omega, by omega⟩
  · obtain rfl : i = l.length := by omega
    simp [e0, e1, e5, fx, fy, lx, ly]
end Go.Proofs.YtiidghfioofpkaaGreat
