/-
  Contracts: topologies.
-/
import Derived.Test.YtiidghfioofpkaaGreatGraph
import Derived.Test.YtiidghfioofpkaaGreatIndexSystem
import Derived.Test.YtiidghfioofpkaaGreatAbsLax
set_option linter.unusedVariables false
set_option linter.unusedSimpArgs false
set_option maxRecDepth 100000
namespace Go.Proofs.YtiidghfioofpkaaGreat
open Go Go.Abs Go.Toll
variable {gl : Globs} {h : AHeap}

theorem topology_find1 (b : Nat) (y : TSys) (s : Bytes) (hb : h[b]? = some (.cells 1 [[.str s]])) : ACalls Tryz.prog gl 90 [.agg (encSys y), .ptr b 0 0] h fun v h' => v = .bool (decide (y.name = s)) ∧ h' = h := by
  refine ACalls.data (by simp) (ACalls.body Tryz.f90 _ mixed Tryz.func90 rfl rfl (by simp [Tryz.ntmps90]) ?_)
  obtain ⟨hlt, hb'⟩ := List.getElem?_eq_some_iff.1 hb
  simp [hb', hlt]
  rw [Bool.eq_iff_iff]; simp
theorem topology_find (l : List TSys) (s : Bytes) (hl : l.length ≤ 1000) : ACalls Tryz.prog gl 60 [.ro (l.map encSys), .str s] h fun v h' => v = .tup [.agg (encSys ((findSys l s).getD sys0)), .bool (findSys l s).isSome] ∧ h' = h := by
  refine ACalls.data (by simp) (ACalls.body Tryz.f60 _ mixed Tryz.func60 rfl rfl (by simp [Tryz.ntmps60]) ?_)
  simp
  refine callS.pure _ (fun _ => IndexFunc_System _ (l.map encSys) (Rd.ro (by simp)) (by simp; omega) 90 [.ptr h.length 0 0] (fun e => decide (strOf (e.getD 0 .junk) = s)) ?_) ?_
  · intro e he g
    obtain ⟨y, _, rfl⟩ := List.mem_map.1 he
    exact topology_find1 (h := h ++ [.cells 1 [[.str s]], .cells 3 [encSys sys0]] ++ g) h.length y s (by simp)
  have hm : idxI (fun e => decide (strOf (e.getD 0 .junk) = s)) (l.map encSys) = idxI (fun y : TSys => decide (y.name = s)) l := idxI_map _ _ _ (fun y => rfl) l
  rw [hm, findSys]
  rcases idxI_spec (fun y : TSys => decide (y.name = s)) l with ⟨h1, h2⟩ | ⟨k, x, h1, h2, h3⟩
  · rw [h1, h2]
    simp [sys0]
  · rw [h1, h3]
    obtain ⟨hk, hk'⟩ := List.getElem?_eq_some_iff.1 h2
    have hk0 : ¬ (k : Int) < 0 := by omega
    simp [hk, hk', h2]
theorem topology_fits (l : List TSys) (p : Pt) (hl : l.length ≤ 1000) : ACalls Tryz.prog gl 61 [.ro (l.map encSys), .agg (encPt p)] h fun v h' => v = .bool (fitB l p) ∧ h' = h := by
  refine ACalls.data (by simp) (ACalls.body Tryz.f61 _ mixed Tryz.func61 rfl rfl (by simp [Tryz.ntmps61]) ?_)
  simp
  refine callS.pure _ (fun _ => topology_find l p.sys hl) ?_
  have e1 : ∀ b : Bool, (b == true) = b := by decide
  have e2 : ∀ b : Bool, (b == false) = !b := by decide
  by_cases k2 : p.kind = 2
  · cases hf : findSys l p.sys <;> simp [fitB, k2, hf]
  by_cases k3 : p.kind = 3
  · cases hf : findSys l p.sys <;> simp [fitB, k3, hf]
  by_cases k1 : p.kind = 1
  · cases hf : findSys l p.sys <;> simp [fitB, k1, hf, e2]
  cases hf : findSys l p.sys <;> simp [fitB, k1, k2, k3, hf] <;> (try (rw [Bool.eq_iff_iff]; simp))
def lxCheck (id : Nat) : Option (List (Nat × Nat)) := if id = 11 then some [(1, 11), (3, 11), (5, 11), (6, 11)] else none
set_option maxHeartbeats 1000000 in
theorem topology_Check (t : Topo) (hp : t.net.pts.length ≤ 1000) (hl : t.net.lks.length ≤ 1000) (hs : t.sys.length ≤ 1000) : ACalls Tryz.prog gl 33 [.agg (encTopo t)] h fun v h' => v = .int .i64 (topoErr t) ∧ h' = h := by
  refine ACalls.data (by simp) (ACalls.bodyL lxCheck Tryz.f33 _ mixed Tryz.func33 rfl rfl (by simp [Tryz.ntmps33]) ?_)
  simp [lxCheck]
  refine callS.pure _ (fun _ => graph_Check t.net hp hl) ?_
  simp
  refine ⟨fun hz => by simp [topoErr, hz], fun hz => ⟨fun hgt => ?_, fun hle => ?_⟩⟩
  · have : 64 < t.sys.length := by omega
    simp [topoErr, hz, this]
  have hle' : ¬ 64 < t.sys.length := by omega
  have hte : topoErr t = if syssErr [] t.sys ≠ 0 then syssErr [] t.sys else if t.net.pts.all (fitB t.sys) then 0 else 16 := by rw [topoErr, if_neg (by simp [hz]), if_neg hle']
  refine AWP.upL lxCheck mixed t.sys.length (fun i fr h' => fr 1 = .ptr h.length 0 0 ∧ fr 21 = .ro (t.sys.map encSys) ∧ fr 22 = .int .i64 t.sys.length ∧ fr 23 = .int .i64 i ∧
    syssErr [] t.sys = syssErr (t.sys.take i) (t.sys.drop i) ∧ ∃ g, h' = h ++ .cells 3 [encTopo t] :: g) 0 (by omega) ⟨by simp, by simp, by simp, by simp, by simp, [], by simp⟩ ?_
  rintro i fr h' hi ⟨e1, e21, e22, e23, hf, g, rfl⟩
  rcases Nat.lt_or_ge i t.sys.length with hlt | hge
  · obtain ⟨y, hg, hg'⟩ := get_lt hlt
    rw [drop_get hg, syssErr] at hf
    have ew := wrap_succ' (i := i) (by omega)
    have ht : t.sys.take (i + 1) = t.sys.take i ++ [y] := by rw [List.take_add_one, hg]; rfl
    have hil : (i : Int) ≤ t.sys.length := by omega
    obtain ⟨A, hA⟩ : ∃ A, t.sys.take i = A := ⟨_, rfl⟩
    have hAl : A.length ≤ 1000 := by rw [← hA]; simp; omega
    have htm : (t.sys.map encSys).take i = A.map encSys := by rw [← hA, List.map_take]
    rw [hA] at hf ht
    simp [lxCheck, e1, e21, e22, e23, hlt, hg, hg', ew]
    refine callS.pure _ (fun _ => text_Name y.name) ?_
    simp [e1, e21, e22, e23, hlt, hg, hg', ew, hil, hi, htm]
    refine ⟨fun q1 => by rw [hte, hf]; simp [q1], fun q1 => ⟨by decide, ?_⟩⟩
    refine callS.pure _ (fun _ => topology_find A y.name hAl) ?_
    simp [e1, e21, e22, e23, hlt, hg, hg', ew, hil, hi, htm]
    refine ⟨callS.pure _ (fun _ => topology_find A y.name hAl) (by simp), fun q2 => by rw [hte, hf]; simp [q1, q2], fun q2 => ?_⟩
    have q2' : ¬ (findSys A y.name).isSome = true := by rw [q2]; simp
    refine ⟨fun a b => ⟨⟨a, b⟩, fun c => ⟨⟨a, b⟩, c⟩⟩, fun q3 => ?_, fun q3 q4 q5 => ⟨i + 1, by omega, by omega, by omega, ?_⟩⟩
    · have hS : syssErr [] t.sys = 12 := by rw [hf, if_neg (by simp [q1]), if_neg q2', if_pos (by rcases q3 with (q3 | q3) | q3 <;> simp [q3])]
      rw [hte, hS]; simp
    · rw [hf, ht, if_neg (by simp [q1]), if_neg q2', if_neg (by rintro (a | a | ⟨a, b⟩) <;> first | omega | exact q5 a b)]
  · rw [List.drop_eq_nil_of_le hge, syssErr] at hf
    rw [hf] at hte
    have hte : topoErr t = if t.net.pts.all (fitB t.sys) then 0 else 16 := by simpa using hte
    simp [e1, e21, e22, e23, Nat.not_lt.2 hge]
    refine AWP.up mixed t.net.pts.length (fun j fr h' => fr 1 = .ptr h.length 0 0 ∧ fr 63 = .ro (t.net.pts.map encPt) ∧ fr 64 = .int .i64 t.net.pts.length ∧ fr 65 = .int .i64 j ∧
      t.net.pts.all (fitB t.sys) = (t.net.pts.drop j).all (fitB t.sys) ∧ ∃ g, h' = h ++ .cells 3 [encTopo t] :: g) 0 (by omega) ⟨by simp [e1], by simp, by simp, by simp, by simp, g, by simp⟩ ?_
    clear e1 e21 e22 e23 hf hi hge
    rintro j fr h' hj ⟨e1, e63, e64, e65, hf, g, rfl⟩
    rcases Nat.lt_or_ge j t.net.pts.length with hlt | hge
    · obtain ⟨p, hg, hg'⟩ := get_lt hlt
      rw [drop_get hg, List.all_cons] at hf
      have ew := wrap_succ' (i := j) (by omega)
      simp [e1, e63, e64, e65, hlt, hg, hg', ew]
      refine callS.pure _ (fun _ => topology_fits t.sys p hs) ?_
      simp [e1, e63, e64, e65, hlt, hg, hg', ew]
      refine ⟨fun q => by rw [hte, hf, q]; simp, fun q => ⟨j + 1, by omega, by omega, by omega, by rw [hf, q, Bool.true_and]⟩⟩
    · rw [List.drop_eq_nil_of_le hge] at hf
      simp [e1, e63, e64, e65, Nat.not_lt.2 hge, hte, hf]
theorem topology_valid (t : Topo) (hp : t.net.pts.length ≤ 1000) (hl : t.net.lks.length ≤ 1000) (hs : t.sys.length ≤ 1000) : ACalls Tryz.prog gl 49 [.agg (encTopo t)] h fun v h' => v = .agg (encTopo (validT t)) ∧ h' = h := by
  refine ACalls.fresh (ACalls.body Tryz.f49 _ mixed Tryz.func49 rfl rfl (by simp [Tryz.ntmps49]) ?_)
  simp
  refine callS.pure _ (fun _ => topology_Check t hp hl hs) ?_
  simp
  refine ⟨fun hz => ?_, fun hz => ?_⟩
  · simp [validT, hz, topo0]
    exact .agg' (.cons .nil (.cons .nil (.cons .nil .nil)))
  · simp [validT, hz]
    exact .data _ (by simp)
theorem topology_Kind (t : Topo) (s : Bytes) (hp : t.net.pts.length ≤ 1000) (hl : t.net.lks.length ≤ 1000) (hs : t.sys.length ≤ 1000) : ACalls Tryz.prog gl 66 [.agg (encTopo t), .str s] h fun v h' => v = .int .i64 (kindOf t s) ∧ h' = h := by
  refine ACalls.data (by simp) (ACalls.body Tryz.f66 _ mixed Tryz.func66 rfl rfl (by simp [Tryz.ntmps66]) ?_)
  simp
  refine callS.pure _ (fun _ => topology_valid t hp hl hs) ?_
  have hv := validT_len t
  rw [kindOf]
  generalize validT t = v at *
  simp
  refine callS.pure _ (fun _ => graph_Find v.net s (by omega) (by omega)) ?_
  simp
theorem ref18_find (l : List TSys) (s : Bytes) (hl : l.length ≤ 1000) : ACalls Tryz.prog gl 87 [.ro (l.map encSys), .str s] h fun v h' => v = .int .i64 (idxI (fun y : TSys => decide (y.name = s)) l) ∧ h' = h := by
  refine ACalls.data (.int _ _) (ACalls.body Tryz.f87 _ mixed Tryz.func87 rfl rfl (by simp [Tryz.ntmps87]) ?_)
  simp
  refine AWP.up mixed l.length (fun i fr h' => fr 0 = .ro (l.map encSys) ∧ fr 1 = .str s ∧ fr 5 = .int .i64 i ∧
    idxI (fun y : TSys => decide (y.name = s)) l = idxFrom (fun y : TSys => decide (y.name = s)) i (l.drop i) ∧ ∃ g, h' = h ++ g) 0 (by omega) ⟨by simp, by simp, by simp, by simp [idxI], [], by simp⟩ ?_
  rintro i fr h' hi ⟨e0, e1, e5, hf, g, rfl⟩
  rcases Nat.lt_or_ge i l.length with hlt | hge
  · obtain ⟨p, hg, hg'⟩ := get_lt hlt
    rw [drop_get hg, idxFrom] at hf
    have ew := wrap_succ' (i := i) (by omega)
    simp [e0, e1, e5, hlt, hg, hg', ew]
    refine ⟨fun hq => ?_, fun hq => ⟨i + 1, by omega, by omega, by omega, ?_⟩⟩
    · simp [hq] at hf; rw [hf]
    · simp [hq] at hf; exact hf
  · rw [List.drop_eq_nil_of_le hge, idxFrom] at hf
    simp [e0, e1, e5, Nat.not_lt.2 hge, hf]
theorem ref18_point (t : Topo) (p : Pt) (hs : t.sys.length ≤ 1000) (hk : 1 ≤ p.kind ∧ p.kind ≤ 4) : ACalls Tryz.prog gl 88 [.agg (encTopo t), .agg (encPt p)] h fun v h' => v = .int .i64 (if fitB t.sys p then 0 else 16) ∧ h' = h := by
  refine ACalls.data (.int _ _) (ACalls.body Tryz.f88 _ mixed Tryz.func88 rfl rfl (by simp [Tryz.ntmps88]) ?_)
  simp
  refine callS.pure _ (fun _ => ref18_find t.sys p.sys hs) ?_
  rcases idxI_spec (fun y : TSys => decide (y.name = p.sys)) t.sys with ⟨h1, h2⟩ | ⟨k, x, h1, h2, h3⟩
  · rw [h1]
    have h2 : findSys t.sys p.sys = none := h2
    rcases (by omega : p.kind = 1 ∨ p.kind = 2 ∨ p.kind = 3 ∨ p.kind = 4) with q | q | q | q
    all_goals simp [q, fitB, h2]
  · rw [h1]
    have h3 : findSys t.sys p.sys = some x := h3
    obtain ⟨hk1, hk2⟩ := List.getElem?_eq_some_iff.1 h2
    rcases (by omega : p.kind = 1 ∨ p.kind = 2 ∨ p.kind = 3 ∨ p.kind = 4) with q | q | q | q
    all_goals simp [q, fitB, h3, hk1, hk2, h2]
set_option maxHeartbeats 1000000 in
theorem ref18_Check (t : Topo) (hp : t.net.pts.length ≤ 1000) (hl : t.net.lks.length ≤ 1000) (hs : t.sys.length ≤ 1000) : ACalls Tryz.prog gl 57 [.agg (encTopo t)] h fun v h' => v = .int .i64 (topoErr t) ∧ h' = h := by
  refine ACalls.data (.int _ _) (ACalls.body Tryz.f57 _ mixed Tryz.func57 rfl rfl (by simp [Tryz.ntmps57]) ?_)
  simp
  refine callS.pure _ (fun _ => ref07_Check t.net hp hl) ?_
  simp
  refine ⟨fun hz => by simp [topoErr, hz], fun hz => ⟨fun hgt => ?_, fun hle => ?_⟩⟩
  · have : 64 < t.sys.length := by omega
    simp [topoErr, hz, this]
  have hle' : ¬ 64 < t.sys.length := by omega
  have hte : topoErr t = if syssErr [] t.sys ≠ 0 then syssErr [] t.sys else if t.net.pts.all (fitB t.sys) then 0 else 16 := by rw [topoErr, if_neg (by simp [hz]), if_neg hle']
  refine AWP.up mixed t.sys.length (fun i fr h' => fr 1 = .ptr h.length 0 0 ∧ fr 4 = .int .i64 i ∧
    syssErr [] t.sys = syssErr (t.sys.take i) (t.sys.drop i) ∧ ∃ g, h' = h ++ .cells 3 [encTopo t] :: g) 0 (by omega) ⟨by simp, by simp, by simp, [], by simp⟩ ?_
  rintro i fr h' hi ⟨e1, e4, hf, g, rfl⟩
  rcases Nat.lt_or_ge i t.sys.length with hlt | hge
  · obtain ⟨y, hg, hg'⟩ := get_lt hlt
    rw [drop_get hg, syssErr] at hf
    have ew := wrap_succ' (i := i) (by omega)
    have ht : t.sys.take (i + 1) = t.sys.take i ++ [y] := by rw [List.take_add_one, hg]; rfl
    have hil : (i : Int) ≤ t.sys.length := by omega
    obtain ⟨A, hA⟩ : ∃ A, t.sys.take i = A := ⟨_, rfl⟩
    have hAl : A.length ≤ 1000 := by rw [← hA]; simp; omega
    have htm : (t.sys.map encSys).take i = A.map encSys := by rw [← hA, List.map_take]
    have hI : (0 ≤ idxI (fun q : TSys => decide (q.name = y.name)) A) ↔ (findSys A y.name).isSome = true := by
      rcases idxI_spec (fun q : TSys => decide (q.name = y.name)) A with ⟨h1, h2⟩ | ⟨k, x, h1, h2, h3⟩
      · rw [h1, findSys, h2]; simp
      · rw [h1, findSys, h3]; simp
    rw [hA] at hf ht
    simp [e1, e4, hlt, hg, hg', ew]
    refine callS.pure _ (fun _ => ref01_Name y.name) ?_
    simp [e1, e4, hlt, hg, hg', ew, hil, hi, htm]
    refine ⟨fun q1 => by rw [hte, hf]; simp [q1], fun q1 => ⟨by decide, ?_⟩⟩
    refine callS.pure _ (fun _ => ref18_find A y.name hAl) ?_
    simp [e1, e4, hlt, hg, hg', ew, hil, hi, htm]
    refine ⟨fun q2 => by rw [hte, hf]; simp [q1, hI.1 q2], fun q2 => ?_⟩
    have q2' : ¬ (findSys A y.name).isSome = true := fun hq => by have := hI.2 hq; omega
    refine ⟨fun a b => ⟨⟨a, b⟩, fun c => ⟨⟨a, b⟩, c⟩⟩, fun q3 => ?_, fun q3 q4 q5 => ⟨i + 1, by omega, by omega, by omega, ?_⟩⟩
    · have hS : syssErr [] t.sys = 12 := by rw [hf, if_neg (by simp [q1]), if_neg q2', if_pos (by rcases q3 with (q3 | q3) | q3 <;> simp [q3])]
      rw [hte, hS]; simp
    · rw [hf, ht, if_neg (by simp [q1]), if_neg q2', if_neg (by rintro (a | a | ⟨a, b⟩) <;> first | omega | exact q5 a b)]
  · rw [List.drop_eq_nil_of_le hge, syssErr] at hf
    rw [hf] at hte
    have hte : topoErr t = if t.net.pts.all (fitB t.sys) then 0 else 16 := by simpa using hte
    simp [e1, e4, Nat.not_lt.2 hge]
    refine AWP.up mixed t.net.pts.length (fun j fr h' => fr 1 = .ptr h.length 0 0 ∧ fr 6 = .int .i64 j ∧
      t.net.pts.all (fitB t.sys) = (t.net.pts.drop j).all (fitB t.sys) ∧ ∃ g, h' = h ++ .cells 3 [encTopo t] :: g) 0 (by omega) ⟨by simp [e1], by simp, by simp, g, by simp⟩ ?_
    clear e1 e4 hf hi hge
    rintro j fr h' hj ⟨e1, e6, hf, g, rfl⟩
    rcases Nat.lt_or_ge j t.net.pts.length with hlt | hge
    · obtain ⟨p, hg, hg'⟩ := get_lt hlt
      rw [drop_get hg, List.all_cons] at hf
      have ew := wrap_succ' (i := j) (by omega)
      have hk := (netErr_kinds hz p (List.mem_of_getElem? hg)).2
      simp [e1, e6, hlt, hg, hg', ew]
      refine ⟨by decide, ?_⟩
      refine callS.pure _ (fun _ => ref18_point t p hs hk) ?_
      cases q : fitB t.sys p
      · rw [q] at hf
        simp [e1, e6, hlt, hg, hg', ew, hte, hf]
      · rw [q, Bool.true_and] at hf
        simp [e1, e6, hlt, hg, hg', ew]
        exact ⟨j + 1, by omega, by omega, by omega, hf⟩
    · rw [List.drop_eq_nil_of_le hge] at hf
      simp [e1, e6, Nat.not_lt.2 hge, hte, hf]
theorem ref18_valid (t : Topo) (hp : t.net.pts.length ≤ 1000) (hl : t.net.lks.length ≤ 1000) (hs : t.sys.length ≤ 1000) : ACalls Tryz.prog gl 53 [.agg (encTopo t)] h fun v h' => v = .agg (encTopo (validT t)) ∧ h' = h := by
  refine ACalls.fresh (ACalls.body Tryz.f53 _ mixed Tryz.func53 rfl rfl (by simp [Tryz.ntmps53]) ?_)
  simp
  refine callS.pure _ (fun _ => ref18_Check t hp hl hs) ?_
  simp
  refine ⟨fun hz => ?_, fun hz => ?_⟩
  · simp [validT, hz, topo0]
    exact .agg' (.cons .nil (.cons .nil (.cons .nil .nil)))
  · simp [validT, hz]
    exact .data _ (by simp)
end Go.Proofs.YtiidghfioofpkaaGreat
