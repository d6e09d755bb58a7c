/-
  Contracts: the points that follow one point; numbers of points.
-/
import Derived.Test.YtiidghfioofpkaaGreatRoads
set_option linter.unusedVariables false
set_option linter.unusedSimpArgs false
set_option maxRecDepth 100000
namespace Go.Proofs.YtiidghfioofpkaaGreat
open Go Go.Abs Go.Toll
variable {gl : Globs} {h : AHeap}

theorem keysOk_num (v : Net) (s : Bytes) : keysOk Tryz.prog 9 (.str s) (sM encNum (atM v)) := by
  refine ⟨by simp [aggFit], [.str], by simp, by simp, fun p hp => ?_⟩
  obtain ⟨q, _, rfl⟩ := mem_sM _ hp
  simp
theorem look_num (v : Net) (s : Bytes) : alook (sM encNum (atM v)) (.str s) = if hasPt v.pts s = true then some (.int .i64 (posN v s)) else none := by
  rw [alook_sM, getS_atM]
  split <;> rfl
/-- The map of the numbers lies in the heap. -/
structure MapH (h : AHeap) (m : Nat) (v : Net) : Prop where
  at' : h[m]? = some (.map (sM encNum (atM v)))
theorem MapH.lt {h : AHeap} {m : Nat} {v : Net} (p : MapH h m v) : m < h.length := (List.getElem?_eq_some_iff.1 p.at').1
theorem MapH.all {h : AHeap} {m : Nat} {v : Net} (p : MapH h m v) : h[m]? = some (.map (sM encNum (atM v))) ∧ m < h.length ∧ ∀ hl : m < h.length, h[m] = .map (sM encNum (atM v)) := ⟨p.at', p.lt, fun _ => (List.getElem?_eq_some_iff.1 p.at').2⟩
theorem MapH.more {h : AHeap} {m : Nat} {v : Net} (p : MapH h m v) (g : AHeap) : MapH (h ++ g) m v := ⟨by rw [List.getElem?_append_left p.lt]; exact p.at'⟩
theorem roads_data (v : Net) : (AV.ro ((rowsR v).map fun r => [AV.ro (r.map encRoad)])).Data := by
  simp
/-- The roads lie in a box. -/
structure RoadsH (h H : AHeap) (p m : Nat) (v : Net) : Prop where
  rr : H[p]? = some (.cells 3 [encRoads v m])
  mm : MapH H m v
  ple : h.length ≤ p
  base : ∃ g, H = h ++ g
section
variable {H H' : AHeap} {p m lo : Nat} {v : Net}
theorem RoadsH.all (r : RoadsH h H p m v) : (H[p]? = some (.cells 3 [encRoads v m]) ∧ p < H.length ∧ ∀ hl : p < H.length, H[p] = .cells 3 [encRoads v m]) ∧ H[m]? = some (.map (sM encNum (atM v))) ∧ m < H.length ∧ ∀ hl : m < H.length, H[m] = .map (sM encNum (atM v)) :=
  ⟨⟨r.rr, (List.getElem?_eq_some_iff.1 r.rr).1, fun _ => (List.getElem?_eq_some_iff.1 r.rr).2⟩, r.mm.all⟩
theorem RoadsH.more (r : RoadsH h H p m v) (g : AHeap) : RoadsH h (H ++ g) p m v :=
  ⟨by rw [List.getElem?_append_left r.all.1.2.1]; exact r.rr, r.mm.more g, r.ple, base_more r.base g⟩
theorem RoadsH.keep (r : RoadsH h H p m v) (hk : ∀ b o, b < lo → H[b]? = some o → H'[b]? = some o) (hp : p < lo) (hm : m < lo) (hb : ∃ g, H' = h ++ g) : RoadsH h H' p m v :=
  ⟨hk _ _ hp r.rr, ⟨hk _ _ hm r.mm.at'⟩, r.ple, hb⟩
theorem RoadsH.grow {lo' : Nat} {s : AV} (r : RoadsH h H p m v) (g : Grow lo' H s H') (hs : ∀ b off len, s = .own b off len → lo ≤ b) (hp : p < lo) (hm : m < lo) (hlo : h.length ≤ lo') : RoadsH h H' p m v :=
  r.keep (fun b o hb ho => g.keep b o ho fun off len e => by have := hs b off len e; omega) hp hm (g.base h hlo r.base)
theorem RoadsH.put (r : RoadsH h H p m v) {b : Nat} (o : AObj) (hb : lo ≤ b) (hp : p < lo) (hm : m < lo) : RoadsH h (H.set b o) p m v :=
  r.keep (fun b' o' hb' ho => by rw [List.getElem?_set_ne (by omega)]; exact ho) hp hm (base_set r.base (by have := r.ple; omega) o)
theorem RoadsH.new {H0 : AHeap} (hM : MapH H0 m v) (hB : ∃ g, H0 = h ++ g) : RoadsH h (H0 ++ [.cells 3 [encRoads v m]]) H0.length m v :=
  ⟨by simp, hM.more _, base_len hB, base_more hB _⟩
end
def bestV (v : Net) (a b : Bytes) : AV := match bestP v a b with
  | some (p, d) => .tup [.ro (p.map encT), .int .i64 d, .bool true]
  | none => .tup [.ro [], .int .i64 0, .bool false]
def numOf (v : Net) (s : Bytes) : Int := if hasPt v.pts s = true then (posN v s : Int) else 0
theorem graph_find (v : Net) (m : Nat) (a b : Bytes) (hm : MapH h m v) : ACalls Tryz.prog gl 80 [.agg (encRoads v m), .str a, .str b] h fun x h' => x = .tup [.int .i64 (numOf v a), .int .i64 (numOf v b), .bool (hasPt v.pts a && hasPt v.pts b)] ∧ h' = h := by
  refine ACalls.data (by simp) (ACalls.body Tryz.f80 _ mixed Tryz.func80 rfl rfl (by simp [Tryz.ntmps80]) ?_)
  have hk := keysOk_num v
  have hl := look_num v
  by_cases h1 : hasPt v.pts a = true <;> by_cases h2 : hasPt v.pts b = true <;> simp [-keysOk, encRoads, hm.all, hk, hl, h1, h2, numOf]
theorem shortN {v : Net} (ok : NetOk v) {s : Bytes} (h : hasPt v.pts s = true) : shortS s := by
  have := name_len (ok.name h)
  unfold shortS; omega
theorem Rn.fix {x : AV} {es : List (List AV)} (r : Rn x es) : x.core = x ∧ x.gd = true ∧ x.solid = true ∧ acells x = [x] := by rcases r with rfl | ⟨rfl, _⟩ <;> exact ⟨rfl, rfl, rfl, rfl⟩
theorem ref07_next (v : Net) (s : Bytes) (ok : NetOk v) : ACalls Tryz.prog gl 102 [.agg (encNet v), .str s] h fun x h' => x = .ro ((nextL v s).map encT) ∧ h' = h := by
  refine ACalls.fresh' (ACalls.body Tryz.f102 _ mixed Tryz.func102 rfl rfl (by simp [Tryz.ntmps102]) ?_)
  have hlk := ok.llen
  simp
  refine AWP.up mixed v.lks.length (fun i fr h' => fr 1 = .str s ∧ fr 2 = .ptr h.length 0 0 ∧ fr 6 = .int .i64 i ∧ h' = h ++ [.cells 2 [encNet v]] ∧ ∃ x, fr 5 = x ∧ Rn x ((nextI v s i).map encT)) 0 (by omega) ⟨by simp, by simp, by simp, by simp, .nil, by simp, Rn.nil⟩ ?_
  rintro i fr H hi ⟨e1, e2, e6, rfl, x, e5, hx⟩
  have hf := Rn.fix hx
  rcases Nat.lt_or_ge i v.lks.length with hlt | hge
  · obtain ⟨l, hl, hl'⟩ := get_lt hlt
    have ew := wrap_succ' (i := i) (by omega)
    have hn := nextI_succ s hl
    have hln := nextI_len v s i
    simp [e1, e2, e5, e6, hlt, hl, hl', hf, ew]
    refine ⟨fun q => ?_, fun q => ⟨i + 1, by omega, by omega, by omega, by rw [hn, if_neg q]; exact hx⟩⟩
    refine callS.pure _ (fun _ => ref07_Insert (nextI v s i) l.dst x hx (shortN ok (ok.ends l (List.mem_of_getElem? hl)).2.1) (by omega)) ?_
    simp [e1, e2, e6, hlt, hl, hl', ew]
    exact ⟨i + 1, by omega, by omega, by omega, by rw [hn, if_pos q]; exact Rn.ro _⟩
  · rw [nextI_all ok s hge] at hx
    simp [e1, e2, e5, e6, Nat.not_lt.2 hge, hf]
    rcases hx with rfl | ⟨rfl, e⟩
    · exact .data _ (.ro _ (texts_data _))
    · rw [e]; exact .nil
end Go.Proofs.YtiidghfioofpkaaGreat
