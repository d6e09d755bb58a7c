/-
  Contracts: the points that follow one point; numbers of points.
-/
import Derived.Test.YtonpmbppmmaheaaRoads
set_option linter.unusedVariables false
set_option linter.unusedSimpArgs false
set_option maxRecDepth 100000
namespace Go.Proofs.Ytonpmbppmmaheaa
open Go Go.Abs Go.Toll
variable {gl : Globs} {h : AHeap}

theorem keysOk_num (v : Net) (s : Bytes) : keysOk Try.prog 9 (.str s) (sM encNum (atM v)) := by
  refine ⟨by simp [aggFit], [.str], by simp, by simp, fun p hp => ?_⟩
  obtain ⟨q, _, rfl⟩ := mem_sM _ hp
  simp
theorem look_num (v : Net) (s : Bytes) : alook (sM encNum (atM v)) (.str s) = if hasPt v.pts s = true then some (.int .i64 (posN v s)) else none := by
  rw [alook_sM, getS_atM]
  split <;> rfl
/-- The map of the numbers lies in the heap. -/
structure MapH (h : AHeap) (m : Nat) (v : Net) : Prop where
  at' : h[m]? = some (.map (sM encNum (atM v)))
theorem MapH.lt {h : AHeap} {m : Nat} {v : Net} (p : MapH h m v) : m < h.length := (List.getElem?_eq_some_iff.1 p.at').1
theorem MapH.all {h : AHeap} {m : Nat} {v : Net} (p : MapH h m v) : h[m]? = some (.map (sM encNum (atM v))) ∧ m < h.length ∧ ∀ hl : m < h.length, h[m] = .map (sM encNum (atM v)) := ⟨p.at', p.lt, fun _ => (List.getElem?_eq_some_iff.1 p.at').2⟩
theorem MapH.more {h : AHeap} {m : Nat} {v : Net} (p : MapH h m v) (g : AHeap) : MapH (h ++ g) m v := ⟨by rw [List.getElem?_append_left p.lt]; exact p.at'⟩
theorem roads_data (v : Net) : (AV.ro ((rowsR v).map fun r => [AV.ro (r.map encRoad)])).Data := by
  simp
/-- The roads lie in a box. -/
structure RoadsH (h H : AHeap) (p m : Nat) (v : Net) : Prop where
  rr : H[p]? = some (.cells 3 [encRoads v m])
  mm : MapH H m v
  ple : h.length ≤ p
  base : ∃ g, H = h ++ g
section
variable {H H' : AHeap} {p m lo : Nat} {v : Net}
theorem RoadsH.all (r : RoadsH h H p m v) : (H[p]? = some (.cells 3 [encRoads v m]) ∧ p < H.length ∧ ∀ hl : p < H.length, H[p] = .cells 3 [encRoads v m]) ∧ H[m]? = some (.map (sM encNum (atM v))) ∧ m < H.length ∧ ∀ hl : m < H.length, H[m] = .map (sM encNum (atM v)) :=
  ⟨⟨r.rr, (List.getElem?_eq_some_iff.1 r.rr).1, fun _ => (List.getElem?_eq_some_iff.1 r.rr).2⟩, r.mm.all⟩
theorem RoadsH.more (r : RoadsH h H p m v) (g : AHeap) : RoadsH h (H ++ g) p m v :=
  ⟨by rw [List.getElem?_append_left r.all.1.2.1]; exact r.rr, r.mm.more g, r.ple, base_more r.base g⟩
theorem RoadsH.keep (r : RoadsH h H p m v) (hk : ∀ b o, b < lo → H[b]? = some o → H'[b]? = some o) (hp : p < lo) (hm : m < lo) (hb : ∃ g, H' = h ++ g) : RoadsH h H' p m v :=
  ⟨hk _ _ hp r.rr, ⟨hk _ _ hm r.mm.at'⟩, r.ple, hb⟩
theorem RoadsH.grow {lo' : Nat} {s : AV} (r : RoadsH h H p m v) (g : Grow lo' H s H') (hs : ∀ b off len, s = .own b off len → lo ≤ b) (hp : p < lo) (hm : m < lo) (hlo : h.length ≤ lo') : RoadsH h H' p m v :=
  r.keep (fun b o hb ho => g.keep b o ho fun off len e => by have := hs b off len e; omega) hp hm (g.base h hlo r.base)
theorem RoadsH.put (r : RoadsH h H p m v) {b : Nat} (o : AObj) (hb : lo ≤ b) (hp : p < lo) (hm : m < lo) : RoadsH h (H.set b o) p m v :=
  r.keep (fun b' o' hb' ho => by rw [List.getElem?_set_ne (by omega)]; exact ho) hp hm (base_set r.base (by have := r.ple; omega) o)
theorem RoadsH.new {H0 : AHeap} (hM : MapH H0 m v) (hB : ∃ g, H0 = h ++ g) : RoadsH h (H0 ++ [.cells 3 [encRoads v m]]) H0.length m v :=
  ⟨by simp, hM.more _, base_len hB, base_more hB _⟩
end
def bestV (v : Net) (a b : Bytes) : AV := match bestP v a b with
  | some (p, d) => .tup [.ro (p.map encT), .int .i64 d, .bool true]
  | none => .tup [.ro [], .int .i64 0, .bool false]
def numOf (v : Net) (s : Bytes) : Int := if hasPt v.pts s = true then (posN v s : Int) else 0
theorem graph_find (v : Net) (m : Nat) (a b : Bytes) (hm : MapH h m v) : ACalls Try.prog gl 41 [.agg (encRoads v m), .str a, .str b] h fun x h' => x = .tup [.int .i64 (numOf v a), .int .i64 (numOf v b), .bool (hasPt v.pts a && hasPt v.pts b)] ∧ h' = h := by
  refine ACalls.data (by simp) (ACalls.body Try.f41 _ mixed Try.func41 rfl rfl (by simp [Try.ntmps41]) ?_)
  have hk := keysOk_num v
  have hl := look_num v
  by_cases h1 : hasPt v.pts a = true <;> by_cases h2 : hasPt v.pts b = true <;> simp [-keysOk, encRoads, hm.all, hk, hl, h1, h2, numOf]
theorem graph_Next (n : Net) (s : Bytes) (hp : n.pts.length ≤ 1000) (hl : n.lks.length ≤ 1000) : ACalls Try.prog gl 19 [.agg (encNet n), .str s] h fun x h' => x = .ro ((nextL (validN n) s).map encT) ∧ h' = h := by
  refine ACalls.fresh' (ACalls.body Try.f19 _ mixed Try.func19 rfl rfl (by simp [Try.ntmps19]) ?_)
  have ok := validN_ok n
  simp
  refine callS.any (graph_prepare n hp hl) ?_
  rintro x h1 ⟨m, g, rfl, hh1, hmge, hm⟩
  generalize validN n = v at *
  have hM : MapH h1 m v := ⟨hm⟩
  have hB : ∃ g1, h1 = h ++ g1 := ⟨_, by rw [hh1, List.append_assoc]⟩
  clear hh1 hmge
  have hk := keysOk_num v
  have hl := look_num v
  by_cases q1 : hasPt v.pts s = true
  · have hpos := posN_get q1
    have hrow := rowsR_get hpos
    have hrl := (List.getElem?_eq_some_iff.1 hrow).1
    have hrow' := (List.getElem?_eq_some_iff.1 hrow).2
    have hR := RoadsH.new hM hB
    simp [-keysOk, encRoads, hM.all, hk, hl, q1, hrow, hrow', hrl]
    obtain ⟨p, hp⟩ : ∃ p, p = h1.length := ⟨_, rfl⟩
    have hml := hM.lt
    rw [← hp] at hR ⊢
    have hrlen := rowOf_len v s
    have hlk := ok.llen
    have hbl := base_len hB
    refine AWP.up mixed (rowOf v s).length (fun i fr H => fr 5 = .ptr p 0 0 ∧ fr 26 = .ro ((rowOf v s).map encRoad) ∧ fr 27 = .int .i64 (rowOf v s).length ∧ fr 28 = .int .i64 i ∧ ∃ o, fr 8 = o ∧ RoadsH h H p m v ∧ Ls 1 (p + 1) H o ((upTo (nextL v s) i).map encT)) 0 (by omega)
      ⟨by simp, by simp, by simp, by simp, .nil, by simp, hR, Ls.nil⟩ ?_
    clear hR
    rintro i fr H hi ⟨e5, e26, e27, e28, o, e8, hR, hL⟩
    have hf := hL.rs.fix
    have hRl := hR.all.1.2.1
    rcases Nat.lt_or_ge i (rowOf v s).length with hlt | hge
    · obtain ⟨r, hr, hr'⟩ := get_lt hlt
      obtain ⟨x, x1, rfl, x3, x4, x5, x6⟩ := rowOf_at ok hr
      have x5' := List.getElem?_eq_some_iff.1 x5
      have ew := wrap_succ' (i := i) (by omega)
      simp [-appendOk, -appendK, -acells, -AV.solid, encRoads, encT, hR.all, e5, e8, e26, e27, e28, hlt, hr, hr', hf, roadOf, x5, x5'.1, x5'.2]
      refine append_ls (lo := p + 1) (n := 1) (es := (upTo (nextL v s) i).map encT) (ys := [encT x.dst]) (by simpa [encT, roadOf] using hL.more [.cells 3 [encRoad (roadOf v x)], .cells 1 [encT x.dst]]) (by simp; omega) (by simp [appOk, encT]) (by have := upTo_len (nextL v s) i; simp; omega) ?_
      intro s1 H1 hs1 hg1
      have hs1f := hs1.rs.fix
      have hR1 := (hR.more [.cells 3 [encRoad (roadOf v x)], .cells 1 [encT x.dst]]).grow (by simpa [encT, roadOf] using hg1) hL.above (by omega) (by omega) (by omega)
      simp [-appendOk, -appendK, -acells, -AV.solid, encRoads, encT, e5, e8, e26, e27, e28, hs1f, ew]
      exact ⟨i + 1, by omega, by omega, by omega, hR1, by rw [upTo_succ x1]; simpa using hs1⟩
    · obtain rfl : i = (rowOf v s).length := by omega
      rw [upTo_all (by rw [rowOf_nextlen]; exact Nat.le_refl _)] at hL
      simp [-appendOk, -appendK, -acells, -AV.solid, e5, e8, e26, e27, e28, hf]
      exact ⟨hR.base, hL.frz (by omega) (texts_data _)⟩
  · simp [-keysOk, encRoads, hM.all, hk, hl, q1]
    have hz : nextL v s = [] := by
      refine List.eq_nil_iff_forall_not_mem.2 fun t ht => q1 ?_
      obtain ⟨x, hx, e, _⟩ := (nextL_mem v s t).1 ht
      rw [← e]; exact (ok.ends x hx).1
    rw [hz]
    exact ⟨base_more hB _, .nil⟩
theorem shortN {v : Net} (ok : NetOk v) {s : Bytes} (h : hasPt v.pts s = true) : shortS s := by
  have := name_len (ok.name h)
  unfold shortS; omega
theorem Rn.fix {x : AV} {es : List (List AV)} (r : Rn x es) : x.core = x ∧ x.gd = true ∧ x.solid = true ∧ acells x = [x] := by rcases r with rfl | ⟨rfl, _⟩ <;> exact ⟨rfl, rfl, rfl, rfl⟩
theorem ref07_next (v : Net) (s : Bytes) (ok : NetOk v) : ACalls Try.prog gl 39 [.agg (encNet v), .str s] h fun x h' => x = .ro ((nextL v s).map encT) ∧ h' = h := by
  refine ACalls.fresh' (ACalls.body Try.f39 _ mixed Try.func39 rfl rfl (by simp [Try.ntmps39]) ?_)
  have hlk := ok.llen
  simp
  refine AWP.up mixed v.lks.length (fun i fr h' => fr 1 = .str s ∧ fr 2 = .ptr h.length 0 0 ∧ fr 6 = .int .i64 i ∧ h' = h ++ [.cells 2 [encNet v]] ∧ ∃ x, fr 5 = x ∧ Rn x ((nextI v s i).map encT)) 0 (by omega) ⟨by simp, by simp, by simp, by simp, .nil, by simp, Rn.nil⟩ ?_
  rintro i fr H hi ⟨e1, e2, e6, rfl, x, e5, hx⟩
  have hf := Rn.fix hx
  rcases Nat.lt_or_ge i v.lks.length with hlt | hge
  · obtain ⟨l, hl, hl'⟩ := get_lt hlt
    have ew := wrap_succ' (i := i) (by omega)
    have hn := nextI_succ s hl
    have hln := nextI_len v s i
    simp [e1, e2, e5, e6, hlt, hl, hl', hf, ew]
    refine ⟨fun q => ?_, fun q => ⟨i + 1, by omega, by omega, by omega, by rw [hn, if_neg q]; exact hx⟩⟩
    refine callS.pure _ (fun _ => ref07_Insert (nextI v s i) l.dst x hx (shortN ok (ok.ends l (List.mem_of_getElem? hl)).2.1) (by omega)) ?_
    simp [e1, e2, e6, hlt, hl, hl', ew]
    exact ⟨i + 1, by omega, by omega, by omega, by rw [hn, if_pos q]; exact Rn.ro _⟩
  · rw [nextI_all ok s hge] at hx
    simp [e1, e2, e5, e6, Nat.not_lt.2 hge, hf]
    rcases hx with rfl | ⟨rfl, e⟩
    · exact .data _ (.ro _ (texts_data _))
    · rw [e]; exact .nil
theorem ref07_Next (n : Net) (s : Bytes) (hp : n.pts.length ≤ 1000) (hl : n.lks.length ≤ 1000) : ACalls Try.prog gl 20 [.agg (encNet n), .str s] h fun x h' => x = .ro ((nextL (validN n) s).map encT) ∧ h' = h := by
  refine ACalls.data (.ro _ (texts_data _)) (ACalls.body Try.f20 _ mixed Try.func20 rfl rfl (by simp [Try.ntmps20]) ?_)
  simp
  refine callS.pure _ (fun _ => ref07_valid n hp hl) ?_
  simp
  refine callS.pure _ (fun _ => ref07_next (validN n) s (validN_ok n)) ?_
  simp
theorem ref07_Reaches (n : Net) (s : Bytes) (hp : n.pts.length ≤ 1000) (hl : n.lks.length ≤ 1000) : ACalls Try.prog gl 22 [.agg (encNet n), .str s] h fun x h' => x = .ro ((reachL (validN n) s).map encT) ∧ h' = h := by
  refine ACalls.fresh' (ACalls.body Try.f22 _ mixed Try.func22 rfl rfl (by simp [Try.ntmps22]) ?_)
  simp
  refine callS.pure _ (fun _ => ref07_valid n hp hl) ?_
  have ok := validN_ok n
  generalize validN n = v at *
  have hlk := ok.llen
  have hpl := ok.plen
  simp
  refine callS.pure _ (fun _ => ref07_place v.pts 64 s (by omega)) ?_
  rw [List.take_of_length_le (by omega)]
  simp [idxPt_lt]
  refine ⟨fun q => ?_, fun q => ?_⟩
  · rw [reachL, if_neg (by simp [q])]; exact .nil
  · refine AWP.freeze1 6 (h.length + 2) 1 [encT s] (by simp [encT]) (by simp) ?_
    intro fr0 e6 hfr
    have e5 : fr0 5 = .ptr (h.length + 1) 0 0 := by rw [hfr 5 (by decide)]; simp
    have e7 : fr0 7 = .int .i64 (0 : Nat) := by rw [hfr 7 (by decide)]; simp
    refine AWP.up mixed v.pts.length (fun r fr h' => fr 5 = .ptr (h.length + 1) 0 0 ∧ fr 7 = .int .i64 r ∧ h' = h ++ [.cells 2 [encNet n], .cells 2 [encNet v], .dead] ∧ fr 6 = .ro ((rchI v s r 0).map encT)) 0 (by omega) ⟨e5, e7, by simp, e6⟩ ?_
    clear e5 e6 e7 hfr
    rintro r fr H hr ⟨e5, e7, rfl, e6⟩
    rcases Nat.lt_or_ge r v.pts.length with hlt | hge
    · have ewr := wrap_succ' (i := r) (by omega)
      simp [e5, e6, e7, hlt]
      refine AWP.up mixed v.lks.length (fun i fr h' => fr 5 = .ptr (h.length + 1) 0 0 ∧ fr 7 = .int .i64 r ∧ fr 8 = .int .i64 i ∧ h' = h ++ [.cells 2 [encNet n], .cells 2 [encNet v], .dead] ∧ fr 6 = .ro ((rchI v s r i).map encT)) 0 (by omega) ⟨by simp [e5], by simp [e7], by simp, by simp, by simp [e6]⟩ ?_
      clear e5 e6 e7
      rintro i fr H hi ⟨e5, e7, e8, rfl, e6⟩
      rcases Nat.lt_or_ge i v.lks.length with hlt2 | hge2
      · obtain ⟨x, hx, hx'⟩ := get_lt hlt2
        have ew := wrap_succ' (i := i) (by omega)
        have hs := rchI_succ s r hx
        have hln := rchI_len hlk s r i (by omega)
        simp [e5, e6, e7, e8, hlt2, hx, hx', ew]
        refine callS.pure _ (fun _ => ref07_HasText (rchI v s r i) x.src _ (Rs.ro (texts_n _)) (by omega)) ?_
        simp [e5, e6, e7, e8, hlt2, hx, hx', ew]
        refine ⟨fun q => ?_, fun q => ⟨i + 1, by omega, by omega, by omega, by rw [hs, if_neg q]⟩⟩
        refine callS.pure _ (fun _ => ref07_Insert (rchI v s r i) x.dst _ (Rn.ro _) (shortN ok (ok.ends x (List.mem_of_getElem? hx)).2.1) (by omega)) ?_
        simp [e5, e6, e7, e8, hlt2, hx, hx', ew]
        exact ⟨i + 1, by omega, by omega, by omega, by rw [hs, if_pos q]⟩
      · obtain rfl : i = v.lks.length := by omega
        rw [rchI_all] at e6
        simp [e5, e6, e7, e8, ewr]
        exact ⟨r + 1, by omega, by omega, by omega, rfl⟩
    · obtain rfl : r = v.pts.length := by omega
      have hre : reachL v s = rchI v s v.pts.length 0 := by rw [reachL, if_pos q]; rfl
      rw [hre]
      simp [e5, e6, e7]
      exact .data _ (.ro _ (texts_data _))
end Go.Proofs.Ytonpmbppmmaheaa
