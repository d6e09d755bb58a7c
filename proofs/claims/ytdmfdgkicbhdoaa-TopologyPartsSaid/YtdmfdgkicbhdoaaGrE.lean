/-
  Contracts: how many links lead from a point to another one at least, past the points of a path.
-/
import Derived.Test.YtdmfdgkicbhdoaaGrB
import Derived.Test.YtdmfdgkicbhdoaaTollGraph
set_option linter.unusedVariables false
set_option linter.unusedSimpArgs false
set_option maxRecDepth 100000
namespace Go.Proofs.Ytdmfdgkicbhdoaa
open Go Go.Abs Go.Toll
variable {gl : Globs} {h : AHeap}

def encF (n : Int) : List AV := [.int .i64 n]
/-- The heap of the search: the roads, the distances, the queue. -/
structure HopH (h H : AHeap) (p m : Nat) (v : Net) (far : List Int) (x : AV) (Q : List Bytes) : Prop where
  rr : H[p]? = some (.cells 3 [encRoads v m])
  dist : H[p + 1]? = some (.cells 1 (far.map encF))
  queue : Oq 1 (p + 2) H x (Q.map (encQ v))
  base : ∃ g, H = h ++ g
section
variable {H H' : AHeap} {p m : Nat} {v : Net} {far : List Int} {x : AV} {Q : List Bytes}
theorem HopH.all (b : HopH h H p m v far x Q) : (H[p]? = some (.cells 3 [encRoads v m]) ∧ p < H.length ∧ ∀ hl : p < H.length, H[p] = .cells 3 [encRoads v m]) ∧
    H[p + 1]? = some (.cells 1 (far.map encF)) ∧ p + 1 < H.length ∧ ∀ hl : p + 1 < H.length, H[p + 1] = .cells 1 (far.map encF) :=
  ⟨⟨b.rr, (List.getElem?_eq_some_iff.1 b.rr).1, fun _ => (List.getElem?_eq_some_iff.1 b.rr).2⟩, b.dist, (List.getElem?_eq_some_iff.1 b.dist).1, fun _ => (List.getElem?_eq_some_iff.1 b.dist).2⟩
theorem HopH.more (b : HopH h H p m v far x Q) (g : AHeap) : HopH h (H ++ g) p m v far x Q :=
  ⟨by rw [List.getElem?_append_left b.all.1.2.1]; exact b.rr, by rw [List.getElem?_append_left b.all.2.2.1]; exact b.dist, b.queue.more g, base_more b.base g⟩
theorem HopH.set (b : HopH h H p m v far x Q) (hp : h.length ≤ p) (far' : List Int) : HopH h (H.set (p + 1) (.cells 1 (far'.map encF))) p m v far' x Q :=
  ⟨by rw [List.getElem?_set_ne (by omega)]; exact b.rr, List.getElem?_set_self b.all.2.2.1, b.queue.put (by omega), base_set b.base (by omega) _⟩
theorem HopH.push (b : HopH h H p m v far x Q) {lo : Nat} {x' : AV} {Q' : List Bytes} (g : Grow lo H x H') (hl : h.length ≤ lo) (q : Oq 1 (p + 2) H' x' (Q'.map (encQ v))) : HopH h H' p m v far x' Q' :=
  ⟨g.keep _ _ b.rr fun off len e => by have := b.queue.above _ _ _ e; omega, g.keep _ _ b.dist fun off len e => by have := b.queue.above _ _ _ e; omega, q, g.base h hl b.base⟩
theorem HopH.tail (b : HopH h H p m v far x Q) {x' : AV} {Q' : List Bytes} (q : Oq 1 (p + 2) H x' (Q'.map (encQ v))) : HopH h H p m v far x' Q' := ⟨b.rr, b.dist, q, b.base⟩
end
theorem Rs.based {n : Nat} {h H : AHeap} {x : AV} {es : List (List AV)} (r : Rs n h x es) (hb : ∃ g, H = h ++ g) : Rs n H x es := by
  obtain ⟨g, rfl⟩ := hb
  exact r.append g
set_option maxHeartbeats 8000000 in
theorem graph_hops (v : Net) (m : Nat) (p : List Bytes) (y t : Bytes) (us : List Bool) (xu : AV) (ok : NetOk v) (hy : hasPt v.pts y = true) (ht : hasPt v.pts t = true) (hx : Rs 1 h xu (us.map encB)) (hul : us.length = (ptsN v).length) (hus : ∀ s, hasPt v.pts s = true → us[posN v s]? = some (decide (s ∈ p))) :
    ACalls Try.prog gl 62 [.agg (encRoads v m), .int .i64 (posN v y), .int .i64 (posN v t), xu] h fun r h' => (∃ n, r = .int .i64 n ∧ hopsR v p y t n) ∧ h' = h := by
  refine ACalls.freshR (ACalls.body Try.f62 _ mixed Try.func62 rfl rfl (by simp [Try.ntmps62]) ?_)
  have hnl : (ptsN v).length ≤ 64 := by rw [ptsN_len]; exact ok.plen
  have hlk := ok.llen
  obtain ⟨q, hq⟩ : ∃ q, q = h.length := ⟨_, rfl⟩
  have hxf := hx.fix
  simp [encRoads]
  refine ⟨by omega, ?_⟩
  have hH0 : HopH h (h ++ [.cells 3 [encRoads v m], .cells 1 ((List.replicate (ptsN v).length (0 : Int)).map encF), .cells 1 [encQ v y]]) q m v (List.replicate (ptsN v).length 0) (.own (q + 2) 0 1) [y] :=
    ⟨by simp [hq], by simp [hq], Ls.oq (Ls.own (es := [encQ v y]) (by simp [hq]) (by omega) (by simp) (by simp [encQ])), _, rfl⟩
  rw [List.map_replicate] at hH0
  rw [← hq]
  have hst := Hop.first (v := v) (p := p) (y := y) (t := t) ok hy
  generalize hf0 : List.replicate (ptsN v).length (0 : Int) = far0 at *
  refine AWP.down mixed (fun M fr H => fr 1 = .int .i64 (posN v y) ∧ fr 2 = .int .i64 (posN v t) ∧ fr 3 = xu ∧ fr 4 = .ptr q 0 0 ∧ fr 9 = .own (q + 1) 0 (ptsN v).length ∧ ∃ x Q far, fr 10 = x ∧ HopH h H q m v far x Q ∧ Hop v p y t far Q ∧ M = far.count 0 + Q.length ∧ M ≤ 100) (far0.count 0 + 1)
    ⟨by simp, by simp, by simp, by simp, by simp, .own (q + 2) 0 1, [y], far0, by simp, by simpa [encF, encQ, encRoads] using hH0, hst, by simp, by have := List.count_le_length (a := (0 : Int)) (l := far0); have := hst.len; omega⟩ ?_
  clear hH0 hst
  rintro M fr H ⟨e1, e2, e3, e4, e9, x, Q, far, e10, hH, hh, rfl, hM100⟩
  have hqf := hH.queue.rs.fix
  cases Q with
  | nil =>
    simp [-appendOk, -appendK, -acells, -AV.solid, -aslice, -sliceTOk, e10, hqf, hH.queue.rs.len2]
    exact ⟨hH.base, _, .data _ (.int _ _), -1, rfl, .inl ⟨rfl, hh.none ok hy ht⟩⟩
  | cons u Q =>
    obtain ⟨u1, u2⟩ := hh.qs u List.mem_cons_self
    have hsh := hh.head_short ok hy
    have rx := Rs.ix Try.prog hH.queue.rs 0 (by omega) (y := encQ v u) (by simp)
    have htl := hH.queue.tail Try.prog (by omega)
    have hfl := hh.len
    have hgu := farA_get hfl u1
    have hgu' := (List.getElem?_eq_some_iff.1 hgu).2
    have hpu := posN_lt u1
    by_cases hut : u = t
    · subst hut
      have hfd := hh.found ok hy
      simp [-appendOk, -appendK, -acells, -AV.solid, -aslice, -sliceTOk, e1, e2, e3, e4, e9, e10, hqf, hH.queue.rs.len2, rx, htl, encQ, hH.all, encF, hgu, hgu', hfl, hpu]
      exact ⟨hH.base, _, .data _ (.int _ _), _, rfl, .inr ⟨hsh.1, hsh.2, hfd⟩⟩
    · have hne : ¬ (posN v u : Int) = posN v t := fun e => hut (posN_inj ok u1 ht (by omega))
      have hrow := rowsR_get (posN_get u1)
      have hrl := (List.getElem?_eq_some_iff.1 hrow).1
      have hrow' := (List.getElem?_eq_some_iff.1 hrow).2
      have hrlen := rowOf_len v u
      have hH1 := hH.tail htl.1
      have hm := hh.pop hut
      simp [-appendOk, -appendK, -acells, -AV.solid, -aslice, -sliceTOk, e1, e2, e3, e4, e9, e10, hqf, hH.queue.rs.len2, rx, htl, encQ, encRoads, hH.all, hne, hrow, hrow', hrl]
      refine AWP.up mixed (rowOf v u).length (fun k fr H => fr 1 = .int .i64 (posN v y) ∧ fr 2 = .int .i64 (posN v t) ∧ fr 3 = xu ∧ fr 4 = .ptr q 0 0 ∧ fr 9 = .own (q + 1) 0 (ptsN v).length ∧ fr 11 = .int .i64 (posN v u) ∧ fr 39 = .ro ((rowOf v u).map encRoad) ∧ fr 40 = .int .i64 (rowOf v u).length ∧ fr 41 = .int .i64 k ∧
          ∃ x Q' far', fr 10 = x ∧ HopH h H q m v far' x Q' ∧ HopM v p y t far' Q' u k ∧ 0 ≤ farA v far' u ∧ farA v far' u ≤ 63 ∧ far'.count 0 + Q'.length = far.count 0 + Q.length) 0 (by omega)
        ⟨by simp [e1], by simp [e2], by simp [e3], by simp [e4], by simp [e9], by simp, by simp, by simp, by simp, _, Q, far, by simp, hH1, hm, hsh.1, hsh.2, rfl⟩ ?_
      clear hH hh hH1 hm e1 e2 e3 e4 e9 e10 hqf rx htl hgu hgu' hfl u2 hsh
      rintro k fr H hk ⟨e1, e2, e3, e4, e9, e11, e39, e40, e41, x, Q', far', e10, hH, hm, hu0, hu63, hc⟩
      have hqf := hH.queue.rs.fix
      have hfl := hm.len
      rcases Nat.lt_or_ge k (rowOf v u).length with hlt | hge
      · obtain ⟨r, hr, hr'⟩ := get_lt hlt
        obtain ⟨l, l1, rfl, l3, l4, l5, l6⟩ := rowOf_at ok hr
        have ew := wrap_succ' (i := k) (by omega)
        have hgd := farA_get hfl l6
        have hgd' := (List.getElem?_eq_some_iff.1 hgd).2
        have hpd := posN_lt l6
        have hgu := farA_get hfl u1
        have hgu' := (List.getElem?_eq_some_iff.1 hgu).2
        have hud := hus l.dst l6
        have hud' := (List.getElem?_eq_some_iff.1 hud).2
        have hxH := (Rs.based hx hH.base).append [.cells 3 [encRoad (roadOf v l)]]
        have rx := Rs.ix Try.prog hxH (posN v l.dst) (by omega) (y := [.bool (decide (l.dst ∈ p))]) (by simp [hud, encB])
        have hH1 := hH.more [.cells 3 [encRoad (roadOf v l)]]
        simp only [encRoad_eq, roadOf] at rx
        have hdy : (posN v l.dst : Int) = posN v y ↔ l.dst = y := ⟨fun e => posN_inj ok l6 hy (by omega), fun e => by rw [e]⟩
        have hdy' : posN v l.dst = posN v y ↔ l.dst = y := ⟨fun e => posN_inj ok l6 hy e, fun e => by rw [e]⟩
        have ewf : IntKind.i64.wrap (farA v far' u + 1) = farA v far' u + 1 := wrap64_of (by omega) (by omega)
        simp [-appendOk, -appendK, -acells, -AV.solid, -aslice, -sliceTOk, e1, e2, e3, e4, e9, e10, e11, e39, e40, e41, hlt, hr, hr', roadOf, hH.all, hgd, hgd', hfl, hpd, encF, hxf, rx, hdy, hdy', hgu, hgu', hpu, ew, ewf, hqf]
        refine ⟨fun c1 c2 c3 => ⟨by decide, ?_⟩, fun cc => ⟨k + 1, by omega, by omega, by omega, Q', far', hH1, hm.old l1 ?_, hu0, hu63, hc⟩⟩
        · have hS := (hH.set (by omega) (far'.set (posN v l.dst) (farA v far' u + 1))).more [.cells 3 [encRoad (roadOf v l)], .cells 1 [encQ v l.dst]]
          rw [List.map_set] at hS
          have hQl : Q'.length ≤ 100 := by simp at hM100; omega
          refine append_oq (lo := q + 2) (n := 1) (es := Q'.map (encQ v)) (ys := [encQ v l.dst]) (by simpa [encQ, encF, roadOf] using hS.queue) (by have := hH.all; simp; omega) (by simp [appOk, encQ]) (by simp; omega) ?_
          intro s1 H1 hs1 hg1 _
          have hs1f := hs1.rs.fix
          have hHn := hS.push (x' := s1) (Q' := Q' ++ [l.dst]) (by simpa [encQ, encF, roadOf] using hg1) (by omega) (by simpa using hs1.oq)
          have hmn := hm.new ok l1 c1 c2 c3 hy
          have hfu : farA v (far'.set (posN v l.dst) (farA v far' u + 1)) u = farA v far' u := by
            rw [farA_set ok hfl l6 u1, if_neg]
            rintro rfl
            rcases hm.at'.2.1 with e | e
            · exact c2 e
            · exact e c1
          have hz := zeros_set (far := far') (i := posN v l.dst) (n := farA v far' u + 1) (by rw [hgd, c1]) (by omega)
          simp [-appendOk, -appendK, -acells, -AV.solid, -aslice, -sliceTOk, e1, e2, e3, e4, e9, e11, e39, e40, e41, hs1f, ew]
          exact ⟨k + 1, by omega, by omega, by omega, Q' ++ [l.dst], _, hHn, hmn, by rw [hfu]; exact hu0, by rw [hfu]; exact hu63, by simp; omega⟩
        · by_cases c1 : farA v far' l.dst = 0
          · by_cases c2 : l.dst = y
            · exact .inr (.inl c2)
            · exact .inl (List.mem_append_left _ (cc c1 c2))
          · exact .inr (.inr c1)
      · obtain rfl : k = (rowOf v u).length := by omega
        rw [rowOf_nextlen] at hm
        have hh1 := hm.finish ok
        simp [-appendOk, -appendK, -acells, -AV.solid, e1, e2, e3, e4, e9, e10, e11, e39, e40, e41]
        exact ⟨far'.count 0 + Q'.length, by omega, Q', far', hH, hh1, rfl, by simp at hM100; omega⟩
end Go.Proofs.Ytdmfdgkicbhdoaa
