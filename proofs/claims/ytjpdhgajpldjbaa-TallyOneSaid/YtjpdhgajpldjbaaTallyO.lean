/- Votes as arguments, opened. -/
import Derived.Test.YtjpdhgajpldjbaaTallyCt
import Derived.Deep.SlicePairs
set_option linter.unusedVariables false
set_option linter.unusedSimpArgs false
namespace Go.Np.Try
open Go.RowKit Go.Proofs Go.ChangeShapes Go.WideShapes Go.Proofs.Ytjpdhgajpldjbaa.PX Go.Proofs.YtjpdhgajpldjbaaW.PrintWords
set_option maxRecDepth 100000 in
theorem four_ints {H : Type} {enc : TypeId × Value → H} {W : World} {base : Nat} {sp : Nat → Bool} {held : Bool} {n : Nat} {cs : List Value} {x : DataW H × List MemPlace} (hl : cs.length = 4)
    (h : DataW.trod enc Try.prog W base sp held n 41 cs = some x) : ∃ q : S41, cs = [.int .i64 q.f0, .int .i64 q.f1, .int .i64 q.f2, .int .i64 q.f3] ∧ wf64 q.f0 ∧ wf64 q.f1 ∧ wf64 q.f2 ∧ wf64 q.f3 := by
  obtain ⟨xs, m, _, _, _, hxl, hf⟩ := DataW.trod_struct Try.underlying41 h
  have hc : Try.prog.cellsOf 3 = 1 := by kernel_rfl
  match cs, hl with
  | [v0, v1, v2, v3], _ =>
    match xs, hxl with
    | [y0, y1, y2, y3], _ =>
      have h0 := hf 0 _ rfl
      have h1 := hf 1 _ rfl
      have h2 := hf 2 _ rfl
      have h3 := hf 3 _ rfl
      simp [hc] at h0 h1 h2 h3
      obtain ⟨a, ea, _, wa⟩ := DataW.trod_int Try.underlying3 h0
      obtain ⟨b, eb, _, wb⟩ := DataW.trod_int Try.underlying3 h1
      obtain ⟨c, ec, _, wc⟩ := DataW.trod_int Try.underlying3 h2
      obtain ⟨d, ed, _, wd⟩ := DataW.trod_int Try.underlying3 h3
      simp at ea eb ec ed
      subst ea eb ec ed
      exact ⟨⟨a, b, c, d⟩, rfl, wa, wb, wc, wd⟩
theorem cells41 : Try.prog.cellsOf 41 = 4 := by kernel_rfl
set_option maxRecDepth 100000 in
theorem open_vote {H : Type} {enc : TypeId × Value → H} {W : World} {base b0 : Nat} {sp : Nat → Bool} {held : Bool} {v : Value} {d : DataW H} {ps : List MemPlace}
    (hv : Value.okWide Try.prog W .any b0 41 v) (h : DataW.Trod enc Try.prog W base sp held 41 v d ps) : ∃ q : S41, VoteAt v q := by
  simp only [Value.okWide, Try.underlying41] at hv
  obtain ⟨cs, rfl, h2, _⟩ := hv
  obtain ⟨fuel, hf⟩ := h
  obtain ⟨q, hq, w0, w1, w2, w3⟩ := four_ints (by simpa [Value.cells, cells41] using h2) hf
  refine ⟨q, ?_, w0, w1, w2, w3⟩
  congr 1
  exact Array.toList_inj.1 (by simpa [Value.cells] using hq)
set_option maxRecDepth 100000 in
theorem open_votes {H : Type} {enc : TypeId × Value → H} {W : World} {base b0 : Nat} {sp : Nat → Bool} {held : Bool} {v : Value} {d : DataW H} {ps : List MemPlace}
    (hv : Value.okWide Try.prog W .any b0 39 v) (h : DataW.Trod enc Try.prog W base sp held 39 v d ps) : ∃ l : List S41, VotesAt W v l := by
  obtain ⟨a, n, c, rfl⟩ := okWide_slice Try.underlying39 hv
  obtain ⟨fuel, hf⟩ := h
  rcases Go.Deep.open_slice Try.underlying39 hf with ⟨hcs, _⟩ | ⟨ad, len, cap, m, k, D, Pl, hcs, _, hlc, hcm, hm, _, hx⟩
  · simp [Value.cells] at hcs
    obtain ⟨rfl, rfl, rfl⟩ := hcs
    exact ⟨[], none, 0, rfl, ⟨rfl, Nat.zero_le _, fun h => absurd h (Nat.lt_irrefl 0)⟩, by simp⟩
  · simp [Value.cells] at hcs
    obtain ⟨rfl, rfl, rfl⟩ := hcs
    have hlm : n ≤ m := by rw [hm]; split <;> omega
    have each : ∀ j, j < n → ∃ q : S41, (∀ i u, ([.int .i64 q.f0, .int .i64 q.f1, .int .i64 q.f2, .int .i64 q.f3] : List Value)[i]? = some u → W.cell? (ad.add (j * 4 + i)) = some u) ∧ wf64 q.f0 ∧ wf64 q.f1 ∧ wf64 q.f2 ∧ wf64 q.f3 := by
      intro j hj
      obtain ⟨cs', h1, h2⟩ := hx j (by omega)
      rw [cells41] at h1
      obtain ⟨_, hlen, hcell⟩ := World.cells?_some h1
      obtain ⟨q, rfl, w0, w1, w2, w3⟩ := four_ints hlen h2
      refine ⟨q, fun i u hu => ?_, w0, w1, w2, w3⟩
      have hi : i < 4 := by simpa using (List.getElem?_eq_some_iff.1 hu).1
      have := hcell i (by omega)
      rw [Go.Deep.add_add] at this
      rw [this]; exact hu
    have hq : ∃ f : Nat → S41, ∀ j, j < n → (∀ i u, ([.int .i64 (f j).f0, .int .i64 (f j).f1, .int .i64 (f j).f2, .int .i64 (f j).f3] : List Value)[i]? = some u → W.cell? (ad.add (j * 4 + i)) = some u) ∧ wf64 (f j).f0 ∧ wf64 (f j).f1 ∧ wf64 (f j).f2 ∧ wf64 (f j).f3 :=
      ⟨fun j => if h : j < n then Classical.choose (each j h) else z41, fun j hj => by simp only [dif_pos hj]; exact Classical.choose_spec (each j hj)⟩
    obtain ⟨f, hf⟩ := hq
    refine ⟨(List.range n).map f, some ad, c, by simp, ⟨by simp, by simp; unfold maxLen at hcm; omega, fun _ => ⟨ad, rfl, fun j p hp => ?_⟩⟩, ?_⟩
    · have hj : j < n := by simpa using (List.getElem?_eq_some_iff.1 hp).1
      have hpf : p = f j := by simpa [hj] using hp.symm
      subst hpf
      exact ⟨_, rfl, k41_mk W (f j), (hf j hj).1⟩
    · intro q hq
      obtain ⟨j, hj, rfl⟩ := List.mem_map.1 hq
      have := (hf j (by simpa using hj)).2
      exact ⟨this.1, this.2.1, this.2.2.1⟩
end Go.Np.Try
