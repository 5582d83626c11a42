/- WatchLists: the lists as an argument, opened; the walk. -/
import Derived.Test.YtjpdhgajpldjbaaWatchEv
import Derived.Deep.Slices
import Derived.OpenShut
import Derived.ChangeSlices
set_option linter.unusedVariables false
set_option linter.unusedSimpArgs false
namespace Go.Np.Try
open Go.RowKit Go.Proofs Go.ChangeShapes Go.WideShapes Go.Proofs.YtjpdhgajpldjbaaW.PrintWords
theorem ints_C {W : World} {H : Type} {enc : TypeId × Value → H} {base : Nat} {sp : Nat → Bool} {held : Bool} {n : Nat} {v : Value} {x : DataW H × List MemPlace}
    (h : DataW.trod enc Try.prog W base sp held n 24 [v] = some x) : ∃ (l : List Int) (A : Option Addr) (c : Nat), v = .slice A l.length c ∧ l.length ≤ c ∧ (Kd.int .i64).C W A l.length l := by
  rcases open_ints Try.underlying24 Try.underlying3 (by kernel_rfl) h with ⟨hcs, _⟩ | ⟨a, len, cap, zs, hcs, _, hlc, hcm, hz, _, hcell, _⟩
  · simp at hcs
    exact ⟨[], none, 0, hcs, Nat.zero_le _, ⟨rfl, Nat.zero_le _, fun h => absurd h (Nat.lt_irrefl 0)⟩⟩
  · simp at hcs
    have hlz : len ≤ zs.length := by rw [hz]; split <;> omega
    have hl : (zs.take len).length = len := by rw [List.length_take]; omega
    refine ⟨zs.take len, some a, cap, by rw [hl]; exact hcs, by rw [hl]; exact hlc, rfl, by rw [hl]; unfold maxLen at hcm; omega, fun h0 => ⟨a, rfl, fun j p hp => ?_⟩⟩
    rw [List.getElem?_take] at hp
    split at hp
    · rename_i hj
      have hjz : j < zs.length := by omega
      have hp' : zs.getD j 0 = p := by rw [List.getD_eq_getElem?_getD, hp]; rfl
      refine ⟨[.int .i64 p], rfl, by first | rfl | exact ⟨rfl⟩ | simp [Kd.int, Kd.scalar], fun i u hu => ?_⟩
      cases i with
      | zero => simp at hu; subst hu; have := hcell j hjz; rw [hp'] at this; simpa [Kd.int, Kd.scalar] using this
      | succ i => simp at hu
    · cases hp
theorem cells22 : Try.prog.cellsOf 24 = 1 := by kernel_rfl
set_option maxRecDepth 100000 in
theorem open_lists {H : Type} {enc : TypeId × Value → H} {W : World} {base b0 : Nat} {sp : Nat → Bool} {held : Bool} {v : Value} {d : DataW H} {ps : List MemPlace}
    (hv : Value.okWide Try.prog W .any b0 22 v) (h : DataW.Trod enc Try.prog W base sp held 22 v d ps) : ∃ L : List (List Int), ∃ A c, v = .slice A L.length c ∧ L.length ≤ c ∧ KdL.C W A L.length L := by
  obtain ⟨a, n, c, rfl⟩ := okWide_slice Try.underlying22 hv
  obtain ⟨fuel, hf⟩ := h
  rcases Go.Deep.open_slice1 Try.underlying22 cells22 hf with ⟨hcs, _⟩ | ⟨ad, len, cap, m, k, V, D, Pl, hcs, _, hlc, hcm, hm, _, hx⟩
  · simp [Value.cells] at hcs
    obtain ⟨rfl, rfl, rfl⟩ := hcs
    exact ⟨[], none, 0, rfl, Nat.zero_le _, ⟨rfl, Nat.zero_le _, fun h => absurd h (Nat.lt_irrefl 0)⟩⟩
  · simp [Value.cells] at hcs
    obtain ⟨rfl, rfl, rfl⟩ := hcs
    have hlm : n ≤ m := by rw [hm]; split <;> omega
    have each : ∀ j, j < n → ∃ l : List Int, ∃ A c, V j = .slice A l.length c ∧ l.length ≤ c ∧ (Kd.int .i64).C W A l.length l := fun j hj => ints_C (hx j (by omega)).2
    have hq : ∃ f : Nat → List Int, ∀ j, j < n → ∃ A c, V j = .slice A (f j).length c ∧ (f j).length ≤ c ∧ (Kd.int .i64).C W A (f j).length (f j) :=
      ⟨fun j => if h : j < n then Classical.choose (each j h) else [], fun j hj => by simp only [dif_pos hj]; exact Classical.choose_spec (each j hj)⟩
    obtain ⟨f, hf⟩ := hq
    refine ⟨(List.range n).map f, some ad, c, by simp, by simpa using hlc, rfl, by simp; unfold maxLen at hcm; omega, fun h0 => ⟨ad, rfl, fun j p hp => ?_⟩⟩
    have hj : j < n := by have := (List.getElem?_eq_some_iff.1 hp).1; simpa using this
    have hpj : p = f j := by simp [hj] at hp; exact hp.symm
    subst hpj
    obtain ⟨A, c', h1, h2, h3⟩ := hf j hj
    refine ⟨[.slice A (f j).length c'], rfl, ⟨A, c', rfl, h2, h3⟩, fun i u hu => ?_⟩
    cases i with
    | zero => simp at hu; subst hu; have := (hx j (by omega)).1; rw [h1] at this; simpa [KdL, Kd.slice] using this
    | succ i => simp at hu
theorem WatchLists_walk (w : World) (v : Value) (L : List (List Int)) (h : ∃ A c, v = .slice A L.length c ∧ L.length ≤ c ∧ KdL.C w A L.length L) :
    Calls Try.prog 3 #[v] w fun e w' => e = .returned (.bool true) ∧ Fr [] w w' := by
  obtain ⟨A, c, rfl, h1, h2⟩ := h
  exact lists_calls h2 h1
end Go.Np.Try
