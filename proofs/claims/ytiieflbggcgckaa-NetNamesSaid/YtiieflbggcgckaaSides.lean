/- net.Sides and neaptideref19.Same: what they tell. -/
import Derived.Test.YtiieflbggcgckaaNpD
import Derived.Test.YtiieflbggcgckaaPXx8
import Derived.Deep.QuietTactic
import Derived.BigQuiet
import Derived.KernelRfl
import Derived.OpenShut
set_option linter.unusedVariables false
set_option linter.unusedSimpArgs false
namespace Go.Np
open Go.RowKit Go.Proofs
theorem wrapS (n : Nat) (h : n < 128) : IntKind.i64.wrap (n : Int) = n := by rw [IntKind.wrap_i64]; omega
theorem and_two (m : Int) (i : Nat) (hi : i ≤ 6) : bits .and .i64 m (2 ^ i) = m / 2 ^ i % 2 * 2 ^ i := by
  have h0 : BitVec.ofInt 64 (2 ^ i : Int) = BitVec.twoPow 64 i := by
    rcases (show i = 0 ∨ i = 1 ∨ i = 2 ∨ i = 3 ∨ i = 4 ∨ i = 5 ∨ i = 6 by omega) with h | h | h | h | h | h | h <;> subst h <;> rfl
  have h1 : (BitVec.ofInt 64 m).toNat = (m % 18446744073709551616).toNat := by rw [BitVec.toNat_ofInt]; rfl
  show IntKind.i64.wrap ((BitVec.ofInt 64 m &&& BitVec.ofInt 64 (2 ^ i : Int)).toNat : Int) = _
  rw [h0, BitVec.and_twoPow]
  have h2 : (BitVec.ofInt 64 m).getLsbD i = decide ((m % 18446744073709551616).toNat / 2 ^ i % 2 = 1) := by
    rw [BitVec.getLsbD, h1, Nat.testBit_eq_decide_div_mod_eq]
  rw [h2]
  rcases (show i = 0 ∨ i = 1 ∨ i = 2 ∨ i = 3 ∨ i = 4 ∨ i = 5 ∨ i = 6 by omega) with h | h | h | h | h | h | h <;> subst h <;> split <;> rename_i h <;> simp only [decide_eq_true_eq] at h <;> (first | rw [show (BitVec.twoPow 64 0).toNat = 1 from rfl] | rw [show (BitVec.twoPow 64 1).toNat = 2 from rfl] | rw [show (BitVec.twoPow 64 2).toNat = 4 from rfl] | rw [show (BitVec.twoPow 64 3).toNat = 8 from rfl] | rw [show (BitVec.twoPow 64 4).toNat = 16 from rfl] | rw [show (BitVec.twoPow 64 5).toNat = 32 from rfl] | rw [show (BitVec.twoPow 64 6).toNat = 64 from rfl] | rw [show (0#64).toNat = 0 from rfl]) <;> (rw [wrapS _ (by omega)]; omega)
theorem and_one (x : Int) : bits .and .i64 x 1 = x % 2 := by
  have := and_two x 0 (by omega)
  simpa using this
/-- On which side. -/
def sideP (m a : Int) : Int := m / 2 ^ a.toNat % 2
def sameP (m a b : Int) : Bool := if (0 ≤ a ∧ a ≤ 6) ∧ 0 ≤ b ∧ b ≤ 6 then decide (sideP m a = sideP m b) else false
theorem sideP_two (m a : Int) : sideP m a = 0 ∨ sideP m a = 1 := by unfold sideP; omega
theorem and_side (m a : Int) (h0 : 0 ≤ a) (h6 : a ≤ 6) : (bits .and .i64 m (2 ^ a.toNat) != 0) = decide (sideP m a = 1) := by
  rw [and_two m a.toNat (by omega)]
  have hp : (2 : Int) ^ a.toNat ≠ 0 := by
    have : (0 : Int) < 2 ^ a.toNat := Int.pow_pos (by decide)
    omega
  show (sideP m a * 2 ^ a.toNat != 0) = _
  rcases sideP_two m a with h | h <;> rw [h] <;> simp [hp]
theorem sameP_refl (m a : Int) (h0 : 0 ≤ a) (h6 : a ≤ 6) : sameP m a a = true := by simp [sameP, h0, h6]
end Go.Np
namespace Go.Np.Try
open Go.RowKit Go.Proofs Go.Proofs.YtiieflbggcgckaaW.PrintWords Go.Proofs.Ytiieflbggcgckaa.PX Go.Proofs.YtiieflbggcgckaaW.PrintMore

abbrev IsSd := IsS68
theorem side_f (m a : Int) (h0 : 0 ≤ a) (h6 : a ≤ 6) : net_Sides_side.f m a = some (sideP m a, m) := by
  unfold net_Sides_side.f
  rw [if_pos h0, and_one]
  unfold shr sideP
  rw [show min a.toNat IntKind.i64.bits = a.toNat from Nat.min_eq_left (by show a.toNat ≤ 64; omega)]
theorem j0_true (m a b : Int) : net_Sides_Same.j0 1 a b true m = some (false, m) := by simp [net_Sides_Same.j0]
theorem j0_false (m a b : Int) (ha : 0 ≤ a ∧ a ≤ 6) (hb : 0 ≤ b ∧ b ≤ 6) : net_Sides_Same.j0 1 a b false m = some (decide (sideP m a = sideP m b), m) := by
  simp only [net_Sides_Same.j0, side_f m a ha.1 ha.2, Option.bind_some, side_f m b hb.1 hb.2, Bool.false_eq_true, if_false]
  congr 2
theorem same_f (m a b : Int) : net_Sides_Same.f 1 m a b = some (sameP m a b, m) := by
  unfold net_Sides_Same.f sameP mn mx
  by_cases h : (0 ≤ a ∧ a ≤ 6) ∧ 0 ≤ b ∧ b ≤ 6
  · rw [if_pos h, if_neg (by split <;> omega), decide_eq_false (by split <;> omega)]
    exact j0_false m a b h.1 h.2
  · rw [if_neg h]
    by_cases h1 : (if b < a then b else a) < 0
    · rw [if_pos h1]; exact j0_true _ _ _
    · rw [if_neg h1, decide_eq_true (by revert h1; split <;> split <;> omega)]; exact j0_true _ _ _
theorem fr_of {w0 w w' : World} {g : Nat} {m : Int} (hF : Fr [] w0 w) (h0 : Below w0.heap.size w0 w') (hk : KeepBut w w' g none) (h1 : IsSd w0 w g m) (h2 : IsSd w0 w' g m) : Fr [] w w' :=
  ⟨h0.os.trans hF.os.symm, h0.tape.trans hF.tape.symm, h0.output.trans hF.output.symm, hk.1, fun k hk' _ => by
    by_cases e : k = g
    · subst e; rw [h1.1, h2.1]
    · exact hk.2 k hk' e (by simp)⟩
theorem nsame_calls {w0 w : World} {g : Nat} {m : Int} (a b : Int) (hF : Fr [] w0 w) (hI : IsSd w0 w g m) :
    Calls Try.prog 41 #[.pointer (some ⟨g, 0, none⟩), .int .i64 a, .int .i64 b] w fun e w' => e = .returned (.bool (sameP m a b)) ∧ IsSd w0 w' g m ∧ Fr [] w0 w' ∧ Fr [] w w' := by
  refine (net_Sides_Same.calls 1 g m a b _ _ w0 w hI hF.below (same_f m a b)).mono ?_
  rintro e w' ⟨he, h1, h2, h3⟩
  exact ⟨he, h1, Fr.of_below [] h2, fr_of hF h2 h3 hI h1⟩
theorem nsides_calls {w0 w : World} (hF : Fr [] w0 w) :
    Calls Try.prog 38 #[] w fun e w' => ∃ g, e = .returned (.pointer (some ⟨g, 0, none⟩)) ∧ IsSd w0 w' g 0 ∧ Fr [] w0 w' := by
  refine (net_NewSides.calls 0 w0 w hF.below rfl).mono ?_
  rintro e w' ⟨g, he, h1, h2, h3⟩
  exact ⟨g, he, h1, Fr.of_below [] h2⟩
theorem ncut_calls {w0 w : World} {g : Nat} {m : Int} (x : Int) (hF : Fr [] w0 w) (hI : IsSd w0 w g m) :
    Calls Try.prog 42 #[.pointer (some ⟨g, 0, none⟩), .int .i64 x] w fun e w' => e = .returned (.tuple #[]) ∧ IsSd w0 w' g x ∧ Fr [] w0 w' := by
  refine (net_Sides_Cut.calls g m x _ w0 w hI hF.below rfl).mono ?_
  rintro e w' ⟨he, h1, h2, h3⟩
  exact ⟨he, h1, Fr.of_below [] h2⟩

theorem bit_cell {W : World} {p : Nat} (h : W.heap[p]? = some (.cells #[.int .i64 1, .int .i64 2, .int .i64 4, .int .i64 8, .int .i64 16, .int .i64 32, .int .i64 64] 74 (0, 0))) (a : Nat) (h6 : a ≤ 6) : W.cell? ⟨p, a, none⟩ = some (.int .i64 (2 ^ a)) := by
  rcases (show a = 0 ∨ a = 1 ∨ a = 2 ∨ a = 3 ∨ a = 4 ∨ a = 5 ∨ a = 6 by omega) with h' | h' | h' | h' | h' | h' | h' <;> subst h' <;> simp [World.cell?, h]
set_option maxHeartbeats 2000000 in
set_option maxRecDepth 100000 in
theorem rsame_calls {w : World} (m a b : Int) (hm : (Lit.int .i64 m).wf = true) (ha : (Lit.int .i64 a).wf = true) (hb : (Lit.int .i64 b).wf = true) :
    Calls Try.prog 43 #[.int .i64 m, .int .i64 a, .int .i64 b] w fun e w' => e = .returned (.bool (sameP m a b)) ∧ Fr [] w w' := by
  refine calls_k fun R hR => ?_
  by_cases h : (0 ≤ a ∧ a ≤ 6) ∧ 0 ≤ b ∧ b ≤ 6
  · obtain ⟨⟨a0, a6⟩, b0, b6⟩ := h
    obtain ⟨A, rfl⟩ := Int.eq_ofNat_of_zero_le a0
    obtain ⟨B, rfl⟩ := Int.eq_ofNat_of_zero_le b0
    have hA6 : A ≤ 6 := by omega
    have hA7 : (A : Int) < 7 := by omega
    have hB7 : (B : Int) < 7 := by omega
    have hA8 : A < 7 := by omega
    have hB8 : B < 7 := by omega
    have hB6 : B ≤ 6 := by omega
    have hA : (bits .and .i64 m (2 ^ A) != 0) = decide (sideP m A = 1) := and_side m A a0 a6
    have hB : (bits .and .i64 m (2 ^ B) != 0) = decide (sideP m B = 1) := and_side m B b0 b6
    have hP : sameP m A B = decide (sideP m A = sideP m B) := if_pos ⟨⟨a0, a6⟩, b0, b6⟩
    have hr : ((bits .and .i64 m (2 ^ A) != 0) == (bits .and .i64 m (2 ^ B) != 0)) = sameP m A B := by
      rw [hA, hB, hP]
      rcases sideP_two m A with h1 | h1 <;> rcases sideP_two m B with h2 | h2 <;> simp [h1, h2]
    rw [← hr] at hR
    clear hA hB hP hr
    go_enter Try.func43, Try.ntmps43
    go_upto_region 4 with (fail)
    obtain ⟨W, hW⟩ : ∃ W : World, W = w.alloc (.cells #[.int .i64 1, .int .i64 2, .int .i64 4, .int .i64 8, .int .i64 16, .int .i64 32, .int .i64 64] 74 (0, 0)) := ⟨_, rfl⟩
    rw [← hW]
    have hcA := bit_cell (W := W) (p := w.heap.size) (by rw [hW]; exact heap_alloc_new w _) A hA6
    have hcB := bit_cell (W := W) (p := w.heap.size) (by rw [hW]; exact heap_alloc_new w _) B hB6
    have HF := Lib.hid (show Fr [] w W by rw [hW]; exact (Fr.refl _ _).alloc _)
    clear hW
    obtain ⟨x, hx⟩ : ∃ x : Int, x = 2 ^ A := ⟨_, rfl⟩
    obtain ⟨y, hy⟩ : ∃ x : Int, x = 2 ^ B := ⟨_, rfl⟩
    rw [← hx] at hcA hR
    rw [← hy] at hcB hR
    clear hx hy
    go_quiet (fail)
    go_wp2
    exact hR.out _ _ ⟨rfl, HF.out.drewN _⟩
  · have hP : sameP m a b = false := if_neg h
    rw [hP] at hR
    clear hP
    by_cases c1 : a < 0
    · clear h
      go_enter Try.func43, Try.ntmps43
      go_wp2
      exact hR.out _ _ ⟨rfl, Fr.refl _ _⟩
    · by_cases c2 : 6 < a
      · clear h
        go_enter Try.func43, Try.ntmps43
        go_wp2
        exact hR.out _ _ ⟨rfl, Fr.refl _ _⟩
      · by_cases c3 : b < 0
        · clear h
          go_enter Try.func43, Try.ntmps43
          go_wp2
          exact hR.out _ _ ⟨rfl, Fr.refl _ _⟩
        · have c4 : 6 < b := by omega
          clear h
          go_enter Try.func43, Try.ntmps43
          go_wp2
          exact hR.out _ _ ⟨rfl, Fr.refl _ _⟩
end Go.Np.Try
