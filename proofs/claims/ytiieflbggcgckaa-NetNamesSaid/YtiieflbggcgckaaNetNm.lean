/- NetNames: the walk. -/
import Derived.Test.YtiieflbggcgckaaNetSd
set_option linter.unusedVariables false
set_option linter.unusedSimpArgs false
namespace Go.Np.Try
open Go.RowKit Go.Proofs Go.Conc Go.Proofs.YtiieflbggcgckaaW.PrintWords
theorem zeroS (w : World) : (zeroValue 9).run Try.prog w = .ok (.string ⟨#[]⟩) w := by kernel_rfl
theorem make_chanS (w : World) : (Instr.makeChan 69 (.int .i64 4000)).run Try.prog w = .ok (.chan (some w.heap.size)) (w.alloc (.chan 4000 #[] false 0 0 false)) := by kernel_rfl
/-- An empty bag of strings. -/
def EmS (w : World) (p : Nat) : Prop := ∃ c, w.heap[p]? = some (.cells #[.chan (some c), .slice none 0 0] 72 (0, 0)) ∧ w.heap[c]? = some (.chan 4000 #[] false 0 0 false)
set_option maxHeartbeats 1000000 in
set_option maxRecDepth 100000 in
theorem newS_calls (w : World) : Calls Try.prog 39 #[] w fun e w' => ∃ p, e = .returned (.pointer (some ⟨p, 0, none⟩)) ∧ EmS w' p ∧ Fr [] w w' := by
  have hmk := make_chanS
  refine calls_k fun R hR => ?_
  go_enter Try.func39, Try.ntmps39
  go_wp2
  have hp : w.heap.size + 1 = (w.alloc (.chan 4000 #[] false 0 0 false)).heap.size := by simp
  refine hR.out _ _ ⟨w.heap.size + 1, rfl, ⟨w.heap.size, ?_, ?_⟩, ((Fr.refl _ w).alloc _).alloc _⟩
  · rw [hp]; exact (Go.MapKept.heap_alloc _ _).1
  · rw [Below.heap_alloc _ _ _ (by simp)]; exact (Go.MapKept.heap_alloc _ _).1
set_option maxHeartbeats 1000000 in
set_option maxRecDepth 100000 in
theorem drainS_calls {w : World} {p : Nat} (h : EmS w p) : Calls Try.prog 48 #[.pointer (some ⟨p, 0, none⟩)] w fun e w' => e = .returned (.tuple #[]) ∧ w' = w := by
  obtain ⟨c, hB, hC⟩ := h
  have HB := Lib.hid hB
  have HC := Lib.hid hC
  clear hB hC
  refine calls_k fun R hR => ?_
  go_enter Try.func48, Try.ntmps48
  go_wp2
  go_loopg [2] (0) (fun g u wr => wr = w)
  case atStart => rfl
  case round =>
    subst hrel
    have c0 : wr.cell? ⟨p, 0, none⟩ = some (.chan (some c)) := cell_of HB.out 0
    go_upto_region 1 with (fail)
    refine wp_select_none rfl rfl (zeroS _) rfl HC.out ?_
    go_wp2
    refine bodyPost_ret (results_none rfl _ _ _) rfl ?_
    exact hR.out _ _ ⟨rfl, rfl⟩
set_option maxHeartbeats 1000000 in
set_option maxRecDepth 100000 in
theorem atS_calls {w : World} {p : Nat} (h : EmS w p) : Calls Try.prog 40 #[.pointer (some ⟨p, 0, none⟩), .int .i64 0] w fun e w' => e = .returned (.tuple #[.string ⟨#[]⟩, .bool false]) ∧ w' = w := by
  have HD := Lib.hid (drainS_calls h)
  obtain ⟨c, hB, hC⟩ := h
  have c1 : w.cell? ⟨p, 1, none⟩ = some (.slice none 0 0) := cell_of hB 1
  clear hB hC
  refine calls_k fun R hR => ?_
  go_enter Try.func40, Try.ntmps40
  go_wp2_with (go_at_call 48; refine HD.out.mono ?_; rintro e w1 ⟨rfl, rfl⟩)
  exact hR.out _ _ ⟨rfl, rfl⟩
set_option maxHeartbeats 1000000 in
set_option maxRecDepth 100000 in
theorem NetNames_walk (w : World) : Calls Try.prog 12 #[] w fun e w' => e = .returned (.bool true) ∧ Fr [] w w' := by
  refine calls_k fun R hR => ?_
  have C06 : sameP 0 0 6 = true := by decide
  have C07 : sameP 0 0 7 = false := by decide
  have HS : Hid (∀ W W1 g, IsSd W W1 g 0 → Fr [] W W1 → Calls Try.prog 41 #[.pointer (some ⟨g, 0, none⟩), .int .i64 0, .int .i64 6] W1 fun e w' => e = .returned (.bool true) ∧ IsSd W w' g 0 ∧ Fr [] W w' ∧ Fr [] W1 w') := fun W W1 g h1 h2 => by
    have := nsame_calls 0 6 h2 h1; rw [C06] at this; exact this
  have HS7 : Hid (∀ W W1 g, IsSd W W1 g 0 → Fr [] W W1 → Calls Try.prog 41 #[.pointer (some ⟨g, 0, none⟩), .int .i64 0, .int .i64 7] W1 fun e w' => e = .returned (.bool false) ∧ IsSd W w' g 0 ∧ Fr [] W w' ∧ Fr [] W1 w') := fun W W1 g h1 h2 => by
    have := nsame_calls 0 7 h2 h1; rw [C07] at this; exact this
  clear C06 C07
  go_enter Try.func12, Try.ntmps12
  go_wp2_with (first
    | (go_at_call 27; refine (netAlive_calls _).mono ?_; rintro e w4 ⟨rfl, hF4⟩; have hI4 := sd_fr hI (hF3.trans hF4 (by simp)); have hF14 := hF2.trans (hF3.trans hF4 (by simp)) (by simp))
    | (go_at_call 38; refine (nsides_calls (Fr.refl [] _)).mono ?_; rintro e w2 ⟨g, rfl, hI, hF2⟩)
    | (go_at_call 39; refine (newS_calls _).mono ?_; rintro e w3 ⟨p, rfl, hE, hF3⟩)
    | (go_at_call 40; refine (atS_calls hE).mono ?_; rintro e w3' ⟨rfl, rfl⟩)
    | (go_at_call 41; with_reducible refine (HS.out _ _ _ hI4 hF14).mono ?_; rintro e w5 ⟨rfl, hI5, hF5, _⟩)
    | (go_at_call 41; with_reducible refine (HS7.out _ _ _ hI5 hF5).mono ?_; rintro e w6 ⟨rfl, hI6, hF6, _⟩))
  exact hR.out _ _ ⟨rfl, hF6⟩
end Go.Np.Try
