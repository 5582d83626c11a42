/- A text that the row of LedgerCleans needs. (Pruned by tools/prune.py.) -/
import Derived.Test.YtlllhpnpgcphcaaQLedgerCleansLedc
import Derived.Test.YtlllhpnpgcphcaaQLedgerCleansWZeros
set_option linter.unusedVariables false
set_option linter.unusedSimpArgs false
namespace Go.Np.Try
open Go.RowKit Go.Proofs Go.Proofs.Ytlllhpnpgcphcaa.PX Go.Proofs.YtlllhpnpgcphcaaW.PrintWords
set_option maxHeartbeats 1000000 in
set_option maxRecDepth 100000 in
theorem grow0_calls {w : World} (n : Nat) (hn : n ≤ 1000000) :
    Calls Try.prog 112 #[.slice none 0 0, .int .i64 n] w fun e w' => ∃ v, e = .returned v ∧ Kd.R (Kd.int .i64) 3 w' w.heap.size (fun _ => True) v [] ∧ Below w.heap.size w w' := by
  refine calls_k fun R hR => ?_
  by_cases h0 : n = 0
  · subst h0
    go_enter Try.func112, Try.ntmps112
    go_wp2
    exact hR.out _ _ ⟨_, rfl, Kd.R_nil _ _ _ _ _, Below.refl _ _⟩
  · have hpos : (0 : Int) < (n : Int) := by omega
    have hlt : decide ((n : Int) < 0) = false := decide_eq_false (by omega)
    go_enter Try.func112, Try.ntmps112
    go_wp2_with (at_builtin; refine Kd.R_append_zeros (Kd.int .i64) (w0 := w) w.heap.size rfl _ _ 39 3 3 (.int .i64 0) 8 rfl Try.underlying39 Try.underlying3 (by rfl) rfl (by decide) (by decide) (.slice none 0 0) [] 0 (n : Int) (fun _ => True) rfl rfl ?hz (fun _ _ => trivial) (Kd.R_nil _ _ _ _ _) (by omega) (Below.refl _ _) (Nat.le_refl _) ?hl ?_
                 (case hz => rfl)
                 (case hl => simp; omega)
                 intro v1 w1 h1 h2 h3 h4
                 rw [List.nil_append, Int.toNat_natCast] at h1
                 obtain ⟨A1, c1, rfl⟩ := Kd.R_slice h1
                 rw [List.length_replicate] at h1
                 have HR1 := Lib.hid h1
                 have HB1 := Lib.hid h2
                 clear h1 h2 h3 h4)
    exact hR.out _ _ ⟨.slice A1 0 c1, rfl, (by have := Kd.R_take (m := 0) HR1.out (Nat.zero_le _); simpa using this), HB1.out⟩
end Go.Np.Try
