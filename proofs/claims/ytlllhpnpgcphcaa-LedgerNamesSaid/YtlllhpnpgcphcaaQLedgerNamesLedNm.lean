/- A text that the row of LedgerNames needs. (Pruned by tools/prune.py.) -/
import Derived.Test.YtlllhpnpgcphcaaQLedgerNamesLedl
set_option linter.unusedVariables false
set_option linter.unusedSimpArgs false
namespace Go.Np.Try
open Go.RowKit Go.Proofs Go.Proofs.Ytlllhpnpgcphcaa.PX Go.Proofs.YtlllhpnpgcphcaaW.PrintWords
def nC0 : Ch := ⟨⟨[], []⟩, [], 0, 0⟩
theorem n_conf : nC0.conf = 0 := by unfold nC0 Ch.conf Tr.back; simp [Tr.path, Tr.find]
theorem n_avail : availL nC0 [0, 0] = [] := by
  unfold availL
  rw [n_conf]
  rfl
set_option maxHeartbeats 4000000 in
set_option maxRecDepth 100000 in
theorem LedgerNames_walk (w : World) : Calls Try.prog 9 #[] w fun e w' => e = .returned (.bool true) ∧ Fr [] w w' := by
  have HNEW := Lib.hid (ch_new (w := w) (A := none) (c := 0) (dr := []) (nil_C w) (by simp) 0)
  simp only [List.length_nil] at HNEW
  have HAL : Hid (∀ W, Calls Try.prog 57 #[] W fun e w' => e = .returned (.bool true) ∧ Fr [] W w') := fun W => lalive_calls
  have HC0 : Hid (∀ W, Calls Try.prog 58 #[.slice none 0 0] W fun e w' => ∃ A c, e = .returned (.slice A 0 c) ∧ Fr [] W w') := fun W => clean0_calls
  refine calls_k fun R hR => ?_
  go_enter Try.func9, Try.ntmps9
  go_wp2_with (first
    | (go_at_call 41; refine HNEW.out.mono ?_; rintro e w2 ⟨c, rfl, hc2, hF2⟩
       have HF2 := Lib.hid hF2
       have HC2 : Hid (ChAt (fun k => k < w.heap.size) w2 c nC0) := hc2
       clear hc2 hF2 HNEW)
    | (go_at_call 57; refine (HAL.out _).mono ?_; rintro e w3 ⟨rfl, hF3⟩
       have HF3 := Lib.hid hF3
       clear hF3 HAL)
    | (go_at_call 58; refine (HC0.out _).mono ?_; rintro e w4 ⟨A4, c4, rfl, hF4⟩
       have HF4 := Lib.hid (HF3.out.trans hF4 (by simp))
       have HFI := Lib.hid (final_calls (cp := 0) (HC2.out.fr HF4.out) Tr.empty_good (l := []) (nil_C w4) (by simp) (by simp))
       simp only [List.length_nil] at HFI
       clear hF4 HC0)
    | (go_at_call 59; refine HFI.out.mono ?_; rintro e w5 ⟨v5, rfl, ⟨A5, c5, rfl, _, _⟩, hF5⟩
       have HF5 := Lib.hid (HF4.out.trans hF5 (by simp))
       have HAV := Lib.hid (avail_lit (HC2.out.fr HF5.out) Tr.empty_good [0, 0] [] (by simp) n_avail)
       simp only [List.length_cons, List.length_nil, Nat.zero_add, Nat.reduceAdd, List.map_cons, List.map_nil] at HAV
       clear hF5 HFI)
    | (go_at_call 60; refine HAV.out.mono ?_; rintro e w6 ⟨A6, c6, rfl, _, hF6⟩
       have HF6 := Lib.hid (HF5.out.trans hF6 (by simp))
       have HSE := Lib.hid (settled_lit (HC2.out.fr HF6.out) [0, 0] 2 (by simp) rfl)
       simp only [List.length_cons, List.length_nil, Nat.zero_add, Nat.reduceAdd, List.map_cons, List.map_nil] at HSE
       clear hF6 HAV)
    | (go_at_call 61; refine HSE.out.mono ?_; rintro e w7 ⟨rfl, hF7⟩
       have HF7 := Lib.hid (HF6.out.trans hF7 (by simp))
       clear hF7 HSE))
  exact hR.out _ _ ⟨rfl, HF2.out.trans HF7.out (by simp)⟩
end Go.Np.Try
