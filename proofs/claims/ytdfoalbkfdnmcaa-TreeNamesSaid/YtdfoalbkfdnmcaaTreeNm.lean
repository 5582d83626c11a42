/- TreeNames: the walk. -/
import Derived.Test.YtdfoalbkfdnmcaaTreeL
set_option linter.unusedVariables false
set_option linter.unusedSimpArgs false
namespace Go.Np.Try
open Go.RowKit Go.Proofs Go.Proofs.Ytdfoalbkfdnmcaa.PX Go.Proofs.YtdfoalbkfdnmcaaW.PrintWords
theorem e_names : (⟨[], []⟩ : Tr).names = [] := by
  refine strict_ext _ _ (uniq_strict _) (by simp) (fun x => ?_)
  rw [Tr.names, uniq_mem]; simp
theorem e_tip : (⟨[], []⟩ : Tr).tip = 0 := by
  unfold Tr.tip
  rw [e_names]; rfl
theorem e_missing : (⟨[], []⟩ : Tr).missing = [] := by
  refine strict_ext _ _ (uniq_strict _) (by simp) (fun x => ?_)
  rw [Tr.missing, uniq_mem]
  simp
set_option maxHeartbeats 4000000 in
set_option maxRecDepth 100000 in
theorem TreeNames_walk (w : World) : Calls Try.prog 6 #[] w fun e w' => e = .returned (.bool true) ∧ Fr [] w w' := by
  have HNEW := Lib.hid (new_calls (w := w))
  refine calls_k fun R hR => ?_
  go_enter Try.func6, Try.ntmps6
  go_wp2_with (first
    | (go_at_call 11; refine HNEW.out.mono ?_; rintro e w1 ⟨p, rfl, hT1, hF1, hp1⟩
       have HT1 := Lib.hid hT1
       have HF1 := Lib.hid hF1
       have HAL := Lib.hid (alive_calls (w := w1))
       clear hF1 hT1 HNEW hp1)
    | (go_at_call 10; refine HAL.out.mono ?_; rintro e w2 ⟨rfl, hF2⟩
       have HTI := Lib.hid (tip_calls (HT1.out.fr hF2) Tr.empty_good.ok)
       rw [e_tip] at HTI
       have HF2 := Lib.hid hF2
       clear hF2 HAL)
    | (go_at_call 13; refine HTI.out.mono ?_; rintro e w3 ⟨rfl, hF3⟩
       have HF3 := Lib.hid (HF2.out.trans hF3 (by simp))
       have HNA := Lib.hid (names_calls (HT1.out.fr HF3.out) (by simp))
       rw [e_names] at HNA
       clear hF3 HTI)
    | (go_at_call 12; refine HNA.out.mono ?_; rintro e w4 ⟨v4, rfl, hO4, hF4⟩
       obtain ⟨A4, c4, rfl⟩ := hO4.formN (N := 0) rfl
       have HF4 := Lib.hid (HF3.out.trans hF4 (by simp))
       have HWA := Lib.hid (waiting_calls (HT1.out.fr HF4.out) (by simp))
       clear hF4 hO4 HNA)
    | (go_at_call 20; refine HWA.out.mono ?_; rintro e w5 ⟨v5, rfl, hO5, hF5⟩
       obtain ⟨A5, c5, rfl⟩ := hO5.formN (N := 0) rfl
       have HF5 := Lib.hid (HF4.out.trans hF5 (by simp))
       have HMI := Lib.hid (missing_calls (HT1.out.fr HF5.out) (by simp))
       rw [e_missing] at HMI
       clear hF5 hO5 HWA)
    | (go_at_call 25; refine HMI.out.mono ?_; rintro e w6 ⟨v6, rfl, hO6, hF6⟩
       obtain ⟨A6, c6, rfl⟩ := hO6.formN (N := 0) rfl
       have HF6 := Lib.hid (HF5.out.trans hF6 (by simp))
       have HH0 := Lib.hid (height_calls (HT1.out.fr HF6.out) 0)
       rw [show (⟨[], []⟩ : Tr).high 0 = 0 from rfl] at HH0
       clear hF6 hO6 HMI)
    | (go_at_call 14; refine HH0.out.mono ?_; rintro e w7 ⟨rfl, hF7⟩
       have HF7 := Lib.hid (HF6.out.trans hF7 (by simp))
       have HH5 := Lib.hid (height_calls (HT1.out.fr HF7.out) 5)
       rw [show (⟨[], []⟩ : Tr).high 5 = -1 from rfl] at HH5
       clear hF7 HH0)
    | (go_at_call 14; refine HH5.out.mono ?_; rintro e w8 ⟨rfl, hF8⟩))
  exact hR.out _ _ ⟨rfl, HF1.out.trans (HF7.out.trans hF8 (by simp)) (by simp)⟩
end Go.Np.Try
