/- TallyNames: the walk. -/
import Derived.Test.YtjpdhgajpldjbaaTaC
set_option linter.unusedVariables false
set_option linter.unusedSimpArgs false
namespace Go.Np.Try
open Go.RowKit Go.Proofs Go.Proofs.Ytjpdhgajpldjbaa.PX Go.Proofs.YtjpdhgajpldjbaaW.PrintWords
set_option maxHeartbeats 4000000 in
set_option maxRecDepth 100000 in
theorem TallyNames_walk (w : World) : Calls Try.prog 6 #[] w fun e w' => e = .returned (.bool true) ∧ Fr [] w w' := by
  have hC : Hid ((Kd.int .i64).C (w.alloc (.cells #[.int .i64 1] 3)) (some ⟨w.heap.size, 0, none⟩) 1 [1]) := made_C w [1] (by decide) (by simp)
  have hF : Hid (Fr [] w (w.alloc (.cells #[.int .i64 1] 3))) := (Fr.refl _ _).alloc _
  have HN := Lib.hid (zNew (c0 := 1) hC.out (by unfold okS; decide))
  have HAL := fun w => Lib.hid (talive_calls w)
  refine calls_k fun R hR => ?_
  go_enter Try.func6, Try.ntmps6
  go_wp2_with (first
    | (go_at_call 22; refine HN.out.mono ?_; rintro e w1 ⟨p, b, rfl, hz⟩; have hz1 := Lib.hid hz; have HC1 := Lib.hid (zCom hz); rw [show comR [1] [] = (0, false) by decide +kernel] at HC1; clear hz)
    | (go_at_call 23; refine HC1.out.mono ?_; rintro e w2 ⟨rfl, hF2⟩; have hz2 := Lib.hid (hz1.out.step hF2); have HC2 := Lib.hid (zMost hz2.out 4 0 (by decide) (by decide)); rw [show mostR [1] [] 4 0 = (0, false) by decide +kernel] at HC2)
    | (go_at_call 24; refine HC2.out.mono ?_; rintro e w3 ⟨rfl, hF3⟩; have hz3 := Lib.hid (hz2.out.step hF3))
    | (go_at_call 25; refine (HAL _).out.mono ?_; rintro e w4 ⟨rfl, hF4⟩; have hz4 := Lib.hid (hz3.out.step hF4); have HC4 := Lib.hid (zAh hz4.out 3); rw [show ahR [1] [] 3 = 3 by decide +kernel] at HC4)
    | (go_at_call 26; refine HC4.out.mono ?_; rintro e w5 ⟨rfl, hF5⟩; have hz5 := Lib.hid (hz4.out.step hF5); have HC5 := Lib.hid (zAll hz5.out 4 0); rw [show allR [(1 : Int)].length [] 4 0 = [] by decide +kernel] at HC5)
    | (go_at_call 27; refine HC5.out.mono ?_; rintro e w6 ⟨A6, c6, rfl, h61, h62, h63⟩))
  exact hR.out _ _ ⟨rfl, hF.out.trans ((hz5.out.step h63).fr) (by simp)⟩
end Go.Np.Try
