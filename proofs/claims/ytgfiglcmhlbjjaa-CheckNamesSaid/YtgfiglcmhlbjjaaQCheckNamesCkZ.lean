/- What CheckNames needs. -/
import Derived.Test.YtgfiglcmhlbjjaaQCheckNamesCkY
set_option linter.unusedVariables false
set_option linter.unusedSimpArgs false
namespace Go.Np.Try
open Go.RowKit Go.Proofs Go.Shelf Go.Lib Go.Proofs.Ytgfiglcmhlbjjaa.PX Go.Proofs.YtgfiglcmhlbjjaaW.PrintWords
theorem contains_calls {w : World} {A : Option Addr} {d : Nat} {l : List Int} (h : (Kd.int .i64).C w A l.length l) (x : Int) :
    Calls Try.prog 30 #[.slice A l.length d, .int .i64 x] w fun e w' => e = .returned (.bool (l.contains x)) ∧ w' = w := by
  by_cases hl : l.length = 0
  · obtain rfl := List.eq_nil_of_length_eq_zero hl
    exact Try.slices_Contains_int_empty A d x w
  · cases A with
    | none => obtain ⟨ad, e, _⟩ := int_at h 0 (by omega); cases e
    | some ad =>
      have hs : ad.spot = none := by
        obtain ⟨ad', e, hc⟩ := int_at h 0 (by omega)
        injection e with e
        subst e
        have h0 : ad.add 0 = ad := by simp [Addr.add]
        rw [h0] at hc
        obtain ⟨b, o, s⟩ := ad
        exact cell_spot hc
      obtain ⟨b, o, s⟩ := ad
      simp only at hs
      subst hs
      refine (Try.slices_Contains_int b o l.length d l x w (Nat.le_refl _) h.2.1 (fun j hj => ?_)).mono ?_
      · obtain ⟨ad', e, hc⟩ := int_at h j hj
        injection e with e
        rw [← e, addr_add _ _ rfl] at hc
        exact hc
      · rintro e w' ⟨rfl, rfl⟩
        rw [List.take_length]
        exact ⟨rfl, rfl⟩
set_option maxHeartbeats 2000000 in
set_option maxRecDepth 100000 in
theorem knows_calls {w : World} {A : Option Addr} {d bx : Nat} {l : List Int} (h : (Kd.int .i64).C w A l.length l) (hc : w.cell? ⟨bx, 0, none⟩ = some (.slice A l.length d)) (v : Int) :
    Calls Try.prog 29 #[.int .i64 v, .pointer (some ⟨bx, 0, none⟩)] w fun e w' => e = .returned (.bool (knowsB l v)) ∧ w' = w := by
  have HC := Lib.hid (contains_calls (d := d) h v)
  unfold knowsB
  obtain ⟨n, hn⟩ : ∃ n, l.length = n := ⟨_, rfl⟩
  obtain ⟨B, hB⟩ : ∃ B, l.contains v = B := ⟨_, rfl⟩
  rw [hn, hB] at HC
  rw [hn] at hc
  rw [hB]
  refine calls_k fun R hR => ?_
  clear h hn hB
  by_cases h0 : v = 0
  · subst h0
    go_enter Try.func29, Try.ntmps29
    go_wp2
    exact hR.out _ _ ⟨by simp, rfl⟩
  · have b0 : (v == 0) = false := by simpa using h0
    have hk : (decide (v = 0) || B) = B := by simp [h0]
    rw [hk] at hR
    clear hk
    go_enter Try.func29, Try.ntmps29
    go_wp2_with (go_at_call 30; refine HC.out.mono ?_; rintro e w1 ⟨rfl, rfl⟩; clear HC)
    exact hR.out _ _ ⟨rfl, rfl⟩
end Go.Np.Try
