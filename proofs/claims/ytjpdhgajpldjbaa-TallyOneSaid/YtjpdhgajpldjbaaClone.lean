/- slices.Clone at []int: the contract in the printed form. -/
import Derived.Test.YtjpdhgajpldjbaaNpD
import Derived.Test.YtjpdhgajpldjbaaShelf
import Derived.Test.YtjpdhgajpldjbaaWWords
import Derived.Lib.LaidU8
import Derived.Test.YtjpdhgajpldjbaaSame
set_option linter.unusedVariables false
set_option linter.unusedSimpArgs false
namespace Go.Np.Try
open Go.RowKit Go.Proofs Go.Proofs.YtjpdhgajpldjbaaW.PrintWords
theorem addr_add (a : Addr) (n : Nat) (h : a.spot = none) : a.add n = ⟨a.block, a.off + n, none⟩ := by
  obtain ⟨b, o, s⟩ := a
  simp only at h
  subst h
  unfold Addr.add
  by_cases h1 : n = 0 <;> simp [h1]
theorem clone_int {w : World} {A : Option Addr} {c : Nat} {l : List Int} (h : (Kd.int .i64).C w A l.length l) (hb : l.length < 17592186044416) :
    Calls Try.prog 47 #[.slice A l.length c] w fun e w' => ∃ v, e = .returned v ∧ Kd.R (Kd.int .i64) 3 w' w.heap.size (fun _ => True) v l ∧ Below w.heap.size w w' := by
  cases A with
  | none =>
    have hl : l = [] := by
      cases l with
      | nil => rfl
      | cons x l => obtain ⟨ad, e, _⟩ := int_at h 0 (by simp); cases e
    subst hl
    refine (Try.slices_Clone_int_nil _ c w).mono ?_
    rintro e w' ⟨rfl, rfl⟩
    exact ⟨_, rfl, Kd.R_nil _ _ _ _ _, Below.refl _ _⟩
  | some ad =>
    by_cases hl : l.length = 0
    · obtain rfl := List.eq_nil_of_length_eq_zero hl
      refine (Try.slices_Clone_int_zero ad c w).mono ?_
      rintro e w' ⟨v, rfl, h1, _, h2⟩
      exact ⟨v, rfl, Kd.R_of_own h1 (fun _ _ => trivial), h2⟩
    · have hs : ad.spot = none := by
        obtain ⟨ad', e, hc⟩ := int_at h 0 (by omega)
        injection e with e
        subst e
        have h0 : ad.add 0 = ad := by simp [Addr.add]
        rw [h0] at hc
        obtain ⟨b, o, s⟩ := ad
        exact cell_spot hc
      obtain ⟨b, o, s⟩ := ad
      simp only at hs
      subst hs
      refine (Try.slices_Clone_int b o l.length c l w (Nat.le_refl _) (by omega) (fun j hj => ?_)).mono ?_
      · obtain ⟨ad', e, hc⟩ := int_at h j hj
        injection e with e
        rw [← e, addr_add _ _ rfl] at hc
        exact hc
      · rintro e w' ⟨v, rfl, h1, _, h2⟩
        rw [List.take_length] at h1
        exact ⟨v, rfl, Kd.R_of_own h1 (fun _ _ => trivial), h2⟩
end Go.Np.Try
namespace Go.Proofs.Ytjpdhgajpldjbaa.PL
open Go.RowKit Go.Proofs Go.Proofs.YtjpdhgajpldjbaaW.PrintWords Go.Np
/-- As the printed contracts have it. -/
def slices_Clone_int_int.f (l0 : List Int) : Option (List Int) := if l0.length < 17592186044416 then some l0 else none
theorem slices_Clone_int_int.calls (A0 : Option Addr) (c0 : Nat) (l0 : List Int) (r : List Int) (w : World) (hr0 : Kd.C (Kd.int .i64) w A0 l0.length l0) (_hc0 : l0.length ≤ c0) (h : slices_Clone_int_int.f l0 = some r) :
    Calls Try.prog 47 #[.slice A0 l0.length c0] w fun e w' => ∃ v0_ : Value, e = .returned (v0_) ∧ Kd.R (Kd.int .i64) 3 w' w.heap.size (fun _ => True) v0_ r ∧ Below w.heap.size w w' := by
  unfold slices_Clone_int_int.f at h
  split at h
  · rename_i hb
    obtain rfl := Option.some.inj h
    exact Go.Np.Try.clone_int hr0 hb
  · cases h
end Go.Proofs.Ytjpdhgajpldjbaa.PL
namespace Go.Proofs.Ytjpdhgajpldjbaa.PW
open Go.RowKit Go.Proofs Go.Proofs.YtjpdhgajpldjbaaW.PrintWords Go.Np
/-- As the printed contracts have it. -/
def slices_Clone_int_int.f (l0 : List Int) : Option (List Int) := if l0.length < 17592186044416 then some l0 else none
theorem slices_Clone_int_int.calls (A0 : Option Addr) (c0 : Nat) (l0 : List Int) (r : List Int) (w : World) (hr0 : Kd.C (Kd.int .i64) w A0 l0.length l0) (_hc0 : l0.length ≤ c0) (h : slices_Clone_int_int.f l0 = some r) :
    Calls Try.prog 47 #[.slice A0 l0.length c0] w fun e w' => ∃ v0_ : Value, e = .returned (v0_) ∧ Kd.R (Kd.int .i64) 3 w' w.heap.size (fun _ => True) v0_ r ∧ Below w.heap.size w w' := by
  unfold slices_Clone_int_int.f at h
  split at h
  · rename_i hb
    obtain rfl := Option.some.inj h
    exact Go.Np.Try.clone_int hr0 hb
  · cases h
end Go.Proofs.Ytjpdhgajpldjbaa.PW
