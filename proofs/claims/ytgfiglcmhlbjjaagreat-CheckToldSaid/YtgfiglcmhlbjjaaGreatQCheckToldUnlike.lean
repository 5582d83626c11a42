/- What CheckTold needs. -/
import Derived.Test.YtgfiglcmhlbjjaaGreatQCheckToldSortC
set_option linter.unusedVariables false
set_option linter.unusedSimpArgs false
namespace Go.Np.Tryz
open Go.RowKit Go.Proofs Go.Lib Go.Proofs.YtgfiglcmhlbjjaaGreatW.PrintWords
theorem vs_of {w : World} {A : Option Addr} {c : Nat} {l : List Int} (h : (Kd.int .i64).C w A l.length l) : (l = [] ∧ ∃ A', A = A') ∨ ∃ b o, A = some ⟨b, o, none⟩ ∧ b < w.heap.size ∧ ∀ j, j < l.length → w.cell? ⟨b, o + j, none⟩ = some (.int .i64 (l[j]?.getD 0)) := by
  by_cases h0 : l.length = 0
  · exact .inl ⟨List.eq_nil_of_length_eq_zero h0, _, rfl⟩
  · right
    obtain ⟨ad, rfl, hc⟩ := int_at h 0 (by omega)
    have h1 : ad.add 0 = ad := by simp [Addr.add]
    rw [h1] at hc
    obtain ⟨b, o, s⟩ := ad
    obtain rfl := cell_spot hc
    refine ⟨b, o, rfl, ?_, fun j hj => ?_⟩
    · have := hc
      unfold World.cell? at this
      cases hb : w.heap[b]? with
      | none => simp [hb] at this
      | some o => exact (Array.getElem?_eq_some_iff.1 hb).1
    · obtain ⟨ad', e, hc'⟩ := int_at h j hj
      injection e with e
      rw [← e, addr_add _ _ rfl] at hc'
      simpa [List.getD_eq_getElem?_getD] using hc'
end Go.Np.Tryz
