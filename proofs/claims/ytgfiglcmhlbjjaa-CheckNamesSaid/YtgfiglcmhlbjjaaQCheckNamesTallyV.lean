/- What CheckNames needs. -/
import Derived.Test.YtgfiglcmhlbjjaaQCheckNamesTaC
set_option linter.unusedVariables false
set_option linter.unusedSimpArgs false
namespace Go.Np.Try
open Go.RowKit Go.Proofs.Ytgfiglcmhlbjjaa.PX Go.Proofs.YtgfiglcmhlbjjaaW.PrintWords
def Good (n : Nat) (mS : List S41) : Prop := ∃ m, m.map toS = mS ∧ Inv n m
section
variable {n : Nat} {st : List Int} {a b : List S41}
theorem Good.from (h : Good n a) : ∀ q ∈ a, 0 ≤ q.f2 ∧ q.f2 < n := by
  obtain ⟨m, rfl, hi⟩ := h
  intro q hq
  obtain ⟨x, hx, rfl⟩ := List.mem_map.1 hq
  exact ⟨(hi.ok x hx).2.2.2.1, (hi.ok x hx).2.2.2.2.1⟩
theorem some_mono {A B : List Int} (hst : okS st) (h : ∀ x ∈ A, x ∈ B) (ha : someB st A = true) : someB st B = true := by
  simp only [someB, decide_eq_true_eq] at ha ⊢
  have : wl st A ≤ wl st B := ws_mono hst.2.2 (fun x hx => by simp only [decide_eq_true_eq] at hx ⊢; exact h x hx) 0
  omega
end
end Go.Np.Try
