/- What CheckNames needs. -/
import Derived.Test.YtgfiglcmhlbjjaaQCheckNamesCkI
set_option linter.unusedVariables false
set_option linter.unusedSimpArgs false
namespace Go.Np.Try
open Go.RowKit Go.Proofs Go.Proofs.Ytgfiglcmhlbjjaa.PX Go.Proofs.YtgfiglcmhlbjjaaW.PrintWords
theorem row_atN {w : World} {e : TypeId} {n cp sz : Nat} {A : Option Addr} {xs : List Value} (h : w.ownsRow 0 e sz (.slice A n cp) n xs) (j : Nat) (u : Value) (hu : xs[j]? = some u) : ∃ g, A = some ⟨g, 0, none⟩ ∧ w.cell? ⟨g, j, none⟩ = some u := by
  have hj := (List.getElem?_eq_some_iff.1 hu).1
  have h1 := h.1
  rcases h.2 with ⟨h2, h3⟩ | ⟨g, cap, cur, h2, _, h4, _, _, _, h5⟩
  · subst h3; omega
  · injection h2 with h2 _ _
    refine ⟨g, h2, ?_⟩
    rw [cell_of h4, ← Array.getElem?_toList]
    rw [← h5, List.getElem?_take] at hu
    split at hu
    · exact hu
    · cases hu
section
variable {X : Nat → Prop} {w w' w1 : World} {p : Nat} {c c' : Co} {a a' : Pl}
set_option maxHeartbeats 2000000 in
set_option maxRecDepth 100000 in
theorem c_decisions (h : CoIn X w p c a) (hl : c.decs.length < 1000000) : Calls Try.prog 14 #[.pointer (some ⟨p, 0, none⟩)] w fun e w' => ∃ A d, e = .returned (.slice A c.decs.length d) ∧ OwnI w.heap.size w' (.slice A c.decs.length d) c.decs ∧ Fr [] w w' := by
  obtain ⟨A, d, hv, hc⟩ := h.dv
  obtain ⟨A', d', hv', _, hk⟩ := h.dec.sl
  have hAA : A' = A := by rw [hv] at hv'; injection hv' with e1 e2 e3; exact e1.symm
  subst hAA
  have HC := Lib.hid (clone_own (c := d) hk (by omega))
  obtain ⟨n, hn⟩ : ∃ n, c.decs.length = n := ⟨_, rfl⟩
  rw [hn] at hc HC
  rw [hn]
  have HN := Lib.hid hn
  refine calls_k fun R hR => ?_
  clear h hv hk hv' hn
  go_enter Try.func14, Try.ntmps14
  go_wp2_with (go_at_call 10; refine HC.out.mono ?_; rintro e w1 ⟨v, rfl, h1, h2⟩; obtain ⟨A, d, rfl⟩ := h1.formN HN.out; have H1 := Lib.hid h1; have H2 := Lib.hid h2; clear h1 h2 HC)
  exact hR.out _ _ ⟨A, d, rfl, H1.out, H2.out⟩
end
end Go.Np.Try
