/- What CheckNames needs. -/
import Derived.Test.YtgfiglcmhlbjjaaQCheckNamesCkP
set_option linter.unusedVariables false
set_option linter.unusedSimpArgs false
namespace Go.Np.Try
open Go.RowKit Go.Proofs.Ytgfiglcmhlbjjaa.PX Go.Proofs.YtgfiglcmhlbjjaaW.PrintWords
def al3 : Am := ⟨-1, 3, 0, 0, 0, 65536, -1⟩
def al4 : Am := ⟨-1, 4, 0, 0, 0, 65536, 0⟩
def al5 : Am := ⟨-1, 5, 0, 0, 0, 65536, 0⟩
def al6 : Am := ⟨-1, 6, 0, 0, 0, 65536, 0⟩
def alC1 : Co := ⟨0, 2, 8, [1], [], 0, 1, 65536, [], [(0, (65536, -1))], [], (0, -1), (0, -1), [al3]⟩
def alC2 : Co := ⟨0, 2, 8, [1], [], 0, 2, 65536, [⟨4, 0, 0, 65536⟩], [(0, (65536, -1))], [], (0, -1), (0, -1), [al3, al4]⟩
def alC3 : Co := ⟨0, 2, 8, [1], [], 0, 3, 65536, [⟨4, 0, 0, 65536⟩, ⟨5, 0, 0, 65536⟩], [(0, (65536, -1))], [], (65536, 0), (65536, 0), [al3, al4, al5]⟩
def alC4 : Co := ⟨0, 2, 8, [1], [65536], 0, 0, 65536, [], [], [], (0, -1), (0, -1), [al3, al4, al5, al6]⟩
theorem al_ms : (([] : List Int).mergeSort fun x y => decide (x ≤ y)) = [] := by simp
theorem al_e0 (b : Bool) : ({ Co.new 0 [1] 2 8 with tip := 65536 } : Co).tick1 b = alC1 := by rfl
theorem al_a1 : alC1.agreed = (0, false) := by unfold Co.agreed; rw [if_neg (by decide)]; show (match (([] : List Int).mergeSort _).find? _ with | some v => (v, true) | none => ((0 : Int), false)) = _; rw [al_ms]; rfl
theorem al_a2 : alC2.agreed = (0, false) := by unfold Co.agreed; rw [if_neg (by decide)]; show (match (([] : List Int).mergeSort _).find? _ with | some v => (v, true) | none => ((0 : Int), false)) = _; rw [al_ms]; rfl
theorem al_a3 : alC3.agreed = (65536, true) := by unfold Co.agreed; rw [if_pos (by decide)]; rfl
theorem al_a4 : alC4.agreed = (0, false) := by unfold Co.agreed; rw [if_neg (by decide)]; show (match (([] : List Int).mergeSort _).find? _ with | some v => (v, true) | none => ((0 : Int), false)) = _; rw [al_ms]; rfl
theorem al_e1 : alC1.next [65536] = (alC2, true) := by unfold Co.next; rw [al_a1]; rfl
theorem al_e2 : alC2.next [65536] = (alC3, true) := by unfold Co.next; rw [al_a2]; rfl
theorem al_e3 : alC3.next [65536] = (alC4, true) := by unfold Co.next; rw [al_a3]; rfl
theorem al_e4 : alC4.next [65536] = (alC4, false) := by unfold Co.next; rw [al_a4]; rfl
theorem Co.Settles.one {known : List Int} {c c1 d : Co} (h : Co.Settles known c d) (e : c.next known = (c1, true)) : Co.Settles known c1 d := by
  cases h with
  | stop e' => rw [e] at e'; cases e'
  | go e' h' => rw [e] at e'; cases e'; exact h'
theorem Co.Settles.last {known : List Int} {c c1 d : Co} (h : Co.Settles known c d) (e : c.next known = (c1, false)) : d = c1 := by
  cases h with
  | stop e' => rw [e] at e'; cases e'; rfl
  | go e' h' => rw [e] at e'; cases e'
theorem al_settles {d : Co} (h : Co.Settles [65536] alC1 d) : d = alC4 := (((h.one al_e1).one al_e2).one al_e3).last al_e4
theorem al_ticks {c' : Co} {l : List Am} (h : Co.Ticks [65536] 65536 (Co.new 0 [1] 2 8) c' l) : c' = alC4.flush ∧ l = [al3, al4, al5, al6] := by
  unfold Co.Ticks at h
  rw [if_neg (by decide)] at h
  obtain ⟨b, d, h1, h2, h3⟩ := h
  rw [al_e0] at h1
  have := al_settles h1
  subst this
  exact ⟨h2, h3⟩
end Go.Np.Try
