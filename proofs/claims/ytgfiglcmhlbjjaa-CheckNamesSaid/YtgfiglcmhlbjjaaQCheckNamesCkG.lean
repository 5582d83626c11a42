/- What CheckNames needs. -/
import Derived.Test.YtgfiglcmhlbjjaaQCheckNamesNpA
import Derived.ScopeJumps
namespace Go.Np
open Go.RowKit
theorem least {J : Nat → Prop} : ∀ n, J n → ∃ k, J k ∧ ∀ m, m < k → ¬ J m := by
  intro n
  induction n using Nat.strongRecOn with
  | _ n ih =>
    intro h
    by_cases hm : ∃ m, m < n ∧ J m
    · obtain ⟨m, h1, h2⟩ := hm
      exact ih m h1 h2
    · exact ⟨n, h, fun m h1 h2 => hm ⟨m, h1, h2⟩⟩
open Classical in
noncomputable def leastN (J : Nat → Prop) : Nat := if h : ∃ n, J n then Classical.choose (least h.choose h.choose_spec) else 0
theorem leastN_spec {J : Nat → Prop} {n : Nat} (h : J n) : J (leastN J) ∧ ∀ m, J m → leastN J ≤ m := by
  have h' : ∃ n, J n := ⟨n, h⟩
  have hs := Classical.choose_spec (least h'.choose h'.choose_spec)
  unfold leastN
  rw [dif_pos h']
  exact ⟨hs.1, fun m hm => Nat.le_of_not_lt (fun hl => hs.2 m hl hm)⟩
section
variable {P : Program} {a : Act} {w : World} {Q : Exit → Act → World → Prop}
theorem wp_scope_jumpsG {c rest : Code} (l : Nat) (J : Nat → Act → World → Prop) (hf : findLabel c l = some rest)
    (first : c.wp P (Exit.jump l (fun a w => ∃ n, J n a w) Q) a w)
    (pass : ∀ n a w, J n a w → rest.wp P (Exit.jump l (fun a' w' => ∃ m, m < n ∧ J m a' w') Q) a w) : (Code.scope c).wp P Q a w := by
  refine wp_scope_jumps l (fun a w => ∃ n, J n a w) (fun a w => leastN (fun n => J n a w)) hf first ?_
  rintro a w ⟨n, hn⟩
  obtain ⟨h1, h2⟩ := leastN_spec (J := fun n => J n a w) hn
  refine Code.wp_mono ?_ (pass _ a w h1)
  intro e a' w' he
  cases e with
  | goto l' =>
    obtain ⟨e1, m, hm, hj⟩ := he
    exact ⟨e1, ⟨m, hj⟩, Nat.lt_of_le_of_lt ((leastN_spec (J := fun n => J n a' w') hj).2 m hj) hm⟩
  | normal => exact he
  | exit id => exact he
  | ret => exact he
  | panic ch => exact he
  | outgrown => exact he
theorem wp_scope_jumpsG3 {c body : Code} (l : Nat) (J : Nat → Act → World → Prop) (hf : findLabel c l = some (Code.skip.seq body))
    (pass : ∀ n a w, J n a w → body.wp P (Exit.jump l (fun a' w' => ∃ m, m < n ∧ J m a' w') Q) a w)
    (first : (∀ n a w, J n a w → body.wp P (Exit.jump l (fun a' w' => ∃ m, J m a' w') Q) a w) → c.wp P (Exit.jump l (fun a w => ∃ n, J n a w) Q) a w) : (Code.scope c).wp P Q a w := by
  refine wp_scope_jumpsG l J hf (first ?_) (fun n a w hn => wp_seq (wp_skip (pass n a w hn)))
  intro n a w hn
  refine Code.wp_mono ?_ (pass n a w hn)
  intro e a' w' he
  cases e with
  | goto l' =>
    obtain ⟨e1, m, hm, hj⟩ := he
    exact ⟨e1, m, hj⟩
  | normal => exact he
  | exit id => exact he
  | ret => exact he
  | panic ch => exact he
  | outgrown => exact he
end
end Go.Np
