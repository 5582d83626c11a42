/- StakeRest is true of every input: what a set and all others have is all; no condition. -/
import Derived.Test.YtiieflbggcgckaaPureStakeMeets
import Derived.Test.YtiieflbggcgckaaPXx5
namespace Go.Np
open Go.RowKit Go.Proofs.YtiieflbggcgckaaW.PrintWords Go.Proofs.Ytiieflbggcgckaa.PX
theorem rest_l1 (st who rest : List Int) (hw : who.length ≤ maxLen) (i : Nat) (n m : Int) (r : Bool) (hlen : rest.length ≤ 7)
    (hr : Ev (fun k => neaptidelaw03_StakeRest.l0 k st who (if !who.contains (i : Int) then rest ++ [(i : Int)] else rest) n (wrap64 (m + 1))) r) :
    ∀ d j : Nat, j + d = who.length → ∀ x : Bool, x = (who.take j).contains (i : Int) → Ev (fun k => neaptidelaw03_StakeRest.l1 k st who rest (i : Int) x n m who (who.length : Int) (j : Int)) r := by
  intro d
  induction d with
  | zero =>
    intro j hj x hx
    rw [List.take_of_length_le (by omega)] at hx
    refine Ev.step (fun k => by rw [neaptidelaw03_StakeRest.l1]) ?_
    refine Ev.ite (fun h => by omega) (fun _ => ?_)
    rw [← hx] at hr
    refine Ev.ite (fun h1 => ?_) (fun h1 => Ev.ite (fun _ => ?_) (fun h => by omega))
    · rw [h1] at hr; exact hr
    · rw [Bool.eq_false_iff.2 h1] at hr; exact hr
  | succ d ih =>
    intro j hj x hx
    have hlt : j < who.length := by omega
    unfold maxLen at hw
    refine Ev.step (fun k => by rw [neaptidelaw03_StakeRest.l1]) ?_
    refine Ev.ite (fun _ => Ev.ite (fun _ => Ev.ite (fun _ => ?_) (fun h => by omega)) (fun h => by omega)) (fun h => by omega)
    rw [wrap_nat j (by omega), rd_nat who j hlt]
    refine Ev.ite (fun h => ?_) (fun h => ?_)
    · exact ih (j + 1) (by omega) true (by rw [in_step _ _ hlt, ← hx, h]; rfl)
    · exact ih (j + 1) (by omega) _ (by rw [in_step _ _ hlt, ← hx]; simp [h])
theorem rest_l0 {st : List Int} (h : okS st) (who : List Int) (hw : who.length ≤ maxLen) :
    ∀ d i : Nat, i + d = st.length → Ev (fun k => neaptidelaw03_StakeRest.l0 k st who (upTo (fun x => !who.contains x) i) (st.length : Int) (i : Int)) true := by
  have hl := h.2.1
  intro d
  induction d with
  | zero =>
    intro i hi
    obtain rfl : i = st.length := by omega
    have e1 : wl st who + wl st (upTo (fun x => !who.contains x) st.length) = tot st := by
      rw [wl_upTo]
      have h1 := ws_compl st (fun y => decide (y ∈ who)) 0
      have h3 : ws st 0 (fun x => !who.contains x) = ws st 0 (fun x => !decide (x ∈ who)) := by simp
      rw [h3]; exact h1
    have b1 := wl_bounds h who
    have b2 := tot_bounds h
    refine Ev.step (fun k => by rw [neaptidelaw03_StakeRest.l0]) ?_
    refine Ev.ite (fun h => by omega) (fun _ => ?_)
    generalize upTo (fun x => !who.contains x) st.length = rest at e1 ⊢
    rw [sum_some h, sum_some h]
    simp only [Option.bind_some]
    refine (total_ev h).bind (Ev.ite (fun _ => ?_) (fun h' => absurd (by rw [w64 (by omega) (by omega)]; exact e1) h'))
    refine (most_ev h rest).bind ((few_ev h who).bind (Ev.ite (fun _ => ?_) (fun h' => absurd (by rw [beq_iff_eq, decide_eq_decide]; omega) h')))
    have fin : Ev (fun k => (stake_Some.f k st who).bind fun t => if t = true then (stake_Few.f k st who).bind fun t => some (!t) else some (!false)) true :=
      (some_ev h who).bind (Ev.ite (fun h1 => (few_ev h who).bind (Ev.c (by simp at h1 ⊢; omega))) (fun _ => Ev.c rfl))
    exact (most_ev h who).bind (Ev.ite (fun h1 => (some_ev h who).bind (Ev.ite (fun _ => fin) (fun h2 => by simp at h1 h2; omega))) (fun _ => fin))
  | succ d ih =>
    intro i hi
    have := upTo_len (fun x => !who.contains x) i
    refine Ev.step (fun k => by rw [neaptidelaw03_StakeRest.l0]) ?_
    refine Ev.ite (fun _ => ?_) (fun h => by omega)
    refine rest_l1 st who _ hw i _ _ true (by omega) ?_ who.length 0 (by omega) false (by simp)
    have := ih (i + 1) (by omega)
    rw [wrap_nat i (by omega)]
    exact this
end Go.Np
namespace Go.Proofs.Ytiieflbggcgckaa.Pure
open Go.RowKit Go.Proofs.Ytiieflbggcgckaa.PX Go.Proofs.YtiieflbggcgckaaW.PrintWords Go.Np
theorem StakeRest : neaptidelaw03_StakeRest.Pure := by
  intro st who _ _ _ hw _ _
  refine Ev.rounds (r := true) ?_
  unfold neaptidelaw03_StakeRest.f
  refine alive_st.bind ?_
  simp only [if_true]
  refine (check_ev st).bind (Ev.ite (fun h => ?_) (fun _ => Ev.c rfl))
  have ok : okS st := by
    unfold chk at h
    by_cases h' : okS st
    · exact h'
    · rw [if_neg h'] at h; omega
  exact rest_l0 ok who hw st.length 0 (by omega)
end Go.Proofs.Ytiieflbggcgckaa.Pure
