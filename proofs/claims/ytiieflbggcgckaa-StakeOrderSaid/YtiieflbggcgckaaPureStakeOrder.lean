/- StakeOrder is true of every input: a set's order, and who comes twice or isn't there, is nothing; no condition. -/
import Derived.Test.YtiieflbggcgckaaStEv
import Derived.Test.YtiieflbggcgckaaPXx6
namespace Go.Np
open Go.RowKit Go.Proofs.YtiieflbggcgckaaW.PrintWords Go.Proofs.Ytiieflbggcgckaa.PX
theorem wl_same {st a b : List Int} (h : ∀ j : Nat, j < st.length → ((j : Int) ∈ a ↔ (j : Int) ∈ b)) : wl st a = wl st b := by
  unfold wl
  exact ws_congr 0 (fun j _ hj => by rw [Bool.eq_iff_iff, decide_eq_true_eq, decide_eq_true_eq]; exact h j (by omega))
theorem order_l0 {st : List Int} (h : okS st) (who : List Int) (hw : who.length ≤ 1000) : ∀ (n : Nat) (other : List Int), n ≤ who.length → other.length + 2 * n ≤ 3000 →
    (∀ j : Nat, j < 7 → ((j : Int) ∈ other ↔ (j : Int) ∈ who.drop n)) → Ev (fun k => neaptidelaw03_StakeOrder.l0 k st who other ((n : Int) - 1)) true := by
  intro n
  induction n with
  | zero =>
    intro other _ _ hm
    refine Ev.step (fun k => by rw [neaptidelaw03_StakeOrder.l0]) ?_
    refine Ev.ite (fun h => by omega) (fun _ => ?_)
    have e : wl st other = wl st who := wl_same (fun j hj => by rw [hm j (by have := h.2.1; omega)]; simp)
    rw [sum_some h, sum_some h, e]
    simp only [Option.bind_some, if_true]
    have h2 := most_ev h other
    rw [e] at h2
    exact h2.bind ((most_ev h who).bind (Ev.c (by simp)))
  | succ n ih =>
    intro other hn hl hm
    have hlt : n < who.length := by omega
    have e : ((n + 1 : Nat) : Int) - 1 = n := by omega
    rw [e]
    refine Ev.step (fun k => by rw [neaptidelaw03_StakeOrder.l0]) ?_
    refine Ev.ite (fun _ => Ev.ite (fun _ => Ev.ite (fun _ => ?_) (fun h => by omega)) (fun h => by omega)) (fun h => by omega)
    simp only [Option.bind_some]
    refine Ev.ite (fun _ => ?_) (fun h => absurd (show other.length + [rd who (n : Int), rd who (n : Int)].length < 17592186044416 by simp; omega) h)
    rw [rd_nat who n hlt, w64 (by omega) (by omega)]
    refine ih _ (by omega) (by simp; omega) (fun j hj => ?_)
    rw [List.drop_eq_getElem_cons hlt, List.mem_append, List.mem_cons, hm j hj]
    simp only [List.mem_cons, List.not_mem_nil, or_false]
    constructor
    · rintro (h1 | h1 | h1) <;> simp [h1]
    · rintro (h1 | h1) <;> simp [h1]
end Go.Np
namespace Go.Proofs.Ytiieflbggcgckaa.Pure
open Go.RowKit Go.Proofs.Ytiieflbggcgckaa.PX Go.Proofs.YtiieflbggcgckaaW.PrintWords Go.Np
theorem StakeOrder : neaptidelaw03_StakeOrder.Pure := by
  intro st who _ _ _ hw _ _
  refine Ev.rounds (r := true) ?_
  unfold neaptidelaw03_StakeOrder.f
  refine alive_st.bind ?_
  simp only [if_true]
  refine (check_ev st).bind (Ev.ite (fun h => ?_) (fun _ => Ev.step (fun k => by rw [neaptidelaw03_StakeOrder.j0]) (Ev.ite (fun _ => Ev.c rfl) (fun h => by simp at h))))
  have ok : okS st := by
    unfold chk at h
    by_cases h' : okS st
    · exact h'
    · rw [if_neg h'] at h; omega
  refine Ev.step (fun k => by rw [neaptidelaw03_StakeOrder.j0]) (Ev.ite (fun _ => Ev.c rfl) (fun h1 => ?_))
  have hl : who.length ≤ 1000 := by simp at h1; omega
  rw [w64 (by omega) (by omega)]
  refine order_l0 ok who hl who.length _ (Nat.le_refl _) (by simp; omega) (fun j hj => ?_)
  simp
  omega
end Go.Proofs.Ytiieflbggcgckaa.Pure
