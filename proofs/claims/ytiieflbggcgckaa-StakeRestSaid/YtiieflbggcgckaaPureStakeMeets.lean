/- StakeMeets is true of every input: two quorums meet; no condition. -/
import Derived.Test.YtiieflbggcgckaaStEv
import Derived.Test.YtiieflbggcgckaaPXx4
namespace Go.Np
open Go.RowKit Go.Proofs.YtiieflbggcgckaaW.PrintWords Go.Proofs.Ytiieflbggcgckaa.PX
/-- The numbers below n for which something holds. -/
def upTo (p : Int → Bool) : Nat → List Int
  | 0 => []
  | n + 1 => if p n then upTo p n ++ [(n : Int)] else upTo p n
theorem upTo_len (p : Int → Bool) : ∀ n, (upTo p n).length ≤ n
  | 0 => by simp [upTo]
  | n + 1 => by have := upTo_len p n; simp only [upTo]; split <;> simp <;> omega
theorem mem_upTo (p : Int → Bool) (x : Nat) : ∀ n, ((x : Int) ∈ upTo p n ↔ x < n ∧ p x = true)
  | 0 => by simp [upTo]
  | n + 1 => by
    have := mem_upTo p x n
    simp only [upTo]
    by_cases h : p n = true
    · simp only [h, if_true, List.mem_append, this, List.mem_singleton]
      constructor
      · rintro (h1 | h1)
        · exact ⟨by omega, h1.2⟩
        · have : x = n := by omega
          subst this; exact ⟨by omega, h⟩
      · rintro ⟨h1, h2⟩
        by_cases e : x = n
        · right; omega
        · left; exact ⟨by omega, h2⟩
    · rw [if_neg h, this]
      constructor
      · rintro ⟨h1, h2⟩; exact ⟨by omega, h2⟩
      · rintro ⟨h1, h2⟩
        refine ⟨?_, h2⟩
        have : x ≠ n := fun e => h (e ▸ h2)
        omega
theorem wl_upTo (st : List Int) (p : Int → Bool) : wl st (upTo p st.length) = ws st 0 p := by
  unfold wl
  refine ws_congr 0 (fun j _ hj => ?_)
  rw [Bool.eq_iff_iff, decide_eq_true_eq, mem_upTo]
  exact ⟨fun h => h.2, fun h => ⟨by omega, h⟩⟩
theorem in_step (who : List Int) (j : Nat) (h : j < who.length) (x : Int) : (who.take (j + 1)).contains x = ((who.take j).contains x || who[j] == x) := by
  rw [List.take_succ_eq_append_getElem h, Bool.eq_iff_iff]
  simp only [List.contains_eq_mem, decide_eq_true_eq, Bool.or_eq_true, beq_iff_eq, List.mem_append, List.mem_singleton]
  exact ⟨fun h => h.imp id Eq.symm, fun h => h.imp id Eq.symm⟩

theorem meets_l2 (st a b both : List Int) (hb : b.length ≤ maxLen) (i : Nat) (x9 : Bool) (n m : Int) (r : Bool) (hlen : both.length ≤ 7)
    (hr : Ev (fun k => neaptidelaw03_StakeMeets.l0 k st a b (if x9 && b.contains (i : Int) then both ++ [(i : Int)] else both) n (wrap64 (m + 1))) r) :
    ∀ d j : Nat, j + d = b.length → ∀ x : Bool, x = (b.take j).contains (i : Int) → Ev (fun k => neaptidelaw03_StakeMeets.l2 k st a b both (i : Int) x9 x n m b (b.length : Int) (j : Int)) r := by
  intro d
  induction d with
  | zero =>
    intro j hj x hx
    rw [List.take_of_length_le (by omega)] at hx
    refine Ev.step (fun k => by rw [neaptidelaw03_StakeMeets.l2]) ?_
    refine Ev.ite (fun h => by omega) (fun _ => ?_)
    rw [← hx] at hr
    refine Ev.ite (fun h1 => Ev.ite (fun h2 => Ev.ite (fun _ => ?_) (fun h => by omega)) (fun h2 => ?_)) (fun h1 => ?_)
    · rw [h1, h2] at hr; exact hr
    · rw [h1, Bool.eq_false_iff.2 h2] at hr; exact hr
    · rw [Bool.eq_false_iff.2 h1] at hr; exact hr
  | succ d ih =>
    intro j hj x hx
    have hlt : j < b.length := by omega
    unfold maxLen at hb
    refine Ev.step (fun k => by rw [neaptidelaw03_StakeMeets.l2]) ?_
    refine Ev.ite (fun _ => Ev.ite (fun _ => Ev.ite (fun _ => ?_) (fun h => by omega)) (fun h => by omega)) (fun h => by omega)
    rw [wrap_nat j (by omega), rd_nat b j hlt]
    refine Ev.ite (fun h => ?_) (fun h => ?_)
    · exact ih (j + 1) (by omega) true (by rw [in_step _ _ hlt, ← hx, h]; rfl)
    · exact ih (j + 1) (by omega) _ (by rw [in_step _ _ hlt, ← hx]; simp [h])
theorem meets_l1 (st a b both : List Int) (ha : a.length ≤ maxLen) (hb : b.length ≤ maxLen) (i : Nat) (n m : Int) (r : Bool) (hlen : both.length ≤ 7)
    (hr : Ev (fun k => neaptidelaw03_StakeMeets.l0 k st a b (if a.contains (i : Int) && b.contains (i : Int) then both ++ [(i : Int)] else both) n (wrap64 (m + 1))) r) :
    ∀ d j : Nat, j + d = a.length → ∀ x : Bool, x = (a.take j).contains (i : Int) → Ev (fun k => neaptidelaw03_StakeMeets.l1 k st a b both (i : Int) x false n m a (a.length : Int) (j : Int)) r := by
  intro d
  induction d with
  | zero =>
    intro j hj x hx
    rw [List.take_of_length_le (by omega)] at hx
    refine Ev.step (fun k => by rw [neaptidelaw03_StakeMeets.l1]) ?_
    refine Ev.ite (fun h => by omega) (fun _ => ?_)
    rw [← hx] at hr
    exact meets_l2 st a b both hb i x n m r hlen hr b.length 0 (by omega) false (by simp)
  | succ d ih =>
    intro j hj x hx
    have hlt : j < a.length := by omega
    unfold maxLen at ha
    refine Ev.step (fun k => by rw [neaptidelaw03_StakeMeets.l1]) ?_
    refine Ev.ite (fun _ => Ev.ite (fun _ => Ev.ite (fun _ => ?_) (fun h => by omega)) (fun h => by omega)) (fun h => by omega)
    rw [wrap_nat j (by omega), rd_nat a j hlt]
    refine Ev.ite (fun h => ?_) (fun h => ?_)
    · exact ih (j + 1) (by omega) true (by rw [in_step _ _ hlt, ← hx, h]; rfl)
    · exact ih (j + 1) (by omega) _ (by rw [in_step _ _ hlt, ← hx]; simp [h])
theorem meets_l0 {st : List Int} (h : okS st) (a b : List Int) (ha : a.length ≤ maxLen) (hb : b.length ≤ maxLen) (ma : 3 * wl st a > 2 * tot st) (mb : 3 * wl st b > 2 * tot st) :
    ∀ d i : Nat, i + d = st.length → Ev (fun k => neaptidelaw03_StakeMeets.l0 k st a b (upTo (fun x => a.contains x && b.contains x) i) (st.length : Int) (i : Int)) true := by
  have hl := h.2.1
  intro d
  induction d with
  | zero =>
    intro i hi
    obtain rfl : i = st.length := by omega
    have key : 3 * wl st (upTo (fun x => a.contains x && b.contains x) st.length) > tot st := by
      rw [wl_upTo]
      have h1 := ws_add st (fun y => decide (y ∈ a)) (fun y => decide (y ∈ b)) 0
      have h2 := ws_mono (p := fun x => decide (x ∈ a) || decide (x ∈ b)) (q := fun _ => true) h.2.2 (fun _ _ => rfl) 0
      have h3 : ws st 0 (fun x => a.contains x && b.contains x) = ws st 0 (fun x => decide (x ∈ a) && decide (x ∈ b)) := by simp
      rw [h3]
      unfold wl tot at *
      omega
    refine Ev.step (fun k => by rw [neaptidelaw03_StakeMeets.l0]) ?_
    refine Ev.ite (fun h => by omega) (fun _ => ?_)
    refine (some_ev h _).bind (Ev.ite (fun _ => ?_) (fun h => absurd key (by simpa using h)))
    refine (few_ev h _).bind (Ev.c ?_)
    simp only [Option.some.injEq, Bool.not_eq_true', decide_eq_false_iff_not]
    omega
  | succ d ih =>
    intro i hi
    have := upTo_len (fun x => a.contains x && b.contains x) i
    refine Ev.step (fun k => by rw [neaptidelaw03_StakeMeets.l0]) ?_
    refine Ev.ite (fun _ => ?_) (fun h => by omega)
    refine meets_l1 st a b _ ha hb i _ _ true (by omega) ?_ a.length 0 (by omega) false (by simp)
    have := ih (i + 1) (by omega)
    rw [wrap_nat i (by omega)]
    exact this
end Go.Np
namespace Go.Proofs.Ytiieflbggcgckaa.Pure
open Go.RowKit Go.Proofs.Ytiieflbggcgckaa.PX Go.Proofs.YtiieflbggcgckaaW.PrintWords Go.Np
theorem StakeMeets : neaptidelaw03_StakeMeets.Pure := by
  intro st a b _ _ _ ha _ _ hb _ _
  refine Ev.rounds (r := true) ?_
  unfold neaptidelaw03_StakeMeets.f
  refine alive_st.bind ?_
  simp only [if_true]
  refine (check_ev st).bind (Ev.ite (fun h => ?_) (fun _ => Ev.step (fun k => by rw [neaptidelaw03_StakeMeets.j0]) (Ev.ite (fun _ => Ev.c rfl) (fun h => by simp at h))))
  have ok : okS st := by
    unfold chk at h
    by_cases h' : okS st
    · exact h'
    · rw [if_neg h'] at h; omega
  refine (most_ev ok a).bind (Ev.ite (fun ma => (most_ev ok b).bind ?_) (fun _ => Ev.step (fun k => by rw [neaptidelaw03_StakeMeets.j0]) (Ev.ite (fun _ => Ev.c rfl) (fun h => by simp at h))))
  refine Ev.step (fun k => by rw [neaptidelaw03_StakeMeets.j0]) (Ev.ite (fun _ => Ev.c rfl) (fun mb => ?_))
  exact meets_l0 ok a b ha hb (by simpa using ma) (by simpa using mb) st.length 0 (by omega)
end Go.Proofs.Ytiieflbggcgckaa.Pure
