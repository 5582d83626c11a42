/- Stakes: the chapter's example, and the document's sum. -/
import Derived.Test.YtiieflbggcgckaaStPl
import Derived.Test.YtiieflbggcgckaaPXx2
import Derived.Test.YtiieflbggcgckaaPXx3
namespace Go.Np
open Go.RowKit Go.Proofs.YtiieflbggcgckaaW.PrintWords Go.Proofs.Ytiieflbggcgckaa.PX

theorem alive_st : Ev (fun k => neaptidelaw03_stakeAlive.f k) true := Ev.of (fun k => neaptidelaw03_stakeAlive.mono k) (k := 12) (by decide +kernel)

/-! the document's check -/
theorem rcheck_l0 (l : List Int) (hm : l.length ≤ 7) : ∀ d i : Nat, i + d = l.length → Ev (fun k => neaptideref03_Check.l0 k l (l.length : Int) i) (if rngS (l.drop i) = true then 0 else 31) := by
  intro d
  induction d with
  | zero =>
    intro i hi
    refine Ev.step (fun k => by rw [neaptideref03_Check.l0]) ?_
    refine Ev.ite (fun h => by omega) (fun _ => Ev.c ?_)
    rw [if_pos (by rw [List.drop_of_length_le (by omega)]; rfl)]
  | succ d ih =>
    intro i hi
    have hlt : i < l.length := by omega
    have hd := List.drop_eq_getElem_cons hlt
    refine Ev.step (fun k => by rw [neaptideref03_Check.l0]) ?_
    refine Ev.ite (fun _ => Ev.ite (fun _ => Ev.ite (fun _ => ?_) (fun h => by omega)) (fun h => by omega)) (fun h => by omega)
    rw [rd_nat l i hlt, hd]
    refine Ev.ite (fun h => Ev.c ?_) (fun h1 => Ev.ite (fun h => Ev.c ?_) (fun h2 => ?_))
    · rw [if_neg (fun h' => by have := rngS_iff.1 h' _ (.head _); omega)]
    · rw [if_neg (fun h' => by have := rngS_iff.1 h' _ (.head _); omega)]
    · have := ih (i + 1) (by omega)
      rw [w64 (by omega) (by omega)]
      have e : rngS (l[i] :: l.drop (i + 1)) = rngS (l.drop (i + 1)) := by
        simp only [rngS, List.all_cons, show decide (1 ≤ l[i] ∧ l[i] ≤ 1000000) = true from decide_eq_true (by omega), Bool.true_and]
      rw [e]
      exact this
theorem rcheck_ev (l : List Int) : Ev (fun k => neaptideref03_Check.f k l) (chk l) := by
  unfold neaptideref03_Check.f
  refine Ev.ite (fun h => ?_) (fun h => ?_)
  · refine Ev.step (fun k => by rw [neaptideref03_Check.j0]) (Ev.ite (fun _ => Ev.c ?_) (fun h => by simp at h))
    rw [chk, if_neg (fun h' => by have := h'.1; omega)]
  · refine Ev.step (fun k => by rw [neaptideref03_Check.j0]) (Ev.ite (fun h' => Ev.c ?_) (fun h' => ?_))
    · rw [chk, if_neg (fun h3 => by have := h3.2.1; simp at h'; omega)]
    · have := rcheck_l0 l (by simp at h'; omega) l.length 0 (by omega)
      simp only [List.drop_zero, Int.natCast_zero] at this
      have e : chk l = if rngS l = true then 0 else 31 := by
        unfold chk
        by_cases h3 : rngS l = true
        · rw [if_pos h3, if_pos ⟨by omega, by simp at h'; omega, rngS_iff.1 h3⟩]
        · rw [if_neg h3, if_neg (fun h4 => h3 (rngS_iff.2 h4.2.2))]
      rw [e]; exact this

/-! the document's sum -/
theorem wrap_nat (i : Nat) (h : i < 9223372036854775807) : wrap64 ((i : Int) + 1) = ((i + 1 : Nat) : Int) := by unfold wrap64; omega
theorem rsum_l1 (l who : List Int) (hw : who.length ≤ maxLen) (sum total : Int) (i : Nat) (hi : i < l.length) : ∀ d j : Nat, j + d = who.length → ∀ b : Bool, (b = (who.take j).contains (i : Int)) → ∀ r,
    Ev (fun k => neaptideref03_Sum.l0 k who (wrap64 (sum + if who.contains (i : Int) then l[i] else 0)) (wrap64 (total + l[i])) l (l.length : Int) (wrap64 ((i : Int) + 1))) r →
    (who.contains (i : Int) = false → wrap64 (sum + 0) = sum) →
    Ev (fun k => neaptideref03_Sum.l1 k who sum total (i : Int) (rd l i) b l (l.length : Int) (i : Int) who (who.length : Int) (j : Int)) r := by
  intro d
  induction d with
  | zero =>
    intro j hj b hb r hr h0
    rw [List.take_of_length_le (by omega)] at hb
    refine Ev.step (fun k => by rw [neaptideref03_Sum.l1]) ?_
    refine Ev.ite (fun h => by omega) (fun _ => ?_)
    rw [rd_nat l i hi]
    refine Ev.ite (fun h => ?_) (fun h => ?_)
    · rw [if_pos (hb ▸ h)] at hr; exact hr
    · have : who.contains (i : Int) = false := by rw [← hb]; simpa using h
      rw [this] at hr h0
      simp only [Bool.false_eq_true, if_false] at hr
      rw [h0 rfl] at hr; exact hr
  | succ d ih =>
    intro j hj b hb r hr h0
    have hlt : j < who.length := by omega
    unfold maxLen at hw
    refine Ev.step (fun k => by rw [neaptideref03_Sum.l1]) ?_
    refine Ev.ite (fun _ => Ev.ite (fun _ => Ev.ite (fun _ => ?_) (fun h => by omega)) (fun h => by omega)) (fun h => by omega)
    rw [wrap_nat j (by omega), rd_nat who j hlt]
    have ht : (who.take (j + 1)).contains (i : Int) = ((who.take j).contains (i : Int) || who[j] == (i : Int)) := by
      rw [List.take_succ_eq_append_getElem hlt, Bool.eq_iff_iff]
      simp only [List.contains_eq_mem, decide_eq_true_eq, Bool.or_eq_true, beq_iff_eq, List.mem_append, List.mem_singleton]
      exact ⟨fun h => h.imp id Eq.symm, fun h => h.imp id Eq.symm⟩
    refine Ev.ite (fun h => ?_) (fun h => ?_)
    · exact ih (j + 1) (by omega) true (by rw [ht, ← hb, h]; rfl) r hr h0
    · exact ih (j + 1) (by omega) _ (by rw [ht, ← hb]; simp [h]) r hr h0
theorem ws_last (l : List Int) (p : Int → Bool) : ∀ n (i : Nat) (h : n < l.length), ws (l.take (n + 1)) i p = ws (l.take n) i p + if p ((i + n : Nat) : Int) then l[n] else 0 := by
  induction l with
  | nil => intro n i h; simp at h
  | cons w l ih =>
    intro n i h
    cases n with
    | zero => simp [ws]
    | succ n =>
      simp only [List.take_succ_cons, ws, List.getElem_cons_succ]
      rw [ih n (i + 1) (by simpa using h), show i + 1 + n = i + (n + 1) by omega]
      omega
theorem rsum_l0 {l : List Int} (h : okS l) (who : List Int) (hw : who.length ≤ maxLen) : ∀ d i : Nat, i + d = l.length →
    Ev (fun k => neaptideref03_Sum.l0 k who (ws (l.take i) 0 (fun y => decide (y ∈ who))) (ws (l.take i) 0 (fun _ => true)) l (l.length : Int) (i : Int)) (wl l who, tot l) := by
  have hl := h.2.1
  intro d
  induction d with
  | zero =>
    intro i hi
    refine Ev.step (fun k => by rw [neaptideref03_Sum.l0]) ?_
    refine Ev.ite (fun h => by omega) (fun _ => Ev.c ?_)
    rw [List.take_of_length_le (by omega)]; rfl
  | succ d ih =>
    intro i hi
    have hlt : i < l.length := by omega
    refine Ev.step (fun k => by rw [neaptideref03_Sum.l0]) ?_
    refine Ev.ite (fun _ => Ev.ite (fun _ => Ev.ite (fun _ => ?_) (fun h => by omega)) (fun h => by omega)) (fun h => by omega)
    have b0 := ws_bounds (l := l.take i) (fun w hw => h.2.2 w (List.mem_of_mem_take hw)) (fun y => decide (y ∈ who)) 0
    have b1 := ws_bounds (l := l.take i) (fun w hw => h.2.2 w (List.mem_of_mem_take hw)) (fun _ => true) 0
    have b2 := h.2.2 l[i] (List.getElem_mem hlt)
    rw [List.length_take] at b0 b1
    refine rsum_l1 l who hw _ _ i hlt who.length 0 (by omega) false (by simp) _ ?_ (fun _ => by rw [w64 (by omega) (by omega)]; omega)
    have := ih (i + 1) (by omega)
    rw [ws_last l _ i 0 hlt, ws_last l _ i 0 hlt] at this
    simp only [Nat.zero_add, if_true] at this
    have e1 : (if who.contains (i : Int) = true then l[i] else 0) = if decide ((i : Int) ∈ who) = true then l[i] else 0 := by simp
    rw [e1, w64 (by split <;> omega) (by split <;> omega), w64 (by omega) (by omega), wrap_nat i (by omega)]
    exact this
theorem rsum_ev {l : List Int} (h : okS l) (who : List Int) (hw : who.length ≤ maxLen) : Ev (fun k => neaptideref03_Sum.f k l who) (wl l who, tot l) := by
  have := rsum_l0 h who hw l.length 0 (by omega)
  simpa [neaptideref03_Sum.f, ws] using this
theorem rmost_ev {l : List Int} (h : okS l) (who : List Int) (hw : who.length ≤ maxLen) : Ev (fun k => neaptideref03_Most.f k l who) (decide (3 * wl l who > 2 * tot l)) := by
  have b := wl_bounds h who; have t := tot_bounds h
  unfold neaptideref03_Most.f
  refine (rsum_ev h who hw).bind (Ev.c ?_)
  simp only []
  rw [w64 (by omega) (by omega), w64 (by omega) (by omega)]
theorem rsome_ev {l : List Int} (h : okS l) (who : List Int) (hw : who.length ≤ maxLen) : Ev (fun k => neaptideref03_Some.f k l who) (decide (3 * wl l who > tot l)) := by
  have b := wl_bounds h who; have t := tot_bounds h
  unfold neaptideref03_Some.f
  refine (rsum_ev h who hw).bind (Ev.c ?_)
  simp only []
  rw [w64 (by omega) (by omega)]
theorem rfew_ev {l : List Int} (h : okS l) (who : List Int) (hw : who.length ≤ maxLen) : Ev (fun k => neaptideref03_Few.f k l who) (decide (3 * wl l who < tot l)) := by
  have b := wl_bounds h who; have t := tot_bounds h
  unfold neaptideref03_Few.f
  refine (rsum_ev h who hw).bind (Ev.c ?_)
  simp only []
  rw [w64 (by omega) (by omega)]
end Go.Np
