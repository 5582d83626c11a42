/- Stakes: the plain laws (numbers and lists alone), and what the printed functions of package stake come to. -/
import Derived.Test.YtiieflbggcgckaaPXx1
namespace Go.Np
open Go.RowKit Go.Proofs.YtiieflbggcgckaaW.PrintWords

/-! ### weights of a set -/
def ws : List Int → Nat → (Int → Bool) → Int
  | [], _, _ => 0
  | w :: l, i, p => (if p i then w else 0) + ws l (i + 1) p
def okS (st : List Int) : Prop := 1 ≤ st.length ∧ st.length ≤ 7 ∧ ∀ w ∈ st, 1 ≤ w ∧ w ≤ 1000000
def tot (st : List Int) : Int := ws st 0 (fun _ => true)

theorem ws_bounds {l : List Int} (h : ∀ w ∈ l, 1 ≤ w ∧ w ≤ 1000000) (p : Int → Bool) : ∀ i, 0 ≤ ws l i p ∧ ws l i p ≤ l.length * 1000000 := by
  induction l with
  | nil => intro i; simp [ws]
  | cons w l ih =>
    intro i
    have h1 := ih (fun x hx => h x (.tail _ hx)) (i + 1)
    have h2 := h w (.head _)
    simp only [ws, List.length_cons]
    split <;> omega
theorem ws_add (l : List Int) (p q : Int → Bool) : ∀ i, ws l i p + ws l i q = ws l i (fun x => p x && q x) + ws l i (fun x => p x || q x) := by
  induction l with
  | nil => intro i; simp [ws]
  | cons w l ih =>
    intro i
    have h1 := ih (i + 1)
    simp only [ws]
    by_cases hp : p i = true <;> by_cases hq : q i = true <;> simp [hp, hq] <;> omega
theorem ws_mono {l : List Int} (h : ∀ w ∈ l, 1 ≤ w ∧ w ≤ 1000000) {p q : Int → Bool} (hpq : ∀ x, p x = true → q x = true) : ∀ i, ws l i p ≤ ws l i q := by
  induction l with
  | nil => intro i; simp [ws]
  | cons w l ih =>
    intro i
    have h1 := ih (fun x hx => h x (.tail _ hx)) (i + 1)
    have h2 := h w (.head _)
    simp only [ws]
    cases hp : p i
    · simp; split <;> omega
    · simp [hpq _ hp]; omega
theorem ws_congr {l : List Int} {p q : Int → Bool} : ∀ i, (∀ j : Nat, i ≤ j → j < i + l.length → p j = q j) → ws l i p = ws l i q := by
  induction l with
  | nil => intro i _; simp [ws]
  | cons w l ih =>
    intro i h
    simp only [ws, h i (Nat.le_refl _) (by simp)]
    rw [ih (i + 1) (fun j h1 h2 => h j (by omega) (by simp; omega))]
theorem ws_compl (l : List Int) (p : Int → Bool) (i : Nat) : ws l i p + ws l i (fun x => !p x) = ws l i (fun _ => true) := by
  rw [ws_add]
  have h0 : ∀ i, ws l i (fun x => p x && !p x) = 0 := by
    induction l with
    | nil => intro i; rfl
    | cons w l ih => intro i; simp only [ws]; rw [ih]; by_cases hp : p i = true <;> simp [hp]
  have h1 : ws l i (fun x => p x || !p x) = ws l i (fun _ => true) := ws_congr i (fun j _ _ => by cases p j <;> simp)
  rw [h0, h1]; omega
theorem ws_new (l : List Int) (p : Int → Bool) (x : Nat) (hp : p x = false) : ∀ i, i ≤ x → x < i + l.length → ws l i (fun y => decide (y = x) || p y) = ws l i p + l.getD (x - i) 0 := by
  induction l with
  | nil => intro i h1 h2; simp at h2; omega
  | cons w l ih =>
    intro i h1 h2
    simp only [ws]
    by_cases e : i = x
    · subst e
      rw [ws_congr (p := fun y => decide (y = (i : Int)) || p y) (q := p) (i + 1) (fun j h3 _ => by simp; omega)]
      simp [hp]; omega
    · rw [ih (i + 1) (by omega) (by simp at h2; omega), show x - i = (x - (i + 1)) + 1 by omega]
      have : ¬ (i : Int) = x := by omega
      simp [this]; omega

theorem w64 {x : Int} (h0 : -9223372036854775808 ≤ x) (h1 : x ≤ 9223372036854775807) : wrap64 x = x := by unfold wrap64; omega

/-- The sum of a set, as the program reckons it. -/
theorem sumGo_eq {st : List Int} (h : okS st) : ∀ (l seen : List Int), sumGo st l seen (ws st 0 (fun y => decide (y ∈ seen))) = ws st 0 (fun y => decide (y ∈ seen) || decide (y ∈ l)) := by
  intro l
  induction l with
  | nil => intro seen; simp [sumGo]
  | cons x l ih =>
    intro seen
    rw [sumGo]
    split
    · rename_i hx
      obtain ⟨h0, h1, h2⟩ := hx
      obtain ⟨n, rfl⟩ := Int.eq_ofNat_of_zero_le h0
      have hn := ws_new st (fun y => decide (y ∈ seen)) n (by simpa using h2) 0 (Nat.zero_le _) (by omega)
      have hs : ws st 0 (fun y => decide (y ∈ (n : Int) :: seen)) = ws st 0 (fun y => decide (y = (n : Int)) || decide (y ∈ seen)) := by
        congr 1; funext y; simp
      have hb := ws_bounds h.2.2 (fun y => decide (y ∈ (n : Int) :: seen)) 0
      have hl := h.2.1
      rw [hs, hn] at hb
      simp only [Int.toNat_natCast, Nat.sub_zero] at hb hn ⊢
      rw [w64 (by omega) (by omega), ← hn, ← hs, ih]
      congr 1; funext y
      rw [Bool.eq_iff_iff]
      simp only [Bool.or_eq_true, decide_eq_true_eq, List.mem_cons]
      constructor
      · rintro ((h | h) | h) <;> simp [h]
      · rintro (h | h | h) <;> simp [h]
    · rename_i hx
      rw [ih]
      refine ws_congr 0 (fun j _ hj => ?_)
      rw [Bool.eq_iff_iff]
      simp only [Bool.or_eq_true, decide_eq_true_eq, List.mem_cons]
      constructor
      · rintro (h | h) <;> simp [h]
      · rintro (h | h | h)
        · simp [h]
        · subst h
          left
          have : ¬ (j : Int) ∉ seen := fun h3 => hx ⟨by omega, by omega, h3⟩
          simpa using this
        · simp [h]
theorem sumP_eq {st : List Int} (h : okS st) (who : List Int) : sumP st who = ws st 0 (fun y => decide (y ∈ who)) := by
  have h0 : ws st 0 (fun y => decide (y ∈ ([] : List Int))) = 0 := by
    have : ∀ (l : List Int) i, ws l i (fun y => decide (y ∈ ([] : List Int))) = 0 := by
      intro l; induction l with
      | nil => intro i; rfl
      | cons w l ih => intro i; simp only [ws]; rw [ih]; simp
    exact this st 0
  have := sumGo_eq h who []
  rw [h0] at this
  rw [sumP, this]
  refine ws_congr 0 (fun j _ _ => by simp)

/-! ### what the printed functions come to -/
section
open Go.Proofs.Ytiieflbggcgckaa.PX
theorem Ev.ite {α : Type} {c : Prop} [Decidable c] {g f : Nat → Option α} {r : α} (h : c → Ev g r) (k : ¬ c → Ev f r) : Ev (fun n => if c then g n else f n) r := by
  by_cases hc : c
  · simpa [hc] using h hc
  · simpa [hc] using k hc
theorem Ev.c {α : Type} {o : Option α} {r : α} (h : o = some r) : Ev (fun _ => o) r := ⟨0, fun _ _ => h⟩
instance (st : List Int) : Decidable (okS st) := by unfold okS; infer_instance
theorem rd_nat (l : List Int) (i : Nat) (h : i < l.length) : rd l i = l[i] := by
  simp [rd, List.getD_eq_getElem?_getD, List.getElem?_eq_getElem h]

def rngS (l : List Int) : Bool := l.all fun w => decide (1 ≤ w ∧ w ≤ 1000000)
theorem rngS_iff {l : List Int} : rngS l = true ↔ ∀ w ∈ l, 1 ≤ w ∧ w ≤ 1000000 := by simp [rngS]
theorem check_l0 (l : List Int) (hm : l.length ≤ 7) : ∀ d i : Nat, i + d = l.length → Ev (fun k => stake_Check.l0 k l (l.length : Int) i) (if rngS (l.drop i) = true then 0 else 31) := by
  intro d
  induction d with
  | zero =>
    intro i hi
    refine Ev.step (fun k => by rw [stake_Check.l0]) ?_
    refine Ev.ite (fun h => by omega) (fun _ => Ev.c ?_)
    rw [if_pos (by rw [List.drop_of_length_le (by omega)]; rfl)]
  | succ d ih =>
    intro i hi
    have hlt : i < l.length := by omega
    have hd := List.drop_eq_getElem_cons hlt
    refine Ev.step (fun k => by rw [stake_Check.l0]) ?_
    refine Ev.ite (fun _ => Ev.ite (fun _ => Ev.ite (fun _ => ?_) (fun h => by omega)) (fun h => by omega)) (fun h => by omega)
    rw [rd_nat l i hlt, hd]
    refine Ev.ite (fun h => Ev.c ?_) (fun h1 => Ev.ite (fun h => Ev.c ?_) (fun h2 => ?_))
    · rw [if_neg (fun h' => by have := rngS_iff.1 h' _ (.head _); omega)]
    · rw [if_neg (fun h' => by have := rngS_iff.1 h' _ (.head _); omega)]
    · have := ih (i + 1) (by omega)
      rw [w64 (by omega) (by omega)]
      have e : rngS (l[i] :: l.drop (i + 1)) = rngS (l.drop (i + 1)) := by
        simp only [rngS, List.all_cons, show decide (1 ≤ l[i] ∧ l[i] ≤ 1000000) = true from decide_eq_true (by omega), Bool.true_and]
      rw [e]
      exact this
def chk (st : List Int) : Int := if okS st then 0 else 31
theorem check_ev (l : List Int) : Ev (fun k => stake_Check.f k l) (chk l) := by
  unfold stake_Check.f
  refine Ev.ite (fun h => ?_) (fun h => ?_)
  · refine Ev.step (fun k => by rw [stake_Check.j0]) (Ev.ite (fun _ => Ev.c ?_) (fun h => by simp at h))
    rw [chk, if_neg (fun h' => by have := h'.1; omega)]
  · refine Ev.step (fun k => by rw [stake_Check.j0]) (Ev.ite (fun h' => Ev.c ?_) (fun h' => ?_))
    · rw [chk, if_neg (fun h3 => by have := h3.2.1; simp at h'; omega)]
    · have := check_l0 l (by simp at h'; omega) l.length 0 (by omega)
      simp only [List.drop_zero, Int.natCast_zero] at this
      have e : chk l = if rngS l = true then 0 else 31 := by
        unfold chk
        by_cases h3 : rngS l = true
        · rw [if_pos h3, if_pos ⟨by omega, by simp at h'; omega, rngS_iff.1 h3⟩]
        · rw [if_neg h3, if_neg (fun h4 => h3 (rngS_iff.2 h4.2.2))]
      rw [e]; exact this
theorem total_l0 {l : List Int} (h : okS l) : ∀ d i : Nat, i + d = l.length → Ev (fun k => stake_Total.l0 k (tot l - ws (l.drop i) i (fun _ => true)) l (l.length : Int) i) (tot l) := by
  have hl := h.2.1
  intro d
  induction d with
  | zero =>
    intro i hi
    refine Ev.step (fun k => by rw [stake_Total.l0]) ?_
    refine Ev.ite (fun h => by omega) (fun _ => Ev.c ?_)
    rw [List.drop_of_length_le (by omega)]; simp [ws]
  | succ d ih =>
    intro i hi
    have hlt : i < l.length := by omega
    have hd := List.drop_eq_getElem_cons hlt
    have b0 := ws_bounds h.2.2 (fun _ => true) 0
    have b1 := ws_bounds (l := l.drop i) (fun w hw => h.2.2 w (List.mem_of_mem_drop hw)) (fun _ => true) i
    have b2 := ws_bounds (l := l.drop (i + 1)) (fun w hw => h.2.2 w (List.mem_of_mem_drop hw)) (fun _ => true) (i + 1)
    rw [List.length_drop] at b1 b2
    refine Ev.step (fun k => by rw [stake_Total.l0]) ?_
    refine Ev.ite (fun _ => Ev.ite (fun _ => Ev.ite (fun _ => ?_) (fun h => by omega)) (fun h => by omega)) (fun h => by omega)
    have := ih (i + 1) (by omega)
    rw [rd_nat l i hlt, w64 (x := (i : Int) + 1) (by omega) (by omega)]
    have e : wrap64 (tot l - ws (l.drop i) i (fun _ => true) + l[i]) = tot l - ws (l.drop (i + 1)) (i + 1) (fun _ => true) := by
      rw [hd, ws] at b1 ⊢
      simp only [if_true] at b1 ⊢
      unfold tot
      rw [w64 (by omega) (by omega)]; omega
    rw [e]; exact this
theorem total_ev {l : List Int} (h : okS l) : Ev (fun k => stake_Total.f k l) (tot l) := by
  have := total_l0 h l.length 0 (by omega)
  simpa [stake_Total.f, tot] using this
theorem tot_bounds {l : List Int} (h : okS l) : 1 ≤ tot l ∧ tot l ≤ 7000000 := by
  have b := ws_bounds h.2.2 (fun _ => true) 0
  have hl := h.2.1
  refine ⟨?_, by unfold tot; omega⟩
  match l, h with
  | w :: l, h =>
    have b := ws_bounds (l := l) (fun w hw => h.2.2 w (.tail _ hw)) (fun _ => true) 1
    have := h.2.2 w (.head _)
    unfold tot; simp [ws]; omega
  | [], h => have := h.1; simp at this
/-- The weight of a list's set. -/
def wl (st who : List Int) : Int := ws st 0 (fun y => decide (y ∈ who))
theorem wl_bounds {st : List Int} (h : okS st) (who : List Int) : 0 ≤ wl st who ∧ wl st who ≤ tot st :=
  ⟨(ws_bounds h.2.2 _ 0).1, ws_mono h.2.2 (fun _ _ => rfl) 0⟩
theorem sum_some {st : List Int} (h : okS st) (who : List Int) : stake_Sum.f st who = some (wl st who) := by rw [stake_Sum.f, sumP_eq h]; rfl
theorem most_ev {st : List Int} (h : okS st) (who : List Int) : Ev (fun k => stake_Most.f k st who) (decide (3 * wl st who > 2 * tot st)) := by
  have b := wl_bounds h who; have t := tot_bounds h
  unfold stake_Most.f; rw [sum_some h]
  refine (total_ev h).bind (Ev.c ?_)
  rw [w64 (by omega) (by omega), w64 (by omega) (by omega)]
theorem some_ev {st : List Int} (h : okS st) (who : List Int) : Ev (fun k => stake_Some.f k st who) (decide (3 * wl st who > tot st)) := by
  have b := wl_bounds h who; have t := tot_bounds h
  unfold stake_Some.f; rw [sum_some h]
  refine (total_ev h).bind (Ev.c ?_)
  rw [w64 (by omega) (by omega)]
theorem few_ev {st : List Int} (h : okS st) (who : List Int) : Ev (fun k => stake_Few.f k st who) (decide (3 * wl st who < tot st)) := by
  have b := wl_bounds h who; have t := tot_bounds h
  unfold stake_Few.f; rw [sum_some h]
  refine (total_ev h).bind (Ev.c ?_)
  rw [w64 (by omega) (by omega)]
end
end Go.Np
