/- net.Spread and neaptideref19.Spread: what they tell. -/
import Derived.Test.YtiieflbggcgckaaSides
import Derived.Test.YtiieflbggcgckaaStPl
set_option linter.unusedVariables false
set_option linter.unusedSimpArgs false
namespace Go.Np.Try
open Go.RowKit Go.Proofs Go.Proofs.YtiieflbggcgckaaW.PrintWords Go.Proofs.Ytiieflbggcgckaa.PX Go.Proofs.YtiieflbggcgckaaW.PrintMore

def spL (dst fr : Int) : Nat → List Int
  | 0 => []
  | n + 1 => spL dst fr n ++ (if (n : Int) ≠ fr ∧ (dst = -1 ∨ dst = (n : Int)) then [(n : Int)] else [])
def spP (dst fr n : Int) : List Int := if 1 ≤ n ∧ n ≤ 7 then spL dst fr n.toNat else []
theorem spL_len (dst fr : Int) (n : Nat) : (spL dst fr n).length ≤ n := by
  induction n with
  | zero => simp [spL]
  | succ n ih => simp only [spL, List.length_append]; split <;> simp <;> omega
theorem wrap_succ (i : Nat) (h : i < 100) : wrap64 ((i : Int) + 1) = ((i + 1 : Nat) : Int) := by
  unfold wrap64; omega
theorem spread_l0 (dst fr : Int) (n : Nat) (hn : n ≤ 7) : ∀ d i : Nat, i + d = n → Ev (fun k => net_Spread.l0 k dst fr (spL dst fr i) (n : Int) (i : Int)) (spL dst fr n) := by
  intro d
  induction d with
  | zero =>
    intro i hi
    obtain rfl : i = n := by omega
    refine Ev.step (fun k => by rw [net_Spread.l0]) ?_
    exact Ev.ite (fun h => by omega) (fun _ => Ev.c rfl)
  | succ d ih =>
    intro i hi
    have h1 := ih (i + 1) (by omega)
    have hl := spL_len dst fr i
    have hw := wrap_succ i (by omega)
    refine Ev.step (fun k => by rw [net_Spread.l0]) ?_
    rw [hw]
    refine Ev.ite (fun _ => ?_) (fun h => by omega)
    refine Ev.ite (fun h => ?_) (fun h => ?_)
    · rw [spL, if_neg (by omega), List.append_nil] at h1; exact h1
    · refine Ev.ite (fun h2 => Ev.ite (fun _ => ?_) (fun h3 => by omega)) (fun h2 => Ev.ite (fun h3 => Ev.ite (fun _ => ?_) (fun h3 => by omega)) (fun h3 => ?_))
      · rw [spL, if_pos ⟨by omega, .inl h2⟩] at h1; exact h1
      · rw [spL, if_pos ⟨by omega, .inr h3⟩] at h1; exact h1
      · rw [spL, if_neg (by rintro ⟨_, h | h⟩ <;> contradiction), List.append_nil] at h1; exact h1
theorem rspread_l0 (dst fr : Int) (n : Nat) (hn : n ≤ 7) : ∀ d i : Nat, i + d = n → Ev (fun k => neaptideref19_Spread.l0 k dst fr (n : Int) (spL dst fr i) (i : Int)) (spL dst fr n) := by
  intro d
  induction d with
  | zero =>
    intro i hi
    obtain rfl : i = n := by omega
    refine Ev.step (fun k => by rw [neaptideref19_Spread.l0]) ?_
    exact Ev.ite (fun h => by omega) (fun _ => Ev.c rfl)
  | succ d ih =>
    intro i hi
    have h1 := ih (i + 1) (by omega)
    have hl := spL_len dst fr i
    have hw := wrap_succ i (by omega)
    refine Ev.step (fun k => by rw [neaptideref19_Spread.l0]) ?_
    rw [hw]
    refine Ev.ite (fun _ => ?_) (fun h => by omega)
    refine Ev.ite (fun h => ?_) (fun h => ?_)
    · rw [spL, if_neg (by omega), List.append_nil] at h1; exact h1
    · refine Ev.ite (fun h2 => Ev.ite (fun _ => ?_) (fun h3 => by omega)) (fun h2 => Ev.ite (fun h3 => Ev.ite (fun _ => ?_) (fun h3 => by omega)) (fun h3 => ?_))
      · rw [spL, if_pos ⟨by omega, .inl h2⟩] at h1; exact h1
      · rw [spL, if_pos ⟨by omega, .inr (by omega)⟩] at h1; exact h1
      · rw [spL, if_neg (by rintro ⟨_, h | h⟩; contradiction; omega), List.append_nil] at h1; exact h1
theorem spread_ev (dst fr n : Int) : Ev (fun k => net_Spread.f k dst fr n) (spP dst fr n) := by
  unfold net_Spread.f spP
  refine Ev.ite (fun h => ?_) (fun h => ?_)
  · rw [if_neg (by omega)]
    exact Ev.step (fun k => by rw [net_Spread.j0]) (Ev.ite (fun _ => Ev.c rfl) (fun h => by simp at h))
  · refine Ev.step (fun k => by rw [net_Spread.j0]) (Ev.ite (fun h' => ?_) (fun h' => ?_))
    · simp only [decide_eq_true_eq] at h'
      rw [if_neg (by omega)]; exact Ev.c rfl
    · simp only [decide_eq_true_eq] at h'
      rw [if_pos (by omega)]
      obtain ⟨N, rfl⟩ := Int.eq_ofNat_of_zero_le (show 0 ≤ n by omega)
      exact spread_l0 dst fr N (by omega) N 0 (by omega)
theorem rspread_ev (dst fr n : Int) : Ev (fun k => neaptideref19_Spread.f k dst fr n) (spP dst fr n) := by
  unfold neaptideref19_Spread.f spP
  simp only [Option.bind_some]
  refine Ev.ite (fun h => ?_) (fun h => ?_)
  · rw [if_neg (by omega)]; exact Ev.c rfl
  · by_cases h1 : 1 ≤ n
    · rw [if_pos (by omega)]
      obtain ⟨N, rfl⟩ := Int.eq_ofNat_of_zero_le (show 0 ≤ n by omega)
      exact rspread_l0 dst fr N (by omega) N 0 (by omega)
    · rw [if_neg (by omega)]
      exact Ev.step (fun k => by rw [neaptideref19_Spread.l0]) (Ev.ite (fun h => by omega) (fun _ => Ev.c rfl))
/-- A slice of ints that reads as l. -/
def SlI (w : World) (v : Value) (l : List Int) : Prop := ∃ A c, v = .slice A l.length c ∧ l.length ≤ c ∧ (Kd.int .i64).C w A l.length l
theorem SlI.fr {w w' : World} {v : Value} {l : List Int} (h : SlI w v l) (hf : Fr [] w w') : SlI w' v l := by
  obtain ⟨A, c, h1, h2, h3⟩ := h
  exact ⟨A, c, h1, h2, Kd.C_below h3 hf.below⟩
theorem spread_calls {w : World} (dst fr n : Int) : Calls Try.prog 44 #[.int .i64 dst, .int .i64 fr, .int .i64 n] w fun e w' => ∃ v, e = .returned v ∧ SlI w' v (spP dst fr n) ∧ Fr [] w w' := by
  obtain ⟨k, hk⟩ := (spread_ev dst fr n).rounds
  refine (net_Spread.calls k dst fr n _ w hk).mono ?_
  rintro e w' ⟨v, he, h1, h2⟩
  exact ⟨v, he, Kd.R_reads h1, Fr.of_below [] h2⟩
theorem rspread_calls {w : World} (dst fr n : Int) : Calls Try.prog 45 #[.int .i64 dst, .int .i64 fr, .int .i64 n] w fun e w' => ∃ v, e = .returned v ∧ SlI w' v (spP dst fr n) ∧ Fr [] w w' := by
  obtain ⟨k, hk⟩ := (rspread_ev dst fr n).rounds
  refine (neaptideref19_Spread.calls k dst fr n _ w hk).mono ?_
  rintro e w' ⟨v, he, h1, h2⟩
  exact ⟨v, he, Kd.R_reads h1, Fr.of_below [] h2⟩
end Go.Np.Try
