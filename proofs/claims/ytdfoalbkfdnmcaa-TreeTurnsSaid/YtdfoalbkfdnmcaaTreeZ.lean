/- The tree, plain laws: each stands on one that is known; what two have in common. -/
import Derived.Test.YtdfoalbkfdnmcaaTreeY
set_option linter.unusedVariables false
set_option linter.unusedSimpArgs false
namespace Go.Np.Try
open Go.Proofs Go.Proofs.Ytdfoalbkfdnmcaa.PX
structure Tr.Stands (t : Tr) (n : Int) : Prop where
  has : t.has n = true
  name : nameB (t.get n) = n
  par : (t.get n).f3 = 0 ∨ t.has (t.get n).f3 = true
  low : t.high (t.get n).f3 = t.high n - 1
  top : t.high n ≤ t.high t.tip
  tie : t.high n = t.high t.tip → t.tip ≤ n
  way : t.path n = t.path (t.get n).f3 ++ [n]
  len : ((t.path n).length : Int) = t.high n
  pos : 1 ≤ t.high n
  one : t.back n 1 = (t.get n).f3
  all : t.back n (t.high n) = 0
  first : t.back n (t.high n - 1) = (t.path n).getD 0 0
theorem getD_snoc (l : List Int) (x : Int) : (l ++ [x]).getD l.length 0 = x := by simp [List.getD_eq_getElem?_getD]
theorem getD_left (l m : List Int) (i : Nat) (h : i < l.length) : (l ++ m).getD i 0 = l.getD i 0 := by
  simp [List.getD_eq_getElem?_getD, List.getElem?_append_left h]
theorem Tr.stands {t : Tr} (hG : t.Good) {n : Int} (h : n ∈ t.names) : t.Stands n := by
  have hh := Tr.mem_names.1 h
  have hh' := hh
  unfold Tr.has at hh'
  obtain ⟨e, he⟩ := Option.isSome_iff_exists.1 hh'
  have hget : t.get n = e.blk := by unfold Tr.get; rw [he]
  obtain ⟨hm, hn⟩ := Tr.find_some he
  obtain ⟨k1, k2, k3, k4⟩ := hG.ok.known e hm
  have hway := hG.ok.path_has he
  have hhigh := Tr.high_has hG.ok hh
  have hl : (t.path n).length = (t.path e.blk.f3).length + 1 := by rw [hway]; simp
  have hlow : t.high e.blk.f3 = t.high n - 1 := by
    rcases k3 with h0 | h0
    · rw [h0, hG.ok.path_zero] at hl
      rw [hhigh, hl, h0]
      unfold Tr.high; simp
    · rw [Tr.high_has hG.ok h0, hhigh, hl]; simp
  have htop := (Tr.tip_spec (t := t) (fun e => by rw [e] at h; cases h)).2 n h
  unfold Tr.better at htop
  have hpos := Tr.high_pos hG.ok hh
  refine ⟨hh, by rw [hget, ← k1, hn], by rw [hget]; exact k3, by rw [hget]; exact hlow, by omega, fun _ => by omega, by rw [hget]; exact hway, hhigh.symm, hpos, ?_, ?_, ?_⟩
  · rw [hget]
    unfold Tr.back
    rw [hl, hway]
    by_cases hk : (t.path e.blk.f3).length = 0
    · rw [if_pos (by omega)]
      rcases k3 with h0 | h0
      · exact h0.symm
      · have := Tr.high_pos hG.ok h0
        rw [Tr.high_has hG.ok h0] at this
        omega
    · rw [if_neg (by omega)]
      rcases k3 with h0 | h0
      · rw [h0, hG.ok.path_zero] at hk; exact absurd rfl hk
      · unfold Tr.has at h0
        obtain ⟨e2, he2⟩ := Option.isSome_iff_exists.1 h0
        have hw2 := hG.ok.path_has he2
        have hl2 : (t.path e.blk.f3).length = (t.path e2.blk.f3).length + 1 := by rw [hw2]; simp
        rw [show (t.path e.blk.f3).length + 1 - 1 - (1 : Int).toNat = (t.path e2.blk.f3).length by simp; omega, getD_left _ _ _ (by omega), hw2]
        exact getD_snoc _ _
  · unfold Tr.back
    rw [if_pos (by omega)]
  · unfold Tr.back
    rw [if_neg (by omega)]
    congr 1
    omega
/-! ### Common -/
theorem comPre_take : ∀ (a b : List Int), ∃ j, j ≤ a.length ∧ j ≤ b.length ∧ comPre a b = a.take j ∧ a.take j = b.take j ∧ (j = a.length ∨ j = b.length ∨ a.getD j 0 ≠ b.getD j 0)
  | [], b => ⟨0, by simp, by simp, by simp [comPre], by simp, .inl rfl⟩
  | x :: a, [] => ⟨0, by simp, by simp, by simp [comPre], by simp, .inr (.inl rfl)⟩
  | x :: a, y :: b => by
    by_cases h : x = y
    · obtain ⟨j, h1, h2, h3, h4, h5⟩ := comPre_take a b
      exact ⟨j + 1, by simpa using h1, by simpa using h2, by simp [comPre, h, h3], by simp [h, h4], by simpa using h5⟩
    · exact ⟨0, by simp, by simp, by simp [comPre, h], by simp, .inr (.inr (by simpa using h))⟩
theorem comPre_comm : ∀ (a b : List Int), comPre a b = comPre b a
  | [], [] => rfl
  | [], y :: b => by simp [comPre]
  | x :: a, [] => by simp [comPre]
  | x :: a, y :: b => by
    by_cases h : x = y
    · subst h; simp [comPre, comPre_comm a b]
    · have h' : ¬ y = x := fun e => h e.symm
      simp [comPre, h, h']
theorem comPre_self : ∀ (a : List Int), comPre a a = a
  | [] => rfl
  | x :: a => by simp [comPre, comPre_self a]
theorem Tr.common_comm (t : Tr) (a b : Int) : t.common a b = t.common b a := by unfold Tr.common; rw [comPre_comm]
theorem Tr.common_self {t : Tr} (hO : t.Ok) {a : Int} (h : t.has a = true) : t.common a a = a := by
  unfold Tr.common
  rw [comPre_self]
  unfold Tr.has at h
  obtain ⟨e, he⟩ := Option.isSome_iff_exists.1 h
  rw [hO.path_has he]
  simp
theorem Tr.path_take {t : Tr} (hO : t.Ok) : ∀ (k : Nat) (n : Int), (t.path n).length = k → ∀ j, 1 ≤ j → j ≤ k → t.path ((t.path n).getD (j - 1) 0) = (t.path n).take j := by
  intro k
  induction k with
  | zero => intro n _ j h1 h2; omega
  | succ k ih =>
    intro n hn j h1 h2
    cases hf : t.find n with
    | none =>
      have : t.path n = [] := by unfold Tr.path; rw [hf]
      rw [this] at hn; simp at hn
    | some e =>
      have hw := hO.path_has hf
      have hlp : (t.path e.blk.f3).length = k := by rw [hw] at hn; simpa using hn
      by_cases hj : j = k + 1
      · subst hj
        rw [List.take_of_length_le (by omega)]
        have : (t.path n).getD (k + 1 - 1) 0 = n := by
          rw [hw, show k + 1 - 1 = (t.path e.blk.f3).length by omega]
          exact getD_snoc _ _
        rw [this]
      · have := ih e.blk.f3 hlp j h1 (by omega)
        rw [hw, getD_left _ _ _ (by omega), List.take_append_of_le_length (by omega)]
        exact this
structure Tr.Com (t : Tr) (a b : Int) (j : Nat) : Prop where
  high : t.high (t.common a b) = j
  la : j ≤ (t.path a).length
  lb : j ≤ (t.path b).length
  same : ∀ i, i < j → (t.path a).getD i 0 = (t.path b).getD i 0
  next : j = (t.path a).length ∨ j = (t.path b).length ∨ (t.path a).getD j 0 ≠ (t.path b).getD j 0
  known : t.common a b ≠ 0 → t.has a = true ∧ t.has b = true
theorem take_get {a b : List Int} {j : Nat} (h : a.take j = b.take j) {i : Nat} (hi : i < j) : a.getD i 0 = b.getD i 0 := by
  have h1 := congrArg (fun l => l[i]?) h
  simp only [List.getElem?_take, if_pos hi] at h1
  rw [List.getD_eq_getElem?_getD, List.getD_eq_getElem?_getD, h1]
theorem Tr.com {t : Tr} (hO : t.Ok) (a b : Int) : ∃ j, t.Com a b j := by
  obtain ⟨j, h1, h2, h3, h4, h5⟩ := comPre_take (t.path a) (t.path b)
  have hnb : ∀ n, t.path n ≠ [] → t.has n = true := fun n hn => by
    cases hb : t.has n with
    | true => rfl
    | false => exact absurd (Tr.path_none hb) hn
  refine ⟨j, ?_, h1, h2, fun i hi => take_get h4 hi, h5, fun hc => ?_⟩
  · unfold Tr.common
    rw [h3]
    cases j with
    | zero => simp [Tr.high]
    | succ j =>
      rw [last_take (by omega)]
      have hp := Tr.path_take hO _ a rfl (j + 1) (by omega) h1
      have hl : (t.path ((t.path a).getD j 0)).length = j + 1 := by
        rw [show j = j + 1 - 1 by omega, hp, List.length_take]; omega
      rw [Tr.high_has hO (hnb _ (fun e => by rw [e] at hl; simp at hl)), hl]
  · unfold Tr.common at hc
    rw [h3] at hc
    have hj : j ≠ 0 := by rintro rfl; simp at hc
    refine ⟨hnb a (fun e => by rw [e] at h1; simp at h1; omega), hnb b (fun e => by rw [e] at h2; simp at h2; omega)⟩
end Go.Np.Try
