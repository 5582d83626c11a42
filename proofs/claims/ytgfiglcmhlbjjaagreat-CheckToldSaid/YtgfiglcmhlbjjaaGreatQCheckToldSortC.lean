/- What CheckTold needs. -/
import Derived.Test.YtgfiglcmhlbjjaaGreatQCheckToldVals
import Derived.Sort.OwnSortedInts
set_option linter.unusedVariables false
set_option linter.unusedSimpArgs false
namespace Go.Np
open Go.Lib Go.Proofs
theorem cu_congr {d e : Array Int} {m : Nat} (h : ∀ j, j < m → d[j]! = e[j]!) : compactUpTo d m = compactUpTo e m := by
  unfold compactUpTo
  have h1 : (List.range m).filter (keeps d) = (List.range m).filter (keeps e) := by
    apply List.filter_congr
    intro j hj
    have hj' : j < m := by simpa using hj
    unfold keeps
    rw [h j hj', h (j - 1) (by omega)]
  rw [h1]
  apply List.map_congr_left
  intro j hj
  have hj' : j < m := by simpa using (List.mem_filter.1 hj).1
  exact h j hj'
theorem getL_append (l : List Int) (x : Int) (j : Nat) (h : j < l.length) : (l ++ [x]).toArray[j]! = l.toArray[j]! := by
  simp [getElem!_pos, show j < l.length + 1 by omega, h, List.getElem_append_left]
theorem compact_snoc (l : List Int) (x : Int) : compact (l ++ [x]) = compact l ++ (if l.getLast? = some x then [] else [x]) := by
  unfold compact
  rw [show (l ++ [x]).length = l.length + 1 by simp, compactUpTo_succ, cu_congr (fun j hj => getL_append l x j hj)]
  congr 1
  have hx : (l ++ [x]).toArray[l.length]! = x := by simp [getElem!_pos]
  unfold keeps
  rw [hx]
  by_cases h0 : l = []
  · subst h0; simp
  · have hl : 0 < l.length := List.length_pos_iff.2 h0
    have hlast : l.getLast? = some l.toArray[l.length - 1]! := by
      rw [List.getLast?_eq_getElem?]
      simp [getElem!_pos, show l.length - 1 < l.length by omega]
    rw [getL_append l x (l.length - 1) (by omega), hlast]
    by_cases he : x = l.toArray[l.length - 1]!
    · rw [if_neg (by simp only [decide_eq_true_eq]; rintro (h | h); omega; exact h he), if_pos (by rw [← he])]
    · rw [if_pos (by simp only [decide_eq_true_eq]; exact .inr he), if_neg (fun h => he (by injection h with h; exact h.symm))]
theorem compact_nil : compact ([] : List Int) = [] := rfl
theorem snoc_of {l : List Int} (h : l ≠ []) : ∃ a x, l = a ++ [x] := ⟨l.dropLast, l.getLast h, (List.dropLast_concat_getLast h).symm⟩
theorem last_mem {l : List Int} {x : Int} (h : l.getLast? = some x) : x ∈ l := List.mem_of_getLast? h
theorem last_of_mem {l : List Int} {x : Int} (hs : (l ++ [x]).Pairwise (· ≤ ·)) (h : x ∈ l) : l.getLast? = some x := by
  have hne : l ≠ [] := List.ne_nil_of_mem h
  obtain ⟨a, y, rfl⟩ := snoc_of hne
  have h1 : y ≤ x := by
    have := (List.pairwise_append.1 hs).2.2 y (by simp) x (by simp)
    exact this
  have hs2 := (List.pairwise_append.1 hs).1
  have h2 : x ≤ y := by
    rcases List.mem_append.1 h with h | h
    · exact (List.pairwise_append.1 hs2).2.2 x h y (by simp)
    · have : x = y := by simpa using h
      omega
  have : x = y := by omega
  subst this
  simp
theorem compact_props : ∀ (n : Nat) (l : List Int), l.length = n → l.Pairwise (· ≤ ·) → (compact l).Pairwise (· < ·) ∧ (∀ x, x ∈ compact l ↔ x ∈ l) ∧ (compact l).length ≤ l.length ∧ ((compact l).length = l.length ↔ l.Nodup) := by
  intro n
  induction n with
  | zero =>
    intro l hl _
    obtain rfl := List.eq_nil_of_length_eq_zero hl
    rw [compact_nil]
    exact ⟨List.Pairwise.nil, fun x => Iff.rfl, Nat.le_refl _, by simp⟩
  | succ n ih =>
    intro l hl hs
    have hne : l ≠ [] := by intro h; subst h; simp at hl
    obtain ⟨a, x, rfl⟩ := snoc_of hne
    have hs1 := (List.pairwise_append.1 hs).1
    obtain ⟨p1, p2, p3, p4⟩ := ih a (by simp at hl; exact hl) hs1
    have hle : ∀ y ∈ a, y ≤ x := fun y hy => (List.pairwise_append.1 hs).2.2 y hy x (by simp)
    rw [compact_snoc]
    have hnd : (a ++ [x]).Nodup ↔ a.Nodup ∧ x ∉ a := by
      rw [List.nodup_append]
      constructor
      · rintro ⟨h1, _, h3⟩; exact ⟨h1, fun h => h3 x h x (by simp) rfl⟩
      · rintro ⟨h1, h2⟩; refine ⟨h1, by simp, fun y hy z hz e => ?_⟩
        have : z = x := by simpa using hz
        exact h2 (by rw [← this, ← e]; exact hy)
    by_cases hx : a.getLast? = some x
    · rw [if_pos hx, List.append_nil]
      have hm := last_mem hx
      refine ⟨p1, fun y => ?_, by simp; omega, ?_⟩
      · rw [p2 y, List.mem_append]
        constructor
        · exact .inl
        · rintro (h | h)
          · exact h
          · have : y = x := by simpa using h
            rw [this]; exact hm
      · constructor
        · intro h; simp at h; omega
        · intro h; exact absurd hm (hnd.1 h).2
    · rw [if_neg hx]
      have hnm : x ∉ a := fun h => hx (last_of_mem hs h)
      refine ⟨?_, fun y => ?_, by simp; omega, ?_⟩
      · rw [List.pairwise_append]
        refine ⟨p1, by simp, fun y hy z hz => ?_⟩
        have hz' : z = x := by simpa using hz
        have hy' := (p2 y).1 hy
        have := hle y hy'
        have : y ≠ x := fun e => hnm (by rw [← e]; exact hy')
        omega
      · rw [List.mem_append, List.mem_append, p2 y]
      · rw [hnd, List.length_append, List.length_append]
        constructor
        · intro h; exact ⟨p4.1 (by simpa using h), hnm⟩
        · intro h; rw [p4.2 h.1]
theorem sorted_ms (l : List Int) : (l.mergeSort fun x y => decide (x ≤ y)).Pairwise (· ≤ ·) := by
  have := List.pairwise_mergeSort (le := fun x y : Int => decide (x ≤ y)) (fun a b c h1 h2 => by simp at *; omega) (fun a b => by simp only [Bool.or_eq_true, decide_eq_true_eq]; omega) l
  exact this.imp (fun h => by simpa using h)
theorem compact_le (l : List Int) : (compact l).length ≤ l.length := by
  unfold compact compactUpTo
  rw [List.length_map]
  exact Nat.le_trans (List.length_filter_le _ _) (by simp)
end Go.Np
namespace Go.Np.Tryz
open Go.RowKit Go.Proofs Go.Shelf Go.Sort Go.Lib Go.Proofs.YtgfiglcmhlbjjaaGreatW.PrintWords
theorem sort_own {w : World} {base : Nat} {v : Value} {l : List Int} (h : w.ownsRow base 3 1 v l.length (l.map (Value.int .i64))) (hl : l.length < 4611686018427387904) :
    Calls Tryz.prog 80 #[v] w fun e w' => e = .returned (.tuple #[]) ∧ w'.ownsRow base 3 1 v l.length ((l.mergeSort fun x y => decide (x ≤ y)).map (Value.int .i64)) ∧ w.grownBy w' v.ownBlock := by
  by_cases hv : v = .slice none 0 0
  · subst hv
    have h0 : l = [] := by
      rcases h.2 with ⟨_, h1⟩ | ⟨g, cap, cur, e, _⟩
      · exact List.eq_nil_of_length_eq_zero h1
      · cases e
    subst h0
    refine (Tryz.slices_Sort_int_none none 0 w).mono ?_
    rintro e w' ⟨rfl, rfl⟩
    exact ⟨rfl, by simpa using h, World.grownBy.refl _ _⟩
  · obtain ⟨g, cap, rfl, h1, h2, h3, h4, _, hH⟩ := holds_of_ownsRow h hv
    rcases h.2 with ⟨e, _⟩ | ⟨g', cap', cur, e, hb, hg, hn, hm, hs, ht⟩
    · exact absurd e hv
    · injection e with e1 _ e3
      injection e1 with e1
      injection e1 with e1
      subst e1 e3
      refine (Tryz.slices_Sort_int g 0 cap l w hH h2 hl).mono ?_
      rintro e w' ⟨rfl, n, os, rfl⟩
      exact ⟨rfl, ownsRow_sortedI (ss := l) (List.length_mergeSort l) hb hg hn hm hs, grownBy_sortedI _⟩
theorem grownBy_putRow {w : World} {g n : Nat} (d : Array Int) : w.grownBy (putRow (Value.int .i64) (Sort.ahead w n) g 0 d) (some g) := by
  refine ⟨rfl, rfl, rfl, by simp [putRow, mapBlock, Sort.ahead], fun k hk hne => ?_⟩
  have : g ≠ k := fun e => hne (by rw [e])
  simp [putRow, mapBlock, Sort.ahead, Array.getElem?_modify, this]
theorem compact_own {w : World} {base : Nat} {v : Value} {l : List Int} (h : w.ownsRow base 3 1 v l.length (l.map (Value.int .i64))) (hl : l.length ≤ 9223372036854775807) :
    Calls Tryz.prog 86 #[v] w fun e w' => ∃ A c, e = .returned (.slice A (compact l).length c) ∧ w'.ownsRow base 3 1 (.slice A (compact l).length c) (compact l).length ((compact l).map (Value.int .i64)) ∧ (Value.slice A (compact l).length c).ownBlock = v.ownBlock ∧ w.grownBy w' v.ownBlock := by
  by_cases hv : v = .slice none 0 0
  · subst hv
    have h0 : l = [] := by
      rcases h.2 with ⟨_, h1⟩ | ⟨g, cap, cur, e, _⟩
      · exact List.eq_nil_of_length_eq_zero h1
      · cases e
    subst h0
    refine (Tryz.slices_Compact_int_empty none 0 w).mono ?_
    rintro e w' ⟨rfl, rfl⟩
    exact ⟨none, 0, rfl, by simpa [Go.Np.compact_nil] using h, rfl, World.grownBy.refl _ _⟩
  · obtain ⟨g, cap, rfl, h1, h2, h3, h4, _, hH⟩ := holds_of_ownsRow h hv
    refine (Tryz.slices_Compact_int g 0 cap l w hH hl h3).mono ?_
    rintro e w' ⟨rfl, q, rfl⟩
    have hle := Go.Np.compact_le l
    have hc := ownsRow_putRow (q := q) (k := (compact l).length) (ys := compact l ++ List.replicate (l.length - (compact l).length) 0) h (by simp; omega) hle
    rw [List.take_left] at hc
    exact ⟨_, cap, rfl, hc, rfl, grownBy_putRow _⟩
end Go.Np.Tryz
