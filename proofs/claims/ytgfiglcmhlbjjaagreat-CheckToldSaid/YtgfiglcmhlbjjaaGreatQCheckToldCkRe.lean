/- What CheckTold needs. -/
import Derived.Test.YtgfiglcmhlbjjaaGreatQCheckToldPXx13
import Derived.Test.YtgfiglcmhlbjjaaGreatQCheckToldNpA
set_option linter.unusedVariables false
set_option linter.unusedSimpArgs false
namespace Go.Np.Tryz
open Go.RowKit Go.Proofs Go.Proofs.YtgfiglcmhlbjjaaGreat.PX Go.Proofs.YtgfiglcmhlbjjaaGreatW.PrintWords
structure Blk where
  (f0 f1 f2 f3 : Int)
  f4 : List S27
def okTx (t : S27) : Bool := decide (1 ≤ t.f0) && decide (t.f0 ≤ 1000000) && decide (0 ≤ t.f1) && decide (t.f1 ≤ 1000)
def unlikeB (l : List S27) : Bool := decide ((l.map (·.f0)).Nodup) && decide (l.length ≤ 3)
def okTxs (l : List S27) : Bool := unlikeB l && l.all okTx
def namedB (n : Int) : Bool := decide (65536 ≤ n) && decide (n ≤ 268435455) && decide (n % 65536 / 256 < 7)
def rightB (b : Blk) : Bool := decide (1 ≤ b.f0) && decide (b.f0 ≤ 4095) && decide (0 ≤ b.f1) && decide (b.f1 ≤ 6) && decide (0 ≤ b.f2) && decide (b.f2 ≤ 255) &&
  (decide (b.f3 = 0) || (namedB b.f3 && decide (b.f3 / 65536 < b.f0))) && okTxs b.f4
theorem wr_in (n : Int) (h : -9223372036854775808 ≤ n ∧ n ≤ 9223372036854775807) : wrap64 n = n := by unfold wrap64; omega
theorem u64_range (x : Int) : 0 ≤ IntKind.u64.wrap x ∧ IntKind.u64.wrap x < 18446744073709551616 := by
  have : IntKind.u64.wrap x = x % 18446744073709551616 := by simp [IntKind.wrap, IntKind.bits, IntKind.signed]
  rw [this]; omega
theorem wr_step (j : Nat) (h : j < 1000000000000000) : wrap64 ((j : Int) + 1) = ((j + 1 : Nat) : Int) := by rw [wr_in _ (by omega)]; rfl
theorem rnum_ev : ∀ (m : Nat) (x : Int) (l : List Int), 0 ≤ x → x < 18446744073709551616 → x < 128 ^ (m + 1) → l.length + m + 1 < 1000000 → ∀ k, m + 1 ≤ k → ∃ r, neaptideref01_Num.l0 k x l = some r ∧ r.length ≤ l.length + m + 1
  | 0, x, l, h0, h1, h2, hl, k, hk => by
    obtain ⟨k, rfl⟩ : ∃ j, k = j + 1 := ⟨k - 1, by omega⟩
    unfold neaptideref01_Num.l0
    have e : Int.tdiv x 128 = x / 128 := Int.tdiv_eq_ediv_of_nonneg h0
    have e2 : IntKind.u64.wrap (x / 128) = x / 128 := by simp [IntKind.wrap, IntKind.bits, IntKind.signed]; omega
    have h3 : x / 128 = 0 := by simp at h2; omega
    rw [e, e2, if_pos h3, if_pos (by omega)]
    exact ⟨_, rfl, by simp⟩
  | m + 1, x, l, h0, h1, h2, hl, k, hk => by
    obtain ⟨k, rfl⟩ : ∃ j, k = j + 1 := ⟨k - 1, by omega⟩
    unfold neaptideref01_Num.l0
    have e : Int.tdiv x 128 = x / 128 := Int.tdiv_eq_ediv_of_nonneg h0
    have e2 : IntKind.u64.wrap (x / 128) = x / 128 := by simp [IntKind.wrap, IntKind.bits, IntKind.signed]; omega
    rw [e, e2]
    by_cases h3 : x / 128 = 0
    · rw [if_pos h3, if_pos (by omega)]
      exact ⟨_, rfl, by simp⟩
    · rw [if_neg h3, if_pos (by omega)]
      obtain ⟨r, h4, h5⟩ := rnum_ev m (x / 128) (l ++ [(Int.tmod x 128 % 256 + 128) % 256]) (by omega) (by omega) (by rw [Int.pow_succ] at h2; omega) (by simp; omega) k (by omega)
      exact ⟨r, h4, by simp at h5; omega⟩
theorem rnums_ev (l : List Int) (h1 : ∀ x ∈ l, -1 ≤ x) (h2 : l.length ≤ 64) : ∀ (n j : Nat) (x4 : List Int), j + n = l.length → x4.length ≤ 10 * j → ∀ k, n + 12 ≤ k → ∃ r, neaptideref01_Nums.l0 k x4 l (l.length : Int) (j : Int) = some (r, 0)
  | 0, j, x4, hj, hx, k, hk => by
    obtain ⟨k, rfl⟩ : ∃ j, k = j + 1 := ⟨k - 1, by omega⟩
    unfold neaptideref01_Nums.l0
    rw [if_neg (by omega)]
    exact ⟨_, rfl⟩
  | n + 1, j, x4, hj, hx, k, hk => by
    obtain ⟨k, rfl⟩ : ∃ j, k = j + 1 := ⟨k - 1, by omega⟩
    unfold neaptideref01_Nums.l0
    have hm : rd l (j : Int) ∈ l := by unfold rd; simp [List.getD_eq_getElem?_getD, List.getElem?_eq_getElem (show j < l.length by omega)]
    have hv := h1 _ hm
    have hu := u64_range ((IntKind.u64.wrap (rd l (j : Int))) + 1)
    obtain ⟨r, h3, h4⟩ := rnum_ev 9 _ [] hu.1 hu.2 (by have := hu.2; omega) (by simp) k (by omega)
    rw [if_pos (by omega), if_pos (by omega), if_pos (by omega), if_neg (by omega)]
    unfold neaptideref01_Num.f
    rw [h3]
    simp only [Option.bind_some]
    simp at h4
    rw [if_pos (by omega), wr_step j (by omega)]
    exact rnums_ev l h1 h2 n (j + 1) (x4 ++ r) (by omega) (by simp; omega) k (by omega)
theorem rnums_f (l : List Int) (h1 : ∀ x ∈ l, -1 ≤ x) (h2 : l.length ≤ 64) (k : Nat) (hk : l.length + 12 ≤ k) : ∃ r, neaptideref01_Nums.f k l = some (r, 0) := by
  unfold neaptideref01_Nums.f
  rw [if_neg (by omega)]
  exact rnums_ev l h1 h2 l.length 0 [] (by omega) (by simp) k hk
theorem rright_tx (x y : Int) : neaptideref06_Right.f x y = some (okTx ⟨x, y⟩) := by
  unfold neaptideref06_Right.f okTx
  by_cases h1 : x > 0 <;> by_cases h2 : x ≤ 1000000 <;> by_cases h3 : y ≥ 0 <;> by_cases h4 : y ≤ 1000 <;> simp [h1, h2, h3, h4] <;> omega
theorem rlist_in (x0 : List S27) (x4 : List Int) (x15 : List S27) (x16 x17 : Int) (y : List S27) (a b : Int) (hy : y.length ≤ 3) (h4 : x4.length ≤ 100) :
    ∀ (m i : Nat), i + m = y.length → ∀ k, neaptideref06_List.l1 (m + 1 + k) x0 x4 x15 x16 x17 y (y.length : Int) (i : Int) a b =
      if (y.drop i).any (fun t => decide (t.f0 = a)) = true then some ([], 61) else neaptideref06_List.l0 k x0 (x4 ++ [a, b]) x15 x16 (wrap64 (x17 + 1))
  | 0, i, hi, k => by
    rw [show 0 + 1 + k = k + 1 from by omega]
    unfold neaptideref06_List.l1
    rw [if_neg (by omega), List.drop_eq_nil_of_le (by omega)]
    simp only [Option.bind_some, List.any_nil]
    rw [if_pos (by simp; omega)]
    simp
  | m + 1, i, hi, k => by
    have hlt : i < y.length := by omega
    have hd : y.drop i = rd_T27 y (i : Int) :: y.drop (i + 1) := by
      rw [List.drop_eq_getElem_cons hlt]; simp [rd_T27, List.getD_eq_getElem?_getD, List.getElem?_eq_getElem hlt]
    rw [show m + 1 + 1 + k = (m + 1 + k) + 1 from by omega]
    unfold neaptideref06_List.l1
    rw [if_pos (by omega), if_pos (by omega), if_pos (by omega), hd]
    simp only [List.any_cons]
    by_cases hc : (rd_T27 y (i : Int)).f0 = a
    · rw [if_pos hc]; simp [hc]
    · rw [if_neg hc, wr_step i (by omega), rlist_in x0 x4 x15 x16 x17 y a b hy h4 m (i + 1) (by omega) k]
      simp [hc]
theorem rlist_ev (l : List S27) (h2 : l.length ≤ 3) : ∀ (n j : Nat) (x4 : List Int), j + n = l.length → x4.length ≤ 2 * j + 1 → (∀ x ∈ x4, -1 ≤ x) → ((l.take j).map (·.f0)).Nodup → ∀ k, 10 * n + 30 ≤ k →
    ∃ r, neaptideref06_List.l0 k l x4 l (l.length : Int) (j : Int) = some (r, if ((l.drop j).all okTx && decide ((l.map (·.f0)).Nodup)) = true then 0 else 61)
  | 0, j, x4, hj, hx, h4, hn, k, hk => by
    obtain ⟨k, rfl⟩ : ∃ j, k = j + 1 := ⟨k - 1, by omega⟩
    unfold neaptideref06_List.l0
    rw [if_neg (by omega), List.drop_eq_nil_of_le (by omega)]
    obtain ⟨r, hr⟩ := rnums_f x4 h4 (by omega) k (by omega)
    rw [List.take_of_length_le (by omega)] at hn
    rw [hr]
    exact ⟨r, by simp [hn]⟩
  | n + 1, j, x4, hj, hx, h4, hn, k, hk => by
    obtain ⟨k, rfl⟩ : ∃ j, k = j + 1 := ⟨k - 1, by omega⟩
    have hlt : j < l.length := by omega
    have hd : l.drop j = rd_T27 l (j : Int) :: l.drop (j + 1) := by
      rw [List.drop_eq_getElem_cons hlt]; simp [rd_T27, List.getD_eq_getElem?_getD, List.getElem?_eq_getElem hlt]
    have ht : l.take (j + 1) = l.take j ++ [rd_T27 l (j : Int)] := by
      rw [List.take_succ_eq_append_getElem hlt]; simp [rd_T27, List.getD_eq_getElem?_getD, List.getElem?_eq_getElem hlt]
    unfold neaptideref06_List.l0
    rw [if_pos (by omega), if_pos (by omega), if_pos (by omega), rright_tx]
    simp only [Option.bind_some]
    obtain ⟨q, hq⟩ : ∃ q, q = rd_T27 l (j : Int) := ⟨_, rfl⟩
    rw [← hq] at hd ht ⊢
    by_cases hb : okTx q = true
    · rw [if_pos hb, if_pos (by omega)]
      have hb1 := hb
      simp only [okTx, Bool.and_eq_true, decide_eq_true_eq] at hb1
      have hlen : (l.take ((j : Int).toNat)).length = j := by simp; omega
      have e1 := rlist_in l x4 l (l.length : Int) (j : Int) (l.take ((j : Int).toNat)) q.f0 q.f1 (by omega) (by omega) j 0 (by rw [hlen]; omega) (k - j - 1)
      rw [show j + 1 + (k - j - 1) = k from by omega] at e1
      rw [show ((0 : Nat) : Int) = 0 from rfl] at e1
      rw [e1]
      simp only [Int.toNat_natCast, List.drop_zero]
      by_cases hin : (l.take j).any (fun t => decide (t.f0 = q.f0)) = true
      · rw [if_pos hin]
        have hnd : ¬ (l.map (·.f0)).Nodup := by
          intro h
          have h3 : ((l.take (j + 1)).map (·.f0)).Nodup := h.sublist ((List.take_sublist _ _).map _)
          rw [ht, List.map_append, List.nodup_append] at h3
          obtain ⟨u, hu, he⟩ := List.any_eq_true.1 hin
          exact h3.2.2 u.f0 (List.mem_map.2 ⟨u, hu, rfl⟩) q.f0 (by simp) (by simpa using he)
        refine ⟨[], ?_⟩
        rw [if_neg (by simp [hnd])]
      · rw [if_neg hin, wr_step j (by omega)]
        have hn2 : ((l.take (j + 1)).map (·.f0)).Nodup := by
          rw [ht, List.map_append, List.nodup_append]
          refine ⟨hn, by simp, ?_⟩
          intro a ha b hb2 he
          obtain ⟨u, hu, rfl⟩ := List.mem_map.1 ha
          simp at hb2
          subst hb2
          exact hin (List.any_eq_true.2 ⟨u, hu, by simpa using he⟩)
        obtain ⟨r, hr⟩ := rlist_ev l h2 n (j + 1) (x4 ++ [q.f0, q.f1]) (by omega) (by simp; omega) (by
          intro x hx2
          rcases List.mem_append.1 hx2 with hx2 | hx2
          · exact h4 x hx2
          · simp at hx2; omega) hn2 (k - j - 1) (by omega)
        refine ⟨r, ?_⟩
        rw [hr, hd]
        simp [hb]
    · rw [if_neg hb, hd]
      simp only [Bool.not_eq_true] at hb
      refine ⟨[], ?_⟩
      rw [if_neg (by simp [hb])]
theorem rlist_f (l : List S27) (k : Nat) (hk : 60 ≤ k) : ∃ r, neaptideref06_List.f k l = some (r, if okTxs l = true then 0 else 61) := by
  unfold neaptideref06_List.f okTxs unlikeB
  by_cases h : (l.length : Int) > 3
  · rw [if_pos h]
    refine ⟨[], ?_⟩
    rw [if_neg (by simp; omega)]
  · rw [if_neg h]
    obtain ⟨r, hr⟩ := rlist_ev l (by omega) l.length 0 [(l.length : Int)] (by omega) (by simp) (by simp <;> omega) (by simp) k (by omega)
    refine ⟨r, ?_⟩
    rw [show ((0 : Nat) : Int) = 0 from rfl] at hr
    rw [hr]
    congr 3
    have h3 : l.length ≤ 3 := by omega
    simp [h3, Bool.and_comm]
theorem rparts_ev (n : Int) (h0 : n ≠ 0) (hr : -9223372036854775808 ≤ n ∧ n ≤ 9223372036854775807) : ∃ a b c, neaptideref07_Parts.f n = some (a, b, c, namedB n) ∧ (namedB n = true → a = n / 65536) := by
  unfold neaptideref07_Parts.f namedB
  by_cases h : n < 0
  · rw [if_pos h]
    refine ⟨0, 0, 0, ?_, ?_⟩
    · simp; omega
    · simp; omega
  · rw [if_neg h]
    have e1 : Int.tdiv n 65536 = n / 65536 := Int.tdiv_eq_ediv_of_nonneg (by omega)
    have e2 : Int.tdiv n 256 = n / 256 := Int.tdiv_eq_ediv_of_nonneg (by omega)
    have e3 : Int.tmod (n / 256) 256 = n / 256 % 256 := Int.tmod_eq_emod_of_nonneg (by omega)
    rw [e1, e2, wr_in (n / 65536) (by omega), wr_in (n / 256) (by omega), e3]
    have e4 : n % 65536 / 256 = n / 256 % 256 := by omega
    by_cases h1 : n / 65536 ≥ 1
    · rw [if_pos h1]
      by_cases h2 : n / 65536 ≤ 4095
      · rw [if_pos h2]
        refine ⟨n / 65536, n / 256 % 256, Int.tmod n 256, ?_, fun _ => rfl⟩
        congr 4
        have a1 : (65536 : Int) ≤ n := by omega
        have a2 : n ≤ 268435455 := by omega
        simp only [a1, a2, decide_true, Bool.true_and, e4]
        congr 1
        exact propext ⟨fun h => by omega, fun h => by omega⟩
      · rw [if_neg h2]
        refine ⟨n / 65536, n / 256 % 256, Int.tmod n 256, ?_, ?_⟩
        · congr 4
          symm
          simp; omega
        · simp <;> omega
    · rw [if_neg h1]
      refine ⟨n / 65536, n / 256 % 256, Int.tmod n 256, ?_, ?_⟩
      · congr 4
        symm
        simp; omega
      · simp <;> omega
def rngB (b : Blk) : Prop := -9223372036854775808 ≤ b.f3 ∧ b.f3 ≤ 9223372036854775807
theorem rright_ev (b : Blk) (hr : rngB b) (k : Nat) (hk : 70 ≤ k) : neaptideref07_Right.f k b.f0 b.f1 b.f2 b.f3 b.f4 = some (rightB b) := by
  obtain ⟨k, rfl⟩ : ∃ j, k = j + 1 := ⟨k - 1, by omega⟩
  have ht : neaptideref07_Right.j0 (k + 1) true b.f0 b.f1 b.f2 b.f3 b.f4 = some false := by unfold neaptideref07_Right.j0; simp
  have hf : neaptideref07_Right.j0 (k + 1) false b.f0 b.f1 b.f2 b.f3 b.f4 = some ((decide (b.f3 = 0) || (namedB b.f3 && decide (b.f3 / 65536 < b.f0))) && okTxs b.f4) := by
    obtain ⟨r, hl⟩ := rlist_f b.f4 k (by omega)
    simp only [neaptideref07_Right.j0, Bool.false_eq_true, if_false, hl, Option.bind_some]
    by_cases h4 : okTxs b.f4 = true
    · rw [if_pos h4, if_pos rfl]
      by_cases h3 : b.f3 = 0
      · rw [if_pos h3]; simp [h3, h4]
      · rw [if_neg h3]
        obtain ⟨a1, a2, a3, h5, h6⟩ := rparts_ev b.f3 h3 hr
        rw [h5]
        simp only [Option.bind_some]
        by_cases h7 : namedB b.f3 = true
        · rw [if_pos h7, h6 h7]; simp [h3, h4, h7]
        · rw [if_neg h7]; simp [h3, h7]
    · rw [if_neg h4, if_neg (by decide)]; simp [h4]
  unfold neaptideref07_Right.f rightB
  rw [ht]
  by_cases h0 : b.f0 < 1
  · rw [if_pos h0]; simp; omega
  rw [if_neg h0]
  by_cases h1 : b.f0 > 4095
  · rw [if_pos h1]; simp; omega
  rw [if_neg h1]
  by_cases h2 : b.f1 < 0
  · rw [if_pos h2]; simp; omega
  rw [if_neg h2]
  by_cases h3 : b.f1 > 6
  · rw [if_pos h3]; simp; omega
  rw [if_neg h3]
  by_cases h4 : b.f2 < 0
  · rw [if_pos h4]; simp; omega
  rw [if_neg h4]
  by_cases h5 : b.f2 > 255
  · rw [decide_eq_true h5, ht]; simp; omega
  rw [decide_eq_false h5, hf]
  have g0 : 1 ≤ b.f0 := by omega
  have g1 : b.f0 ≤ 4095 := by omega
  have g2 : 0 ≤ b.f1 := by omega
  have g3 : b.f1 ≤ 6 := by omega
  have g4 : 0 ≤ b.f2 := by omega
  have g5 : b.f2 ≤ 255 := by omega
  simp [g0, g1, g2, g3, g4, g5]
theorem name_ev (n : Int) (hr : -9223372036854775808 ≤ n ∧ n ≤ 9223372036854775807) : neaptideref12_name.f n = some (decide (n = 0) || namedB n) := by
  unfold neaptideref12_name.f
  by_cases h : n = 0
  · subst h
    have : ∀ x, neaptideref07_Parts.f 0 = x → x ≠ none := by
      unfold neaptideref07_Parts.f
      intro x hx
      subst hx
      split
      · simp
      split
      · split <;> simp
      · simp
    obtain ⟨r, hr⟩ := Option.ne_none_iff_exists'.1 (this _ rfl)
    rw [hr]
    simp
  · obtain ⟨a, b, c, h1, _⟩ := rparts_ev n h hr
    rw [h1]
    simp [h]
end Go.Np.Tryz
