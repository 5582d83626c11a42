/- What the printed functions of packages tx, wire and block come to. -/
import Derived.Test.YtdfoalbkfdnmcaaTreeP
import Derived.Test.YtdfoalbkfdnmcaaPXx9
set_option linter.unusedVariables false
set_option linter.unusedSimpArgs false
namespace Go.Np.Try
open Go.RowKit Go.Proofs Go.Proofs.Ytdfoalbkfdnmcaa.PX Go.Proofs.YtdfoalbkfdnmcaaW.PrintWords
theorem wr_in (n : Int) (h : -9223372036854775808 ≤ n ∧ n ≤ 9223372036854775807) : wrap64 n = n := by unfold wrap64; omega
theorem u64_range (x : Int) : 0 ≤ IntKind.u64.wrap x ∧ IntKind.u64.wrap x < 18446744073709551616 := by
  have : IntKind.u64.wrap x = x % 18446744073709551616 := by simp [IntKind.wrap, IntKind.bits, IntKind.signed]
  rw [this]; omega
theorem num_ev : ∀ (m : Nat) (x : Int) (l : List Int), 0 ≤ x → x < 128 ^ (m + 1) → l.length + m + 1 < 1000000 → ∀ k, m + 1 ≤ k → ∃ r, wire_Num.l0 k x l = some r ∧ r.length ≤ l.length + m + 1
  | 0, x, l, h0, h1, hl, k, hk => by
    obtain ⟨k, rfl⟩ : ∃ j, k = j + 1 := ⟨k - 1, by omega⟩
    unfold wire_Num.l0
    rw [if_neg (by simpa using h1), if_pos (by omega)]
    exact ⟨_, rfl, by simp⟩
  | m + 1, x, l, h0, h1, hl, k, hk => by
    obtain ⟨k, rfl⟩ : ∃ j, k = j + 1 := ⟨k - 1, by omega⟩
    unfold wire_Num.l0
    by_cases h : x ≥ 128
    · rw [if_pos h, if_pos (by omega)]
      obtain ⟨r, h2, h3⟩ := num_ev m (x / 128) (l ++ [Go.bits .or .u8 ((x) % 256) 128]) (by omega) (by rw [Int.pow_succ] at h1; omega) (by simp; omega) k (by omega)
      exact ⟨r, h2, by simp at h3; omega⟩
    · rw [if_neg h, if_pos (by omega)]
      exact ⟨_, rfl, by simp⟩
theorem nums_ev (l : List Int) (h1 : ∀ x ∈ l, -1 ≤ x) (h2 : l.length ≤ 64) : ∀ (n j : Nat) (x4 : List Int), j + n = l.length → x4.length ≤ 10 * j → ∀ k, n + 12 ≤ k → ∃ r, wire_Nums.l0 k x4 l (l.length : Int) (j : Int) = some (r, 0) ∧ r.length ≤ 10 * l.length
  | 0, j, x4, hj, hx, k, hk => by
    obtain ⟨k, rfl⟩ : ∃ j, k = j + 1 := ⟨k - 1, by omega⟩
    unfold wire_Nums.l0
    rw [if_neg (by omega)]
    exact ⟨_, rfl, by omega⟩
  | n + 1, j, x4, hj, hx, k, hk => by
    obtain ⟨k, rfl⟩ : ∃ j, k = j + 1 := ⟨k - 1, by omega⟩
    unfold wire_Nums.l0
    have hm : rd l (j : Int) ∈ l := by unfold rd; simp [List.getD_eq_getElem?_getD, List.getElem?_eq_getElem (show j < l.length by omega)]
    have hv := h1 _ hm
    have hu := u64_range ((IntKind.u64.wrap (rd l (j : Int))) + 1)
    obtain ⟨r, h3, h4⟩ := num_ev 9 _ [] hu.1 (by have := hu.2; omega) (by simp) k (by omega)
    rw [if_pos (by omega), if_pos (by omega), if_pos (by omega), if_neg (by omega)]
    unfold wire_Num.f
    rw [h3]
    simp only [Option.bind_some]
    simp at h4
    rw [if_pos (by omega), show wrap64 ((j : Int) + 1) = ((j + 1 : Nat) : Int) from by rw [wr_in _ (by omega)]; rfl]
    exact nums_ev l h1 h2 n (j + 1) (x4 ++ r) (by omega) (by simp; omega) k (by omega)
theorem nums_f (l : List Int) (h1 : ∀ x ∈ l, -1 ≤ x) (h2 : l.length ≤ 64) (k : Nat) (hk : l.length + 12 ≤ k) : ∃ r, wire_Nums.f k l = some (r, 0) ∧ r.length ≤ 10 * l.length := by
  unfold wire_Nums.f
  rw [if_neg (by omega)]
  exact nums_ev l h1 h2 l.length 0 [] (by omega) (by simp) k hk
theorem txRight_ev (x y : Int) : tx_Right.f x y = some (okTx ⟨x, y⟩) := by
  unfold tx_Right.f okTx
  by_cases h1 : x ≥ 1 <;> by_cases h2 : x ≤ 1000000 <;> by_cases h3 : y ≥ 0 <;> by_cases h4 : y ≤ 1000 <;> simp [h1, h2, h3, h4] <;> omega
theorem bytes_ev (t : S59) (k : Nat) (hk : 20 ≤ k) : ∃ r, tx_Bytes.f k t.f0 t.f1 = some (r, if okTx t = true then 0 else 61) ∧ r.length ≤ 20 := by
  unfold tx_Bytes.f
  rw [txRight_ev]
  simp only [Option.bind_some]
  by_cases h : okTx t = true
  · rw [if_pos h, if_pos h]
    have h1 := h
    simp only [okTx, Bool.and_eq_true, decide_eq_true_eq] at h1
    obtain ⟨r, h2, h3⟩ := nums_f [t.f0, t.f1] (by simp; omega) (by simp) k (by simp; omega)
    rw [h2]
    exact ⟨r, rfl, by simpa using h3⟩
  · rw [if_neg h, if_neg h]
    exact ⟨_, rfl, by simp⟩
theorem list_ev (l : List S59) (h2 : l.length ≤ 3) : ∀ (n j : Nat) (x4 : List Int), j + n = l.length → x4.length ≤ 20 * j + 10 → ∀ k, n + 21 ≤ k → ∃ r, tx_List.l0 k x4 l (l.length : Int) (j : Int) = some (r, if (l.drop j).all okTx = true then 0 else 61)
  | 0, j, x4, hj, hx, k, hk => by
    obtain ⟨k, rfl⟩ : ∃ j, k = j + 1 := ⟨k - 1, by omega⟩
    unfold tx_List.l0
    rw [if_neg (by omega), List.drop_eq_nil_of_le (by omega)]
    exact ⟨_, rfl⟩
  | n + 1, j, x4, hj, hx, k, hk => by
    obtain ⟨k, rfl⟩ : ∃ j, k = j + 1 := ⟨k - 1, by omega⟩
    have hlt : j < l.length := by omega
    have hd : l.drop j = rd_T59 l (j : Int) :: l.drop (j + 1) := by
      rw [List.drop_eq_getElem_cons hlt]; simp [rd_T59, List.getD_eq_getElem?_getD, List.getElem?_eq_getElem hlt]
    unfold tx_List.l0
    obtain ⟨r, h3, h4⟩ := bytes_ev (rd_T59 l (j : Int)) k (by omega)
    rw [if_pos (by omega), if_pos (by omega), if_pos (by omega), h3, hd]
    simp only [Option.bind_some, List.all_cons]
    by_cases hb : okTx (rd_T59 l (j : Int)) = true
    · rw [if_pos hb, if_pos rfl, if_pos (by omega), show wrap64 ((j : Int) + 1) = ((j + 1 : Nat) : Int) from by rw [wr_in _ (by omega)]; rfl]
      simp only [hb, Bool.true_and]
      exact list_ev l h2 n (j + 1) (x4 ++ r) (by omega) (by simp; omega) k (by omega)
    · rw [if_neg hb, if_neg (by decide)]
      simp only [Bool.not_eq_true] at hb
      simp only [hb, Bool.false_and]
      exact ⟨_, rfl⟩
theorem list_f (l : List S59) (k : Nat) (hk : 30 ≤ k) : ∃ r, tx_List.f k l = some (r, if okTxs l = true then 0 else 61) := by
  unfold tx_List.f tx_unlike.f okTxs
  simp only [Option.bind_some]
  by_cases h : unlikeB l = true
  · have h1 := h
    simp only [unlikeB, Bool.and_eq_true, decide_eq_true_eq] at h1
    rw [if_pos h, h]
    obtain ⟨r, h2, h3⟩ := nums_f [(l.length : Int)] (by simp; try omega) (by simp) k (by simp; omega)
    rw [h2]
    simp only [Option.bind_some]
    obtain ⟨r', h4⟩ := list_ev l h1.2 l.length 0 r (by omega) (by simpa using h3) k (by omega)
    exact ⟨r', by simpa using h4⟩
  · rw [if_neg h]
    simp only [Bool.not_eq_true] at h
    rw [h]
    exact ⟨_, rfl⟩
theorem named_ev (n : Int) : block_named.f n = some (namedB n) := by
  unfold block_named.f block_between.f namedB
  by_cases h1 : n ≥ 65536
  · rw [if_pos h1]
    by_cases h2 : n ≤ 268435455
    · have e1 : Int.tmod n 65536 = n % 65536 := Int.tmod_eq_emod_of_nonneg (by omega)
      have e2 : Int.tdiv (n % 65536) 256 = n % 65536 / 256 := Int.tdiv_eq_ediv_of_nonneg (by omega)
      simp only [Option.bind_some, h2, decide_true, if_true, e1, e2]
      rw [wr_in _ (by omega)]
      simp [h1]
    · simp [h1, h2]
  · rw [if_neg h1]; simp [h1]
theorem between_ev (n a b : Int) : block_between.f n a b = some (decide (a ≤ n) && decide (n ≤ b)) := by
  unfold block_between.f
  by_cases h1 : n ≥ a
  · rw [if_pos h1]; simp [h1]
  · rw [if_neg h1]; simp [h1]
theorem right_ev (b : Blk) (k : Nat) (hk : 40 ≤ k) : block_Right.f k b.f0 b.f1 b.f2 b.f3 b.f4 = some (rightB b) := by
  obtain ⟨k, rfl⟩ : ∃ j, k = j + 1 := ⟨k - 1, by omega⟩
  obtain ⟨r, hl⟩ := list_f b.f4 k (by omega)
  have hf : block_Right.j0 (k + 1) true b.f0 b.f1 b.f2 b.f3 b.f4 = some false := by unfold block_Right.j0; simp
  unfold block_Right.f
  simp only [between_ev, Option.bind_some]
  by_cases h0 : (decide ((1 : Int) ≤ b.f0) && decide (b.f0 ≤ 4095)) = true
  · by_cases h1 : (decide ((0 : Int) ≤ b.f1) && decide (b.f1 ≤ 6)) = true
    · by_cases h2 : (decide ((0 : Int) ≤ b.f2) && decide (b.f2 ≤ 255)) = true
      · rw [if_pos h0, if_pos h1, h2]
        simp only [Bool.and_eq_true, decide_eq_true_eq] at h0 h1 h2
        unfold block_Right.j0
        simp only [Bool.not_true, Bool.false_eq_true, if_false, hl, named_ev, Option.bind_some]
        have e : rightB b = ((decide (b.f3 = 0) || (namedB b.f3 && decide (b.f3 / 65536 < b.f0))) && okTxs b.f4) := by
          unfold rightB; simp [h0, h1, h2]
        rw [e]
        by_cases h3 : b.f3 = 0
        · rw [if_pos h3]
          by_cases h4 : okTxs b.f4 = true
          · simp [h3, h4]
          · simp [h3, h4]
        · rw [if_neg h3]
          by_cases h5 : namedB b.f3 = true
          · have h6 := h5
            simp only [namedB, Bool.and_eq_true, decide_eq_true_eq] at h6
            have e2 : Int.tdiv b.f3 65536 = b.f3 / 65536 := Int.tdiv_eq_ediv_of_nonneg (by omega)
            rw [if_pos h5, e2, wr_in _ (by omega)]
            by_cases h7 : b.f3 / 65536 ≥ b.f0
            · rw [if_pos h7]; simp [h3, h5]; omega
            · rw [if_neg h7]
              by_cases h4 : okTxs b.f4 = true
              · simp [h3, h5, h4]; omega
              · simp [h3, h4]
          · rw [if_neg h5]; simp [h3, h5]
      · rw [if_pos h0, if_pos h1]
        simp only [Bool.not_eq_true] at h2
        rw [h2]
        simp only [Bool.not_false]
        rw [hf]
        congr 1
        symm
        unfold rightB
        rw [show (decide (1 ≤ b.f0) && decide (b.f0 ≤ 4095) && decide (0 ≤ b.f1) && decide (b.f1 ≤ 6) && decide (0 ≤ b.f2) && decide (b.f2 ≤ 255)) = ((decide (1 ≤ b.f0) && decide (b.f0 ≤ 4095) && decide (0 ≤ b.f1) && decide (b.f1 ≤ 6)) && (decide (0 ≤ b.f2) && decide (b.f2 ≤ 255))) by simp [Bool.and_assoc], h2]
        simp
    · rw [if_pos h0, if_neg h1, hf]
      simp only [Bool.not_eq_true] at h1
      congr 1
      symm
      unfold rightB
      rw [show (decide (1 ≤ b.f0) && decide (b.f0 ≤ 4095) && decide (0 ≤ b.f1) && decide (b.f1 ≤ 6)) = ((decide (1 ≤ b.f0) && decide (b.f0 ≤ 4095)) && (decide (0 ≤ b.f1) && decide (b.f1 ≤ 6))) by simp [Bool.and_assoc], h1]
      simp
  · rw [if_neg h0, hf]
    simp only [Bool.not_eq_true] at h0
    congr 1
    symm
    unfold rightB
    rw [h0]
    simp
theorem name_ev (b : Blk) : block_Name.f 40 b.f0 b.f1 b.f2 b.f3 b.f4 = some (nameB b) := by
  unfold block_Name.f
  rw [right_ev b 40 (by omega)]
  simp only [Option.bind_some]
  unfold nameB
  by_cases h : rightB b = true
  · rw [if_pos h, if_pos h]
    have h1 := h
    simp only [rightB, Bool.and_eq_true, decide_eq_true_eq] at h1
    rw [wr_in (b.f0 * 65536) (by omega), wr_in (b.f1 * 256) (by omega), wr_in (b.f0 * 65536 + b.f1 * 256) (by omega), wr_in _ (by omega)]
  · rw [if_neg h, if_neg h]
/-- A block as a value. -/
def blkV (b : Blk) (A : Option Addr) (c : Nat) : Value := .agg #[.int .i64 b.f0, .int .i64 b.f1, .int .i64 b.f2, .int .i64 b.f3, .slice A b.f4.length c]
theorem name_calls {w : World} (b : Blk) (A : Option Addr) (c : Nat) (h : Kd.C k59 w A b.f4.length b.f4) (hc : b.f4.length ≤ c) :
    Calls Try.prog 22 #[blkV b A c] w fun e w' => e = .returned (.int .i64 (nameB b)) ∧ Below w.heap.size w w' :=
  block_Name.calls 40 b.f0 b.f1 b.f2 b.f3 A c b.f4 (nameB b) w h hc (name_ev b)
end Go.Np.Try
