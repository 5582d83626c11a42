/- A text that the row of ChainGrows needs. (Pruned by tools/prune.py.) -/
import Derived.Test.YtlllhpnpgcphcaaQChainGrowsChk
set_option linter.unusedVariables false
set_option linter.unusedSimpArgs false
namespace Go.Np.Try
open Go.RowKit Go.Proofs Go.Proofs.Ytlllhpnpgcphcaa.PX Go.Proofs.YtlllhpnpgcphcaaW.PrintWords
def winL (dr : List Int) (s : Int) : Nat → Nat → List Int
  | 0, _ => []
  | m + 1, j => if winsB dr s (j : Int) = true then (j : Int) :: winL dr s m (j + 1) else winL dr s m (j + 1)
theorem winL_wins (dr : List Int) (s : Int) : ∀ (m j : Nat), ∀ x ∈ winL dr s m j, winsB dr s x = true
  | 0, _, x, h => by simp [winL] at h
  | m + 1, j, x, h => by
    unfold winL at h
    split at h
    · rename_i hw
      rcases List.mem_cons.1 h with rfl | h
      · exact hw
      · exact winL_wins dr s m (j + 1) x h
    · exact winL_wins dr s m (j + 1) x h
theorem winners_l (dr : List Int) (hd : dr.length ≤ 9223372036854775807) (s : Int) : ∀ (m j : Nat) (acc : List Int) (k : Nat), j + m = 7 → acc.length ≤ 7 + j → m + 1 ≤ k → lot_Winners.l0 k dr s acc (j : Int) = some (acc ++ winL dr s m j)
  | 0, j, acc, k, hj, ha, hk => by
    obtain ⟨k, rfl⟩ : ∃ i, k = i + 1 := ⟨k - 1, by omega⟩
    rw [lot_Winners.l0, if_neg (by omega)]
    simp [winL]
  | m + 1, j, acc, k, hj, ha, hk => by
    obtain ⟨k, rfl⟩ : ∃ i, k = i + 1 := ⟨k - 1, by omega⟩
    rw [lot_Winners.l0, if_pos (by omega), wins_ev dr hd, Option.bind_some, wr_step j (by omega)]
    by_cases h : winsB dr s (j : Int) = true
    · rw [if_pos h, if_pos (by omega), winners_l dr hd s m (j + 1) _ k (by omega) (by simp; omega) (by omega)]
      simp [winL, h]
    · rw [if_neg h, winners_l dr hd s m (j + 1) acc k (by omega) (by omega) (by omega)]
      simp [winL, h]
theorem winners_ev (dr : List Int) (hd : dr.length ≤ 9223372036854775807) (s : Int) (k : Nat) (hk : 8 ≤ k) : lot_Winners.f k dr s = some (winL dr s 7 0) := by
  unfold lot_Winners.f
  have h := winners_l dr hd s 7 0 [] k (by omega) (by simp) (by omega)
  simpa using h
theorem has_ev (l : List Int) (x : Int) (hl : l.length < 1000000000) (k : Nat) (hk : l.length + 1 ≤ k) : ∃ r, slices_Contains_int_int.f k l x = some r := by
  obtain ⟨r, h1, h2⟩ := index_ev l x hl l.length 0 (by omega) (by simp) k hk
  unfold slices_Contains_int_int.f slices_Index_int_int.f
  rw [show slices_Index_int_int.l0 k l x (l.length : Int) 0 = some r from h1]
  exact ⟨_, rfl⟩
theorem single_l (dr who : List Int) (hd : dr.length ≤ 100000000000000) (hw : who.length = 7) : ∀ (m j : Nat), j + m = dr.length → ∀ k, m + 9 ≤ k →
    ∃ r, lot_Single.l0 k dr who (dr.length : Int) (j : Int) = some r ∧ (r = true → ∀ s : Nat, j < s → s ≤ dr.length → (winL dr (s : Int) 7 0).length ≤ 1)
  | 0, j, hj, k, hk => by
    obtain ⟨k, rfl⟩ : ∃ i, k = i + 1 := ⟨k - 1, by omega⟩
    rw [lot_Single.l0, if_neg (by omega)]
    exact ⟨_, rfl, fun _ s h1 h2 => by omega⟩
  | m + 1, j, hj, k, hk => by
    obtain ⟨k, rfl⟩ : ∃ i, k = i + 1 := ⟨k - 1, by omega⟩
    obtain ⟨r, h1, h2⟩ := single_l dr who hd hw m (j + 1) (by omega) k (by omega)
    rw [lot_Single.l0, if_pos (by omega), wr_step j (by omega), winners_ev dr (by omega) _ k (by omega), Option.bind_some]
    have h2' : ∀ hr : r = true, (winL dr ((j + 1 : Nat) : Int) 7 0).length ≤ 1 → ∀ s : Nat, j < s → s ≤ dr.length → (winL dr (s : Int) 7 0).length ≤ 1 := fun hr hl s g1 g2 => by
      by_cases e : s = j + 1
      · rw [e]; exact hl
      · exact h2 hr s (by omega) g2
    by_cases hc : ((winL dr ((j + 1 : Nat) : Int) 7 0).length : Int) > 1
    · rw [if_pos hc]
      exact ⟨_, rfl, fun h => by cases h⟩
    · rw [if_neg hc]
      by_cases hc1 : ((winL dr ((j + 1 : Nat) : Int) 7 0).length : Int) = 1
      · obtain ⟨q, hq⟩ := has_ev who (rd (winL dr ((j + 1 : Nat) : Int) 7 0) 0) (by omega) k (by omega)
        rw [if_pos hc1, if_pos (by omega), hq, Option.bind_some]
        by_cases hqt : q = true
        · rw [if_pos hqt, h1]
          exact ⟨_, rfl, fun hr => h2' hr (by omega)⟩
        · rw [if_neg hqt]
          exact ⟨_, rfl, fun h => by cases h⟩
      · rw [if_neg hc1, h1]
        exact ⟨_, rfl, fun hr => h2' hr (by omega)⟩
def whoL : List Int := [0, 1, 2, 3, 4, 5, 6]
theorem single_calls {w : World} {A : Option Addr} {c : Nat} {dr : List Int} (hC : (Kd.int .i64).C w A dr.length dr) (hc : dr.length ≤ c) (hd : dr.length ≤ 100000000000000) : ∃ r : Bool, (r = true → ∀ s : Nat, 0 < s → s ≤ dr.length → (winL dr (s : Int) 7 0).length ≤ 1) ∧
    ∀ W A1 c1, Fr [] w W → (Kd.int .i64).C W A1 7 whoL → 7 ≤ c1 → Calls Try.prog 54 #[.slice A dr.length c, .slice A1 7 c1] W fun e w' => e = .returned (.bool r) ∧ Fr [] W w' := by
  obtain ⟨r, h1, h2⟩ := single_l dr whoL hd rfl dr.length 0 (by omega) (dr.length + 9) (Nat.le_refl _)
  refine ⟨r, h2, fun W A1 c1 hW hC1 hc1 => (lot_Single.calls (dr.length + 9) A c dr A1 c1 whoL r W (Kd.C_below hC hW.below) hc hC1 hc1 h1).mono ?_⟩
  rintro e w' ⟨rfl, hb⟩
  exact ⟨rfl, Fr.of_below [] hb⟩
theorem winners_calls {w : World} {A : Option Addr} {c : Nat} {dr : List Int} (hC : (Kd.int .i64).C w A dr.length dr) (hc : dr.length ≤ c) (s : Int) :
    Calls Try.prog 56 #[.slice A dr.length c, .int .i64 s] w fun e w' => ∃ A1 c1, e = .returned (.slice A1 (winL dr s 7 0).length c1) ∧ (Kd.int .i64).C w' A1 (winL dr s 7 0).length (winL dr s 7 0) ∧ Fr [] w w' := by
  refine (lot_Winners.calls 8 A c dr s _ w hC hc (winners_ev dr hC.2.1 s 8 (Nat.le_refl _))).mono ?_
  rintro e w' ⟨v, rfl, hR, hb⟩
  obtain ⟨B, d, rfl, h3, h4⟩ := Kd.R_reads hR
  exact ⟨B, d, rfl, h4, Fr.of_below [] hb⟩
def offB (d : Int) : Bool := decide (d < 0) || decide (128 ≤ d)
set_option maxHeartbeats 1000000 in
set_option maxRecDepth 100000 in
theorem off_calls {w : World} (d : Int) : Calls Try.prog 91 #[.int .i64 d] w fun e w' => e = .returned (.bool (offB d)) ∧ Fr [] w w' := by
  refine calls_k fun R hR => ?_
  unfold offB at hR
  by_cases h1 : d < 0
  · have g1 : decide (d < 0) = true := decide_eq_true h1
    rw [g1] at hR
    go_enter Try.func91, Try.ntmps91
    go_wp2
    exact hR.out _ _ ⟨by first | rfl | simp, by first | exact Fr.refl _ _ | exact (Fr.refl _ _).drewN _ | exact (Fr.refl _ _).drew⟩
  · have g1 : decide (d < 0) = false := decide_eq_false h1
    rw [g1] at hR
    go_enter Try.func91, Try.ntmps91
    go_wp2
    exact hR.out _ _ ⟨by first | rfl | simp, by first | exact Fr.refl _ _ | exact (Fr.refl _ _).drewN _ | exact (Fr.refl _ _).drew⟩
set_option maxHeartbeats 1000000 in
set_option maxRecDepth 100000 in
theorem offs_calls {w : World} {A : Option Addr} {c : Nat} {L : List Int} (h : (Kd.int .i64).C w A L.length L) :
    Calls Try.prog 111 #[.slice A L.length c, .func (.func 91) #[] #[]] w fun e w' => ∃ x : Int, e = .returned (.int .i64 x) ∧ decide (0 ≤ x) = L.any offB ∧ Fr [] w w' := by
  have HL := Lib.hid (fun k hk => int_at h k hk)
  have hmx : L.length ≤ 9223372036854775807 := h.2.1
  refine calls_k fun R hR => ?_
  clear h
  go_enter Try.func111, Try.ntmps111
  go_wp2
  go_loopw [8] (fun u wr => ∃ (k : Nat), k ≤ L.length ∧ u = .int .i64 k ∧ Hid ((L.take k).any offB = false) ∧ Hid (Fr [] w wr)) (fun u _ => L.length - (RowKit.intOf u).toNat)
  case atStart => exact ⟨0, Nat.zero_le _, rfl, (by show _ = _; simp), Fr.refl _ _⟩
  case round =>
    obtain ⟨k, hk, rfl, hH, HF⟩ := hrel
    by_cases hlt : k < L.length
    · obtain ⟨ad, rfl, hcell⟩ := HL.out k hlt
      have hcell := (HF.out.cell (lt_cell hcell) (by simp)).trans hcell
      obtain ⟨d, hd⟩ : ∃ d, L.getD k 0 = d := ⟨_, rfl⟩
      have htk : L.take (k + 1) = L.take k ++ [d] := by rw [List.take_succ_eq_append_getElem hlt, ← hd]; simp [List.getD_eq_getElem?_getD, hlt]
      have hmem : d ∈ L := by rw [← hd, List.getD_eq_getElem?_getD, List.getElem?_eq_getElem hlt]; exact List.getElem_mem _
      rw [hd] at hcell
      have HC := Lib.hid (fun W => off_calls (w := W) d)
      clear hd
      by_cases hbg : offB d = true
      · rw [hbg] at HC
        have hfin : decide (0 ≤ (k : Int)) = L.any offB := by rw [show L.any offB = true from List.any_eq_true.2 ⟨d, hmem, hbg⟩]; simp
        have HN := Lib.hid hfin
        clear htk hH hbg hmem hfin
        go_wp2_with (go_at_call 91; refine (HC.out _).mono ?_; rintro e w1 ⟨rfl, hF1⟩; have HF1 := Lib.hid (HF.out.trans hF1 (by simp)); clear hF1)
        exact hR.out _ _ ⟨_, rfl, HN.out, HF1.out⟩
      · have hbf : offB d = false := by simpa using hbg
        rw [hbf] at HC
        have hn1 : (L.take (k + 1)).any offB = false := by rw [htk, List.any_append, hH.out]; simp [hbf]
        have HN := Lib.hid hn1
        clear htk hH hbg hbf hmem hn1
        go_wp2_with (go_at_call 91; refine (HC.out _).mono ?_; rintro e w1 ⟨rfl, hF1⟩; have HF1 := Lib.hid (HF.out.trans hF1 (by simp)); clear hF1)
        go_roundw
        case rel => exact ⟨k + 1, by omega, by go_num, HN, HF1⟩
        case measure => simp [RowKit.intOf]; omega
    · obtain rfl : k = L.length := by omega
      rw [List.take_length] at hH
      have hfin : decide (0 ≤ (-1 : Int)) = L.any offB := by rw [hH.out]; rfl
      have HN := Lib.hid hfin
      clear hH hfin
      go_wp2
      exact hR.out _ _ ⟨_, rfl, HN.out, HF.out⟩
set_option maxHeartbeats 1000000 in
set_option maxRecDepth 100000 in
theorem lotcheck_calls {w : World} {A : Option Addr} {c : Nat} {L : List Int} (h : (Kd.int .i64).C w A L.length L) :
    Calls Try.prog 55 #[.slice A L.length c] w fun e w' => e = .returned (.int .i64 (if 200 < (L.length : Int) then 101 else if L.any offB = true then 101 else 0)) ∧ Fr [] w w' := by
  have HI := Lib.hid (offs_calls (c := c) h)
  have hmx : L.length ≤ 9223372036854775807 := h.2.1
  refine calls_k fun R hR => ?_
  clear h
  by_cases hb : (200 : Int) < (L.length : Int)
  · rw [if_pos hb] at hR
    go_enter Try.func55, Try.ntmps55
    go_wp2
    exact hR.out _ _ ⟨rfl, by first | exact Fr.refl _ _ | exact (Fr.refl _ _).drewN _ | exact (Fr.refl _ _).drew⟩
  · rw [if_neg hb] at hR
    obtain ⟨q, hq⟩ : ∃ q, L.any offB = q := ⟨_, rfl⟩
    rw [hq] at hR HI
    clear hq
    cases q with
    | true =>
      go_enter Try.func55, Try.ntmps55
      go_wp2_with (first
        | (go_at_call 90; go_in)
        | (go_at_call 111; refine HI.out.mono ?_; rintro e w1 ⟨x, rfl, hx, hF1⟩; have HF1 := Lib.hid hF1; clear hF1 HI))
      exact hR.out _ _ ⟨rfl, HF1.out⟩
    | false =>
      go_enter Try.func55, Try.ntmps55
      go_wp2_with (first
        | (go_at_call 90; go_in)
        | (go_at_call 111; refine HI.out.mono ?_; rintro e w1 ⟨x, rfl, hx, hF1⟩; have HF1 := Lib.hid hF1; clear hF1 HI))
      exact hR.out _ _ ⟨rfl, HF1.out⟩
theorem lotcheck_at {w : World} {A : Option Addr} {c : Nat} {dr : List Int} (hC : (Kd.int .i64).C w A dr.length dr) : ∃ r : Int, (r = 0 → dr.length ≤ 200) ∧
    ∀ W, Fr [] w W → Calls Try.prog 55 #[.slice A dr.length c] W fun e w' => e = .returned (.int .i64 r) ∧ Fr [] W w' := by
  refine ⟨_, fun h => ?_, fun W hW => lotcheck_calls (Kd.C_below hC hW.below)⟩
  by_cases hb : 200 < (dr.length : Int)
  · rw [if_pos hb] at h; cases h
  · omega
end Go.Np.Try
