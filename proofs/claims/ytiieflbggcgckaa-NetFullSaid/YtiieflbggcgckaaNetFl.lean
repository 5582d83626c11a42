/- NetFull: the walk. -/
import Derived.Test.YtiieflbggcgckaaBagOwn
set_option linter.unusedVariables false
set_option linter.unusedSimpArgs false
namespace Go.Np.Try
open Go.RowKit Go.Proofs Go.Conc

/-- from, from + 1, .. -/
def seqF (f : Int) (n : Nat) : List Int := (List.range n).map fun (j : Nat) => f + (j : Int)
theorem seqF_len (f : Int) (n : Nat) : (seqF f n).length = n := by simp [seqF]
theorem seqF_succ (f : Int) (n : Nat) : seqF f (n + 1) = seqF f n ++ [f + (n : Int)] := by simp [seqF, List.range_succ]
theorem seqF_get (f : Int) (n j : Nat) (h : j < n) (l : List Int) : (seqF f n ++ l)[j]? = some (f + (j : Int)) := by
  rw [List.getElem?_append_left (by rw [seqF_len]; exact h)]
  simp [seqF, h]
theorem atP_some {l : List Int} {i : Int} {x : Int} (h0 : 0 ≤ i) (h : l[i.toNat]? = some x) : atP l i = (x, true) := by
  have hl := (List.getElem?_eq_some_iff.1 h).1
  unfold atP
  rw [if_pos ⟨h0, by omega⟩, List.getD_eq_getElem?_getD, h]; rfl
theorem min_run {P : Program} (t ty : TypeId) (x y z : Int) (h : z = if y < x then y else x) (w : World) : (Builtin.min_ #[t, t] ty #[.int .i64 x, .int .i64 y]).run P w = .ok (.int .i64 z) w := by
  subst h
  by_cases hc : y < x <;> simp [Builtin.min_, Builtin.min2, hc]

set_option maxHeartbeats 4000000 in
set_option maxRecDepth 100000 in
theorem full_calls {w : World} (many f : Int) (hmw : (Lit.int .i64 many).wf = true) (hfw : (Lit.int .i64 f).wf = true) :
    Calls Try.prog 11 #[.int .i64 many, .int .i64 f] w fun e w' => e = .returned (.bool true) ∧ Fr [] w w' := by
  have HALIVE := Lib.hid (netAlive_calls w)
  refine calls_k fun R hR => ?_
  by_cases hin : 0 ≤ many ∧ many ≤ 4100 ∧ 0 ≤ f ∧ f ≤ 1000000
  · obtain ⟨h0, h1, h2, h3⟩ := hin
    obtain ⟨N, rfl⟩ := Int.eq_ofNat_of_zero_le h0
    obtain ⟨M, hM⟩ : ∃ M : Nat, M = min N 4000 := ⟨_, rfl⟩
    obtain ⟨K, hK⟩ : ∃ K : Nat, K = min M 30 := ⟨_, rfl⟩
    have hmin1 := fun ty => min_run (P := Try.prog) 3 ty (N : Int) 4000 (M : Int) (by split <;> omega)
    have hmin2 := fun ty => min_run (P := Try.prog) 3 ty (M : Int) 30 (K : Int) (by split <;> omega)
    have hMN : M ≤ N := by omega
    have hM4 : M ≤ 4000 := by omega
    have hKM : K ≤ M := by omega
    have HMN := Lib.hid (show N < 4000 → M = N by omega)
    have HMN2 := Lib.hid hM
    have HKM := Lib.hid (show M ≤ 30 → K = M by omega)
    clear hM hK h0
    go_enter Try.func11, Try.ntmps11
    go_wp2_with (first
      | (go_at_call 27; refine HALIVE.out.mono ?_; rintro e w1 ⟨rfl, hF1⟩)
      | (go_at_call 28; refine (new_own _).mono ?_; rintro e w2 ⟨p, rfl, hO2⟩))
    have hO0 := hO2.base hF1
    clear hO2 hF1 HALIVE
    go_loopw [6] (fun u wr => ∃ k : Nat, k ≤ N ∧ u = .int .i64 k ∧ Own w wr p (seqF f (min k 4000))) (fun u _ => N - (intOf u).toNat)
    case atStart => exact ⟨0, Nat.zero_le _, rfl, hO0⟩
    case round =>
      obtain ⟨k, hk, rfl, hO⟩ := hrel
      clear hO0
      by_cases hlt : k < N
      · by_cases hk4 : k < 4000
        · have HP := Lib.hid (put_own (f + (k : Int)) hO (by rw [seqF_len]; omega))
          have hk5 : (k : Int) < 4000 := by omega
          have hbq : decide ((k : Int) < 4000) = true := decide_eq_true hk5
          go_wp2_with (go_at_call 29; refine HP.out.mono ?_; rintro e w3 ⟨rfl, hO3⟩)
          go_roundw
          case rel =>
            refine ⟨k + 1, by omega, by go_num, ?_⟩
            rw [show min (k + 1) 4000 = min k 4000 + 1 by omega, seqF_succ, show ((min k 4000 : Nat) : Int) = (k : Int) by omega]; exact hO3
          case measure => simp [intOf]; omega
        · have HP := Lib.hid (put_full (f + (k : Int)) hO (by rw [seqF_len]; omega))
          have hk5 : ¬ (k : Int) < 4000 := by omega
          have hbq : decide ((k : Int) < 4000) = false := decide_eq_false hk5
          go_wp2_with (go_at_call 29; refine HP.out.mono ?_; rintro e w3 ⟨rfl, hO3⟩)
          go_roundw
          case rel =>
            refine ⟨k + 1, by omega, by go_num, ?_⟩
            rw [show min (k + 1) 4000 = min k 4000 by omega]; exact hO3
          case measure => simp [intOf]; omega
      · obtain rfl : k = N := by omega
        have hO' : Own w wr p (seqF f M) := by rw [HMN2.out]; exact hO
        clear hO
        rcases (show M = 0 ∨ (0 < M ∧ M < 4000) ∨ M = 4000 by omega) with hcs | hcs | hcs
        · have hc1 : ¬ (0 < M) := by omega
          have HD : Hid (Calls Try.prog 36 #[.pointer (some ⟨p, 0, none⟩), .int .i64 0] wr fun e w' => e = .returned (.bool false) ∧ Own w w' p (seqF f M ++ [])) := by
            refine (double_own 0 hO').mono ?_
            rintro e w' ⟨rfl, h⟩
            have ha : atP (seqF f M) 0 = (0, false) := if_neg (by rw [seqF_len]; omega)
            rw [ha] at h ⊢
            simp only [Bool.false_and, Bool.false_eq_true, if_false] at h ⊢
            first | exact ⟨rfl, by simpa using h⟩ | exact ⟨trivial, by simpa using h⟩ | simpa using h
          obtain ⟨L, hL⟩ : ∃ L, L = seqF f M ++ [] := ⟨_, rfl⟩
          rw [← hL] at HD
          have HL := Lib.hid hL
          clear hL hO'
          go_wp2_with (go_at_call 36; refine HD.out.mono ?_; rintro e w3 ⟨rfl, hO3⟩)
          go_loopw [9] (fun u w4 => ∃ j : Nat, j ≤ K ∧ u = .int .i64 j ∧ Own w w4 p (L.drop j)) (fun u _ => K - (intOf u).toNat)
          case atStart => exact ⟨0, Nat.zero_le _, rfl, hO3⟩
          case round =>
            obtain ⟨j, hj, rfl, hO4⟩ := hrel
            clear hO3 HD
            by_cases hjl : j < K
            · exfalso; omega
            · obtain rfl : j = K := by omega
              have hlen : (L.drop j).length = M  - j := by rw [List.length_drop, HL.out]; simp [seqF_len]
              have HLN := Lib.hid (len_own hO4)
              have hl2 : (L.drop j).length ≤ 5000 := by omega
              have hl3 : (((L.drop j).length : Nat) : Int) = (M : Int) - (j : Int) := by omega
              have hbq : ((((L.drop j).length : Nat) : Int) == (M : Int) - (j : Int)) = true := by rw [hl3]; simp
              have hl5 : (L.drop j).length = M - j := hlen
              generalize L.drop j = q at HLN hO4 hl2 hbq hl5
              clear hl3 hlen
              go_wp2_with (go_at_call 32; refine (HLN.out).mono ?_; go_must (rintro e w5 ⟨rfl, hO5, _⟩))
              exact hR.out _ _ ⟨by first | rfl | rw [hbq] | (simp; omega) | (simp; exact List.eq_nil_of_length_eq_zero (by omega)), hO5.fr⟩
        · obtain ⟨hc1, hc2⟩ := hcs
          have hbm : decide ((M : Int) < 4000) = true := decide_eq_true (by omega)
          have hbm2 : decide ((0 : Int) < (M : Int)) = true := decide_eq_true (by omega)
          have HD : Hid (Calls Try.prog 36 #[.pointer (some ⟨p, 0, none⟩), .int .i64 0] wr fun e w' => e = .returned (.bool true) ∧ Own w w' p (seqF f M ++ [f])) := by
            refine (double_own 0 hO').mono ?_
            rintro e w' ⟨rfl, h⟩
            have ha : atP (seqF f M) 0 = (f, true) := atP_some (Int.le_refl _) (by have := seqF_get f M 0 hc1 []; simpa using this)
            rw [ha, seqF_len] at h ⊢
            simp only [decide_eq_true hc2, Bool.and_true, if_true] at h ⊢
            first | exact ⟨rfl, h⟩ | exact ⟨trivial, h⟩ | exact h
          obtain ⟨L, hL⟩ : ∃ L, L = seqF f M ++ [f] := ⟨_, rfl⟩
          rw [← hL] at HD
          have HL := Lib.hid hL
          clear hL hO'
          go_wp2_with (go_at_call 36; refine HD.out.mono ?_; rintro e w3 ⟨rfl, hO3⟩)
          go_loopw [9] (fun u w4 => ∃ j : Nat, j ≤ K ∧ u = .int .i64 j ∧ Own w w4 p (L.drop j)) (fun u _ => K - (intOf u).toNat)
          case atStart => exact ⟨0, Nat.zero_le _, rfl, hO3⟩
          case round =>
            obtain ⟨j, hj, rfl, hO4⟩ := hrel
            clear hO3 HD
            by_cases hjl : j < K
            · have HT : Hid (∀ (W : World), Own w W p (L.drop j) → Calls Try.prog 31 #[.pointer (some ⟨p, 0, none⟩), .int .i64 0] W fun e w' => e = .returned (.tuple #[.int .i64 (f + (j : Int)), .bool true]) ∧ Own w w' p (L.drop (j + 1))) := by
                intro W h
                refine (take_own 0 h).mono ?_
                rintro e w' ⟨rfl, h⟩
                have hg : (L.drop j)[0]? = some (f + (j : Int)) := by
                  rw [List.getElem?_drop, HL.out]; exact seqF_get f M j (by omega) _
                have ha : atP (L.drop j) 0 = (f + (j : Int), true) := atP_some (Int.le_refl _) hg
                rw [ha] at h ⊢
                simp only [if_true, Int.toNat_zero] at h
                refine ⟨rfl, ?_⟩
                rw [show L.drop (j + 1) = (L.drop j).eraseIdx 0 by rw [List.eraseIdx_zero, List.tail_drop]]; exact h
              have hb3 : ((f + (j : Int)) != (f + (j : Int))) = false := by simp
              go_wp2_with (go_at_call 31; refine (HT.out _ (by assumption)).mono ?_; rintro e w5 ⟨rfl, hO5⟩)
              go_roundw
              case rel => exact ⟨j + 1, by omega, by go_num, hO5⟩
              case measure => simp [intOf]; omega
            · obtain rfl : j = K := by omega
              have hlen : (L.drop j).length = M + 1 - j := by rw [List.length_drop, HL.out]; simp [seqF_len]
              have HLN := Lib.hid (len_own hO4)
              have HA : Hid (∀ (W : World), Own w W p (L.drop j) → Calls Try.prog 30 #[.pointer (some ⟨p, 0, none⟩), .int .i64 ((((L.drop j).length : Nat) : Int) - 1)] W fun e w' => e = .returned (.tuple #[.int .i64 f, .bool true]) ∧ Own w w' p (L.drop j)) := by
                intro W h
                refine (at_own _ h).mono ?_
                rintro e w' ⟨rfl, h⟩
                have hg : (L.drop j)[((((L.drop j).length : Nat) : Int) - 1).toNat]? = some f := by
                  rw [List.getElem?_drop, hlen, HL.out, List.getElem?_append_right (by rw [seqF_len]; omega), seqF_len, show j + (((M + 1 - j : Nat) : Int) - 1).toNat - M = 0 by omega]; rfl
                have ha := atP_some (l := L.drop j) (by omega) hg
                rw [ha]
                exact ⟨rfl, h⟩
              have hl1 : 1 ≤ (L.drop j).length := by omega
              have hl2 : (L.drop j).length ≤ 5000 := by omega
              generalize hq : L.drop j = q at HLN HA hO4 hl1 hl2
              clear hq hlen
              go_wp2_with (first
                | (go_at_call 32; refine HLN.out.mono ?_; rintro e w5 ⟨rfl, hO5, _⟩)
                | (go_at_call 30; refine (HA.out _ (by assumption)).mono ?_; rintro e w6 ⟨rfl, hO6⟩))
              exact hR.out _ _ ⟨by simp, hO6.fr⟩
        · have hc1 : 0 < M := by omega
          have hc2 : ¬ (M < 4000) := by omega
          clear hcs
          have hbm : decide ((M : Int) < 4000) = false := decide_eq_false (by omega)
          have HD : Hid (Calls Try.prog 36 #[.pointer (some ⟨p, 0, none⟩), .int .i64 0] wr fun e w' => e = .returned (.bool false) ∧ Own w w' p (seqF f M ++ [])) := by
            refine (double_own 0 hO').mono ?_
            rintro e w' ⟨rfl, h⟩
            rw [seqF_len] at h ⊢
            simp only [decide_eq_false hc2, Bool.and_false, Bool.false_eq_true, if_false] at h ⊢
            first | exact ⟨rfl, by simpa using h⟩ | exact ⟨trivial, by simpa using h⟩ | simpa using h
          obtain ⟨L, hL⟩ : ∃ L, L = seqF f M ++ [] := ⟨_, rfl⟩
          rw [← hL] at HD
          have HL := Lib.hid hL
          clear hL hO'
          go_wp2_with (go_at_call 36; refine HD.out.mono ?_; rintro e w3 ⟨rfl, hO3⟩)
          go_loopw [9] (fun u w4 => ∃ j : Nat, j ≤ K ∧ u = .int .i64 j ∧ Own w w4 p (L.drop j)) (fun u _ => K - (intOf u).toNat)
          case atStart => exact ⟨0, Nat.zero_le _, rfl, hO3⟩
          case round =>
            obtain ⟨j, hj, rfl, hO4⟩ := hrel
            clear hO3 HD
            by_cases hjl : j < K
            · have HT : Hid (∀ (W : World), Own w W p (L.drop j) → Calls Try.prog 31 #[.pointer (some ⟨p, 0, none⟩), .int .i64 0] W fun e w' => e = .returned (.tuple #[.int .i64 (f + (j : Int)), .bool true]) ∧ Own w w' p (L.drop (j + 1))) := by
                intro W h
                refine (take_own 0 h).mono ?_
                rintro e w' ⟨rfl, h⟩
                have hg : (L.drop j)[0]? = some (f + (j : Int)) := by
                  rw [List.getElem?_drop, HL.out]; exact seqF_get f M j (by omega) _
                have ha : atP (L.drop j) 0 = (f + (j : Int), true) := atP_some (Int.le_refl _) hg
                rw [ha] at h ⊢
                simp only [if_true, Int.toNat_zero] at h
                refine ⟨rfl, ?_⟩
                rw [show L.drop (j + 1) = (L.drop j).eraseIdx 0 by rw [List.eraseIdx_zero, List.tail_drop]]; exact h
              have hb3 : ((f + (j : Int)) != (f + (j : Int))) = false := by simp
              go_wp2_with (go_at_call 31; refine (HT.out _ (by assumption)).mono ?_; rintro e w5 ⟨rfl, hO5⟩)
              go_roundw
              case rel => exact ⟨j + 1, by omega, by go_num, hO5⟩
              case measure => simp [intOf]; omega
            · obtain rfl : j = K := by omega
              have hlen : (L.drop j).length = M  - j := by rw [List.length_drop, HL.out]; simp [seqF_len]
              have HLN := Lib.hid (len_own hO4)
              have hl2 : (L.drop j).length ≤ 5000 := by omega
              have hl3 : (((L.drop j).length : Nat) : Int) = (M : Int) - (j : Int) := by omega
              have hbq : ((((L.drop j).length : Nat) : Int) == (M : Int) - (j : Int)) = true := by rw [hl3]; simp
              have hl5 : (L.drop j).length = M - j := hlen
              generalize L.drop j = q at HLN hO4 hl2 hbq hl5
              clear hl3 hlen
              go_wp2_with (go_at_call 32; refine (HLN.out).mono ?_; go_must (rintro e w5 ⟨rfl, hO5, _⟩))
              exact hR.out _ _ ⟨by first | rfl | rw [hbq] | (simp; omega) | (simp; exact List.eq_nil_of_length_eq_zero (by omega)), hO5.fr⟩
  · go_enter Try.func11, Try.ntmps11
    by_cases a1 : many < 0
    · clear hin
      go_wp2_with (go_at_call 27; refine HALIVE.out.mono ?_; rintro e w1 ⟨rfl, hF1⟩)
      exact hR.out _ _ ⟨rfl, hF1⟩
    · by_cases a2 : 4100 < many
      · clear hin
        go_wp2_with (go_at_call 27; refine HALIVE.out.mono ?_; rintro e w1 ⟨rfl, hF1⟩)
        exact hR.out _ _ ⟨rfl, hF1⟩
      · by_cases a3 : f < 0
        · clear hin
          go_wp2_with (go_at_call 27; refine HALIVE.out.mono ?_; rintro e w1 ⟨rfl, hF1⟩)
          exact hR.out _ _ ⟨rfl, hF1⟩
        · have a4 : 1000000 < f := by omega
          clear hin
          go_wp2_with (go_at_call 27; refine HALIVE.out.mono ?_; rintro e w1 ⟨rfl, hF1⟩)
          exact hR.out _ _ ⟨rfl, hF1⟩
theorem NetFull_walk (w : World) (many : Int) (h1 : (Lit.int .i64 many).wf = true) (f : Int) (h2 : (Lit.int .i64 f).wf = true) :
    Calls Try.prog 11 #[.int .i64 many, .int .i64 f] w fun e w' => e = .returned (.bool true) ∧ Fr [] w w' := full_calls many f h1 h2
end Go.Np.Try
