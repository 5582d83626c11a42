/- A text that the row of LedgerCleans needs. (Pruned by tools/prune.py.) -/
import Derived.Test.YtlllhpnpgcphcaaQLedgerCleansLedOn
set_option linter.unusedVariables false
set_option linter.unusedSimpArgs false
namespace Go.Np.Try
open Go.RowKit Go.Proofs Go.Proofs.Ytlllhpnpgcphcaa.PX Go.Proofs.YtlllhpnpgcphcaaW.PrintWords
theorem OwnI.empty (w : World) : OwnI w.heap.size (w.alloc (.cells #[] 3)) (.slice (some ⟨w.heap.size, 0, none⟩) ([] : List Int).length 0) [] := N_own (N_empty w)
theorem clean_snoc (M : List Int) (x : Int) : cleanL [] (M ++ [x]) = cleanL [] M ++ (if x ∈ cleanL [] M then [] else [x]) := by
  have h : x ∈ cleanL [] M ↔ x ∈ M := by rw [cleanL_mem]; simp
  rw [cleanL_append]
  by_cases hx : x ∈ M
  · simp [cleanL, hx, h.2 hx]
  · have h2 : x ∉ cleanL [] M := fun h' => hx (h.1 h')
    simp [cleanL, hx, h2]
theorem mem_next {F : List Int} {p : Nat} (hp : p < F.length) (x : Int) : decide (x ∈ F.take (p + 1)) = (decide (x ∈ F.take p) || (x == F.getD p 0)) := by
  rw [take_snocI hp rfl, Bool.eq_iff_iff]
  simp
set_option maxHeartbeats 8000000 in
set_option maxRecDepth 100000 in
theorem rclean_calls {w : World} {A : Option Addr} {c : Nat} {L : List (List Int)} (hL : ListsC w A L) (hn : L.length ≤ 100000) (hf : L.flatten.length ≤ 100000) :
    Calls Try.prog 62 #[.slice A L.length c] w fun e w' => ∃ A' c', e = .returned (.slice A' (cleanL [] L.flatten).length c') ∧ SlI w' (.slice A' (cleanL [] L.flatten).length c') (cleanL [] L.flatten) ∧ Fr [] w w' := by
  have HL := Lib.hid hL
  obtain ⟨W0, hW0⟩ : ∃ W0, W0 = w.alloc (.cells #[] 3) := ⟨_, rfl⟩
  obtain ⟨g0, hg0⟩ : ∃ g0, g0 = w.heap.size := ⟨_, rfl⟩
  have HF0 : Hid (Fr [] w W0) := by show Fr _ _ _; rw [hW0]; exact (Fr.refl _ _).alloc _
  have HO0 : Hid (OwnI w.heap.size W0 (.slice (some ⟨g0, 0, none⟩) ([] : List Int).length 0) []) := by show OwnI _ _ _ _; rw [hW0, hg0]; exact OwnI.empty w
  have HLE : Hid (∀ M R, L.flatten = M ++ R → (cleanL [] M).length ≤ 100000) := by
    show ∀ M R, L.flatten = M ++ R → (cleanL [] M).length ≤ 100000
    intro M R h
    have h1 := cleanL_le M []
    rw [h, List.length_append] at hf
    omega
  refine calls_k fun R hR => ?_
  obtain ⟨N, hN⟩ : ∃ N, L.length = N := ⟨_, rfl⟩
  rw [hN] at hn
  rw [hN]
  have HN := Lib.hid hN
  clear hL hN hf
  go_enter Try.func62, Try.ntmps62
  go_upto_region 3 with (fail)
  rw [← hW0, ← hg0]
  clear hW0 hg0
  go_loopg [3, 14] N (fun gn out i wr => ∃ (m j : Nat) (F : List Int) (B : Option Addr) (d : Nat), m = gn ∧ out = .slice B F.length d ∧ i = .int .i64 j ∧ m + j = N ∧ Hid (F = cleanL [] (L.take j).flatten) ∧ Hid (OwnI w.heap.size wr (.slice B F.length d) F) ∧ Hid (Fr [] w wr))
  case atStart => exact ⟨_, 0, [], some ⟨g0, 0, none⟩, 0, rfl, rfl, rfl, rfl, rfl, HO0, HF0⟩
  case round =>
    obtain ⟨m, j, F, B, d, rfl, rfl, rfl, hj, HFE, HO, HF⟩ := hrel
    obtain ⟨wO, rfl⟩ : ∃ wO, wO = wr := ⟨_, rfl⟩
    clear HO0 HF0
    by_cases hlt : j < N
    · obtain ⟨m', rfl⟩ : ∃ m', m = m' + 1 := ⟨m - 1, by omega⟩
      obtain ⟨ad, hA, A5, c5, hcell, hc5, hC5⟩ := HL.out j (by rw [HN.out]; exact hlt)
      subst hA
      have hcell := (HF.out.cell (lt_cell hcell) (by simp)).trans hcell
      obtain ⟨l, hl⟩ : ∃ l, L.getD j [] = l := ⟨_, rfl⟩
      rw [hl] at hcell hc5 hC5
      have HFN := Lib.hid (flat_next (show j < L.length by rw [HN.out]; exact hlt) hl)
      have HFT : Hid (∃ R, L.flatten = ((L.take j).flatten ++ l) ++ R) := by
        show ∃ R, _
        rw [← HFN.out]
        exact ⟨(L.drop (j + 1)).flatten, by rw [← List.flatten_append, List.take_append_drop]⟩
      have HX := Lib.hid (fun k (hk : k < l.length) => int_at hC5 k hk)
      obtain ⟨n, hnl⟩ : ∃ n, l.length = n := ⟨_, rfl⟩
      rw [hnl] at hcell
      have hmx5 : n ≤ 9223372036854775807 := by rw [← hnl]; exact hC5.2.1
      have HNL := Lib.hid hnl
      clear hl hc5 hC5 hnl
      go_upto_region 6 with (fail)
      clear hcell
      go_loopg [3, 20] n (fun gn out i wr => ∃ (m2 k : Nat) (F : List Int) (B : Option Addr) (d : Nat), m2 = gn ∧ out = .slice B F.length d ∧ i = .int .i64 k ∧ m2 + k = n ∧ Hid (F = cleanL [] ((L.take j).flatten ++ l.take k)) ∧ Hid (OwnI w.heap.size wr (.slice B F.length d) F) ∧ Hid (Fr [] w wr))
      case atStart => exact ⟨_, 0, F, B, d, rfl, rfl, rfl, rfl, (by show _ = _; simpa using HFE.out), HO, HF⟩
      case round =>
        obtain ⟨m2, k, F2, B2, d2, rfl, rfl, rfl, hk, HFE2, HO2, HF2⟩ := hrel
        obtain ⟨wI, rfl⟩ : ∃ wI, wI = wr := ⟨_, rfl⟩
        clear HFE HO HF
        by_cases hlt2 : k < n
        · obtain ⟨m2', rfl⟩ : ∃ m2', m2 = m2' + 1 := ⟨m2 - 1, by omega⟩
          have hkl : k < l.length := by rw [HNL.out]; exact hlt2
          obtain ⟨ad2, hA2, hcell2⟩ := HX.out k hkl
          subst hA2
          have hcell2 := (HF2.out.cell (lt_cell hcell2) (by simp)).trans hcell2
          obtain ⟨x, hx⟩ : ∃ x, l.getD k 0 = x := ⟨_, rfl⟩
          rw [hx] at hcell2
          have htk := take_snocI hkl hx
          have HST : Hid (cleanL [] ((L.take j).flatten ++ l.take (k + 1)) = F2 ++ (if x ∈ F2 then [] else [x])) := by
            show _ = _
            rw [htk, ← List.append_assoc, clean_snoc, ← HFE2.out]
          have HFL : Hid (F2.length ≤ 100000) := by
            show _ ≤ _
            obtain ⟨R1, h1⟩ := HFT.out
            rw [HFE2.out]
            refine HLE.out _ (l.drop k ++ R1) ?_
            rw [h1, ← List.append_assoc, List.append_assoc _ (l.take k), List.take_append_drop]
          have HY := Lib.hid (fun p (hp : p < F2.length) => int_at (HO2.out.sl.C.2.2) p hp)
          obtain ⟨NF, hNF⟩ : ∃ NF, F2.length = NF := ⟨_, rfl⟩
          have hNF1 : NF ≤ 100000 := by rw [← hNF]; exact HFL.out
          rw [hNF] at HO2
          rw [hNF]
          have HNF := Lib.hid hNF
          clear hx htk hkl hNF
          go_upto_region 10 with (fail)
          clear hcell2
          go_loopg [8, 26] NF (fun gn inn i wr => ∃ (m3 p : Nat) (q : Bool), m3 = gn ∧ inn = .bool q ∧ i = .int .i64 p ∧ m3 + p = NF ∧ Hid (decide (x ∈ F2.take p) = q) ∧ wI = wr)
          case atStart => exact ⟨_, 0, false, rfl, rfl, rfl, rfl, (by show _ = _; simp), rfl⟩
          case round =>
            obtain ⟨m3, p, q, rfl, rfl, rfl, hp, HQ, rfl⟩ := hrel
            by_cases hlt3 : p < NF
            · obtain ⟨m3', rfl⟩ : ∃ m3', m3 = m3' + 1 := ⟨m3 - 1, by omega⟩
              have hpl : p < F2.length := by rw [HNF.out]; exact hlt3
              obtain ⟨ad3, hA3, hcell3⟩ := HY.out p hpl
              subst hA3
              obtain ⟨y, hy⟩ : ∃ y, F2.getD p 0 = y := ⟨_, rfl⟩
              rw [hy] at hcell3
              have hmn := mem_next hpl x
              rw [HQ.out, hy] at hmn
              have HMN := Lib.hid hmn
              clear hmn hy hpl
              cases q with
              | true =>
                go_wp2
                go_roundg m3'
                case rel => exact ⟨m3', p + 1, true, rfl, rfl, by go_num, by omega, (by show _ = _; rw [HMN.out]; rfl), rfl⟩
                case measure => omega
              | false =>
                obtain ⟨r, hr⟩ : ∃ r, (x == y) = r := ⟨_, rfl⟩
                rw [hr] at HMN
                cases r with
                | true =>
                  go_wp2
                  go_roundg m3'
                  case rel => exact ⟨m3', p + 1, true, rfl, rfl, by go_num, by omega, (by show _ = _; rw [HMN.out]; rfl), rfl⟩
                  case measure => omega
                | false =>
                  go_wp2
                  go_roundg m3'
                  case rel => exact ⟨m3', p + 1, false, rfl, rfl, by go_num, by omega, (by show _ = _; rw [HMN.out]; rfl), rfl⟩
                  case measure => omega
            · obtain rfl : p = NF := by omega
              have hq := HQ.out
              rw [← HNF.out, List.take_length] at hq
              cases q with
              | true =>
                have HIN := Lib.hid (of_decide_eq_true hq)
                clear hq
                go_wp2
                go_roundg m2'
                case rel =>
                  refine ⟨m2', k + 1, F2, B2, d2, rfl, by rw [HNF.out], by go_num, by omega, ?_, by rw [HNF.out]; exact HO2, HF2⟩
                  show _ = _
                  rw [HST.out, if_pos HIN.out, List.append_nil]
                case measure => omega
              | false =>
                have HIN := Lib.hid (of_decide_eq_false hq)
                clear hq
                have HOW : Hid (wI.ownsRow 0 3 1 (.slice B2 p d2) p (F2.map (Value.int .i64))) := by have h := HO2.out.1; rw [HNF.out] at h; exact h
                go_wp2_with (at_builtin; refine wp_append1 rfl _ _ 39 3 rfl Try.underlying39 infoI rfl (by decide) HOW.out rfl [.int .i64 x] rfl rfl (by simp [Value.oneCell']) (by unfold maxLen; omega) (by omega) ?_
                             intro A3 c3 w3 h1 h2 h3
                             have HO3 : Hid (OwnI w.heap.size w3 (.slice A3 (F2 ++ [x]).length c3) (F2 ++ [x])) := by
                               refine ⟨by rw [List.length_append, HNF.out]; simpa using h1, fun k hk => ?_⟩
                               rw [List.length_append, HNF.out] at hk
                               rcases h3 k hk with h4 | h4
                               · exact HO2.out.2 k h4
                               · exact Nat.le_trans HF2.out.size h4
                             have HF3 : Hid (Fr [] w w3) := HF2.out.trans h2 (fun k hk => .inr (HO2.out.2 k hk))
                             clear h1 h2 h3)
                go_roundg m2'
                case rel =>
                  refine ⟨m2', k + 1, F2 ++ [x], A3, c3, rfl, by rw [List.length_append, HNF.out]; rfl, by go_num, by omega, ?_, HO3, HF3⟩
                  show _ = _
                  rw [HST.out, if_neg HIN.out]
                case measure => omega
        · obtain rfl : k = n := by omega
          go_wp2
          go_roundg m'
          case rel =>
            refine ⟨m', j + 1, F2, B2, d2, rfl, rfl, by go_num, by omega, ?_, HO2, HF2⟩
            show _ = _
            rw [HFN.out, HFE2.out, ← HNL.out, List.take_length]
          case measure => omega
    · obtain rfl : j = N := by omega
      have h1 := HFE.out
      rw [← HN.out, List.take_length] at h1
      rw [← h1] at hR
      have HS := Lib.hid HO.out.sl
      clear h1
      go_wp2
      exact hR.out _ _ ⟨_, _, rfl, HS.out, HF.out⟩
end Go.Np.Try
