/- TallyTurns: the walk. (Printed by tools/gen_tturns.py.) -/
import Derived.Test.YtjpdhgajpldjbaaTallySt
set_option linter.unusedVariables false
set_option linter.unusedSimpArgs false
namespace Go.Np.Try
open Go.RowKit Go.Proofs Go.ChangeShapes Go.WideShapes Go.Proofs.Ytjpdhgajpldjbaa.PX Go.Proofs.YtjpdhgajpldjbaaW.PrintWords
/-- One element of a slice of votes. -/
theorem vote_at {w : World} {A : Option Addr} {l : List S41} (h : k41.C w A l.length l) (j : Nat) (hj : j < l.length) : ∃ ad, A = some ad ∧ l.getD j z41 ∈ l ∧ w.cell? (ad.add (j * 4)) = some (.int .i64 (l.getD j z41).f0) ∧ w.cell? ⟨(ad.add (j * 4)).block, (ad.add (j * 4)).off + 1, none⟩ = some (.int .i64 (l.getD j z41).f1) ∧ w.cell? ⟨(ad.add (j * 4)).block, (ad.add (j * 4)).off + 2, none⟩ = some (.int .i64 (l.getD j z41).f2) ∧ w.cell? ⟨(ad.add (j * 4)).block, (ad.add (j * 4)).off + 3, none⟩ = some (.int .i64 (l.getD j z41).f3) := by
  obtain ⟨ad, hav, hq0, hq1, hq2, hq3⟩ := at_T41 h (j : Int) (by omega) (by omega)
  have e : rd_T41 l (j : Int) = l.getD j z41 := by simp [rd_T41]
  rw [e] at hq0 hq1 hq2 hq3
  simp only [Int.toNat_natCast] at hq0 hq1 hq2 hq3
  refine ⟨ad, hav, ?_, hq0, hq1, hq2, hq3⟩
  rw [List.getD_eq_getElem?_getD, List.getElem?_eq_getElem hj]; exact List.getElem_mem _
theorem pw_succ {l : List S41} {k : Nat} (hk : k < l.length) (h : (l.take k).Pairwise fun u q => ¬ samePl q u) (hu : ∀ u ∈ l.take k, ¬ samePl (l.getD k z41) u) : (l.take (k + 1)).Pairwise fun u q => ¬ samePl q u := by
  rw [List.take_succ_eq_append_getElem hk, List.pairwise_append]
  refine ⟨h, by simp, fun u hu' q hq => ?_⟩
  obtain rfl : q = l[k] := by simpa using hq
  have := hu u hu'
  rw [List.getD_eq_getElem?_getD, List.getElem?_eq_getElem hk] at this
  exact this
theorem take_mem41 {l : List S41} {k : Nat} (h : k < l.length) {x : S41} (hx : x ∈ l.take (k + 1)) : x ∈ l.take k ∨ x = l.getD k z41 := by
  rw [List.take_succ_eq_append_getElem h, List.mem_append] at hx
  rcases hx with hx | hx
  · exact .inl hx
  · right
    rw [List.getD_eq_getElem?_getD, List.getElem?_eq_getElem h]
    simpa using hx
theorem drop_rev {l : List S41} {j : Nat} (h : j < l.length) : (l.drop j).reverse = (l.drop (j + 1)).reverse ++ [l.getD j z41] := by
  rw [List.drop_eq_getElem_cons h, List.reverse_cons, List.getD_eq_getElem?_getD, List.getElem?_eq_getElem h]; rfl
set_option maxHeartbeats 16000000 in
set_option maxRecDepth 100000 in
theorem TallyTurns_walk (w : World) (A0 : Option Addr) (c0 : Nat) (st : List Int) (h0 : (Kd.int .i64).C w A0 st.length st) (_hm : st.length ≤ maxLen) (_hs : st.length * 8 ≤ 140737488351232) (_hw : ∀ n ∈ st, (Lit.int .i64 n).wf = true) (hc0 : st.length ≤ c0)
    (v1 : Value) (l : List S41) (hv1 : VotesC w v1 l) (v2 : Value) (q : S41) (hv2 : VoteAt v2 q) :
    Calls Try.prog 8 #[.slice A0 st.length c0, v1, v2] w fun e w' => e = .returned (.bool true) ∧ Fr [] w w' := by
  obtain ⟨Av, cv, rfl, hcv, hv, hwf⟩ := hv1
  obtain ⟨K, V, F, x⟩ := q
  obtain ⟨rfl, wK, wV, wF, wx⟩ := hv2
  obtain ⟨W1, hW1⟩ : ∃ W1, W1 = w.alloc (.cells #[.int .i64 K, .int .i64 V, .int .i64 F, .int .i64 x] 41) := ⟨_, rfl⟩
  obtain ⟨bq, hbq⟩ : ∃ bq, bq = w.heap.size := ⟨_, rfl⟩
  have hF1 : Fr [] w W1 := by rw [hW1]; exact (Fr.refl _ _).alloc _
  have hblk : W1.heap[bq]? = some (.cells #[.int .i64 K, .int .i64 V, .int .i64 F, .int .i64 x] 41 (0, 0)) := by rw [hW1, hbq]; exact heap_alloc_new _ _
  have HAL := Lib.hid (talive_calls W1)
  have HW1 := Lib.hid hW1
  have HBQ := Lib.hid hbq
  have HBK := Lib.hid hblk
  have HCH : Hid (∀ W, Fr [] w W → Calls Try.prog 28 #[.slice A0 st.length c0] W fun e w' => e = .returned (.int .i64 (chk st)) ∧ Fr [] W w') := fun W hF => rChk (Kd.C_below h0 hF.below) hc0
  have hmx : l.length ≤ 9223372036854775807 := hv.2.1
  have HF1 := Lib.hid hF1
  have HV := Lib.hid hv
  have H0 := Lib.hid h0
  have HWF := Lib.hid hwf
  clear hW1 hbq hblk h0 hv hwf hF1 _hm _hs _hw wK wV wF wx
  refine calls_k fun R hR => ?_
  go_enter Try.func8, Try.ntmps8
  go_upto_region 1 with (fail)
  rw [← HW1.out, ← HBQ.out]
  by_cases hok : okS st
  · have hchk : chk st = 0 := by unfold chk; rw [if_pos hok]
    rw [hchk] at HCH
    by_cases hl : l.length ≤ 60
    · have HOK := Lib.hid hok
      have HC0 := Lib.hid hc0
      clear hok hchk hc0
      go_upto_region 6 with (first
        | (go_at_call 25; refine HAL.out.mono ?_; rintro e w2 ⟨rfl, hF⟩; have HF2 : Hid (Fr [] W1 w2) := hF; clear hF)
        | (go_at_call 28; refine (HCH.out _ (HF1.out.trans HF2.out (by simp))).mono ?_; rintro e w3 ⟨rfl, hF⟩; have HF3 : Hid (Fr [] W1 w3) := HF2.out.trans hF (by simp); clear hF))
      clear HF2 HCH HAL
      go_loopw [35] (fun i wr => ∃ k : Nat, k ≤ l.length ∧ i = .int .i64 k ∧ Hid ((l.take k).Pairwise fun u q => ¬ samePl q u) ∧ Hid (Fr [] W1 wr)) (fun i _ => l.length - (RowKit.intOf i).toNat)
      case atStart => exact ⟨0, Nat.zero_le _, rfl, by show List.Pairwise _ _; simp, HF3⟩
      case round =>
        obtain ⟨k, hk, rfl, HP, HFr⟩ := hrel
        by_cases hlt : k < l.length
        · obtain ⟨ad, hav, hqm, hq0, hq1, hq2, hq3⟩ := vote_at (Kd.C_below HV.out (HF1.out.trans HFr.out (by simp)).below) k hlt
          subst hav
          have hpw := fun hu => pw_succ hlt HP.out hu
          obtain ⟨qq, hqq⟩ : ∃ qq, qq = l.getD k z41 := ⟨_, rfl⟩
          rw [← hqq] at hq0 hq1 hq2 hq3 hpw
          have HPW := Lib.hid hpw
          obtain ⟨K1, V1, F1, x1⟩ := qq
          simp only at hq0 hq1 hq2 hq3
          obtain ⟨W8, hW8⟩ : ∃ W8, W8 = wr.alloc (.cells #[.int .i64 K1, .int .i64 V1, .int .i64 F1, .int .i64 x1] 41) := ⟨_, rfl⟩
          obtain ⟨b8, hb8⟩ : ∃ b8, b8 = wr.heap.size := ⟨_, rfl⟩
          have HF8 : Hid (Fr [] W1 W8) := by rw [hW8]; exact HFr.out.alloc _
          have hbl8 : W8.heap[b8]? = some (.cells #[.int .i64 K1, .int .i64 V1, .int .i64 F1, .int .i64 x1] 41 (0, 0)) := by rw [hW8, hb8]; exact heap_alloc_new _ _
          have HB80 : Hid (W8.cell? ⟨b8, 0, none⟩ = some (.int .i64 K1)) := cell_of hbl8 0
          have HB81 : Hid (W8.cell? ⟨b8, 1, none⟩ = some (.int .i64 V1)) := cell_of hbl8 1
          have HB82 : Hid (W8.cell? ⟨b8, 2, none⟩ = some (.int .i64 F1)) := cell_of hbl8 2
          have hkcv : k ≤ cv := by omega
          clear hpw hqq hqm hbl8
          go_upto_region 8 with (fail)
          rw [← hW8, ← hb8]
          clear hW8 hb8 hq0 hq1 hq2 hq3
          have hkmx : k ≤ 9223372036854775807 := by omega
          go_upto_region 9 with (fail)
          go_loopw [44] (fun i wr2 => ∃ j : Nat, j ≤ k ∧ i = .int .i64 j ∧ Hid (∀ u ∈ l.take j, ¬ samePl ⟨K1, V1, F1, x1⟩ u) ∧ Hid (Fr [] W8 wr2)) (fun i _ => k - (RowKit.intOf i).toNat)
          case atStart => exact ⟨0, Nat.zero_le _, rfl, by intro u hu; simp at hu, Fr.refl _ _⟩
          case round =>
            obtain ⟨j, hj, rfl, HU, HFi⟩ := hrel
            by_cases hjk : j < k
            · obtain ⟨ad2, hav2, _, hp0, hp1, hp2, hp3⟩ := vote_at (Kd.C_below HV.out (HF1.out.trans (HF8.out.trans HFi.out (by simp)) (by simp)).below) j (by omega)
              injection hav2 with hav2
              subst hav2
              have hts : ∀ u ∈ l.take (j + 1), u ∈ l.take j ∨ u = l.getD j z41 := fun u hu => take_mem41 (by omega) hu
              obtain ⟨uu, huu⟩ : ∃ uu, uu = l.getD j z41 := ⟨_, rfl⟩
              rw [← huu] at hp0 hp1 hp2 hp3 hts
              have HTS := Lib.hid hts
              obtain ⟨K2, V2, F2, x2⟩ := uu
              simp only at hp0 hp1 hp2 hp3
              have b0 := cellF HFi.out HB80.out
              have b1 := cellF HFi.out HB81.out
              have b2 := cellF HFi.out HB82.out
              obtain ⟨W10, hW10⟩ : ∃ W10, W10 = wr.alloc (.cells #[.int .i64 K2, .int .i64 V2, .int .i64 F2, .int .i64 x2] 41) := ⟨_, rfl⟩
              obtain ⟨b10, hb10⟩ : ∃ b10, b10 = wr.heap.size := ⟨_, rfl⟩
              have hF10 : Fr [] wr W10 := by rw [hW10]; exact (Fr.refl _ _).alloc _
              have hbl10 : W10.heap[b10]? = some (.cells #[.int .i64 K2, .int .i64 V2, .int .i64 F2, .int .i64 x2] 41 (0, 0)) := by rw [hW10, hb10]; exact heap_alloc_new _ _
              have d0 : W10.cell? ⟨b10, 0, none⟩ = some (.int .i64 K2) := cell_of hbl10 0
              have d1 : W10.cell? ⟨b10, 1, none⟩ = some (.int .i64 V2) := cell_of hbl10 1
              have d2 : W10.cell? ⟨b10, 2, none⟩ = some (.int .i64 F2) := cell_of hbl10 2
              replace b0 := cellF hF10 b0
              replace b1 := cellF hF10 b1
              replace b2 := cellF hF10 b2
              have HFo : Hid (Fr [] W8 W10) := HFi.out.trans hF10 (by simp)
              have HFw : Hid (Fr [] w W10) := HF1.out.trans (HF8.out.trans HFo.out (by simp)) (by simp)
              have hgo : ¬ samePl ⟨K1, V1, F1, x1⟩ ⟨K2, V2, F2, x2⟩ → Hid (∀ u ∈ l.take (j + 1), ¬ samePl ⟨K1, V1, F1, x1⟩ u) := by
                intro hn u hu
                rcases HTS.out u hu with h | rfl
                · exact HU.out u h
                · exact hn
              clear hbl10 hF10 hts huu
              go_upto_region 11 with (fail)
              rw [← hW10, ← hb10]
              clear hW10 hb10 hp0 hp1 hp2 hp3
              by_cases e0 : K2 = K1
              · by_cases e1 : V2 = V1
                · by_cases e2 : F2 = F1
                  · subst e0 e1 e2
                    clear hgo
                    go_wp2
                    first | exact hR.out _ _ ⟨rfl, HFw.out⟩ | (refine bodyPost_ret (results_tmp rfl _ _ _) rfl ?_; exact hR.out _ _ ⟨rfl, HFw.out⟩)
                  · have HG := hgo (fun h => e2 h.2.2.symm)
                    have g2 : (F2 == F1) = false := by simpa using e2
                    clear hgo
                    subst e0 e1
                    go_wp2
                    go_roundw
                    case rel => exact ⟨j + 1, by omega, by go_num, HG, HFo⟩
                    case measure => simp [RowKit.intOf]; omega
                · have HG := hgo (fun h => e1 h.2.1.symm)
                  have g1 : (V2 == V1) = false := by simpa using e1
                  clear hgo
                  subst e0
                  go_wp2
                  go_roundw
                  case rel => exact ⟨j + 1, by omega, by go_num, HG, HFo⟩
                  case measure => simp [RowKit.intOf]; omega
              · have HG := hgo (fun h => e0 h.1.symm)
                have g0 : (K2 == K1) = false := by simpa using e0
                clear hgo
                go_wp2
                go_roundw
                case rel => exact ⟨j + 1, by omega, by go_num, HG, HFo⟩
                case measure => simp [RowKit.intOf]; omega
            · obtain rfl : j = k := by omega
              have HPn := HPW.out HU.out
              have HPn := Lib.hid HPn
              go_wp2
              go_roundw
              case rel => exact ⟨j + 1, by omega, by go_num, HPn, HF8.out.trans HFi.out (by simp)⟩
              case measure => simp [RowKit.intOf]; omega
        · obtain rfl : k = l.length := by omega
          rw [List.take_length] at HP
          have HMEM := Lib.hid (foldR_rev (n := st.length) HP.out)
          obtain ⟨Wb, hWb⟩ : ∃ Wb, Wb = wr.alloc (.cells #[] 41) := ⟨_, rfl⟩
          obtain ⟨bb, hbb⟩ : ∃ bb, bb = wr.heap.size := ⟨_, rfl⟩
          have HFb : Hid (Fr [] W1 Wb) := by rw [hWb]; exact HFr.out.alloc _
          have HOb : Hid (Wb.ownsRow 0 41 4 (.slice (some ⟨bb, 0, none⟩) 0 0) 0 []) := by rw [hWb, hbb]; exact World.ownsRow_made wr #[] 0 (Nat.zero_le _) (by unfold maxLen; omega) rfl
          have HLb : Hid (W1.heap.size ≤ bb) := by rw [hbb]; exact HFr.out.size
          go_upto_region 16 with (fail)
          rw [← hWb, ← hbb]
          clear hWb hbb HP
          go_upto_region 17 with (fail)
          go_loopw [11, 12] (fun v i wr => ∃ (r : Nat) (z : Int), r ≤ l.length ∧ i = .int .i64 z ∧ z = (r : Int) - 1 ∧ wr.ownsRow 0 41 4 v (l.drop r).length (flatS (l.drop r).reverse) ∧ Hid (∀ k ∈ v.ownBlock.toList, W1.heap.size ≤ k) ∧ Hid (Fr [] W1 wr)) (fun _ i _ => (RowKit.intOf i + 1).toNat)
          case atStart =>
            refine ⟨l.length, _, Nat.le_refl _, rfl, by first | rfl | omega | (unfold wrap64; omega), ?_, fun k hk => by simp [Value.ownBlock] at hk; subst hk; exact HLb.out, HFb⟩
            rw [List.drop_of_length_le (Nat.le_refl _)]
            exact HOb.out
          case round =>
            obtain ⟨r, z, hr, rfl, hz, hown, HBL, HFr⟩ := hrel
            cases r with
            | succ j =>
              have hjl : j < l.length := by omega
              have hz2 : z = (j : Int) := by omega
              clear hz hr
              subst hz2
              obtain ⟨ad, hav, _, hq0, hq1, hq2, hq3⟩ := vote_at (Kd.C_below HV.out (HF1.out.trans HFr.out (by simp)).below) j (by omega)
              subst hav
              have hdr := drop_rev (l := l) (j := j) (by omega)
              have hdl : (l.drop j).length = (l.drop (j + 1)).length + 1 := by rw [List.length_drop, List.length_drop]; omega
              have hdm : (l.drop (j + 1)).length ≤ 60 := by rw [List.length_drop]; omega
              have hb63 : (l.drop (j + 1)).length < maxLen := by unfold maxLen; omega
              have hbv : ((l.drop (j + 1)).length + 1) * 32 ≤ 140737488355328 := by omega
              generalize l.getD j z41 = qq at hq0 hq1 hq2 hq3 hdr
              obtain ⟨K1, V1, F1, x1⟩ := qq
              simp only at hq0 hq1 hq2 hq3
              obtain ⟨nd, hnd⟩ : ∃ nd, nd = (l.drop (j + 1)).length := ⟨_, rfl⟩
              rw [← hnd] at hdl hdm hb63 hbv hown
              have HDR := Lib.hid hdr
              have HDL := Lib.hid hdl
              have HOW := Lib.hid hown
              have hjm : (j : Int) ≤ 60 := by omega
              clear hdr hdl hown hnd
              go_wp2_with (at_builtin; refine wp_append1 rfl _ _ 39 41 rfl Try.underlying39 info41 rfl (by decide) HOW.out rfl [.int .i64 K1, .int .i64 V1, .int .i64 F1, .int .i64 x1] rfl rfl (by simp [Value.oneCell']) hb63 hbv ?_; intro A6 c6 w7 hr7 hF7 hN7; have HR7 := Lib.hid hr7; have HF7 := Lib.hid hF7; have HN7 := Lib.hid hN7; clear hr7 hF7 hN7)
              go_roundw
              case rel =>
                refine ⟨j, _, by omega, rfl, by first | rfl | omega | (unfold wrap64; omega), ?_, ?_, HFr.out.trans HF7.out (fun k hk => .inr (HBL.out k hk))⟩
                · rw [HDL.out, HDR.out]
                  have e : flatS ((l.drop (j + 1)).reverse ++ [(⟨K1, V1, F1, x1⟩ : S41)]) = flatS (l.drop (j + 1)).reverse ++ [.int .i64 K1, .int .i64 V1, .int .i64 F1, .int .i64 x1] := by simp [flatS, cells4]
                  rw [e]; exact HR7.out
                · intro k hk
                  rcases HN7.out k hk with h | h
                  · exact HBL.out k h
                  · exact Nat.le_trans HFr.out.size h
              case measure => first | (simp [RowKit.intOf]; done) | (simp [RowKit.intOf]; omega) | (unfold wrap64; simp [RowKit.intOf]; omega)
            | zero =>
              have hz2 : z < 0 := by omega
              clear hz
              have hown' : wr.ownsRow 0 41 4 u11 l.reverse.length (flatS l.reverse) := by rw [List.length_reverse]; simpa using hown
              obtain ⟨A9, c9, he9, hl9, hC9⟩ := flatS_C hown'
              rw [List.length_reverse] at he9
              subst he9
              have HC9 := Lib.hid hC9
              have HFW : Hid (Fr [] w wr) := HF1.out.trans HFr.out (by simp)
              have HCO1 : Hid (∀ W, Fr [] wr W → Calls Try.prog 29 #[.slice A0 st.length c0, .slice Av l.length cv] W fun e w' => ∃ p b B d, e = .returned (.tuple #[.pointer (some ⟨p, 0, none⟩), .agg #[.slice A0 st.length c0, .slice B (foldR st.length l).length d], .bool true]) ∧ RefT w' A0 c0 st B d (foldR st.length l) ∧ Tz W w' p b st (foldR st.length l) ∧ Fr [] W w') := fun W hF => counted_calls HOK.out (Kd.C_below H0.out (HFW.out.trans hF (by simp)).below) HC0.out (Kd.C_below HV.out (HFW.out.trans hF (by simp)).below) HWF.out (by omega)
              have HCO2 : Hid (∀ W, Fr [] wr W → Calls Try.prog 29 #[.slice A0 st.length c0, .slice A9 l.length c9] W fun e w' => ∃ p b B d, e = .returned (.tuple #[.pointer (some ⟨p, 0, none⟩), .agg #[.slice A0 st.length c0, .slice B (foldR st.length l.reverse).length d], .bool true]) ∧ RefT w' A0 c0 st B d (foldR st.length l.reverse) ∧ Tz W w' p b st (foldR st.length l.reverse) ∧ Fr [] W w') := by
                intro W hF
                have := counted_calls (cv := c9) HOK.out (Kd.C_below H0.out (HFW.out.trans hF (by simp)).below) HC0.out (Kd.C_below HC9.out hF.below) (fun q hq => HWF.out q (List.mem_reverse.1 hq)) (by rw [List.length_reverse]; omega)
                rw [List.length_reverse] at this
                exact this
              have hid0 : Hid (Fr [] wr wr) := Fr.refl _ _
              clear hown hown' hC9 hl9 HBL
              go_upto_region 22 with (first
                | (go_at_call 29; have _t := HCO1; refine (HCO1.out _ hid0.out).mono ?_; rintro e w4 ⟨p, b, B, d, rfl, hRT, hTZ, hF⟩; have HF4 : Hid (Fr [] wr w4) := hF; have HTZ := Lib.hid hTZ; have HF4a : Hid (∀ o, Fr [] wr (w4.alloc o)) := fun o => HF4.out.alloc o; clear hF hRT hTZ HCO1)
                | (go_at_call 29; refine (HCO2.out _ (HF4a.out _)).mono ?_; rintro e w5 ⟨p2, b2, B2, d2, rfl, hRT, hTZ, hF⟩; have HF5 : Hid (Fr [] wr w5) := (HF4a.out _).trans hF (by simp); have HTZ2 := Lib.hid hTZ; have HTZ1 := Lib.hid ((HTZ.out.step ((Fr.refl _ _).alloc _)).step hF); clear hF hRT hTZ HCO2))
              obtain ⟨wq, hwq⟩ : ∃ wq, wq = w5.alloc (.cells #[.slice A0 st.length c0, .slice B2 (foldR st.length l.reverse).length d2] 44) := ⟨_, rfl⟩
              have hF5q : Fr [] w5 wq := by rw [hwq]; exact (Fr.refl _ _).alloc _
              have HZ1 := Lib.hid (HTZ1.out.step hF5q)
              have HZ2 := Lib.hid (HTZ2.out.step hF5q)
              have hWq : Fr [] W1 wq := (HFr.out.trans HF5.out (by simp)).trans hF5q (by simp)
              have HFq : Hid (Fr [] w wq) := HF1.out.trans hWq (by simp)
              have a0 : wq.cell? ⟨bq, 0, none⟩ = some (.int .i64 K) := cellF hWq (cell_of HBK.out 0)
              have a1 : wq.cell? ⟨bq, 1, none⟩ = some (.int .i64 V) := cellF hWq (cell_of HBK.out 1)
              have a3 : wq.cell? ⟨bq, 3, none⟩ = some (.int .i64 x) := cellF hWq (cell_of HBK.out 3)
              rw [← hwq]
              obtain ⟨m1, hm1⟩ : ∃ m1, m1 = foldR st.length l := ⟨_, rfl⟩
              obtain ⟨m2, hm2⟩ : ∃ m2, m2 = foldR st.length l.reverse := ⟨_, rfl⟩
              rw [← hm1] at HZ1 HMEM ⊢
              rw [← hm2] at HZ2 HMEM ⊢
              have HG1 := Lib.hid HZ1.out.good
              have HG2 := Lib.hid HZ2.out.good
              have ecom := comR_set HOK.out HG1.out HG2.out HMEM.out
              have eah := ahR_set HOK.out HMEM.out V
              have ewho := whoR_set HG1.out HG2.out HMEM.out st.length K V x
              obtain ⟨c1, hc1⟩ : ∃ c1, c1 = (comR st m1).1 := ⟨_, rfl⟩
              obtain ⟨c2, hc2⟩ : ∃ c2, c2 = (comR st m1).2 := ⟨_, rfl⟩
              obtain ⟨ah, hah⟩ : ∃ ah, ah = ahR st m1 V := ⟨_, rfl⟩
              obtain ⟨L1, hL1⟩ : ∃ L1, L1 = whoR st.length m1 K V x := ⟨_, rfl⟩
              have C1 := Lib.hid (zCom HZ1.out)
              rw [← hc1, ← hc2] at C1
              have C2 : Hid (∀ W, Fr [] wq W → Calls Try.prog 23 #[.pointer (some ⟨p2, 0, none⟩)] W fun e w' => e = .returned (.tuple #[.int .i64 c1, .bool c2]) ∧ Fr [] W w') := by
                intro W h; rw [hc1, hc2, ecom]; exact zCom (HZ2.out.step h)
              have D1 : Hid (∀ W, Fr [] wq W ∧ W.cell? ⟨bq, 0, none⟩ = some (.int .i64 K) ∧ W.cell? ⟨bq, 1, none⟩ = some (.int .i64 V) ∧ W.cell? ⟨bq, 3, none⟩ = some (.int .i64 x) → Calls Try.prog 26 #[.pointer (some ⟨p, 0, none⟩), .int .i64 V] W fun e w' => e = .returned (.int .i64 ah) ∧ (Fr [] wq w' ∧ w'.cell? ⟨bq, 0, none⟩ = some (.int .i64 K) ∧ w'.cell? ⟨bq, 1, none⟩ = some (.int .i64 V) ∧ w'.cell? ⟨bq, 3, none⟩ = some (.int .i64 x)) ∧ Fr [] W w') := by
                intro W hS
                rw [hah]
                refine (zAh (HZ1.out.step hS.1) V).mono ?_
                rintro e w' ⟨rfl, hF⟩
                exact ⟨rfl, ⟨hS.1.trans hF (by simp), cellF hF hS.2.1, cellF hF hS.2.2.1, cellF hF hS.2.2.2⟩, hF⟩
              have D2 : Hid (∀ W, Fr [] wq W ∧ W.cell? ⟨bq, 0, none⟩ = some (.int .i64 K) ∧ W.cell? ⟨bq, 1, none⟩ = some (.int .i64 V) ∧ W.cell? ⟨bq, 3, none⟩ = some (.int .i64 x) → Calls Try.prog 26 #[.pointer (some ⟨p2, 0, none⟩), .int .i64 V] W fun e w' => e = .returned (.int .i64 ah) ∧ (Fr [] wq w' ∧ w'.cell? ⟨bq, 0, none⟩ = some (.int .i64 K) ∧ w'.cell? ⟨bq, 1, none⟩ = some (.int .i64 V) ∧ w'.cell? ⟨bq, 3, none⟩ = some (.int .i64 x)) ∧ Fr [] W w') := by
                intro W hS
                rw [hah, eah]
                refine (zAh (HZ2.out.step hS.1) V).mono ?_
                rintro e w' ⟨rfl, hF⟩
                exact ⟨rfl, ⟨hS.1.trans hF (by simp), cellF hF hS.2.1, cellF hF hS.2.2.1, cellF hF hS.2.2.2⟩, hF⟩
              have E1 : Hid (∀ W, Fr [] wq W ∧ W.cell? ⟨bq, 0, none⟩ = some (.int .i64 K) ∧ W.cell? ⟨bq, 1, none⟩ = some (.int .i64 V) ∧ W.cell? ⟨bq, 3, none⟩ = some (.int .i64 x) → Calls Try.prog 35 #[.pointer (some ⟨p, 0, none⟩), .int .i64 K, .int .i64 V, .int .i64 x] W fun e w' => ∃ v, e = .returned v ∧ SlI w' v L1 ∧ (Fr [] wq w' ∧ w'.cell? ⟨bq, 0, none⟩ = some (.int .i64 K) ∧ w'.cell? ⟨bq, 1, none⟩ = some (.int .i64 V) ∧ w'.cell? ⟨bq, 3, none⟩ = some (.int .i64 x)) ∧ Fr [] W w') := by
                intro W hS
                rw [hL1]
                refine (zWho (HZ1.out.step hS.1) K V x).mono ?_
                rintro e w' ⟨A, c, rfl, h1, h2, hF⟩
                exact ⟨_, rfl, ⟨A, c, rfl, h1, h2⟩, ⟨hS.1.trans hF (by simp), cellF hF hS.2.1, cellF hF hS.2.2.1, cellF hF hS.2.2.2⟩, hF⟩
              have E2 : Hid (∀ W, Fr [] wq W ∧ W.cell? ⟨bq, 0, none⟩ = some (.int .i64 K) ∧ W.cell? ⟨bq, 1, none⟩ = some (.int .i64 V) ∧ W.cell? ⟨bq, 3, none⟩ = some (.int .i64 x) → Calls Try.prog 35 #[.pointer (some ⟨p2, 0, none⟩), .int .i64 K, .int .i64 V, .int .i64 x] W fun e w' => ∃ v, e = .returned v ∧ SlI w' v L1 ∧ (Fr [] wq w' ∧ w'.cell? ⟨bq, 0, none⟩ = some (.int .i64 K) ∧ w'.cell? ⟨bq, 1, none⟩ = some (.int .i64 V) ∧ w'.cell? ⟨bq, 3, none⟩ = some (.int .i64 x)) ∧ Fr [] W w') := by
                intro W hS
                rw [hL1, ewho]
                refine (zWho (HZ2.out.step hS.1) K V x).mono ?_
                rintro e w' ⟨A, c, rfl, h1, h2, hF⟩
                exact ⟨_, rfl, ⟨A, c, rfl, h1, h2⟩, ⟨hS.1.trans hF (by simp), cellF hF hS.2.1, cellF hF hS.2.2.1, cellF hF hS.2.2.2⟩, hF⟩
              have C19 : Hid (∀ W u v L, (Fr [] wq W ∧ W.cell? ⟨bq, 0, none⟩ = some (.int .i64 K) ∧ W.cell? ⟨bq, 1, none⟩ = some (.int .i64 V) ∧ W.cell? ⟨bq, 3, none⟩ = some (.int .i64 x)) → SlI W u L → SlI W v L → Calls Try.prog 19 #[u, v] W fun e w' => e = .returned (.bool true) ∧ (Fr [] wq w' ∧ w'.cell? ⟨bq, 0, none⟩ = some (.int .i64 K) ∧ w'.cell? ⟨bq, 1, none⟩ = some (.int .i64 V) ∧ w'.cell? ⟨bq, 3, none⟩ = some (.int .i64 x)) ∧ Fr [] W w') := by
                intro W u v L hS hu hv
                refine (same_sl hu hv).mono ?_
                rintro e w' ⟨rfl, hF⟩
                exact ⟨by simp, ⟨hS.1.trans hF (by simp), cellF hF hS.2.1, cellF hF hS.2.2.1, cellF hF hS.2.2.2⟩, hF⟩
              have hR' : Hid (∀ W, Fr [] wq W → R (.returned (.bool true)) W) := fun W h => hR.out _ _ ⟨rfl, HFq.out.trans h (by simp)⟩
              clear hm1 hm2 hc1 hc2 hah hL1 hwq hF5q hWq HTZ1 HTZ2 HTZ HF5 HF4 HF4a hid0 HMEM HG1 HG2 ecom eah ewho hR HFq HZ1 HZ2
              go_upto_region 24 with (first
                | (go_at_call 23; have _t := C1; refine C1.out.mono ?_; clear C1; rintro e w6 ⟨rfl, hF⟩; have HF6 : Hid (Fr [] wq w6) := hF; clear hF)
                | (go_at_call 23; refine (C2.out _ HF6.out).mono ?_; rintro e w7 ⟨rfl, hF⟩; have HF7 : Hid (Fr [] wq w7) := HF6.out.trans hF (by simp); clear hF))
              have CD : Hid ((fun W => Fr [] wq W ∧ W.cell? ⟨bq, 0, none⟩ = some (.int .i64 K) ∧ W.cell? ⟨bq, 1, none⟩ = some (.int .i64 V) ∧ W.cell? ⟨bq, 3, none⟩ = some (.int .i64 x)) w7.drew) := ⟨HF7.out.drew, cellF HF7.out a0, cellF HF7.out a1, cellF HF7.out a3⟩
              clear a0 a1 a3
              go_region_held3 (fun W => Fr [] wq W ∧ W.cell? ⟨bq, 0, none⟩ = some (.int .i64 K) ∧ W.cell? ⟨bq, 1, none⟩ = some (.int .i64 V) ∧ W.cell? ⟨bq, 3, none⟩ = some (.int .i64 x)) (first | exact CD.out | assumption)
                (first
                  | (go_at_call_of 26 (Value.pointer (some ⟨p, 0, none⟩)); refine (D1.out _ (by assumption)).mono ?_; rintro e w11 ⟨rfl, hS11, hF11⟩)
                  | (go_at_call_of 26 (Value.pointer (some ⟨p2, 0, none⟩)); refine (D2.out _ (by assumption)).mono ?_; rintro e w12 ⟨rfl, hS12, hF12⟩)
                  | (go_at_call_of 35 (Value.pointer (some ⟨p, 0, none⟩)); refine (E1.out _ (by assumption)).mono ?_; rintro e w13 ⟨v13, rfl, hL13, hS13, hF13⟩)
                  | (go_at_call_of 35 (Value.pointer (some ⟨p2, 0, none⟩)); refine (E2.out _ (by assumption)).mono ?_; rintro e w14 ⟨v14, rfl, hL14, hS14, hF14⟩)
                  | (go_at_call 19; refine (C19.out _ _ _ L1 (by assumption) (by first | assumption | exact SlI.fr (by assumption) (by assumption)) (by first | assumption | exact SlI.fr (by assumption) (by assumption))).mono ?_; rintro e w15 ⟨rfl, hS15, hF15⟩))
              all_goals (go_wp2; refine hR'.out _ ?_; exact hS15.1)
    · go_wp2_with (first
        | (go_at_call 25; refine HAL.out.mono ?_; rintro e w2 ⟨rfl, hF⟩; have HF2 : Hid (Fr [] w w2) := HF1.out.trans hF (by simp))
        | (go_at_call 28; refine (HCH.out _ HF2.out).mono ?_; rintro e w3 ⟨rfl, hF3⟩))
      exact hR.out _ _ ⟨rfl, HF2.out.trans hF3 (by simp)⟩
  · have hchk : chk st = 31 := by unfold chk; rw [if_neg hok]
    rw [hchk] at HCH
    go_wp2_with (first
      | (go_at_call 25; refine HAL.out.mono ?_; rintro e w2 ⟨rfl, hF⟩; have HF2 : Hid (Fr [] w w2) := HF1.out.trans hF (by simp))
      | (go_at_call 28; refine (HCH.out _ HF2.out).mono ?_; rintro e w3 ⟨rfl, hF3⟩))
    exact hR.out _ _ ⟨rfl, HF2.out.trans hF3 (by simp)⟩
end Go.Np.Try
