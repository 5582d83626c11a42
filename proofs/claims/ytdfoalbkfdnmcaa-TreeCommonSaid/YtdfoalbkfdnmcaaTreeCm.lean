/- TreeCommon: the walk. (Printed by tools/gen_tcommon.py.) -/
import Derived.Test.YtdfoalbkfdnmcaaTreeZ
import Derived.Test.YtdfoalbkfdnmcaaTreeGl
set_option linter.unusedVariables false
set_option linter.unusedSimpArgs false
namespace Go.Np.Try
open Go.RowKit Go.Proofs Go.Proofs.Ytdfoalbkfdnmcaa.PX Go.Proofs.YtdfoalbkfdnmcaaW.PrintWords
set_option maxHeartbeats 8000000 in
set_option maxRecDepth 100000 in
theorem TreeCommon_walk (w : World) (v : Value) (l : List Blk) (hv : BlocksAt w v l) (a : Int) (_wa : (Lit.int .i64 a).wf = true) (b : Int) (_wb : (Lit.int .i64 b).wf = true) : Calls Try.prog 5 #[v, .int .i64 a, .int .i64 b] w fun e w' => e = .returned (.bool true) ∧ Fr [] w w' := by
  obtain ⟨A, c, rfl, hC, hSZ⟩ := hv
  have HSZ := Lib.hid hSZ
  obtain ⟨N, hN⟩ : ∃ N, l.length = N := ⟨_, rfl⟩
  rw [hN] at hC ⊢
  have HC := Lib.hid hC
  have HAL := Lib.hid (alive_calls (w := w))
  refine calls_k fun R hR => ?_
  clear hC hN hSZ
  by_cases hbig : (60 : Int) < (N : Int)
  · go_enter Try.func5, Try.ntmps5
    go_wp2_with (go_at_call 10; refine HAL.out.mono ?_; rintro e w1 ⟨rfl, hF1⟩)
    exact hR.out _ _ ⟨rfl, hF1⟩
  go_enter Try.func5, Try.ntmps5
  go_upto_region 7 with (first
    | (go_at_call 10; refine HAL.out.mono ?_; rintro e w1 ⟨rfl, hF1⟩
       have HF1 := Lib.hid hF1
       have HNW := Lib.hid (new_calls (w := w1))
       clear hF1 HAL)
    | (go_at_call 11; refine HNW.out.mono ?_; rintro e w2 ⟨p, rfl, hT2, hF2, hp2⟩
       have HF2 := Lib.hid (HF1.out.trans hF2 (by simp))
       have hs1 := HF1.out.size
       have HT2 : Hid (TrAt (fun k => k < w.heap.size) w2 p ⟨[], []⟩) := hT2.grow (fun k hk _ => by omega)
       clear hF2 hT2 HNW hp2 hs1 HF1))
  go_loopg [23] N (fun gn i wr => ∃ (m j : Nat) (t : Tr), m = gn ∧ i = .int .i64 j ∧ m + j = N ∧ Hid t.Good ∧ Hid (TrAt (fun k => k < w.heap.size) wr p t) ∧ Hid (Fr [] w wr))
  case atStart => exact ⟨_, 0, ⟨[], []⟩, rfl, rfl, rfl, Tr.empty_good, HT2, HF2⟩
  case round =>
    obtain ⟨m, j, t, rfl, rfl, hj, HG, HT, HF⟩ := hrel
    clear HT2 HF2
    by_cases hlt : j < N
    · obtain ⟨wO, rfl⟩ : ∃ wO, wO = wr := ⟨_, rfl⟩
      obtain ⟨ad, q, hq, rfl, c0, c1, c2, c3, c4, hqc, hqC⟩ := blocks_at HC.out j hlt
      replace c0 := cellF HF.out c0
      replace c1 := cellF HF.out c1
      replace c2 := cellF HF.out c2
      replace c3 := cellF HF.out c3
      replace c4 := cellF HF.out c4
      have hqs := HSZ.out q.b (List.mem_of_getElem? hq)
      have HQC := Lib.hid hqC
      obtain ⟨W8, hW8⟩ : ∃ W8, W8 = wO.alloc (.cells #[.int .i64 q.b.f0, .int .i64 q.b.f1, .int .i64 q.b.f2, .int .i64 q.b.f3, .slice q.A q.b.f4.length q.c] 28) := ⟨_, rfl⟩
      obtain ⟨g, hg⟩ : ∃ g, g = wO.heap.size := ⟨_, rfl⟩
      have hF8 : Fr [] wO W8 := by rw [hW8]; exact (Fr.refl _ _).alloc _
      have hB8 : BlkIn W8 g q := by rw [hg]; exact BlkIn.made hW8
      obtain ⟨e0, e1, e2, e3, e4⟩ := hB8.cells
      have HFW8 := Lib.hid (HF.out.trans hF8 (by simp))
      have HT8 := Lib.hid (HT.out.fr hF8)
      have HCP := Lib.hid (copy_C q (Kd.C_below HQC.out HFW8.out.below) hqs)
      obtain ⟨T', L3, OK, hadd⟩ : ∃ T' L3 OK, t.add q.b = (T', L3, OK) := ⟨_, _, _, rfl⟩
      have hG' := Tr.add_good HG.out q.b
      rw [hadd] at hG'
      have HAD := Lib.hid hadd
      have HG' := Lib.hid hG'
      clear hqC hq hF8 hB8 hadd hG'
      go_upto_region 9 with (fail)
      rw [← hW8, ← hg]
      clear hW8 hg c0 c1 c2 c3 c4
      go_wp2_with (first
        | (go_at_call 17; refine HCP.out.mono ?_; rintro e wf ⟨A3, d3, rfl, hd3, hC3, hFf⟩
           have HFwf := Lib.hid (HFW8.out.trans hFf (by simp))
           have HAC := Lib.hid (add_C (HT8.out.fr hFf) HG.out q.b hC3 hd3 (fun k hk => Nat.lt_of_lt_of_le hk HFwf.out.size) HAD.out)
           clear hFf hC3 HCP)
        | (go_at_call 16; refine HAC.out.mono ?_; rintro e wg ⟨A4, d4, rfl, hO4, hTg, hXg⟩
           have HTg := Lib.hid hTg
           have HFwg := Lib.hid (hXg.keep (fun k hk => hk) HFwf.out)
           clear hO4 hTg hXg HAC e0 e1 e2 e3 e4))
      obtain ⟨m', rfl⟩ : ∃ m', m = m' + 1 := ⟨m - 1, by omega⟩
      go_roundg m'
      case rel => exact ⟨m', j + 1, T', rfl, by go_num, by omega, HG', HTg, HFwg⟩
      case measure => omega
    · obtain ⟨wE, rfl⟩ : ∃ wE, wE = wr := ⟨_, rfl⟩
      obtain ⟨J, HCOM⟩ : ∃ J, Hid (t.Com a b J) := Tr.com HG.out.ok a b
      have hJh := HCOM.out.high
      have hla := HCOM.out.la
      have hlb := HCOM.out.lb
      have hl400 := HG.out.path400 a
      have HFc : Hid (Fr [] wE wE) := Fr.refl _ _
      have k1 : True := trivial
      have k2 : True := trivial
      have k3 : True := trivial
      have k4 : True := trivial
      have hcm := t.common_comm b a
      have hka := HCOM.out.known
      obtain ⟨C, hCC⟩ : ∃ C, C = t.common a b := ⟨_, rfl⟩
      rw [← hCC] at hJh hcm hka
      have HCM1 : Hid (∀ W, Fr [] wE W → Calls Try.prog 24 #[.pointer (some ⟨p, 0, none⟩), .int .i64 a, .int .i64 b] W fun e w' => e = .returned (.int .i64 C) ∧ Fr [] W w') := fun W hW => by rw [hCC]; exact common_calls (HT.out.fr hW) HG.out a b
      have HCM2 : Hid (∀ W, Fr [] wE W → Calls Try.prog 24 #[.pointer (some ⟨p, 0, none⟩), .int .i64 b, .int .i64 a] W fun e w' => e = .returned (.int .i64 C) ∧ Fr [] W w') := fun W hW => by rw [← hcm]; exact common_calls (HT.out.fr hW) HG.out b a
      have HJH := Lib.hid hJh
      obtain ⟨LA, hLA⟩ : ∃ LA, (t.path a).length = LA := ⟨_, rfl⟩
      obtain ⟨LB, hLB⟩ : ∃ LB, (t.path b).length = LB := ⟨_, rfl⟩
      rw [hLA] at hla hl400
      rw [hLB] at hlb
      have HLA := Lib.hid hLA
      have HLB := Lib.hid hLB
      clear hCC hcm hJh hLA hLB
      cases hha : t.has a with
      | false =>
        have hC0 : C = 0 := by
          by_cases h0 : C = 0
          · exact h0
          · have := (hka h0).1; rw [hha] at this; cases this
        subst hC0
        have HHA : Hid (∀ W, Fr [] wE W → Calls Try.prog 19 #[.pointer (some ⟨p, 0, none⟩), .int .i64 a] W fun e w' => e = .returned (.bool false) ∧ Fr [] W w') := fun W hW => by rw [← hha]; exact has_calls (HT.out.fr hW) a
        clear hka hha
        have t1 : True := trivial
        have t2 : True := trivial
        have t3 : True := trivial
        go_upto_region 14 with (first
          | (have _t := t1; go_at_call 24; refine (HCM1.out _ HFc.out).mono ?_; rintro e x1 ⟨rfl, hFn⟩
             replace HFc := Lib.hid (HFc.out.trans hFn (by simp)); clear hFn t1)
          | (have _t := t2; go_at_call 24; refine (HCM2.out _ HFc.out).mono ?_; rintro e x2 ⟨rfl, hFn⟩
             replace HFc := Lib.hid (HFc.out.trans hFn (by simp)); clear hFn t2)
          | (have _t := t3; go_at_call 19; refine (HHA.out _ HFc.out).mono ?_; rintro e x3 ⟨rfl, hFn⟩
             replace HFc := Lib.hid (HFc.out.trans hFn (by simp)); clear hFn t3))
        have HPA := Lib.hid (path_calls (HT.out.fr HFc.out) HG.out a)
        go_upto_region 17 with (first
          | (have _t := k1; go_at_call 15; refine HPA.out.mono ?_; rintro e y1 ⟨v1, rfl, hO1, hF1⟩
             obtain ⟨A1, d1, rfl⟩ := hO1.formN HLA.out
             replace HFc := Lib.hid (HFc.out.trans hF1 (by simp))
             have HO1 := Lib.hid hO1
             have HPB := Lib.hid (path_calls (HT.out.fr HFc.out) HG.out b)
             clear hO1 hF1 HPA k1)
          | (go_at_call 15; refine HPB.out.mono ?_; rintro e y2 ⟨v2, rfl, hO2, hF2⟩
             obtain ⟨A2, d2, rfl⟩ := hO2.formN HLB.out
             replace HFc := Lib.hid (HFc.out.trans hF2 (by simp))
             replace HO1 := Lib.hid (HO1.out.fr hF2 (by simp))
             have HO2 := Lib.hid hO2
             have HHC := Lib.hid (height_calls (HT.out.fr HFc.out) 0)
             rw [HJH.out] at HHC
             clear hO2 hF2 HPB)
          | (go_at_call 14; refine HHC.out.mono ?_; rintro e y3 ⟨rfl, hF3⟩
             replace HFc := Lib.hid (HFc.out.trans hF3 (by simp))
             replace HO1 := Lib.hid (HO1.out.fr hF3 (by simp))
             replace HO2 := Lib.hid (HO2.out.fr hF3 (by simp))
             clear hF3 HHC))
        go_loopg [14] J (fun gn i wr => ∃ (m2 k : Nat), m2 = gn ∧ i = .int .i64 k ∧ m2 + k = J ∧ Hid (Fr [] y3 wr))
        case atStart => exact ⟨_, 0, rfl, rfl, rfl, Fr.refl _ _⟩
        case round =>
          obtain ⟨m2, k, rfl, rfl, hk, HFx⟩ := hrel
          by_cases hkl : k < J
          · obtain ⟨g1, rfl, hc1⟩ := OwnI.at (A := A1) (c := d1) (l := t.path a) (by rw [HLA.out]; exact HO1.out.fr HFx.out (by simp)) k (by rw [HLA.out]; omega)
            obtain ⟨g2, rfl, hc2⟩ := OwnI.at (A := A2) (c := d2) (l := t.path b) (by rw [HLB.out]; exact HO2.out.fr HFx.out (by simp)) k (by rw [HLB.out]; omega)
            rw [← HCOM.out.same k hkl] at hc2
            generalize (t.path a).getD k 0 = z at *
            have hka1 : k < LA := by omega
            have hkb1 : k < LB := by omega
            go_upto_region 19 with (fail)
            go_quiet (fail)
            go_wp2
            obtain ⟨m3, rfl⟩ : ∃ m3, m2 = m3 + 1 := ⟨m2 - 1, by omega⟩
            go_roundg m3
            case rel => exact ⟨m3, k + 1, rfl, by go_num, by omega, by first | exact HFx.out.drew | exact HFx.out.drewN _⟩
            case measure => omega
          · obtain rfl : k = J := by omega
            have hfin : Hid (Fr [] w wr) := HF.out.trans (HFc.out.trans HFx.out (by simp)) (by simp)
            by_cases hA : (LA : Int) ≤ (k : Int)
            · go_upto_region 21 with (fail)
              go_quiet (fail)
              go_wp2
              exact hR.out _ _ ⟨rfl, by first | exact hfin.out.drew | exact hfin.out.drewN _⟩
            · by_cases hB : (LB : Int) ≤ (k : Int)
              · go_upto_region 21 with (fail)
                go_quiet (fail)
                go_wp2
                exact hR.out _ _ ⟨rfl, by first | exact hfin.out.drew | exact hfin.out.drewN _⟩
              · have hka1 : k < LA := by omega
                have hkb1 : k < LB := by omega
                obtain ⟨g1, rfl, hc1⟩ := OwnI.at (A := A1) (c := d1) (l := t.path a) (by rw [HLA.out]; exact HO1.out.fr HFx.out (by simp)) k (by rw [HLA.out]; omega)
                obtain ⟨g2, rfl, hc2⟩ := OwnI.at (A := A2) (c := d2) (l := t.path b) (by rw [HLB.out]; exact HO2.out.fr HFx.out (by simp)) k (by rw [HLB.out]; omega)
                have hne : (t.path a).getD k 0 ≠ (t.path b).getD k 0 := by
                  rcases HCOM.out.next with h | h | h
                  · rw [HLA.out] at h; omega
                  · rw [HLB.out] at h; omega
                  · exact h
                have hneb : ((t.path a).getD k 0 != (t.path b).getD k 0) = true := by simpa using hne
                generalize (t.path a).getD k 0 = z1 at *
                generalize (t.path b).getD k 0 = z2 at *
                clear hne
                go_upto_region 21 with (fail)
                go_quiet (fail)
                go_wp2
                exact hR.out _ _ ⟨rfl, by first | exact hfin.out.drew | exact hfin.out.drewN _⟩
      | true =>
        have HHA : Hid (∀ W, Fr [] wE W → Calls Try.prog 19 #[.pointer (some ⟨p, 0, none⟩), .int .i64 a] W fun e w' => e = .returned (.bool true) ∧ Fr [] W w') := fun W hW => by rw [← hha]; exact has_calls (HT.out.fr hW) a
        have HCM3 : Hid (∀ W, Fr [] wE W → Calls Try.prog 24 #[.pointer (some ⟨p, 0, none⟩), .int .i64 a, .int .i64 a] W fun e w' => e = .returned (.int .i64 a) ∧ Fr [] W w') := fun W hW => by
          have := common_calls (HT.out.fr hW) HG.out a a
          rw [Tr.common_self HG.out.ok hha] at this
          exact this
        by_cases h0 : C = 0
        · subst h0
          clear hka hha
          have t1 : True := trivial
          have t2 : True := trivial
          have t3 : True := trivial
          have t4 : True := trivial
          go_upto_region 14 with (first
            | (have _t := t1; go_at_call 24; refine (HCM1.out _ HFc.out).mono ?_; rintro e x1 ⟨rfl, hFn⟩
               replace HFc := Lib.hid (HFc.out.trans hFn (by simp)); clear hFn t1)
            | (have _t := t2; go_at_call 24; refine (HCM2.out _ HFc.out).mono ?_; rintro e x2 ⟨rfl, hFn⟩
               replace HFc := Lib.hid (HFc.out.trans hFn (by simp)); clear hFn t2)
            | (have _t := t3; go_at_call 19; refine (HHA.out _ HFc.out).mono ?_; rintro e x3 ⟨rfl, hFn⟩
               replace HFc := Lib.hid (HFc.out.trans hFn (by simp)); clear hFn t3)
            | (have _t := t4; go_at_call 24; refine (HCM3.out _ HFc.out).mono ?_; rintro e x4 ⟨rfl, hFn⟩
               replace HFc := Lib.hid (HFc.out.trans hFn (by simp)); clear hFn t4))
          have HPA := Lib.hid (path_calls (HT.out.fr HFc.out) HG.out a)
          go_upto_region 17 with (first
            | (have _t := k1; go_at_call 15; refine HPA.out.mono ?_; rintro e y1 ⟨v1, rfl, hO1, hF1⟩
               obtain ⟨A1, d1, rfl⟩ := hO1.formN HLA.out
               replace HFc := Lib.hid (HFc.out.trans hF1 (by simp))
               have HO1 := Lib.hid hO1
               have HPB := Lib.hid (path_calls (HT.out.fr HFc.out) HG.out b)
               clear hO1 hF1 HPA k1)
            | (go_at_call 15; refine HPB.out.mono ?_; rintro e y2 ⟨v2, rfl, hO2, hF2⟩
               obtain ⟨A2, d2, rfl⟩ := hO2.formN HLB.out
               replace HFc := Lib.hid (HFc.out.trans hF2 (by simp))
               replace HO1 := Lib.hid (HO1.out.fr hF2 (by simp))
               have HO2 := Lib.hid hO2
               have HHC := Lib.hid (height_calls (HT.out.fr HFc.out) 0)
               rw [HJH.out] at HHC
               clear hO2 hF2 HPB)
            | (go_at_call 14; refine HHC.out.mono ?_; rintro e y3 ⟨rfl, hF3⟩
               replace HFc := Lib.hid (HFc.out.trans hF3 (by simp))
               replace HO1 := Lib.hid (HO1.out.fr hF3 (by simp))
               replace HO2 := Lib.hid (HO2.out.fr hF3 (by simp))
               clear hF3 HHC))
          go_loopg [14] J (fun gn i wr => ∃ (m2 k : Nat), m2 = gn ∧ i = .int .i64 k ∧ m2 + k = J ∧ Hid (Fr [] y3 wr))
          case atStart => exact ⟨_, 0, rfl, rfl, rfl, Fr.refl _ _⟩
          case round =>
            obtain ⟨m2, k, rfl, rfl, hk, HFx⟩ := hrel
            by_cases hkl : k < J
            · obtain ⟨g1, rfl, hc1⟩ := OwnI.at (A := A1) (c := d1) (l := t.path a) (by rw [HLA.out]; exact HO1.out.fr HFx.out (by simp)) k (by rw [HLA.out]; omega)
              obtain ⟨g2, rfl, hc2⟩ := OwnI.at (A := A2) (c := d2) (l := t.path b) (by rw [HLB.out]; exact HO2.out.fr HFx.out (by simp)) k (by rw [HLB.out]; omega)
              rw [← HCOM.out.same k hkl] at hc2
              generalize (t.path a).getD k 0 = z at *
              have hka1 : k < LA := by omega
              have hkb1 : k < LB := by omega
              go_upto_region 19 with (fail)
              go_quiet (fail)
              go_wp2
              obtain ⟨m3, rfl⟩ : ∃ m3, m2 = m3 + 1 := ⟨m2 - 1, by omega⟩
              go_roundg m3
              case rel => exact ⟨m3, k + 1, rfl, by go_num, by omega, by first | exact HFx.out.drew | exact HFx.out.drewN _⟩
              case measure => omega
            · obtain rfl : k = J := by omega
              have hfin : Hid (Fr [] w wr) := HF.out.trans (HFc.out.trans HFx.out (by simp)) (by simp)
              by_cases hA : (LA : Int) ≤ (k : Int)
              · go_upto_region 21 with (fail)
                go_quiet (fail)
                go_wp2
                exact hR.out _ _ ⟨rfl, by first | exact hfin.out.drew | exact hfin.out.drewN _⟩
              · by_cases hB : (LB : Int) ≤ (k : Int)
                · go_upto_region 21 with (fail)
                  go_quiet (fail)
                  go_wp2
                  exact hR.out _ _ ⟨rfl, by first | exact hfin.out.drew | exact hfin.out.drewN _⟩
                · have hka1 : k < LA := by omega
                  have hkb1 : k < LB := by omega
                  obtain ⟨g1, rfl, hc1⟩ := OwnI.at (A := A1) (c := d1) (l := t.path a) (by rw [HLA.out]; exact HO1.out.fr HFx.out (by simp)) k (by rw [HLA.out]; omega)
                  obtain ⟨g2, rfl, hc2⟩ := OwnI.at (A := A2) (c := d2) (l := t.path b) (by rw [HLB.out]; exact HO2.out.fr HFx.out (by simp)) k (by rw [HLB.out]; omega)
                  have hne : (t.path a).getD k 0 ≠ (t.path b).getD k 0 := by
                    rcases HCOM.out.next with h | h | h
                    · rw [HLA.out] at h; omega
                    · rw [HLB.out] at h; omega
                    · exact h
                  have hneb : ((t.path a).getD k 0 != (t.path b).getD k 0) = true := by simpa using hne
                  generalize (t.path a).getD k 0 = z1 at *
                  generalize (t.path b).getD k 0 = z2 at *
                  clear hne
                  go_upto_region 21 with (fail)
                  go_quiet (fail)
                  go_wp2
                  exact hR.out _ _ ⟨rfl, by first | exact hfin.out.drew | exact hfin.out.drewN _⟩
        · have hhb := (hka h0).2
          have h0b : (C != 0) = true := by simpa using h0
          have HHB : Hid (∀ W, Fr [] wE W → Calls Try.prog 19 #[.pointer (some ⟨p, 0, none⟩), .int .i64 b] W fun e w' => e = .returned (.bool true) ∧ Fr [] W w') := fun W hW => by rw [← hhb]; exact has_calls (HT.out.fr hW) b
          clear hka hha hhb h0
          have t1 : True := trivial
          have t2 : True := trivial
          have t3 : True := trivial
          have t4 : True := trivial
          have t5 : True := trivial
          have t6 : True := trivial
          go_upto_region 14 with (first
            | (have _t := t1; go_at_call 24; refine (HCM1.out _ HFc.out).mono ?_; rintro e x1 ⟨rfl, hFn⟩
               replace HFc := Lib.hid (HFc.out.trans hFn (by simp)); clear hFn t1)
            | (have _t := t2; go_at_call 24; refine (HCM2.out _ HFc.out).mono ?_; rintro e x2 ⟨rfl, hFn⟩
               replace HFc := Lib.hid (HFc.out.trans hFn (by simp)); clear hFn t2)
            | (have _t := t3; go_at_call 19; refine (HHA.out _ HFc.out).mono ?_; rintro e x3 ⟨rfl, hFn⟩
               replace HFc := Lib.hid (HFc.out.trans hFn (by simp)); clear hFn t3)
            | (have _t := t4; go_at_call 24; refine (HCM3.out _ HFc.out).mono ?_; rintro e x4 ⟨rfl, hFn⟩
               replace HFc := Lib.hid (HFc.out.trans hFn (by simp)); clear hFn t4)
            | (have _t := t5; go_at_call 19; refine (HHA.out _ HFc.out).mono ?_; rintro e x5 ⟨rfl, hFn⟩
               replace HFc := Lib.hid (HFc.out.trans hFn (by simp)); clear hFn t5)
            | (have _t := t6; go_at_call 19; refine (HHB.out _ HFc.out).mono ?_; rintro e x6 ⟨rfl, hFn⟩
               replace HFc := Lib.hid (HFc.out.trans hFn (by simp)); clear hFn t6))
          have HPA := Lib.hid (path_calls (HT.out.fr HFc.out) HG.out a)
          go_upto_region 17 with (first
            | (have _t := k1; go_at_call 15; refine HPA.out.mono ?_; rintro e y1 ⟨v1, rfl, hO1, hF1⟩
               obtain ⟨A1, d1, rfl⟩ := hO1.formN HLA.out
               replace HFc := Lib.hid (HFc.out.trans hF1 (by simp))
               have HO1 := Lib.hid hO1
               have HPB := Lib.hid (path_calls (HT.out.fr HFc.out) HG.out b)
               clear hO1 hF1 HPA k1)
            | (go_at_call 15; refine HPB.out.mono ?_; rintro e y2 ⟨v2, rfl, hO2, hF2⟩
               obtain ⟨A2, d2, rfl⟩ := hO2.formN HLB.out
               replace HFc := Lib.hid (HFc.out.trans hF2 (by simp))
               replace HO1 := Lib.hid (HO1.out.fr hF2 (by simp))
               have HO2 := Lib.hid hO2
               have HHC := Lib.hid (height_calls (HT.out.fr HFc.out) C)
               rw [HJH.out] at HHC
               clear hO2 hF2 HPB)
            | (go_at_call 14; refine HHC.out.mono ?_; rintro e y3 ⟨rfl, hF3⟩
               replace HFc := Lib.hid (HFc.out.trans hF3 (by simp))
               replace HO1 := Lib.hid (HO1.out.fr hF3 (by simp))
               replace HO2 := Lib.hid (HO2.out.fr hF3 (by simp))
               clear hF3 HHC))
          go_loopg [14] J (fun gn i wr => ∃ (m2 k : Nat), m2 = gn ∧ i = .int .i64 k ∧ m2 + k = J ∧ Hid (Fr [] y3 wr))
          case atStart => exact ⟨_, 0, rfl, rfl, rfl, Fr.refl _ _⟩
          case round =>
            obtain ⟨m2, k, rfl, rfl, hk, HFx⟩ := hrel
            by_cases hkl : k < J
            · obtain ⟨g1, rfl, hc1⟩ := OwnI.at (A := A1) (c := d1) (l := t.path a) (by rw [HLA.out]; exact HO1.out.fr HFx.out (by simp)) k (by rw [HLA.out]; omega)
              obtain ⟨g2, rfl, hc2⟩ := OwnI.at (A := A2) (c := d2) (l := t.path b) (by rw [HLB.out]; exact HO2.out.fr HFx.out (by simp)) k (by rw [HLB.out]; omega)
              rw [← HCOM.out.same k hkl] at hc2
              generalize (t.path a).getD k 0 = z at *
              have hka1 : k < LA := by omega
              have hkb1 : k < LB := by omega
              go_upto_region 19 with (fail)
              go_quiet (fail)
              go_wp2
              obtain ⟨m3, rfl⟩ : ∃ m3, m2 = m3 + 1 := ⟨m2 - 1, by omega⟩
              go_roundg m3
              case rel => exact ⟨m3, k + 1, rfl, by go_num, by omega, by first | exact HFx.out.drew | exact HFx.out.drewN _⟩
              case measure => omega
            · obtain rfl : k = J := by omega
              have hfin : Hid (Fr [] w wr) := HF.out.trans (HFc.out.trans HFx.out (by simp)) (by simp)
              by_cases hA : (LA : Int) ≤ (k : Int)
              · go_upto_region 21 with (fail)
                go_quiet (fail)
                go_wp2
                exact hR.out _ _ ⟨rfl, by first | exact hfin.out.drew | exact hfin.out.drewN _⟩
              · by_cases hB : (LB : Int) ≤ (k : Int)
                · go_upto_region 21 with (fail)
                  go_quiet (fail)
                  go_wp2
                  exact hR.out _ _ ⟨rfl, by first | exact hfin.out.drew | exact hfin.out.drewN _⟩
                · have hka1 : k < LA := by omega
                  have hkb1 : k < LB := by omega
                  obtain ⟨g1, rfl, hc1⟩ := OwnI.at (A := A1) (c := d1) (l := t.path a) (by rw [HLA.out]; exact HO1.out.fr HFx.out (by simp)) k (by rw [HLA.out]; omega)
                  obtain ⟨g2, rfl, hc2⟩ := OwnI.at (A := A2) (c := d2) (l := t.path b) (by rw [HLB.out]; exact HO2.out.fr HFx.out (by simp)) k (by rw [HLB.out]; omega)
                  have hne : (t.path a).getD k 0 ≠ (t.path b).getD k 0 := by
                    rcases HCOM.out.next with h | h | h
                    · rw [HLA.out] at h; omega
                    · rw [HLB.out] at h; omega
                    · exact h
                  have hneb : ((t.path a).getD k 0 != (t.path b).getD k 0) = true := by simpa using hne
                  generalize (t.path a).getD k 0 = z1 at *
                  generalize (t.path b).getD k 0 = z2 at *
                  clear hne
                  go_upto_region 21 with (fail)
                  go_quiet (fail)
                  go_wp2
                  exact hR.out _ _ ⟨rfl, by first | exact hfin.out.drew | exact hfin.out.drewN _⟩
end Go.Np.Try
