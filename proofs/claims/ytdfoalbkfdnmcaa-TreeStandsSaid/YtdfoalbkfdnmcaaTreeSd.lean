/- TreeStands: the walk. (Printed by tools/gen_tstand.py.) -/
import Derived.Test.YtdfoalbkfdnmcaaTreeZ
import Derived.Test.YtdfoalbkfdnmcaaTreeGl
set_option linter.unusedVariables false
set_option linter.unusedSimpArgs false
namespace Go.Np.Try
open Go.RowKit Go.Proofs Go.Proofs.Ytdfoalbkfdnmcaa.PX Go.Proofs.YtdfoalbkfdnmcaaW.PrintWords
set_option maxHeartbeats 8000000 in
set_option maxRecDepth 100000 in
theorem TreeStands_walk (w : World) (v : Value) (l : List Blk) (hv : BlocksAt w v l) : Calls Try.prog 4 #[v] w fun e w' => e = .returned (.bool true) ∧ Fr [] w w' := by
  obtain ⟨A, c, rfl, hC, hSZ⟩ := hv
  have HSZ := Lib.hid hSZ
  obtain ⟨N, hN⟩ : ∃ N, l.length = N := ⟨_, rfl⟩
  rw [hN] at hC ⊢
  have HC := Lib.hid hC
  have HAL := Lib.hid (alive_calls (w := w))
  refine calls_k fun R hR => ?_
  clear hC hN hSZ
  by_cases hbig : (100 : Int) < (N : Int)
  · go_enter Try.func4, Try.ntmps4
    go_wp2_with (go_at_call 10; refine HAL.out.mono ?_; rintro e w1 ⟨rfl, hF1⟩)
    exact hR.out _ _ ⟨rfl, hF1⟩
  go_enter Try.func4, Try.ntmps4
  go_upto_region 7 with (first
    | (go_at_call 10; refine HAL.out.mono ?_; rintro e w1 ⟨rfl, hF1⟩
       have HF1 := Lib.hid hF1
       have HNW := Lib.hid (new_calls (w := w1))
       clear hF1 HAL)
    | (go_at_call 11; refine HNW.out.mono ?_; rintro e w2 ⟨p, rfl, hT2, hF2, hp2⟩
       have HF2 := Lib.hid (HF1.out.trans hF2 (by simp))
       have hs1 := HF1.out.size
       have HT2 : Hid (TrAt (fun k => k < w.heap.size) w2 p ⟨[], []⟩) := hT2.grow (fun k hk _ => by omega)
       clear hF2 hT2 HNW hp2 hs1 HF1))
  go_loopg [20] N (fun gn i wr => ∃ (m j : Nat) (t : Tr), m = gn ∧ i = .int .i64 j ∧ m + j = N ∧ Hid t.Good ∧ Hid (TrAt (fun k => k < w.heap.size) wr p t) ∧ Hid (Fr [] w wr))
  case atStart => exact ⟨_, 0, ⟨[], []⟩, rfl, rfl, rfl, Tr.empty_good, HT2, HF2⟩
  case round =>
    obtain ⟨m, j, t, rfl, rfl, hj, HG, HT, HF⟩ := hrel
    clear HT2 HF2
    by_cases hlt : j < N
    · obtain ⟨wO, rfl⟩ : ∃ wO, wO = wr := ⟨_, rfl⟩
      obtain ⟨ad, q, hq, rfl, c0, c1, c2, c3, c4, hqc, hqC⟩ := blocks_at HC.out j hlt
      replace c0 := cellF HF.out c0
      replace c1 := cellF HF.out c1
      replace c2 := cellF HF.out c2
      replace c3 := cellF HF.out c3
      replace c4 := cellF HF.out c4
      have hqs := HSZ.out q.b (List.mem_of_getElem? hq)
      have HQC := Lib.hid hqC
      obtain ⟨W8, hW8⟩ : ∃ W8, W8 = wO.alloc (.cells #[.int .i64 q.b.f0, .int .i64 q.b.f1, .int .i64 q.b.f2, .int .i64 q.b.f3, .slice q.A q.b.f4.length q.c] 28) := ⟨_, rfl⟩
      obtain ⟨g, hg⟩ : ∃ g, g = wO.heap.size := ⟨_, rfl⟩
      have hF8 : Fr [] wO W8 := by rw [hW8]; exact (Fr.refl _ _).alloc _
      have hB8 : BlkIn W8 g q := by rw [hg]; exact BlkIn.made hW8
      obtain ⟨e0, e1, e2, e3, e4⟩ := hB8.cells
      have HFW8 := Lib.hid (HF.out.trans hF8 (by simp))
      have HT8 := Lib.hid (HT.out.fr hF8)
      have HCP := Lib.hid (copy_C q (Kd.C_below HQC.out HFW8.out.below) hqs)
      obtain ⟨T', L3, OK, hadd⟩ : ∃ T' L3 OK, t.add q.b = (T', L3, OK) := ⟨_, _, _, rfl⟩
      have hG' := Tr.add_good HG.out q.b
      rw [hadd] at hG'
      have HAD := Lib.hid hadd
      have HG' := Lib.hid hG'
      clear hqC hq hF8 hB8 hadd hG'
      go_upto_region 9 with (fail)
      rw [← hW8, ← hg]
      clear hW8 hg c0 c1 c2 c3 c4
      go_wp2_with (first
        | (go_at_call 17; refine HCP.out.mono ?_; rintro e wf ⟨A3, d3, rfl, hd3, hC3, hFf⟩
           have HFwf := Lib.hid (HFW8.out.trans hFf (by simp))
           have HAC := Lib.hid (add_C (HT8.out.fr hFf) HG.out q.b hC3 hd3 (fun k hk => Nat.lt_of_lt_of_le hk HFwf.out.size) HAD.out)
           clear hFf hC3 HCP)
        | (go_at_call 16; refine HAC.out.mono ?_; rintro e wg ⟨A4, d4, rfl, hO4, hTg, hXg⟩
           have HTg := Lib.hid hTg
           have HFwg := Lib.hid (hXg.keep (fun k hk => hk) HFwf.out)
           clear hO4 hTg hXg HAC e0 e1 e2 e3 e4))
      obtain ⟨m', rfl⟩ : ∃ m', m = m' + 1 := ⟨m - 1, by omega⟩
      go_roundg m'
      case rel => exact ⟨m', j + 1, T', rfl, by go_num, by omega, HG', HTg, HFwg⟩
      case measure => omega
    · obtain ⟨wE, rfl⟩ : ∃ wE, wE = wr := ⟨_, rfl⟩
      have HNE := Lib.hid (names_calls HT.out HG.out.kn)
      have hnl := names_len HG.out.ok
      have hfew := HG.out.ok.few
      obtain ⟨NN, hNN⟩ : ∃ NN, t.names.length = NN := ⟨_, rfl⟩
      have hNB : NN ≤ 400 := by omega
      have HNN := Lib.hid hNN
      clear hnl hfew hNN
      go_upto_region 12 with (first
        | (go_at_call 12; refine HNE.out.mono ?_; rintro e wN ⟨vN, rfl, hON, hFN⟩
           obtain ⟨AN, dN, rfl⟩ := hON.formN HNN.out
           have HFN := Lib.hid hFN
           have HON := Lib.hid hON
           clear hON hFN HNE))
      have HTN := Lib.hid (HT.out.fr HFN.out)
      have HFwN := Lib.hid (HF.out.trans HFN.out (by simp))
      go_loopg [32] NN (fun gn i wr => ∃ (m2 k : Nat), m2 = gn ∧ i = .int .i64 k ∧ m2 + k = NN ∧ Hid (Fr [] wN wr))
      case atStart => exact ⟨_, 0, rfl, rfl, rfl, Fr.refl _ _⟩
      case round =>
        obtain ⟨m2, k, rfl, rfl, hk, HFE⟩ := hrel
        by_cases hkl : k < NN
        · obtain ⟨wR, rfl⟩ : ∃ wR, wR = wr := ⟨_, rfl⟩
          obtain ⟨gN, rfl, hcN⟩ := OwnI.at (A := AN) (c := dN) (l := t.names) (by rw [HNN.out]; exact HON.out.fr HFE.out (by simp)) k (by rw [HNN.out]; omega)
          have hin : t.names.getD k 0 ∈ t.names := by
            have := HNN.out
            rw [List.getD_eq_getElem?_getD, List.getElem?_eq_getElem (by omega)]
            exact List.getElem_mem _
          generalize t.names.getD k 0 = y at *
          have HST := Lib.hid (Tr.stands HG.out hin)
          obtain ⟨K, hK⟩ : ∃ K : Nat, (t.path y).length = K + 1 := ⟨(t.path y).length - 1, by have := HST.out.len; have := HST.out.pos; omega⟩
          have hHI : t.high y = (K : Int) + 1 := by have := HST.out.len; omega
          have hlast : (t.path y).getD K 0 = y := by
            have h1 := HST.out.way
            have h2 : (t.path (t.get y).f3).length = K := by rw [h1] at hK; simpa using hK
            rw [h1, ← h2]; exact getD_snoc _ _
          have hKb := HG.out.path400 y
          rw [hK] at hKb
          have hwK : wrap64 (K : Int) = (K : Int) := wr_in _ (by omega)
          have hle : (K : Int) + 1 ≤ t.high t.tip := by rw [← hHI]; exact HST.out.top
          have HHI := Lib.hid hHI
          have HLN := Lib.hid hK
          have HLAST := Lib.hid hlast
          have HGT := Lib.hid (get_calls (HTN.out.fr HFE.out) HG.out.ok y)
          rw [HST.out.has] at HGT
          clear hin hK hHI hlast
          go_upto_region 15 with (first
            | (go_at_call 21; refine HGT.out.mono ?_; rintro e w1 ⟨A8, d8, rfl, hown, hnew, hF1⟩
               simp only [blkV]
               have HF1 := Lib.hid hF1
               have HOW := Lib.hid hown
               clear hF1 hown hnew HGT))
          obtain ⟨W1, hW1⟩ : ∃ W1, W1 = w1.alloc (.cells #[.int .i64 (t.get y).f0, .int .i64 (t.get y).f1, .int .i64 (t.get y).f2, .int .i64 (t.get y).f3, .slice A8 (t.get y).f4.length d8] 28) := ⟨_, rfl⟩
          obtain ⟨g8, hg8⟩ : ∃ g8, g8 = w1.heap.size := ⟨_, rfl⟩
          have hFW1 : Fr [] w1 W1 := by rw [hW1]; exact (Fr.refl _ _).alloc _
          have hB8 : BlkIn W1 g8 ⟨t.get y, A8, d8⟩ := by rw [hg8]; exact BlkIn.made (q := ⟨t.get y, A8, d8⟩) hW1
          obtain ⟨e0, e1, e2, e3, e4⟩ := hB8.cells
          simp only at e0 e1 e2 e3 e4
          obtain ⟨B8, f8, e8, h81, h82⟩ := flatT_C HOW.out
          injection e8 with e81 _ e83
          subst e81 e83
          have HC8 := Lib.hid (Kd.C_below h82 hFW1.below)
          have HD8 := Lib.hid h81
          have HFR1 := Lib.hid ((HFE.out.trans HF1.out (by simp)).trans hFW1 (by simp))
          have HT1 := Lib.hid (HTN.out.fr HFR1.out)
          have HFc : Hid (Fr [] W1 W1) := Fr.refl _ _
          rw [← hW1, ← hg8]
          obtain ⟨P, hPf⟩ : ∃ P, (t.get y).f3 = P := ⟨_, rfl⟩
          rw [hPf] at e3
          have HPf := Lib.hid hPf
          clear hPf
          clear hW1 hg8 hFW1 hB8 h81 h82 hcN
          have HCY : Hid (∀ W, Fr [] W1 W → Calls Try.prog 14 #[.pointer (some ⟨p, 0, none⟩), .int .i64 y] W fun e w' => e = .returned (.int .i64 ((K : Int) + 1)) ∧ Fr [] W w') := fun W hW => by
            have := height_calls (HT1.out.fr hW) y; rw [HHI.out] at this; exact this
          have HCN : Hid (∀ W, Fr [] W1 W → Calls Try.prog 22 #[.agg #[.int .i64 (t.get y).f0, .int .i64 (t.get y).f1, .int .i64 (t.get y).f2, .int .i64 P, .slice A8 (t.get y).f4.length d8]] W fun e w' => e = .returned (.int .i64 y) ∧ Fr [] W w') := fun W hW => by
            rw [← HPf.out]; have := name_calls (t.get y) A8 d8 (Kd.C_below HC8.out hW.below) HD8.out; rw [HST.out.name] at this; exact this.mono (fun e w' h => ⟨h.1, Fr.of_below [] h.2⟩)
          have HCH : Hid (∀ W, Fr [] W1 W → Calls Try.prog 14 #[.pointer (some ⟨p, 0, none⟩), .int .i64 P] W fun e w' => e = .returned (.int .i64 (K : Int)) ∧ Fr [] W w') := fun W hW => by
            rw [← HPf.out]; have := height_calls (HT1.out.fr hW) (t.get y).f3; rw [HST.out.low, HHI.out, show (K : Int) + 1 - 1 = K by omega] at this; exact this
          have HCT : Hid (∀ W, Fr [] W1 W → Calls Try.prog 13 #[.pointer (some ⟨p, 0, none⟩)] W fun e w' => e = .returned (.int .i64 t.tip) ∧ Fr [] W w') := fun W hW => by
            exact tip_calls (HT1.out.fr hW) HG.out.ok
          have HCU : Hid (∀ W, Fr [] W1 W → Calls Try.prog 14 #[.pointer (some ⟨p, 0, none⟩), .int .i64 t.tip] W fun e w' => e = .returned (.int .i64 (t.high t.tip)) ∧ Fr [] W w') := fun W hW => by
            exact height_calls (HT1.out.fr hW) t.tip
          rcases Classical.em (P = 0) with hp0 | hp0
          ·
            subst hp0
            by_cases hEQ : t.high t.tip = (K : Int) + 1
            · have htl : t.tip ≤ y := HST.out.tie (by rw [HHI.out, hEQ])
              clear hle
              have t1 : True := trivial
              have t2 : True := trivial
              have t3 : True := trivial
              have t4 : True := trivial
              have t5 : True := trivial
              have t6 : True := trivial
              have t7 : True := trivial
              have t8 : True := trivial
              go_upto_region 18 with (first
                | (have _t := t1; go_at_call 14; refine (HCY.out _ HFc.out).mono ?_; rintro e x1 ⟨rfl, hFn⟩
                   replace HFc := Lib.hid (HFc.out.trans hFn (by simp)); replace e0 := cellF hFn e0; replace e1 := cellF hFn e1; replace e2 := cellF hFn e2; replace e3 := cellF hFn e3; replace e4 := cellF hFn e4; clear hFn t1)
                | (have _t := t2; go_at_call 22; refine (HCN.out _ HFc.out).mono ?_; rintro e x2 ⟨rfl, hFn⟩
                   replace HFc := Lib.hid (HFc.out.trans hFn (by simp)); replace e0 := cellF hFn e0; replace e1 := cellF hFn e1; replace e2 := cellF hFn e2; replace e3 := cellF hFn e3; replace e4 := cellF hFn e4; clear hFn t2)
                | (have _t := t3; go_at_call 14; refine (HCH.out _ HFc.out).mono ?_; rintro e x3 ⟨rfl, hFn⟩
                   replace HFc := Lib.hid (HFc.out.trans hFn (by simp)); replace e0 := cellF hFn e0; replace e1 := cellF hFn e1; replace e2 := cellF hFn e2; replace e3 := cellF hFn e3; replace e4 := cellF hFn e4; clear hFn t3)
                | (have _t := t4; go_at_call 13; refine (HCT.out _ HFc.out).mono ?_; rintro e x4 ⟨rfl, hFn⟩
                   replace HFc := Lib.hid (HFc.out.trans hFn (by simp)); replace e0 := cellF hFn e0; replace e1 := cellF hFn e1; replace e2 := cellF hFn e2; replace e3 := cellF hFn e3; replace e4 := cellF hFn e4; clear hFn t4)
                | (have _t := t5; go_at_call 14; refine (HCU.out _ HFc.out).mono ?_; rintro e x5 ⟨rfl, hFn⟩
                   replace HFc := Lib.hid (HFc.out.trans hFn (by simp)); replace e0 := cellF hFn e0; replace e1 := cellF hFn e1; replace e2 := cellF hFn e2; replace e3 := cellF hFn e3; replace e4 := cellF hFn e4; clear hFn t5)
                | (have _t := t6; go_at_call 13; refine (HCT.out _ HFc.out).mono ?_; rintro e x6 ⟨rfl, hFn⟩
                   replace HFc := Lib.hid (HFc.out.trans hFn (by simp)); replace e0 := cellF hFn e0; replace e1 := cellF hFn e1; replace e2 := cellF hFn e2; replace e3 := cellF hFn e3; replace e4 := cellF hFn e4; clear hFn t6)
                | (have _t := t7; go_at_call 14; refine (HCU.out _ HFc.out).mono ?_; rintro e x7 ⟨rfl, hFn⟩
                   replace HFc := Lib.hid (HFc.out.trans hFn (by simp)); replace e0 := cellF hFn e0; replace e1 := cellF hFn e1; replace e2 := cellF hFn e2; replace e3 := cellF hFn e3; replace e4 := cellF hFn e4; clear hFn t7)
                | (have _t := t8; go_at_call 13; refine (HCT.out _ HFc.out).mono ?_; rintro e x8 ⟨rfl, hFn⟩
                   replace HFc := Lib.hid (HFc.out.trans hFn (by simp)); replace e0 := cellF hFn e0; replace e1 := cellF hFn e1; replace e2 := cellF hFn e2; replace e3 := cellF hFn e3; replace e4 := cellF hFn e4; clear hFn t8))
              have HPT := Lib.hid (path_calls (HT1.out.fr HFc.out) HG.out y)
              go_upto_region 19 with (first
                | (go_at_call 15; refine HPT.out.mono ?_; rintro e y1 ⟨v1, rfl, hO1, hF1⟩
                   obtain ⟨A1, d1, rfl⟩ := hO1.formN HLN.out
                   replace HFc := Lib.hid (HFc.out.trans hF1 (by simp))
                   replace e3 := cellF hF1 e3
                   have HO1 := Lib.hid hO1
                   clear hO1 hF1 HPT e0 e1 e2 e4))
              obtain ⟨g1, rfl, hc1⟩ := OwnI.at (A := A1) (c := d1) (l := t.path y) (by rw [HLN.out]; exact HO1.out) K (by rw [HLN.out]; omega)
              obtain ⟨g1', he1', hc0⟩ := OwnI.at (A := some ⟨g1, 0, none⟩) (c := d1) (l := t.path y) (by rw [HLN.out]; exact HO1.out) 0 (by rw [HLN.out]; omega)
              injection he1' with he1'
              injection he1' with he1'
              subst he1'
              rw [HLAST.out] at hc1
              have HSF : Hid (∀ W, Fr [] y1 W → W.cell? ⟨g8, 3, none⟩ = some (.int .i64 0) ∧ W.cell? ⟨g1, K, none⟩ = some (.int .i64 y) ∧ W.cell? ⟨g1, 0, none⟩ = some (.int .i64 ((t.path y).getD 0 0))) := fun W hW => ⟨cellF hW e3, cellF hW hc1, cellF hW hc0⟩
              have HCB1 : Hid (∀ W, Fr [] y1 W → Calls Try.prog 23 #[.pointer (some ⟨p, 0, none⟩), .int .i64 y, .int .i64 1] W fun e w' => e = .returned (.int .i64 0) ∧ Fr [] W w') := fun W hW => by
                rw [← HPf.out]
                have := back_calls (HT1.out.fr (HFc.out.trans hW (by simp))) HG.out y 1
                rw [HST.out.one] at this; exact this
              have HCB2 : Hid (∀ W, Fr [] y1 W → Calls Try.prog 23 #[.pointer (some ⟨p, 0, none⟩), .int .i64 y, .int .i64 ((K : Int) + 1)] W fun e w' => e = .returned (.int .i64 0) ∧ Fr [] W w') := fun W hW => by
                have := back_calls (HT1.out.fr (HFc.out.trans hW (by simp))) HG.out y ((K : Int) + 1)
                rw [← HHI.out, HST.out.all] at this; rw [← HHI.out]; exact this
              have HCB3 : Hid (∀ W, Fr [] y1 W → Calls Try.prog 23 #[.pointer (some ⟨p, 0, none⟩), .int .i64 y, .int .i64 (K : Int)] W fun e w' => e = .returned (.int .i64 ((t.path y).getD 0 0)) ∧ Fr [] W w') := fun W hW => by
                have := back_calls (HT1.out.fr (HFc.out.trans hW (by simp))) HG.out y (K : Int)
                have e : (K : Int) = t.high y - 1 := by rw [HHI.out]; omega
                rw [e, HST.out.first] at this; rw [e]; exact this
              have HD0 : Hid (Fr [] y1 y1.drew) := (Fr.refl _ _).drew
              have hSD := HSF.out _ HD0.out
              generalize hz : (t.path y).getD 0 0 = z at *
              have HZ := Lib.hid hz
              clear e3 hc1 hc0 hz
              have hi1 : (0 : Int) ≤ (K : Int) := by omega
              have hi2 : (K : Int) < (K : Int) + 1 := by omega
              have hi3 : IntKind.i64.wrap (K : Int) = (K : Int) := iwr _ (by omega)
              have hi4 : (0 : Int) < (K : Int) + 1 := by omega
              have hi5 : K < K + 1 := by omega
              have hi6 : ¬ ((K : Int) + 1 ≤ (K : Int)) := by omega
              have hi7 : ¬ ((K : Int) < 0) := by omega
              go_region_held3 (fun W => W.cell? ⟨g8, 3, none⟩ = some (.int .i64 0) ∧ W.cell? ⟨g1, K, none⟩ = some (.int .i64 y) ∧ W.cell? ⟨g1, 0, none⟩ = some (.int .i64 z))
                (assumption)
                (first
                  | (go_at_call 23; refine (HCB1.out _ HD0.out).mono ?_; rintro e z1 ⟨rfl, hF1⟩; have HD1 := Lib.hid (HD0.out.trans hF1 (by simp)); have hS1 := HSF.out _ HD1.out; clear hF1 HCB1)
                  | (go_at_call 23; refine (HCB2.out _ HD1.out).mono ?_; rintro e z2 ⟨rfl, hF2⟩; have HD2 := Lib.hid (HD1.out.trans hF2 (by simp)); have hS2 := HSF.out _ HD2.out; clear hF2 HCB2)
                  | (go_at_call 23; refine (HCB3.out _ HD2.out).mono ?_; rintro e z3 ⟨rfl, hF3⟩; have HD3 := Lib.hid (HD2.out.trans hF3 (by simp)); have hS3 := HSF.out _ HD3.out; clear hF3 HCB3))
              all_goals
                go_wp2
                obtain ⟨m3, rfl⟩ : ∃ m3, m2 = m3 + 1 := ⟨m2 - 1, by omega⟩
                go_roundg m3
                case rel => exact ⟨m3, k + 1, rfl, by go_num, by omega, (HFR1.out.trans HFc.out (by simp)).trans HD3.out (by simp)⟩
                case measure => omega
            · have hEQb : ((K : Int) + 1 == t.high t.tip) = false := by simp only [beq_eq_false_iff_ne]; exact fun e => hEQ e.symm
              clear hEQ
              have t1 : True := trivial
              have t2 : True := trivial
              have t3 : True := trivial
              have t4 : True := trivial
              have t5 : True := trivial
              have t6 : True := trivial
              have t7 : True := trivial
              go_upto_region 18 with (first
                | (have _t := t1; go_at_call 14; refine (HCY.out _ HFc.out).mono ?_; rintro e x1 ⟨rfl, hFn⟩
                   replace HFc := Lib.hid (HFc.out.trans hFn (by simp)); replace e0 := cellF hFn e0; replace e1 := cellF hFn e1; replace e2 := cellF hFn e2; replace e3 := cellF hFn e3; replace e4 := cellF hFn e4; clear hFn t1)
                | (have _t := t2; go_at_call 22; refine (HCN.out _ HFc.out).mono ?_; rintro e x2 ⟨rfl, hFn⟩
                   replace HFc := Lib.hid (HFc.out.trans hFn (by simp)); replace e0 := cellF hFn e0; replace e1 := cellF hFn e1; replace e2 := cellF hFn e2; replace e3 := cellF hFn e3; replace e4 := cellF hFn e4; clear hFn t2)
                | (have _t := t3; go_at_call 14; refine (HCH.out _ HFc.out).mono ?_; rintro e x3 ⟨rfl, hFn⟩
                   replace HFc := Lib.hid (HFc.out.trans hFn (by simp)); replace e0 := cellF hFn e0; replace e1 := cellF hFn e1; replace e2 := cellF hFn e2; replace e3 := cellF hFn e3; replace e4 := cellF hFn e4; clear hFn t3)
                | (have _t := t4; go_at_call 13; refine (HCT.out _ HFc.out).mono ?_; rintro e x4 ⟨rfl, hFn⟩
                   replace HFc := Lib.hid (HFc.out.trans hFn (by simp)); replace e0 := cellF hFn e0; replace e1 := cellF hFn e1; replace e2 := cellF hFn e2; replace e3 := cellF hFn e3; replace e4 := cellF hFn e4; clear hFn t4)
                | (have _t := t5; go_at_call 14; refine (HCU.out _ HFc.out).mono ?_; rintro e x5 ⟨rfl, hFn⟩
                   replace HFc := Lib.hid (HFc.out.trans hFn (by simp)); replace e0 := cellF hFn e0; replace e1 := cellF hFn e1; replace e2 := cellF hFn e2; replace e3 := cellF hFn e3; replace e4 := cellF hFn e4; clear hFn t5)
                | (have _t := t6; go_at_call 13; refine (HCT.out _ HFc.out).mono ?_; rintro e x6 ⟨rfl, hFn⟩
                   replace HFc := Lib.hid (HFc.out.trans hFn (by simp)); replace e0 := cellF hFn e0; replace e1 := cellF hFn e1; replace e2 := cellF hFn e2; replace e3 := cellF hFn e3; replace e4 := cellF hFn e4; clear hFn t6)
                | (have _t := t7; go_at_call 14; refine (HCU.out _ HFc.out).mono ?_; rintro e x7 ⟨rfl, hFn⟩
                   replace HFc := Lib.hid (HFc.out.trans hFn (by simp)); replace e0 := cellF hFn e0; replace e1 := cellF hFn e1; replace e2 := cellF hFn e2; replace e3 := cellF hFn e3; replace e4 := cellF hFn e4; clear hFn t7))
              have HPT := Lib.hid (path_calls (HT1.out.fr HFc.out) HG.out y)
              go_upto_region 19 with (first
                | (go_at_call 15; refine HPT.out.mono ?_; rintro e y1 ⟨v1, rfl, hO1, hF1⟩
                   obtain ⟨A1, d1, rfl⟩ := hO1.formN HLN.out
                   replace HFc := Lib.hid (HFc.out.trans hF1 (by simp))
                   replace e3 := cellF hF1 e3
                   have HO1 := Lib.hid hO1
                   clear hO1 hF1 HPT e0 e1 e2 e4))
              obtain ⟨g1, rfl, hc1⟩ := OwnI.at (A := A1) (c := d1) (l := t.path y) (by rw [HLN.out]; exact HO1.out) K (by rw [HLN.out]; omega)
              obtain ⟨g1', he1', hc0⟩ := OwnI.at (A := some ⟨g1, 0, none⟩) (c := d1) (l := t.path y) (by rw [HLN.out]; exact HO1.out) 0 (by rw [HLN.out]; omega)
              injection he1' with he1'
              injection he1' with he1'
              subst he1'
              rw [HLAST.out] at hc1
              have HSF : Hid (∀ W, Fr [] y1 W → W.cell? ⟨g8, 3, none⟩ = some (.int .i64 0) ∧ W.cell? ⟨g1, K, none⟩ = some (.int .i64 y) ∧ W.cell? ⟨g1, 0, none⟩ = some (.int .i64 ((t.path y).getD 0 0))) := fun W hW => ⟨cellF hW e3, cellF hW hc1, cellF hW hc0⟩
              have HCB1 : Hid (∀ W, Fr [] y1 W → Calls Try.prog 23 #[.pointer (some ⟨p, 0, none⟩), .int .i64 y, .int .i64 1] W fun e w' => e = .returned (.int .i64 0) ∧ Fr [] W w') := fun W hW => by
                rw [← HPf.out]
                have := back_calls (HT1.out.fr (HFc.out.trans hW (by simp))) HG.out y 1
                rw [HST.out.one] at this; exact this
              have HCB2 : Hid (∀ W, Fr [] y1 W → Calls Try.prog 23 #[.pointer (some ⟨p, 0, none⟩), .int .i64 y, .int .i64 ((K : Int) + 1)] W fun e w' => e = .returned (.int .i64 0) ∧ Fr [] W w') := fun W hW => by
                have := back_calls (HT1.out.fr (HFc.out.trans hW (by simp))) HG.out y ((K : Int) + 1)
                rw [← HHI.out, HST.out.all] at this; rw [← HHI.out]; exact this
              have HCB3 : Hid (∀ W, Fr [] y1 W → Calls Try.prog 23 #[.pointer (some ⟨p, 0, none⟩), .int .i64 y, .int .i64 (K : Int)] W fun e w' => e = .returned (.int .i64 ((t.path y).getD 0 0)) ∧ Fr [] W w') := fun W hW => by
                have := back_calls (HT1.out.fr (HFc.out.trans hW (by simp))) HG.out y (K : Int)
                have e : (K : Int) = t.high y - 1 := by rw [HHI.out]; omega
                rw [e, HST.out.first] at this; rw [e]; exact this
              have HD0 : Hid (Fr [] y1 y1.drew) := (Fr.refl _ _).drew
              have hSD := HSF.out _ HD0.out
              generalize hz : (t.path y).getD 0 0 = z at *
              have HZ := Lib.hid hz
              clear e3 hc1 hc0 hz
              have hi1 : (0 : Int) ≤ (K : Int) := by omega
              have hi2 : (K : Int) < (K : Int) + 1 := by omega
              have hi3 : IntKind.i64.wrap (K : Int) = (K : Int) := iwr _ (by omega)
              have hi4 : (0 : Int) < (K : Int) + 1 := by omega
              have hi5 : K < K + 1 := by omega
              have hi6 : ¬ ((K : Int) + 1 ≤ (K : Int)) := by omega
              have hi7 : ¬ ((K : Int) < 0) := by omega
              go_region_held3 (fun W => W.cell? ⟨g8, 3, none⟩ = some (.int .i64 0) ∧ W.cell? ⟨g1, K, none⟩ = some (.int .i64 y) ∧ W.cell? ⟨g1, 0, none⟩ = some (.int .i64 z))
                (assumption)
                (first
                  | (go_at_call 23; refine (HCB1.out _ HD0.out).mono ?_; rintro e z1 ⟨rfl, hF1⟩; have HD1 := Lib.hid (HD0.out.trans hF1 (by simp)); have hS1 := HSF.out _ HD1.out; clear hF1 HCB1)
                  | (go_at_call 23; refine (HCB2.out _ HD1.out).mono ?_; rintro e z2 ⟨rfl, hF2⟩; have HD2 := Lib.hid (HD1.out.trans hF2 (by simp)); have hS2 := HSF.out _ HD2.out; clear hF2 HCB2)
                  | (go_at_call 23; refine (HCB3.out _ HD2.out).mono ?_; rintro e z3 ⟨rfl, hF3⟩; have HD3 := Lib.hid (HD2.out.trans hF3 (by simp)); have hS3 := HSF.out _ HD3.out; clear hF3 HCB3))
              all_goals
                go_wp2
                obtain ⟨m3, rfl⟩ : ∃ m3, m2 = m3 + 1 := ⟨m2 - 1, by omega⟩
                go_roundg m3
                case rel => exact ⟨m3, k + 1, rfl, by go_num, by omega, (HFR1.out.trans HFc.out (by simp)).trans HD3.out (by simp)⟩
                case measure => omega

          ·
            have hpt : t.has P = true := by rw [← HPf.out] at hp0 ⊢; exact HST.out.par.resolve_left hp0
            clear hp0
            have HCP : Hid (∀ W, Fr [] W1 W → Calls Try.prog 19 #[.pointer (some ⟨p, 0, none⟩), .int .i64 P] W fun e w' => e = .returned (.bool true) ∧ Fr [] W w') := fun W hW => by
              have := has_calls (HT1.out.fr hW) P; rw [hpt] at this; exact this
            have hpnb : (P != 0) = true := by simp only [bne_iff_ne, ne_eq]; intro e; rw [e, HG.out.ok.no_zero] at hpt; cases hpt
            clear hpt
            by_cases hEQ : t.high t.tip = (K : Int) + 1
            · have htl : t.tip ≤ y := HST.out.tie (by rw [HHI.out, hEQ])
              clear hle
              have t1 : True := trivial
              have t2 : True := trivial
              have t3 : True := trivial
              have t4 : True := trivial
              have t5 : True := trivial
              have t6 : True := trivial
              have t7 : True := trivial
              have t8 : True := trivial
              have t9 : True := trivial
              go_upto_region 18 with (first
                | (have _t := t1; go_at_call 14; refine (HCY.out _ HFc.out).mono ?_; rintro e x1 ⟨rfl, hFn⟩
                   replace HFc := Lib.hid (HFc.out.trans hFn (by simp)); replace e0 := cellF hFn e0; replace e1 := cellF hFn e1; replace e2 := cellF hFn e2; replace e3 := cellF hFn e3; replace e4 := cellF hFn e4; clear hFn t1)
                | (have _t := t2; go_at_call 22; refine (HCN.out _ HFc.out).mono ?_; rintro e x2 ⟨rfl, hFn⟩
                   replace HFc := Lib.hid (HFc.out.trans hFn (by simp)); replace e0 := cellF hFn e0; replace e1 := cellF hFn e1; replace e2 := cellF hFn e2; replace e3 := cellF hFn e3; replace e4 := cellF hFn e4; clear hFn t2)
                | (have _t := t3; go_at_call 19; refine (HCP.out _ HFc.out).mono ?_; rintro e x3 ⟨rfl, hFn⟩
                   replace HFc := Lib.hid (HFc.out.trans hFn (by simp)); replace e0 := cellF hFn e0; replace e1 := cellF hFn e1; replace e2 := cellF hFn e2; replace e3 := cellF hFn e3; replace e4 := cellF hFn e4; clear hFn t3)
                | (have _t := t4; go_at_call 14; refine (HCH.out _ HFc.out).mono ?_; rintro e x4 ⟨rfl, hFn⟩
                   replace HFc := Lib.hid (HFc.out.trans hFn (by simp)); replace e0 := cellF hFn e0; replace e1 := cellF hFn e1; replace e2 := cellF hFn e2; replace e3 := cellF hFn e3; replace e4 := cellF hFn e4; clear hFn t4)
                | (have _t := t5; go_at_call 13; refine (HCT.out _ HFc.out).mono ?_; rintro e x5 ⟨rfl, hFn⟩
                   replace HFc := Lib.hid (HFc.out.trans hFn (by simp)); replace e0 := cellF hFn e0; replace e1 := cellF hFn e1; replace e2 := cellF hFn e2; replace e3 := cellF hFn e3; replace e4 := cellF hFn e4; clear hFn t5)
                | (have _t := t6; go_at_call 14; refine (HCU.out _ HFc.out).mono ?_; rintro e x6 ⟨rfl, hFn⟩
                   replace HFc := Lib.hid (HFc.out.trans hFn (by simp)); replace e0 := cellF hFn e0; replace e1 := cellF hFn e1; replace e2 := cellF hFn e2; replace e3 := cellF hFn e3; replace e4 := cellF hFn e4; clear hFn t6)
                | (have _t := t7; go_at_call 13; refine (HCT.out _ HFc.out).mono ?_; rintro e x7 ⟨rfl, hFn⟩
                   replace HFc := Lib.hid (HFc.out.trans hFn (by simp)); replace e0 := cellF hFn e0; replace e1 := cellF hFn e1; replace e2 := cellF hFn e2; replace e3 := cellF hFn e3; replace e4 := cellF hFn e4; clear hFn t7)
                | (have _t := t8; go_at_call 14; refine (HCU.out _ HFc.out).mono ?_; rintro e x8 ⟨rfl, hFn⟩
                   replace HFc := Lib.hid (HFc.out.trans hFn (by simp)); replace e0 := cellF hFn e0; replace e1 := cellF hFn e1; replace e2 := cellF hFn e2; replace e3 := cellF hFn e3; replace e4 := cellF hFn e4; clear hFn t8)
                | (have _t := t9; go_at_call 13; refine (HCT.out _ HFc.out).mono ?_; rintro e x9 ⟨rfl, hFn⟩
                   replace HFc := Lib.hid (HFc.out.trans hFn (by simp)); replace e0 := cellF hFn e0; replace e1 := cellF hFn e1; replace e2 := cellF hFn e2; replace e3 := cellF hFn e3; replace e4 := cellF hFn e4; clear hFn t9))
              have HPT := Lib.hid (path_calls (HT1.out.fr HFc.out) HG.out y)
              go_upto_region 19 with (first
                | (go_at_call 15; refine HPT.out.mono ?_; rintro e y1 ⟨v1, rfl, hO1, hF1⟩
                   obtain ⟨A1, d1, rfl⟩ := hO1.formN HLN.out
                   replace HFc := Lib.hid (HFc.out.trans hF1 (by simp))
                   replace e3 := cellF hF1 e3
                   have HO1 := Lib.hid hO1
                   clear hO1 hF1 HPT e0 e1 e2 e4))
              obtain ⟨g1, rfl, hc1⟩ := OwnI.at (A := A1) (c := d1) (l := t.path y) (by rw [HLN.out]; exact HO1.out) K (by rw [HLN.out]; omega)
              obtain ⟨g1', he1', hc0⟩ := OwnI.at (A := some ⟨g1, 0, none⟩) (c := d1) (l := t.path y) (by rw [HLN.out]; exact HO1.out) 0 (by rw [HLN.out]; omega)
              injection he1' with he1'
              injection he1' with he1'
              subst he1'
              rw [HLAST.out] at hc1
              have HSF : Hid (∀ W, Fr [] y1 W → W.cell? ⟨g8, 3, none⟩ = some (.int .i64 P) ∧ W.cell? ⟨g1, K, none⟩ = some (.int .i64 y) ∧ W.cell? ⟨g1, 0, none⟩ = some (.int .i64 ((t.path y).getD 0 0))) := fun W hW => ⟨cellF hW e3, cellF hW hc1, cellF hW hc0⟩
              have HCB1 : Hid (∀ W, Fr [] y1 W → Calls Try.prog 23 #[.pointer (some ⟨p, 0, none⟩), .int .i64 y, .int .i64 1] W fun e w' => e = .returned (.int .i64 P) ∧ Fr [] W w') := fun W hW => by
                rw [← HPf.out]
                have := back_calls (HT1.out.fr (HFc.out.trans hW (by simp))) HG.out y 1
                rw [HST.out.one] at this; exact this
              have HCB2 : Hid (∀ W, Fr [] y1 W → Calls Try.prog 23 #[.pointer (some ⟨p, 0, none⟩), .int .i64 y, .int .i64 ((K : Int) + 1)] W fun e w' => e = .returned (.int .i64 0) ∧ Fr [] W w') := fun W hW => by
                have := back_calls (HT1.out.fr (HFc.out.trans hW (by simp))) HG.out y ((K : Int) + 1)
                rw [← HHI.out, HST.out.all] at this; rw [← HHI.out]; exact this
              have HCB3 : Hid (∀ W, Fr [] y1 W → Calls Try.prog 23 #[.pointer (some ⟨p, 0, none⟩), .int .i64 y, .int .i64 (K : Int)] W fun e w' => e = .returned (.int .i64 ((t.path y).getD 0 0)) ∧ Fr [] W w') := fun W hW => by
                have := back_calls (HT1.out.fr (HFc.out.trans hW (by simp))) HG.out y (K : Int)
                have e : (K : Int) = t.high y - 1 := by rw [HHI.out]; omega
                rw [e, HST.out.first] at this; rw [e]; exact this
              have HD0 : Hid (Fr [] y1 y1.drew) := (Fr.refl _ _).drew
              have hSD := HSF.out _ HD0.out
              generalize hz : (t.path y).getD 0 0 = z at *
              have HZ := Lib.hid hz
              clear e3 hc1 hc0 hz
              have hi1 : (0 : Int) ≤ (K : Int) := by omega
              have hi2 : (K : Int) < (K : Int) + 1 := by omega
              have hi3 : IntKind.i64.wrap (K : Int) = (K : Int) := iwr _ (by omega)
              have hi4 : (0 : Int) < (K : Int) + 1 := by omega
              have hi5 : K < K + 1 := by omega
              have hi6 : ¬ ((K : Int) + 1 ≤ (K : Int)) := by omega
              have hi7 : ¬ ((K : Int) < 0) := by omega
              go_region_held3 (fun W => W.cell? ⟨g8, 3, none⟩ = some (.int .i64 P) ∧ W.cell? ⟨g1, K, none⟩ = some (.int .i64 y) ∧ W.cell? ⟨g1, 0, none⟩ = some (.int .i64 z))
                (assumption)
                (first
                  | (go_at_call 23; refine (HCB1.out _ HD0.out).mono ?_; rintro e z1 ⟨rfl, hF1⟩; have HD1 := Lib.hid (HD0.out.trans hF1 (by simp)); have hS1 := HSF.out _ HD1.out; clear hF1 HCB1)
                  | (go_at_call 23; refine (HCB2.out _ HD1.out).mono ?_; rintro e z2 ⟨rfl, hF2⟩; have HD2 := Lib.hid (HD1.out.trans hF2 (by simp)); have hS2 := HSF.out _ HD2.out; clear hF2 HCB2)
                  | (go_at_call 23; refine (HCB3.out _ HD2.out).mono ?_; rintro e z3 ⟨rfl, hF3⟩; have HD3 := Lib.hid (HD2.out.trans hF3 (by simp)); have hS3 := HSF.out _ HD3.out; clear hF3 HCB3))
              all_goals
                go_wp2
                obtain ⟨m3, rfl⟩ : ∃ m3, m2 = m3 + 1 := ⟨m2 - 1, by omega⟩
                go_roundg m3
                case rel => exact ⟨m3, k + 1, rfl, by go_num, by omega, (HFR1.out.trans HFc.out (by simp)).trans HD3.out (by simp)⟩
                case measure => omega
            · have hEQb : ((K : Int) + 1 == t.high t.tip) = false := by simp only [beq_eq_false_iff_ne]; exact fun e => hEQ e.symm
              clear hEQ
              have t1 : True := trivial
              have t2 : True := trivial
              have t3 : True := trivial
              have t4 : True := trivial
              have t5 : True := trivial
              have t6 : True := trivial
              have t7 : True := trivial
              have t8 : True := trivial
              go_upto_region 18 with (first
                | (have _t := t1; go_at_call 14; refine (HCY.out _ HFc.out).mono ?_; rintro e x1 ⟨rfl, hFn⟩
                   replace HFc := Lib.hid (HFc.out.trans hFn (by simp)); replace e0 := cellF hFn e0; replace e1 := cellF hFn e1; replace e2 := cellF hFn e2; replace e3 := cellF hFn e3; replace e4 := cellF hFn e4; clear hFn t1)
                | (have _t := t2; go_at_call 22; refine (HCN.out _ HFc.out).mono ?_; rintro e x2 ⟨rfl, hFn⟩
                   replace HFc := Lib.hid (HFc.out.trans hFn (by simp)); replace e0 := cellF hFn e0; replace e1 := cellF hFn e1; replace e2 := cellF hFn e2; replace e3 := cellF hFn e3; replace e4 := cellF hFn e4; clear hFn t2)
                | (have _t := t3; go_at_call 19; refine (HCP.out _ HFc.out).mono ?_; rintro e x3 ⟨rfl, hFn⟩
                   replace HFc := Lib.hid (HFc.out.trans hFn (by simp)); replace e0 := cellF hFn e0; replace e1 := cellF hFn e1; replace e2 := cellF hFn e2; replace e3 := cellF hFn e3; replace e4 := cellF hFn e4; clear hFn t3)
                | (have _t := t4; go_at_call 14; refine (HCH.out _ HFc.out).mono ?_; rintro e x4 ⟨rfl, hFn⟩
                   replace HFc := Lib.hid (HFc.out.trans hFn (by simp)); replace e0 := cellF hFn e0; replace e1 := cellF hFn e1; replace e2 := cellF hFn e2; replace e3 := cellF hFn e3; replace e4 := cellF hFn e4; clear hFn t4)
                | (have _t := t5; go_at_call 13; refine (HCT.out _ HFc.out).mono ?_; rintro e x5 ⟨rfl, hFn⟩
                   replace HFc := Lib.hid (HFc.out.trans hFn (by simp)); replace e0 := cellF hFn e0; replace e1 := cellF hFn e1; replace e2 := cellF hFn e2; replace e3 := cellF hFn e3; replace e4 := cellF hFn e4; clear hFn t5)
                | (have _t := t6; go_at_call 14; refine (HCU.out _ HFc.out).mono ?_; rintro e x6 ⟨rfl, hFn⟩
                   replace HFc := Lib.hid (HFc.out.trans hFn (by simp)); replace e0 := cellF hFn e0; replace e1 := cellF hFn e1; replace e2 := cellF hFn e2; replace e3 := cellF hFn e3; replace e4 := cellF hFn e4; clear hFn t6)
                | (have _t := t7; go_at_call 13; refine (HCT.out _ HFc.out).mono ?_; rintro e x7 ⟨rfl, hFn⟩
                   replace HFc := Lib.hid (HFc.out.trans hFn (by simp)); replace e0 := cellF hFn e0; replace e1 := cellF hFn e1; replace e2 := cellF hFn e2; replace e3 := cellF hFn e3; replace e4 := cellF hFn e4; clear hFn t7)
                | (have _t := t8; go_at_call 14; refine (HCU.out _ HFc.out).mono ?_; rintro e x8 ⟨rfl, hFn⟩
                   replace HFc := Lib.hid (HFc.out.trans hFn (by simp)); replace e0 := cellF hFn e0; replace e1 := cellF hFn e1; replace e2 := cellF hFn e2; replace e3 := cellF hFn e3; replace e4 := cellF hFn e4; clear hFn t8))
              have HPT := Lib.hid (path_calls (HT1.out.fr HFc.out) HG.out y)
              go_upto_region 19 with (first
                | (go_at_call 15; refine HPT.out.mono ?_; rintro e y1 ⟨v1, rfl, hO1, hF1⟩
                   obtain ⟨A1, d1, rfl⟩ := hO1.formN HLN.out
                   replace HFc := Lib.hid (HFc.out.trans hF1 (by simp))
                   replace e3 := cellF hF1 e3
                   have HO1 := Lib.hid hO1
                   clear hO1 hF1 HPT e0 e1 e2 e4))
              obtain ⟨g1, rfl, hc1⟩ := OwnI.at (A := A1) (c := d1) (l := t.path y) (by rw [HLN.out]; exact HO1.out) K (by rw [HLN.out]; omega)
              obtain ⟨g1', he1', hc0⟩ := OwnI.at (A := some ⟨g1, 0, none⟩) (c := d1) (l := t.path y) (by rw [HLN.out]; exact HO1.out) 0 (by rw [HLN.out]; omega)
              injection he1' with he1'
              injection he1' with he1'
              subst he1'
              rw [HLAST.out] at hc1
              have HSF : Hid (∀ W, Fr [] y1 W → W.cell? ⟨g8, 3, none⟩ = some (.int .i64 P) ∧ W.cell? ⟨g1, K, none⟩ = some (.int .i64 y) ∧ W.cell? ⟨g1, 0, none⟩ = some (.int .i64 ((t.path y).getD 0 0))) := fun W hW => ⟨cellF hW e3, cellF hW hc1, cellF hW hc0⟩
              have HCB1 : Hid (∀ W, Fr [] y1 W → Calls Try.prog 23 #[.pointer (some ⟨p, 0, none⟩), .int .i64 y, .int .i64 1] W fun e w' => e = .returned (.int .i64 P) ∧ Fr [] W w') := fun W hW => by
                rw [← HPf.out]
                have := back_calls (HT1.out.fr (HFc.out.trans hW (by simp))) HG.out y 1
                rw [HST.out.one] at this; exact this
              have HCB2 : Hid (∀ W, Fr [] y1 W → Calls Try.prog 23 #[.pointer (some ⟨p, 0, none⟩), .int .i64 y, .int .i64 ((K : Int) + 1)] W fun e w' => e = .returned (.int .i64 0) ∧ Fr [] W w') := fun W hW => by
                have := back_calls (HT1.out.fr (HFc.out.trans hW (by simp))) HG.out y ((K : Int) + 1)
                rw [← HHI.out, HST.out.all] at this; rw [← HHI.out]; exact this
              have HCB3 : Hid (∀ W, Fr [] y1 W → Calls Try.prog 23 #[.pointer (some ⟨p, 0, none⟩), .int .i64 y, .int .i64 (K : Int)] W fun e w' => e = .returned (.int .i64 ((t.path y).getD 0 0)) ∧ Fr [] W w') := fun W hW => by
                have := back_calls (HT1.out.fr (HFc.out.trans hW (by simp))) HG.out y (K : Int)
                have e : (K : Int) = t.high y - 1 := by rw [HHI.out]; omega
                rw [e, HST.out.first] at this; rw [e]; exact this
              have HD0 : Hid (Fr [] y1 y1.drew) := (Fr.refl _ _).drew
              have hSD := HSF.out _ HD0.out
              generalize hz : (t.path y).getD 0 0 = z at *
              have HZ := Lib.hid hz
              clear e3 hc1 hc0 hz
              have hi1 : (0 : Int) ≤ (K : Int) := by omega
              have hi2 : (K : Int) < (K : Int) + 1 := by omega
              have hi3 : IntKind.i64.wrap (K : Int) = (K : Int) := iwr _ (by omega)
              have hi4 : (0 : Int) < (K : Int) + 1 := by omega
              have hi5 : K < K + 1 := by omega
              have hi6 : ¬ ((K : Int) + 1 ≤ (K : Int)) := by omega
              have hi7 : ¬ ((K : Int) < 0) := by omega
              go_region_held3 (fun W => W.cell? ⟨g8, 3, none⟩ = some (.int .i64 P) ∧ W.cell? ⟨g1, K, none⟩ = some (.int .i64 y) ∧ W.cell? ⟨g1, 0, none⟩ = some (.int .i64 z))
                (assumption)
                (first
                  | (go_at_call 23; refine (HCB1.out _ HD0.out).mono ?_; rintro e z1 ⟨rfl, hF1⟩; have HD1 := Lib.hid (HD0.out.trans hF1 (by simp)); have hS1 := HSF.out _ HD1.out; clear hF1 HCB1)
                  | (go_at_call 23; refine (HCB2.out _ HD1.out).mono ?_; rintro e z2 ⟨rfl, hF2⟩; have HD2 := Lib.hid (HD1.out.trans hF2 (by simp)); have hS2 := HSF.out _ HD2.out; clear hF2 HCB2)
                  | (go_at_call 23; refine (HCB3.out _ HD2.out).mono ?_; rintro e z3 ⟨rfl, hF3⟩; have HD3 := Lib.hid (HD2.out.trans hF3 (by simp)); have hS3 := HSF.out _ HD3.out; clear hF3 HCB3))
              all_goals
                go_wp2
                obtain ⟨m3, rfl⟩ : ∃ m3, m2 = m3 + 1 := ⟨m2 - 1, by omega⟩
                go_roundg m3
                case rel => exact ⟨m3, k + 1, rfl, by go_num, by omega, (HFR1.out.trans HFc.out (by simp)).trans HD3.out (by simp)⟩
                case measure => omega

        · have HWA := Lib.hid (waiting_calls (HTN.out.fr HFE.out) HG.out.wt)
          have hw16 : (t.wait.length : Int) ≤ 16 := by have := HG.out.wl; omega
          go_wp2_with (go_at_call 20; refine HWA.out.mono ?_; rintro e y9 ⟨v9, rfl, hO9, hF9⟩; obtain ⟨A9, d9, rfl⟩ := hO9.formN (N := t.wait.length) (by simp); have HF9 := Lib.hid hF9; clear hF9 hO9 HWA)
          exact hR.out _ _ ⟨rfl, (HFwN.out.trans HFE.out (by simp)).trans HF9.out (by simp)⟩
end Go.Np.Try
