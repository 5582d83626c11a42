/- A text that the row of ChainGrows needs. (Pruned by tools/prune.py.) -/
import Derived.Test.YtlllhpnpgcphcaaQChainGrowsLine
set_option linter.unusedVariables false
set_option linter.unusedSimpArgs false
namespace Go.Np.Try
open Go.RowKit Go.Proofs Go.Proofs.Ytlllhpnpgcphcaa.PX Go.Proofs.YtlllhpnpgcphcaaW.PrintWords
theorem who_made (w : World) : (Kd.int .i64).C (w.alloc (.cells #[.int .i64 0, .int .i64 1, .int .i64 2, .int .i64 3, .int .i64 4, .int .i64 5, .int .i64 6] 3)) (some ⟨w.heap.size, 0, none⟩) 7 whoL := by
  have h : OwnI w.heap.size (w.alloc (.cells #[.int .i64 0, .int .i64 1, .int .i64 2, .int .i64 3, .int .i64 4, .int .i64 5, .int .i64 6] 3)) (.slice (some ⟨w.heap.size, 0, none⟩) 7 7) whoL :=
    ⟨⟨rfl, .inr ⟨w.heap.size, 7, #[.int .i64 0, .int .i64 1, .int .i64 2, .int .i64 3, .int .i64 4, .int .i64 5, .int .i64 6], rfl, Nat.zero_le _, heap_alloc_new w _, Nat.le_refl _, by decide, rfl, rfl⟩⟩, fun k hk => by simp [Value.ownBlock] at hk; omega⟩
  obtain ⟨A, c, e, _, h2⟩ := h.sl
  injection e with e1 _ _
  rw [e1]; exact h2
set_option maxHeartbeats 8000000 in
set_option maxRecDepth 100000 in
theorem ChainGrows_walk (w : World) (Ad : Option Addr) (cd : Nat) (dr : List Int) (hd : (Kd.int .i64).C w Ad dr.length dr) (_m : dr.length ≤ maxLen) (_s : dr.length * 8 ≤ 140737488351232) (_w : ∀ n ∈ dr, (Lit.int .i64 n).wf = true) (hdc : dr.length ≤ cd) (deep : Int) (_wd : (Lit.int .i64 deep).wf = true) :
    Calls Try.prog 8 #[.slice Ad dr.length cd, .int .i64 deep] w fun e w' => e = .returned (.bool true) ∧ Fr [] w w' := by
  obtain ⟨r1, hr1, hSI⟩ := single_calls hd hdc (by omega)
  obtain ⟨r, hr200, hCK⟩ := lotcheck_at (c := cd) hd
  have HDR := Lib.hid (ints_F hd)
  obtain ⟨M, hM⟩ : ∃ M, dr.length = M := ⟨_, rfl⟩
  rw [hM] at hr200 hdc HDR
  simp only [hM] at hCK hSI hr1
  rw [hM]
  have HM := Lib.hid hM
  have HCK := Lib.hid hCK
  have HSI := Lib.hid hSI
  have HAV := Lib.hid (calive_calls (w := w))
  have HWI : Hid (∀ W, Fr [] w W → ∀ s : Int, Calls Try.prog 56 #[.slice Ad M cd, .int .i64 s] W fun e w' => ∃ A1 c1, e = .returned (.slice A1 (winL dr s 7 0).length c1) ∧ (Kd.int .i64).C w' A1 (winL dr s 7 0).length (winL dr s 7 0) ∧ Fr [] W w') := fun W hW s => by
    have h1 := winners_calls (w := W) (A := Ad) (c := cd) (dr := dr) (by rw [HM.out]; exact Kd.F_now (Kd.F_below HDR.out hW.below)) (by rw [HM.out]; exact hdc) s
    rw [HM.out] at h1; exact h1
  refine calls_k fun R hR => ?_
  clear hd hM hCK hSI _w _s _m _wd
  cases r1 with
  | false =>
    go_enter Try.func8, Try.ntmps8
    go_wp2_with (first
    | (go_at_call 43; refine HAV.out.mono ?_; rintro e w1 ⟨rfl, hF1⟩; have HF1 := Lib.hid hF1; clear hF1 HAV)
    | (go_at_call 54; refine (HSI.out _ _ _ (HF1.out.alloc _) (who_made w1) (Nat.le_refl _)).mono ?_; rintro e w2 ⟨rfl, hF2⟩; have HF2 := Lib.hid ((HF1.out.alloc _).trans hF2 (by simp)); clear hF2 HSI)
    | (go_at_call 55; refine (HCK.out _ HF2.out).mono ?_; rintro e w3 ⟨rfl, hF3⟩; have HF3 := Lib.hid (HF2.out.trans hF3 (by simp)); clear hF3 HCK))
    exact hR.out _ _ ⟨rfl, HF2.out⟩
  | true =>
  have HR1 := Lib.hid (hr1 rfl)
  clear hr1
  by_cases hr0 : r = 0
  case neg =>
    have hb1 : (r == 0) = false := by simpa using hr0
    go_enter Try.func8, Try.ntmps8
    go_wp2_with (first
    | (go_at_call 43; refine HAV.out.mono ?_; rintro e w1 ⟨rfl, hF1⟩; have HF1 := Lib.hid hF1; clear hF1 HAV)
    | (go_at_call 54; refine (HSI.out _ _ _ (HF1.out.alloc _) (who_made w1) (Nat.le_refl _)).mono ?_; rintro e w2 ⟨rfl, hF2⟩; have HF2 := Lib.hid ((HF1.out.alloc _).trans hF2 (by simp)); clear hF2 HSI)
    | (go_at_call 55; refine (HCK.out _ HF2.out).mono ?_; rintro e w3 ⟨rfl, hF3⟩; have HF3 := Lib.hid (HF2.out.trans hF3 (by simp)); clear hF3 HCK))
    exact hR.out _ _ ⟨rfl, HF3.out⟩
  subst hr0
  have hM200 := hr200 rfl
  clear hr200
  by_cases hlo : deep < 0
  · have hb2 : decide (deep < 0) = true := decide_eq_true hlo
    go_enter Try.func8, Try.ntmps8
    go_wp2_with (first
    | (go_at_call 43; refine HAV.out.mono ?_; rintro e w1 ⟨rfl, hF1⟩; have HF1 := Lib.hid hF1; clear hF1 HAV)
    | (go_at_call 54; refine (HSI.out _ _ _ (HF1.out.alloc _) (who_made w1) (Nat.le_refl _)).mono ?_; rintro e w2 ⟨rfl, hF2⟩; have HF2 := Lib.hid ((HF1.out.alloc _).trans hF2 (by simp)); clear hF2 HSI)
    | (go_at_call 55; refine (HCK.out _ HF2.out).mono ?_; rintro e w3 ⟨rfl, hF3⟩; have HF3 := Lib.hid (HF2.out.trans hF3 (by simp)); clear hF3 HCK))
    exact hR.out _ _ ⟨rfl, HF3.out⟩
  have hb2 : decide (deep < 0) = false := decide_eq_false hlo
  by_cases hhi : 10 < deep
  · have hb3 : decide (10 < deep) = true := decide_eq_true hhi
    go_enter Try.func8, Try.ntmps8
    go_wp2_with (first
    | (go_at_call 43; refine HAV.out.mono ?_; rintro e w1 ⟨rfl, hF1⟩; have HF1 := Lib.hid hF1; clear hF1 HAV)
    | (go_at_call 54; refine (HSI.out _ _ _ (HF1.out.alloc _) (who_made w1) (Nat.le_refl _)).mono ?_; rintro e w2 ⟨rfl, hF2⟩; have HF2 := Lib.hid ((HF1.out.alloc _).trans hF2 (by simp)); clear hF2 HSI)
    | (go_at_call 55; refine (HCK.out _ HF2.out).mono ?_; rintro e w3 ⟨rfl, hF3⟩; have HF3 := Lib.hid (HF2.out.trans hF3 (by simp)); clear hF3 HCK))
    exact hR.out _ _ ⟨rfl, HF3.out⟩
  have hb3 : decide (10 < deep) = false := decide_eq_false hhi
  have hm1000 : dr.length ≤ 1000 := by rw [HM.out]; omega
  go_enter Try.func8, Try.ntmps8
  go_upto_region 5 with (first
    | (go_at_call 43; refine HAV.out.mono ?_; rintro e w1 ⟨rfl, hF1⟩; have HF1 := Lib.hid hF1; clear hF1 HAV)
    | (go_at_call 54; refine (HSI.out _ _ _ (HF1.out.alloc _) (who_made w1) (Nat.le_refl _)).mono ?_; rintro e w2 ⟨rfl, hF2⟩; have HF2 := Lib.hid ((HF1.out.alloc _).trans hF2 (by simp)); clear hF2 HSI)
    | (go_at_call 55; refine (HCK.out _ HF2.out).mono ?_; rintro e w3 ⟨rfl, hF3⟩; have HF3 := Lib.hid (HF2.out.trans hF3 (by simp)); clear hF3 HCK))
  have HCD : Hid ((Kd.int .i64).C w3 Ad dr.length dr) := by rw [HM.out]; exact Kd.F_now (Kd.F_below HDR.out HF3.out.below)
  rw [← HM.out] at *
  go_upto_region 8 with (first
    | (at_builtin; refine wp_copyI rfl _ _ rfl rfl rfl HCD.out hm1000 ?_; intro A3 c3 w4 hc3 hC3 hF3
       have HF4 := Lib.hid (HF3.out.trans hF3 (by simp))
       have HNEW := Lib.hid (ch_new (c := c3) hC3 (by omega) deep)
       clear hc3 hC3 hF3)
    | (go_at_call 41; refine HNEW.out.mono ?_; rintro e w5 ⟨c, rfl, hc4, hF4⟩
       have HF5 := Lib.hid (HF4.out.trans hF4 (by simp))
       have hX4 : ChAt (fun k => k < w.heap.size) w5 c ⟨⟨[], []⟩, dr, deep, 0⟩ := hc4.less (fun k hk => Nat.lt_of_lt_of_le hk HF4.out.size)
       have HC5 := Lib.hid hX4
       clear hc4 hX4 hF4 HNEW))
  clear HCD HF4 HF3 hb2 hb3
  go_loopg [6, 7, 8] dr.length (fun gn md lv sv wr => ∃ (m j k : Nat) (la : Int) (C : Ch), m = gn ∧ md = .int .i64 k ∧ lv = .int .i64 la ∧ sv = .int .i64 j ∧ m + j = dr.length + 1 ∧ 1 ≤ j ∧ k + 1 ≤ j ∧ Hid (C.t.Line k (j : Int)) ∧ Hid (C.Lst k la) ∧ Hid (C.dr = dr) ∧ Hid (C.deep = deep) ∧ Hid (C.slot < (j : Int)) ∧ Hid (ChAt (fun k => k < w.heap.size) wr c C) ∧ Hid (Fr [] w wr))
  case atStart => exact ⟨_, 1, 0, 0, ⟨⟨[], []⟩, dr, deep, 0⟩, rfl, rfl, rfl, rfl, by omega, by omega, by omega, Tr.Line.empty _, .inl rfl, rfl, rfl, (by show (0 : Int) < ((1 : Nat) : Int); omega), HC5, HF5⟩
  case round =>
    obtain ⟨m, j, k, la, C, rfl, rfl, rfl, rfl, hj, hj1, hkj, HLI, HLS, HDC, HDD, HSL, HC, HF⟩ := hrel
    obtain ⟨wO, rfl⟩ : ∃ wO, wO = wr := ⟨_, rfl⟩
    clear HC5 HF5
    by_cases hlt : j ≤ dr.length
    · obtain ⟨m', rfl⟩ : ∃ m', m = m' + 1 := ⟨m - 1, by omega⟩
      have HNX := Lib.hid (ch_next HC.out (j : Int))
      obtain ⟨C1, hC1⟩ : ∃ C1, C1 = C.next (j : Int) := ⟨_, rfl⟩
      have HS1 : Hid (C1.slot = (j : Int)) := by show _ = _; rw [hC1]; show max C.slot (j : Int) = _; have := HSL.out; omega
      have HLI1 : Hid (C1.t.Line k (j : Int)) := by show Tr.Line _ _ _; rw [hC1]; exact HLI.out
      have HLS1 : Hid (C1.Lst k la) := by show Ch.Lst _ _ _; rw [hC1]; exact HLS.out
      have HDC1 : Hid (C1.dr = dr) := by show _ = _; rw [hC1]; exact HDC.out
      have HDD1 : Hid (C1.deep = deep) := by show _ = _; rw [hC1]; exact HDD.out
      obtain ⟨L, hL⟩ : ∃ L, L = winL dr (j : Int) 7 0 := ⟨_, rfl⟩
      obtain ⟨NL, hNL⟩ : ∃ NL, L.length = NL := ⟨_, rfl⟩
      have hL1 : NL ≤ 1 := by rw [← hNL, hL]; exact HR1.out j (by omega) hlt
      have HLW : Hid (∀ x ∈ L, winsB dr (j : Int) x = true) := by rw [hL]; exact winL_wins dr (j : Int) 7 0
      have HWN : Hid (∀ W, Fr [] w W → Calls Try.prog 56 #[.slice Ad dr.length cd, .int .i64 (j : Int)] W fun e w' => ∃ A1 c1, e = .returned (.slice A1 NL c1) ∧ (Kd.int .i64).C w' A1 NL L ∧ Fr [] W w') := fun W hW => by
        have h := HWI.out W hW (j : Int)
        rw [← hL, hNL] at h; exact h
      rw [← hC1] at HNX
      have HNL := Lib.hid hNL
      clear hC1 hL hNL HLI HLS HDC HDD HSL
      go_upto_region 12 with (first
        | (go_at_call 47; refine HNX.out.mono ?_; rintro e w6 ⟨rfl, hc10, hX10⟩
           have HC6 := Lib.hid hc10
           have HF6 := Lib.hid (hX10.keep (fun k hk => hk) HF.out)
           clear hc10 hX10 HNX)
        | (go_at_call 56; refine (HWN.out _ HF6.out).mono ?_; rintro e w7 ⟨A7, c7, rfl, hC7, hFn⟩
           have HC7 := Lib.hid hC7
           have HF7 := Lib.hid (HF6.out.trans hFn (by simp))
           have HCH7 := Lib.hid (HC6.out.fr hFn)
           clear hFn hC7 HWN))
      clear HF6 HC6 HC HF
      go_loopg [6, 54] NL (fun gn md i wr => ∃ (m2 i2 kk : Nat) (C2 : Ch), m2 = gn ∧ md = .int .i64 kk ∧ i = .int .i64 i2 ∧ m2 + i2 = NL ∧ Hid (kk = k + i2) ∧ Hid (C2.t.Line kk ((j : Int) + (i2 : Int))) ∧ Hid (C2.Lst kk la) ∧ Hid (C2.dr = dr) ∧ Hid (C2.deep = deep) ∧ Hid (C2.slot = (j : Int)) ∧ Hid (ChAt (fun k => k < w.heap.size) wr c C2) ∧ Hid (i2 = 0 → (Kd.int .i64).C wr A7 NL L) ∧ Hid (Fr [] w wr))
      case atStart => exact ⟨_, 0, k, C1, rfl, rfl, rfl, rfl, rfl, (by show Tr.Line _ _ _; simpa using HLI1.out), HLS1, HDC1, HDD1, HS1, HCH7, fun _ => HC7.out, HF7⟩
      case round =>
        obtain ⟨m2, i2, kk, C2, rfl, rfl, rfl, hi2, HKK, HLN, HLT, HDC2, HDD2, HSL2, HC2, HI0, HF2⟩ := hrel
        obtain ⟨wI, rfl⟩ : ∃ wI, wI = wr := ⟨_, rfl⟩
        clear HLI1 HLS1 HDC1 HDD1 HS1 HCH7 HC7 HF7
        by_cases hlti : i2 < NL
        · have hi0 : i2 = 0 := by omega
          obtain ⟨m2', rfl⟩ : ∃ m2', m2 = m2' + 1 := ⟨m2 - 1, by omega⟩
          have hC7 := HI0.out hi0
          rw [← HNL.out] at hC7
          obtain ⟨ad, hA7, hcell⟩ := int_at hC7 i2 (by rw [HNL.out]; exact hlti)
          subst hA7
          obtain ⟨x, hx⟩ : ∃ x, L.getD i2 0 = x := ⟨_, rfl⟩
          have hmem : x ∈ L := by rw [← hx, List.getD_eq_getElem?_getD, List.getElem?_eq_getElem (by rw [HNL.out]; exact hlti)]; exact List.getElem_mem _
          rw [hx] at hcell
          have hwin : winsB C2.dr C2.slot x = true := by rw [HDC2.out, HSL2.out]; exact HLW.out x hmem
          have hs200 : C2.dr.length ≤ 200 := by rw [HDC2.out]; exact hM200
          have hkk4 : kk < 400 := by have := HKK.out; omega
          have hline : C2.t.Line kk C2.slot := by
            have h := HLN.out
            rw [hi0] at h
            rw [HSL2.out]; simpa using h
          have hmk := line_make hline hs200 hwin
          have htk := line_take hline hs200 hkk4 hwin
          obtain ⟨g1, g2, _⟩ := line_grown hline hs200 hkk4 hwin
          have g4 := HLT.out.add (by rw [HDD2.out]; exact hlo) hline hs200 hkk4 hwin
          obtain ⟨nm, hnm⟩ : ∃ nm, nameB (lineB C2 x) = nm := ⟨_, rfl⟩
          obtain ⟨C3, hC3⟩ : ∃ C3, lineC C2 x = C3 := ⟨_, rfl⟩
          have HDC3 : Hid (C3.dr = dr) := by show _ = _; rw [← hC3]; exact HDC2.out
          have HDD3 : Hid (C3.deep = deep) := by show _ = _; rw [← hC3]; exact HDD2.out
          have HSL3 : Hid (C3.slot = (j : Int)) := by show _ = _; rw [← hC3]; exact HSL2.out
          rw [hnm, hC3] at htk g2
          rw [hC3] at g1 g4
          have HG1 : Hid (C3.t.Line (kk + 1) ((j : Int) + ((i2 + 1 : Nat) : Int))) := by
            rw [HSL2.out] at g1
            show Tr.Line _ _ _
            rw [hi0]; exact g1
          have HG2 := Lib.hid g2
          have HG4 := Lib.hid g4
          have HGD := Lib.hid HLN.out.good
          obtain ⟨sl, hsl⟩ : ∃ sl, C2.slot = sl := ⟨_, rfl⟩
          obtain ⟨tip, htip⟩ : ∃ tip, C2.t.tip = tip := ⟨_, rfl⟩
          have HTIP := Lib.hid htip
          unfold lineB at hmk htk
          rw [hsl, htip] at hmk htk
          have HTK := Lib.hid htk
          have HMA := Lib.hid (ch_makeC (ct := 0) HC2.out HGD.out x [] (C_none wI) hmk)
          simp only [List.length_nil] at HMA
          have HZ := Lib.hid hi0
          clear hi0 hx hmem hwin hs200 hline hmk htk g1 g2 g4 hnm hC3 hsl htip hC7 HSL2 HDC2 HDD2
          go_upto_region 15 with (first
            | (go_at_call 50; refine HMA.out.mono ?_; rintro e w8 ⟨A8, d8, rfl, hl8, hC8, _, _, hFn⟩
               have HFN8 := Lib.hid hFn
               have HC8 := Lib.hid hC8
               clear hFn HMA hC8))
          obtain ⟨W9, hW9⟩ : ∃ W9, W9 = w8.alloc (.cells #[.int .i64 sl, .int .i64 x, .int .i64 0, .int .i64 tip, .slice A8 0 d8] 32) := ⟨_, rfl⟩
          obtain ⟨g9, hg9⟩ : ∃ g, g = w8.heap.size := ⟨_, rfl⟩
          have hF9 : Fr [] w8 W9 := by rw [hW9]; exact (Fr.refl _ _).alloc _
          have hB9 : W9.heap[g9]? = some (.cells #[.int .i64 sl, .int .i64 x, .int .i64 0, .int .i64 tip, .slice A8 0 d8] 32 (0, 0)) := by rw [hW9, hg9]; exact heap_alloc_new _ _
          have HB9 := Lib.hid hB9
          have HC9 := Lib.hid (Kd.C_below HC8.out hF9.below)
          have HFN9 := Lib.hid (HFN8.out.trans hF9 (by simp))
          have HF9 := Lib.hid (HF2.out.trans HFN9.out (by simp))
          have HCH9 := Lib.hid (HC2.out.fr HFN9.out)
          rw [← hW9, ← hg9]
          clear hW9 hg9 hF9 hB9 HC8 HFN8 HFN9 HF2 HC2
          have HBX : Hid (∀ W, Fr [] W9 W → W.cell? ⟨g9, 0, none⟩ = some (.int .i64 sl) ∧ W.cell? ⟨g9, 1, none⟩ = some (.int .i64 x) ∧ W.cell? ⟨g9, 2, none⟩ = some (.int .i64 0) ∧ W.cell? ⟨g9, 3, none⟩ = some (.int .i64 tip) ∧ W.cell? ⟨g9, 4, none⟩ = some (.slice A8 0 d8)) := fun W hW => by
            have h := (hW.block g9 (Array.getElem?_eq_some_iff.1 HB9.out).1 (by simp)).trans HB9.out
            have e0 := cell_of h 0
            have e1 := cell_of h 1
            have e2 := cell_of h 2
            have e3 := cell_of h 3
            have e4 := cell_of h 4
            simp at e0 e1 e2 e3 e4
            exact ⟨e0, e1, e2, e3, e4⟩
          obtain ⟨p, v0, D, hI⟩ := HCH9.out
          have HI := Lib.hid hI
          clear hI
          have HTR : Hid (∀ W, Fr [] W9 W → Calls Try.prog 49 #[.pointer (some ⟨c, 0, none⟩)] W fun e w' => e = .returned (.pointer (some ⟨p, 0, none⟩)) ∧ Fr [] W w') := fun W hW => ch_tree (HI.out.fr hW)
          have HTI : Hid (∀ W, Fr [] W9 W → Calls Try.prog 34 #[.pointer (some ⟨p, 0, none⟩)] W fun e w' => e = .returned (.int .i64 tip) ∧ Fr [] W w') := fun W hW => by
            have h := tip_calls (HI.out.fr hW).tr HGD.out.ok
            rw [HTIP.out] at h; exact h
          have HD0 : Hid (Fr [] W9 W9.drew) := (Fr.refl _ _).drew
          obtain ⟨_, _, _, q0, _⟩ := HBX.out _ HD0.out
          go_region_held3 (fun W => W.cell? ⟨g9, 3, none⟩ = some (.int .i64 tip))
            (assumption)
            (first
              | (go_at_call 49; refine (HTR.out _ HD0.out).mono ?_; rintro e y1 ⟨rfl, hFn⟩; have HD1 := Lib.hid (HD0.out.trans hFn (by simp)); obtain ⟨_, _, _, q1, _⟩ := HBX.out _ HD1.out; clear hFn)
              | (go_at_call 34; refine (HTI.out _ HD1.out).mono ?_; rintro e y2 ⟨rfl, hFn⟩; have HD2 := Lib.hid (HD1.out.trans hFn (by simp)); obtain ⟨_, _, _, q2, _⟩ := HBX.out _ HD2.out; clear hFn))
          obtain ⟨e0, e1, e2, e3, e4⟩ := HBX.out _ HD2.out
          have HTC := Lib.hid (ch_takeC (HCH9.out.fr HD2.out) HGD.out (fun k hk => by have h1 := (HF9.out.trans HD2.out (by simp)).size; exact Nat.lt_of_lt_of_le hk h1) ⟨sl, x, 0, tip, []⟩ (cb := d8) (Kd.C_below HC9.out HD2.out.below) (Nat.zero_le _) HTK.out)
          simp only [List.length_cons, List.length_nil, Nat.zero_add] at HTC
          have HF10 := Lib.hid (HF9.out.trans HD2.out (by simp))
          clear HTK q0 q1 q2 HTR HTI HI
          go_upto_region 19 with (first
            | (go_at_call 42; refine HTC.out.mono ?_; rintro e w15 ⟨D15, d15, rfl, hO15, hc15, hX15⟩
               have HC15 := Lib.hid hc15
               have HO15 := Lib.hid hO15
               have HF15 := Lib.hid (hX15.keep (fun k hk => hk) HF10.out)
               clear hO15 hc15 hX15 HTC))
          obtain ⟨g15, hg15, hcl⟩ := OwnI.at (l := [nm]) HO15.out 0 (by simp)
          subst hg15
          have HCL : Hid (∀ W, Fr [] w15 W → W.cell? ⟨g15, 0, none⟩ = some (.int .i64 nm)) := fun W hW => (hW.cell (lt_cell hcl) (by simp)).trans (by simpa using hcl)
          obtain ⟨p2, v2, D2, hI2⟩ := HC15.out
          have HI2 := Lib.hid hI2
          clear hI2 hcl
          have HTR2 : Hid (∀ W, Fr [] w15 W → Calls Try.prog 49 #[.pointer (some ⟨c, 0, none⟩)] W fun e w' => e = .returned (.pointer (some ⟨p2, 0, none⟩)) ∧ Fr [] W w') := fun W hW => ch_tree (HI2.out.fr hW)
          have HHE2 : Hid (∀ W, Fr [] w15 W → Calls Try.prog 17 #[.pointer (some ⟨p2, 0, none⟩), .int .i64 nm] W fun e w' => e = .returned (.int .i64 ((kk + 1 : Nat) : Int)) ∧ Fr [] W w') := fun W hW => by
            have h := height_calls (HI2.out.fr hW).tr nm
            rw [HG2.out] at h; exact h
          have hwr : wrap64 ((kk : Int) + 1) = ((kk + 1 : Nat) : Int) := wr_step kk (by omega)
          try rw [hwr]
          have HD5 : Hid (Fr [] w15 w15.drew) := (Fr.refl _ _).drew
          have z0 := HCL.out _ HD5.out
          have HKN : Hid (kk + 1 = k + (i2 + 1)) := Lib.hid (by rw [HKK.out, Nat.add_assoc])
          go_region_held3 (fun W => W.cell? ⟨g15, 0, none⟩ = some (.int .i64 nm))
            (assumption)
            (first
              | (go_at_call 49; refine (HTR2.out _ HD5.out).mono ?_; rintro e y5 ⟨rfl, hFn⟩; have HD6 := Lib.hid (HD5.out.trans hFn (by simp)); have z1 := HCL.out _ HD6.out; clear hFn)
              | (go_at_call 17; refine (HHE2.out _ HD6.out).mono ?_; rintro e y6 ⟨rfl, hFn⟩; have HD7 := Lib.hid (HD6.out.trans hFn (by simp)); have z2 := HCL.out _ HD7.out; clear hFn))
          all_goals
            go_wp2
            go_roundg m2'
            case rel => exact ⟨m2', i2 + 1, kk + 1, C3, rfl, by go_num, by go_num, by omega, HKN, HG1, HG4, HDC3, HDD3, HSL3, HC15.out.fr HD7.out, fun h => absurd h (Nat.succ_ne_zero i2), HF15.out.trans HD7.out (by simp)⟩
            case measure => omega
        · obtain rfl : i2 = NL := by omega
          have HLN2 : Hid (C2.t.Line kk ((j : Int) + 1)) := HLN.out.more (by omega)
          have HGD := Lib.hid HLN.out.good
          have hd0 : 0 ≤ C2.deep := by rw [HDD2.out]; exact hlo
          have hcom := line_com hd0 HLN.out HLT.out
          have hlen := line_len hd0 HLN.out
          rw [HDD2.out] at hlen
          have HLS3 := Lib.hid (line_lst hd0 HLN.out)
          obtain ⟨cf, hcf⟩ : ∃ cf, C2.conf = cf := ⟨_, rfl⟩
          obtain ⟨NP, hNP⟩ : ∃ NP, (C2.t.path cf).length = NP := ⟨_, rfl⟩
          rw [hcf] at hcom hlen HLS3
          rw [hNP] at hlen
          have HNP := Lib.hid hNP
          have HCF := Lib.hid (ch_conf HC2.out HGD.out)
          rw [hcf] at HCF
          obtain ⟨p, v0, D, hI⟩ := HC2.out
          have HI := Lib.hid hI
          have HCM := Lib.hid hcom
          clear hI hcom hNP hcf hd0
          have HTR : Hid (∀ W, Fr [] wI W → Calls Try.prog 49 #[.pointer (some ⟨c, 0, none⟩)] W fun e w' => e = .returned (.pointer (some ⟨p, 0, none⟩)) ∧ Fr [] W w') := fun W hW => ch_tree (HI.out.fr hW)
          have hkk4 : kk ≤ 400 := by have := HKK.out; omega
          have hwr : wrap64 ((kk : Int) - deep) = (kk : Int) - deep := wr_in _ (by omega)
          have hmx : ((NP : Int) == max 0 ((kk : Int) - deep)) = true := by rw [hlen]; simp
          have hkj' : kk + 1 ≤ j + 1 := by have := HKK.out; omega
          have HSN : Hid (C2.slot < ((j + 1 : Nat) : Int)) := by show _ < _; rw [HSL2.out]; omega
          clear HKK
          go_upto_region 24 with (first
            | (go_at_call 44; refine HCF.out.mono ?_; rintro e w20 ⟨rfl, hFn⟩; have HF20 := Lib.hid hFn; clear hFn HCF)
            | (go_at_call 49; refine (HTR.out _ HF20.out).mono ?_; rintro e w21 ⟨rfl, hFn⟩
               have HF21 := Lib.hid (HF20.out.trans hFn (by simp))
               have HPA := Lib.hid (path_calls (HI.out.fr HF21.out).tr HGD.out cf)
               clear hFn)
            | (go_at_call 20; refine HPA.out.mono ?_; rintro e w22 ⟨v22, rfl, hO22, hFn⟩
               obtain ⟨A22, d22, rfl⟩ := hO22.formN HNP.out
               have HF22 := Lib.hid (HF21.out.trans hFn (by simp))
               clear hFn HPA hO22))
          clear HF20 HF21
          go_wp2_with (first
            | (go_at_call 49; refine (HTR.out _ HF22.out).mono ?_; rintro e w23 ⟨rfl, hFn⟩
               have HF23 := Lib.hid (HF22.out.trans hFn (by simp))
               have HCO := Lib.hid (common_calls (HI.out.fr HF23.out).tr HGD.out cf la)
               rw [HCM.out] at HCO
               clear hFn)
            | (go_at_call 24; refine HCO.out.mono ?_; rintro e w24 ⟨rfl, hFn⟩
               have HF24 := Lib.hid (HF23.out.trans hFn (by simp))
               clear hFn HCO))
          go_roundg m'
          case rel => exact ⟨m', j + 1, kk, cf, C2, rfl, rfl, rfl, by go_num, by omega, by omega, by omega, HLN2, HLS3, HDC2, HDD2, HSN, HC2.out.fr HF24.out, HF2.out.trans HF24.out (by simp)⟩
          case measure => omega
    · have HGD := Lib.hid HLI.out.good
      have hhigh := HLI.out.high
      obtain ⟨tip, htip⟩ : ∃ tip, C.t.tip = tip := ⟨_, rfl⟩
      rw [htip] at hhigh
      have HTP := Lib.hid htip
      have HHI := Lib.hid hhigh
      clear hhigh htip
      obtain ⟨p, v0, D, hI⟩ := HC.out
      have HI := Lib.hid hI
      clear hI
      have HTR : Hid (∀ W, Fr [] wO W → Calls Try.prog 49 #[.pointer (some ⟨c, 0, none⟩)] W fun e w' => e = .returned (.pointer (some ⟨p, 0, none⟩)) ∧ Fr [] W w') := fun W hW => ch_tree (HI.out.fr hW)
      have s1 : True := trivial
      go_wp2_with (first
        | (have _t := s1; go_at_call 49; refine (HTR.out _ (Fr.refl _ _)).mono ?_; rintro e w20 ⟨rfl, hFn⟩; have HF20 := Lib.hid hFn; clear hFn s1)
        | (go_at_call 49; refine (HTR.out _ HF20.out).mono ?_; rintro e w21 ⟨rfl, hFn⟩
           have HF21 := Lib.hid (HF20.out.trans hFn (by simp))
           have HTI := Lib.hid (tip_calls (HI.out.fr HF21.out).tr HGD.out.ok)
           rw [HTP.out] at HTI
           clear hFn)
        | (go_at_call 34; refine HTI.out.mono ?_; rintro e w22 ⟨rfl, hFn⟩
           have HF22 := Lib.hid (HF21.out.trans hFn (by simp))
           have HHT := Lib.hid (height_calls (HI.out.fr HF22.out).tr tip)
           rw [HHI.out] at HHT
           clear hFn HTI)
        | (go_at_call 17; refine HHT.out.mono ?_; rintro e w23 ⟨rfl, hFn⟩
           have HF23 := Lib.hid (HF22.out.trans hFn (by simp))
           clear hFn HHT))
      exact hR.out _ _ ⟨by simp, HF.out.trans HF23.out (by simp)⟩
end Go.Np.Try
