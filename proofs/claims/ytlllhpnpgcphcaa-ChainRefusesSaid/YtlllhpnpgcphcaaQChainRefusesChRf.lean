/- A text that the row of ChainRefuses needs. (Pruned by tools/prune.py.) -/
import Derived.Test.YtlllhpnpgcphcaaQChainRefusesChk
set_option linter.unusedVariables false
set_option linter.unusedSimpArgs false
namespace Go.Np.Try
open Go.RowKit Go.Proofs Go.Proofs.Ytlllhpnpgcphcaa.PX Go.Proofs.YtlllhpnpgcphcaaW.PrintWords
def ActIn (W : World) (g : Nat) (a : Ac) : Prop := W.heap[g]? = some (.cells #[.int .i64 a.kind, .int .i64 a.n, .int .i64 a.blk.f0, .int .i64 a.blk.f1, .int .i64 a.blk.f2, .int .i64 a.blk.f3, .slice a.A4 a.blk.f4.length a.c4, .slice a.At a.txs.length a.ct] 69 (0, 0))
theorem ActIn.cells {W : World} {g : Nat} {a : Ac} (h : ActIn W g a) : W.cell? ⟨g, 0, none⟩ = some (.int .i64 a.kind) ∧ W.cell? ⟨g, 1, none⟩ = some (.int .i64 a.n) ∧ W.cell? ⟨g, 2, none⟩ = some (.int .i64 a.blk.f0) ∧ W.cell? ⟨g, 3, none⟩ = some (.int .i64 a.blk.f1) ∧ W.cell? ⟨g, 4, none⟩ = some (.int .i64 a.blk.f2) ∧ W.cell? ⟨g, 5, none⟩ = some (.int .i64 a.blk.f3) ∧ W.cell? ⟨g, 6, none⟩ = some (.slice a.A4 a.blk.f4.length a.c4) := by
  have e0 := cell_of h 0
  have e1 := cell_of h 1
  have e2 := cell_of h 2
  have e3 := cell_of h 3
  have e4 := cell_of h 4
  have e5 := cell_of h 5
  have e6 := cell_of h 6
  simp at e0 e1 e2 e3 e4 e5 e6
  exact ⟨e0, e1, e2, e3, e4, e5, e6⟩
theorem ActIn.fr {W W' : World} {g : Nat} {a : Ac} (h : ActIn W g a) (hF : Fr [] W W') : ActIn W' g a := (hF.block g (Array.getElem?_eq_some_iff.1 h).1 (by simp)).trans h
theorem ActIn.frX {X : Nat → Prop} {W W' : World} {g : Nat} {a : Ac} (h : ActIn W g a) (hF : FrX X W W') (hx : X g) : ActIn W' g a := (hF.block (Array.getElem?_eq_some_iff.1 h).1 hx).trans h
theorem check_at {w : World} {A : Option Addr} {c : Nat} {dr : List Int} (hC : (Kd.int .i64).C w A dr.length dr) (hc : dr.length ≤ c) : ∃ r : Int, (r = 0 → dr.length ≤ 200) ∧
    ∀ W, Fr [] w W → Calls Try.prog 46 #[.slice A dr.length c] W fun e w' => e = .returned (.int .i64 r) ∧ Fr [] W w' := by
  obtain ⟨r, hr, h2⟩ := chk_ev dr
  refine ⟨r, h2, fun W hW => (neaptideref10_Check.calls _ A c dr r W (Kd.C_below hC hW.below) hc hr).mono ?_⟩
  rintro e w' ⟨h1, ⟨n, rfl⟩⟩
  exact ⟨h1, (Fr.refl _ _).drewN n⟩
set_option maxHeartbeats 8000000 in
set_option maxRecDepth 100000 in
theorem ChainRefuses_walk (w : World) (Ad : Option Addr) (cd : Nat) (dr : List Int) (hd : (Kd.int .i64).C w Ad dr.length dr) (_m : dr.length ≤ maxLen) (_s : dr.length * 8 ≤ 140737488351232) (_w : ∀ n ∈ dr, (Lit.int .i64 n).wf = true) (hdc : dr.length ≤ cd) (v : Value) (l : List Ac) (hv : ActsR w v l) :
    Calls Try.prog 7 #[.slice Ad dr.length cd, v] w fun e w' => e = .returned (.bool true) ∧ Fr [] w w' := by
  obtain ⟨Av, cv, rfl, hmx, hAL⟩ := hv
  have HAL := Lib.hid hAL
  obtain ⟨r, hr200, hCK⟩ := check_at hd hdc
  have HDR := Lib.hid (ints_F hd)
  obtain ⟨M, hM⟩ : ∃ M, dr.length = M := ⟨_, rfl⟩
  obtain ⟨N, hN⟩ : ∃ N, l.length = N := ⟨_, rfl⟩
  rw [hM] at hr200 hdc HDR
  simp only [hM] at hCK
  rw [hM, hN]
  rw [hN] at hmx
  unfold maxLen at hmx
  have HM := Lib.hid hM
  have HN := Lib.hid hN
  have HCK := Lib.hid hCK
  have HAV := Lib.hid (calive_calls (w := w))
  have HWI : Hid (∀ W, Fr [] w W → ∀ s m : Int, Calls Try.prog 51 #[.slice Ad M cd, .int .i64 s, .int .i64 m] W fun e w' => e = .returned (.bool (winsB dr s m)) ∧ Fr [] W w') := fun W hW s m => by
    have h1 := wins_calls (w := W) (A := Ad) (c := cd) (dr := dr) (P := fun k => k < w.heap.size) (Kd.V_mk (by rw [HM.out]; exact hdc) (by rw [HM.out]; exact Kd.F_below HDR.out hW.below)) s m
    rw [HM.out] at h1; exact h1
  refine calls_k fun R hR => ?_
  clear hAL hd hM hN hCK _w _s _m
  by_cases hr0 : r = 0
  case neg =>
    have hb1 : (r == 0) = false := by simpa using hr0
    go_enter Try.func7, Try.ntmps7
    go_wp2_with (first
      | (go_at_call 43; refine HAV.out.mono ?_; rintro e w1 ⟨rfl, hF1⟩; have HF1 := Lib.hid hF1; clear hF1 HAV)
      | (go_at_call 46; refine (HCK.out _ HF1.out).mono ?_; rintro e w2 ⟨rfl, hF2⟩; have HF2 := Lib.hid (HF1.out.trans hF2 (by simp)); clear hF2 HCK))
    exact hR.out _ _ ⟨rfl, HF2.out⟩
  subst hr0
  have hM200 := hr200 rfl
  clear hr200
  by_cases hbig : (60 : Int) < (N : Int)
  · go_enter Try.func7, Try.ntmps7
    go_wp2_with (first
      | (go_at_call 43; refine HAV.out.mono ?_; rintro e w1 ⟨rfl, hF1⟩; have HF1 := Lib.hid hF1; clear hF1 HAV)
      | (go_at_call 46; refine (HCK.out _ HF1.out).mono ?_; rintro e w2 ⟨rfl, hF2⟩; have HF2 := Lib.hid (HF1.out.trans hF2 (by simp)); clear hF2 HCK))
    exact hR.out _ _ ⟨rfl, HF2.out⟩
  have hm1000 : dr.length ≤ 1000 := by rw [HM.out]; omega
  go_enter Try.func7, Try.ntmps7
  go_upto_region 5 with (first
    | (go_at_call 43; refine HAV.out.mono ?_; rintro e w1 ⟨rfl, hF1⟩; have HF1 := Lib.hid hF1; clear hF1 HAV)
    | (go_at_call 46; refine (HCK.out _ HF1.out).mono ?_; rintro e w2 ⟨rfl, hF2⟩; have HF2 := Lib.hid (HF1.out.trans hF2 (by simp)); clear hF2 HCK))
  have HCD : Hid ((Kd.int .i64).C w2 Ad dr.length dr) := by rw [HM.out]; exact Kd.F_now (Kd.F_below HDR.out HF2.out.below)
  rw [← HM.out] at *
  go_upto_region 7 with (first
    | (at_builtin; refine wp_copyI rfl _ _ rfl rfl rfl HCD.out hm1000 ?_; intro A3 c3 w3 hc3 hC3 hF3
       have HF3 := Lib.hid (HF2.out.trans hF3 (by simp))
       have HNEW := Lib.hid (ch_new (c := c3) hC3 (by omega) 1)
       clear hc3 hC3 hF3)
    | (go_at_call 41; refine HNEW.out.mono ?_; rintro e w4 ⟨c, rfl, hc4, hF4⟩
       have HF4 := Lib.hid (HF3.out.trans hF4 (by simp))
       have hX4 : ChAt (fun k => k < w.heap.size) w4 c ⟨⟨[], []⟩, dr, 1, 0⟩ := hc4.less (fun k hk => Nat.lt_of_lt_of_le hk HF3.out.size)
       have HC4 := Lib.hid hX4
       clear hc4 hX4 hF4 HNEW))
  have hw0 : Ch.Won ⟨⟨[], []⟩, dr, 1, 0⟩ := ⟨fun e he => by simp at he, fun b hb => by simp at hb⟩
  have HW0 := Lib.hid hw0
  clear hw0 HCD
  go_loopg [31] N (fun gn i wr => ∃ (m j : Nat) (C : Ch), m = gn ∧ i = .int .i64 j ∧ m + j = N ∧ Hid C.t.Good ∧ Hid (C.dr = dr) ∧ Hid C.Won ∧ Hid (ChAt (fun k => k < w.heap.size) wr c C) ∧ Hid (Fr [] w wr))
  case atStart => exact ⟨_, 0, ⟨⟨[], []⟩, dr, 1, 0⟩, rfl, rfl, rfl, Tr.empty_good, rfl, HW0, HC4, HF4⟩
  case round =>
    obtain ⟨m, j, C, rfl, rfl, hj, HG, HDC, HWON, HC, HF⟩ := hrel
    obtain ⟨wO, rfl⟩ : ∃ wO, wO = wr := ⟨_, rfl⟩
    clear HC4 HF4 HW0 HF3 HF2
    by_cases hlt : j < N
    · obtain ⟨a, ha⟩ : ∃ a, l[j]? = some a := ⟨_, List.getElem?_eq_getElem (by rw [HN.out]; exact hlt)⟩
      obtain ⟨hfine, hsz, ad, hAv, c0, c1, c2, c3, c4, c5, c6, c7⟩ := act_cells HAL.out j a ha HF.out
      subst hAv
      have HFI := Lib.hid hfine
      clear ha hfine
      obtain ⟨p, v, D, hI⟩ := HC.out
      have HI := Lib.hid hI
      clear hI
      obtain ⟨W8, hW8⟩ : ∃ W8, W8 = wO.alloc (.cells #[.int .i64 a.kind, .int .i64 a.n, .int .i64 a.blk.f0, .int .i64 a.blk.f1, .int .i64 a.blk.f2, .int .i64 a.blk.f3, .slice a.A4 a.blk.f4.length a.c4, .slice a.At a.txs.length a.ct] 69) := ⟨_, rfl⟩
      obtain ⟨g8, hg8⟩ : ∃ g, g = wO.heap.size := ⟨_, rfl⟩
      have hF8 : Fr [] wO W8 := by rw [hW8]; exact (Fr.refl _ _).alloc _
      have hB8 : ActIn W8 g8 a := by rw [hW8, hg8]; exact heap_alloc_new _ _
      have hs8 : W8.heap.size = g8 + 1 := by rw [hW8, hg8]; simp
      have hwO : wO.heap.size ≤ g8 := by omega
      have hg8w : g8 < W8.heap.size := by omega
      have HF8 := Lib.hid hF8
      have HB8 := Lib.hid hB8
      have HSLO : Hid (∀ W, Fr [] wO W → Calls Try.prog 45 #[.pointer (some ⟨c, 0, none⟩)] W fun e w' => e = .returned (.int .i64 C.slot) ∧ Fr [] W w') := fun W hW => ch_slot (HC.out.fr hW)
      have HTRE : Hid (∀ W, Fr [] wO W → Calls Try.prog 49 #[.pointer (some ⟨c, 0, none⟩)] W fun e w' => e = .returned (.pointer (some ⟨p, 0, none⟩)) ∧ Fr [] W w') := fun W hW => ch_tree (HI.out.fr hW)
      go_upto_region 9 with (fail)
      rw [← hW8, ← hg8]
      clear hW8 hg8 hF8 hB8 hs8 c0 c1 c2 c3 c4 c5 c6 c7
      obtain ⟨m', rfl⟩ : ∃ m', m = m' + 1 := ⟨m - 1, by omega⟩
      by_cases hk : a.kind = 1
      · have hkb : (a.kind == 1) = true := by simpa using hk
        have HKB := Lib.hid hk
        clear hk
        obtain ⟨e0, e1, e2, e3, e4, e5, e6⟩ := HB8.out.cells
        go_upto_region 12 with (first
          | (go_at_call 45; refine (HSLO.out _ HF8.out).mono ?_; rintro e w9 ⟨rfl, hF9⟩
             have hF89 := HF8.out.trans hF9 (by simp)
             have HF9 := Lib.hid hF89
             have HS89 := Lib.hid hF9.size
             have HB9 := Lib.hid (HB8.out.fr hF9)
             have HNX := Lib.hid (ch_next (HC.out.later hF89 (by simp)) a.n)
             clear hF9 hF89 e0 e1 e2 e3 e4 e5 e6
             obtain ⟨e0, e1, e2, e3, e4, e5, e6⟩ := HB9.out.cells)
          | (go_at_call 47; refine HNX.out.mono ?_; rintro e w10 ⟨rfl, hc10, hX10⟩
             have HC10 := Lib.hid hc10
             have HB10 := Lib.hid (HB9.out.frX hX10 (.inr ⟨hwO, Nat.lt_of_lt_of_le hg8w HS89.out⟩))
             have HF10 := Lib.hid (hX10.keep (fun k hk => .inl hk) (HF.out.trans HF9.out (by simp)))
             clear hc10 hX10 HNX e0 e1 e2 e3 e4 e5 e6))
        have HBD : Hid (∀ W, Fr [] w10 W → W.cell? ⟨g8, 1, none⟩ = some (.int .i64 a.n)) := fun W hW => (HB10.out.fr hW).cells.2.1
        have HD0 : Hid (Fr [] w10 w10.drew) := (Fr.refl _ _).drew
        have hq0 := HBD.out _ HD0.out
        have HSN : Hid (∀ W, Fr [] w10 W → Calls Try.prog 45 #[.pointer (some ⟨c, 0, none⟩)] W fun e w' => e = .returned (.int .i64 (max C.slot a.n)) ∧ Fr [] W w') := fun W hW => ch_slot (HC10.out.fr hW)
        go_region_held3 (fun W => W.cell? ⟨g8, 1, none⟩ = some (.int .i64 a.n))
          (assumption)
          (first
            | (go_at_call 45; refine (HSN.out _ HD0.out).mono ?_; rintro e w11 ⟨rfl, hF11⟩; have HD1 := Lib.hid (HD0.out.trans hF11 (by simp)); have hq1 := HBD.out _ HD1.out; clear hF11 HSN))
        all_goals
          go_wp2
          go_roundg m'
          case rel => exact ⟨m', j + 1, C.next a.n, rfl, by go_num, by omega, HG, HDC, HWON.out.next a.n, (HC10.out.fr HD1.out).less (fun k hk => .inl hk), HF10.out.trans HD1.out (by simp)⟩
          case measure => omega
      · have hkb : (a.kind == 1) = false := by simpa using hk
        have HKB := Lib.hid hk
        clear hk
        obtain ⟨e0, e1, e2, e3, e4, e5, e6⟩ := HB8.out.cells
        have HFc := HF8
        have HBc := HB8
        have HNAM : Hid (∀ W, Fr [] wO W → Calls Try.prog 39 #[.pointer (some ⟨p, 0, none⟩)] W fun e w' => ∃ v, e = .returned v ∧ OwnI W.heap.size w' v C.t.names ∧ Fr [] W w') := fun W hW => names_calls (HI.out.fr hW).tr HG.out.kn
        have HWAI : Hid (∀ W, Fr [] wO W → Calls Try.prog 30 #[.pointer (some ⟨p, 0, none⟩)] W fun e w' => ∃ v, e = .returned v ∧ OwnI W.heap.size w' v (C.t.wait.map nameB) ∧ Fr [] W w') := fun W hW => waiting_calls (HI.out.fr hW).tr HG.out.wt
        go_upto_region 15 with (first
          | (go_at_call 45; refine (HSLO.out _ HFc.out).mono ?_; rintro e w9 ⟨rfl, hFn⟩
             replace HBc := Lib.hid (HBc.out.fr hFn)
             replace HFc := Lib.hid (HFc.out.trans hFn (by simp))
             clear hFn e0 e1 e2 e3 e4 e5 e6
             obtain ⟨e0, e1, e2, e3, e4, e5, e6⟩ := HBc.out.cells)
          | (go_at_call 49; refine (HTRE.out _ HFc.out).mono ?_; rintro e w10 ⟨rfl, hFn⟩
             replace HBc := Lib.hid (HBc.out.fr hFn)
             replace HFc := Lib.hid (HFc.out.trans hFn (by simp))
             (try replace HO1 := Lib.hid (HO1.out.fr hFn (by simp)))
             clear hFn)
          | (go_at_call 39; refine (HNAM.out _ HFc.out).mono ?_; rintro e w11 ⟨v11, rfl, hO, hFn⟩
             have HO1 := Lib.hid hO
             have HZ1 := Lib.hid HFc.out.size
             replace HBc := Lib.hid (HBc.out.fr hFn)
             replace HFc := Lib.hid (HFc.out.trans hFn (by simp))
             clear hFn hO)
          | (go_at_call 30; refine (HWAI.out _ HFc.out).mono ?_; rintro e w12 ⟨v12, rfl, hO, hFn⟩
             have HO2 := Lib.hid hO
             have HZ2 := Lib.hid HFc.out.size
             replace HO1 := Lib.hid (HO1.out.fr hFn (by simp))
             replace HBc := Lib.hid (HBc.out.fr hFn)
             replace HFc := Lib.hid (HFc.out.trans hFn (by simp))
             clear hFn hO e0 e1 e2 e3 e4 e5 e6))
        obtain ⟨e0, e1, e2, e3, e4, e5, e6⟩ := HBc.out.cells
        have HCP := Lib.hid (copy_C ⟨a.blk, a.A4, a.c4⟩ (Kd.C_below HFI.out.C4 HFc.out.below) hsz)
        rcases Ch.take_cases HWON.out HG.out a.blk with hno | ⟨ty1, ty2, ty3, ty4, ty5, ty6, ty7⟩
        · have HNO := Lib.hid hno
          clear hno
          go_upto_region 16 with (first
            | (go_at_call 27; refine HCP.out.mono ?_; rintro e w14 ⟨A14, d14, rfl, hd14, hC14, hFn⟩
               have hF14 := HFc.out.trans hFn (by simp)
               have HS14 := Lib.hid hFn.size
               have HF14 := Lib.hid hF14
               have HX14 : Hid (∀ k, (k < w.heap.size ∨ (wO.heap.size ≤ k ∧ k < w14.heap.size)) → k < w14.heap.size) := fun k hk => by
                 have h1 := HF.out.size
                 have h2 := HF14.out.size
                 rcases hk with hk | hk <;> omega
               have HTK := Lib.hid (ch_takeC (HC.out.later hF14 (by simp)) HG.out HX14.out a.blk hC14 hd14 HNO.out)
               have HO1d := Lib.hid (HO1.out.fr hFn (by simp))
               have HO2d := Lib.hid (HO2.out.fr hFn (by simp))
               clear hFn hF14 hd14 hC14 HCP e0 e1 e2 e3 e4 e5 e6)
            | (go_at_call 42; refine HTK.out.mono ?_; rintro e w15 ⟨D15, d15, rfl, hO15, hc15, hX15⟩
               have HC15 := Lib.hid hc15
               have HF15 := Lib.hid (hX15.keep (fun k hk => .inl hk) (HF.out.trans HF14.out (by simp)))
               have HO1e := Lib.hid (HO1d.out.frX hX15 (fun k hk => .inr ⟨Nat.le_trans HZ1.out (HO1d.out.2 k hk), HO1d.out.lt k hk⟩))
               have HO2e := Lib.hid (HO2d.out.frX hX15 (fun k hk => .inr ⟨Nat.le_trans HZ2.out (HO2d.out.2 k hk), HO2d.out.lt k hk⟩))
               clear hO15 hc15 hX15 HTK))
          obtain ⟨p5, v5, D5, hI5⟩ := HC15.out
          have HI5 := Lib.hid hI5
          clear hI5
          have HD : Hid (Fr [] w15 w15) := Fr.refl _ _
          have HTR5 : Hid (∀ W, Fr [] w15 W → Calls Try.prog 49 #[.pointer (some ⟨c, 0, none⟩)] W fun e w' => e = .returned (.pointer (some ⟨p5, 0, none⟩)) ∧ Fr [] W w') := fun W hW => ch_tree (HI5.out.fr hW)
          have s1 : True := trivial
          go_wp2_with (first
            | (go_at_call 49; refine (HTR5.out _ HD.out).mono ?_; rintro e w16 ⟨rfl, hFn⟩
               replace HD := Lib.hid (HD.out.trans hFn (by simp))
               clear hFn)
            | (go_at_call 39; refine (names_calls (HI5.out.fr HD.out).tr HG.out.kn).mono ?_; rintro e w17 ⟨v17, rfl, hO, hFn⟩
               replace HD := Lib.hid (HD.out.trans hFn (by simp))
               have HSM := Lib.hid (same_sl hO.sl (HO1e.out.fr HD.out (by simp)).sl)
               simp only [decide_true] at HSM
               clear hFn hO)
            | (have _t := s1; go_at_call 19; refine HSM.out.mono ?_; rintro e w18 ⟨rfl, hFn⟩
               replace HD := Lib.hid (HD.out.trans hFn (by simp))
               clear hFn HSM s1)
            | (go_at_call 30; refine (waiting_calls (HI5.out.fr HD.out).tr HG.out.wt).mono ?_; rintro e w19 ⟨v19, rfl, hO, hFn⟩
               replace HD := Lib.hid (HD.out.trans hFn (by simp))
               have HSM2 := Lib.hid (same_sl hO.sl (HO2e.out.fr HD.out (by simp)).sl)
               simp only [decide_true] at HSM2
               clear hFn hO)
            | (go_at_call 19; refine HSM2.out.mono ?_; rintro e w20 ⟨rfl, hFn⟩
               replace HD := Lib.hid (HD.out.trans hFn (by simp))
               clear hFn HSM2))
          go_roundg m'
          case rel => exact ⟨m', j + 1, C, rfl, by go_num, by omega, HG, HDC, HWON, (HC15.out.fr HD.out).less (fun k hk => .inl hk), HF15.out.trans HD.out (by simp)⟩
          case measure => omega
        · obtain ⟨C', hC'⟩ : ∃ C', (C.take a.blk).1 = C' := ⟨_, rfl⟩
          obtain ⟨L, hL⟩ : ∃ L, (C.take a.blk).2.1 = L := ⟨_, rfl⟩
          have hyes : C.take a.blk = (C', L, 0) := by rw [← hC', ← hL, ← ty1]
          have hG' := Ch.take_good HG.out a.blk
          rw [hC'] at ty4 ty5 ty6 hG'
          rw [hL, HDC.out] at ty7
          rw [HDC.out] at ty2 ty5
          have HYES := Lib.hid hyes
          have HG' := Lib.hid hG'
          have T2 := Lib.hid ty2
          have T4 := Lib.hid ty4
          have T5 := Lib.hid ty5
          have T6 := Lib.hid ty6
          have T7 := Lib.hid ty7
          have hle : ¬ C.slot < a.blk.f0 := by omega
          clear hyes hG' ty1 ty2 ty3 ty4 ty5 ty6 ty7 hC' hL
          go_upto_region 16 with (first
            | (go_at_call 27; refine HCP.out.mono ?_; rintro e w14 ⟨A14, d14, rfl, hd14, hC14, hFn⟩
               have hF14 := HFc.out.trans hFn (by simp)
               have HS14 := Lib.hid hFn.size
               have HF14 := Lib.hid hF14
               have HX14 : Hid (∀ k, (k < w.heap.size ∨ (wO.heap.size ≤ k ∧ k < w14.heap.size)) → k < w14.heap.size) := fun k hk => by
                 have h1 := HF.out.size
                 have h2 := HF14.out.size
                 rcases hk with hk | hk <;> omega
               have HTK := Lib.hid (ch_takeC (HC.out.later hF14 (by simp)) HG.out HX14.out a.blk hC14 hd14 HYES.out)
               replace HBc := Lib.hid (HBc.out.fr hFn)
               clear hFn hF14 hd14 hC14 HCP e0 e1 e2 e3 e4 e5 e6)
            | (go_at_call 42; refine HTK.out.mono ?_; rintro e w15 ⟨D15, d15, rfl, hO15, hc15, hX15⟩
               have HC15 := Lib.hid hc15
               have HF15 := Lib.hid (hX15.keep (fun k hk => .inl hk) (HF.out.trans HF14.out (by simp)))
               have hg14 := (Array.getElem?_eq_some_iff.1 HBc.out).1
               replace HBc := Lib.hid (HBc.out.frX hX15 (.inr ⟨hwO, hg14⟩))
               have HO15 := Lib.hid hO15
               clear hO15 hc15 hX15 HTK hg14))
          obtain ⟨e0, e1, e2, e3, e4, e5, e6⟩ := HBc.out.cells
          have HD : Hid (Fr [] w15 w15) := Fr.refl _ _
          have HWS := Lib.hid (fun W hW => HWI.out W hW a.blk.f0 a.blk.f1)
          rw [T2.out] at HWS
          obtain ⟨NL, hNL⟩ : ∃ NL, L.length = NL := ⟨_, rfl⟩
          have hNLm : NL ≤ 9223372036854775807 := by
            obtain ⟨_, _, _, _, h⟩ := HO15.out.sl
            rw [← hNL]; exact h.2.1
          have HNL := Lib.hid hNL
          simp only [hNL]
          clear hNL
          have hlb : decide (C.slot < a.blk.f0) = false := decide_eq_false (by omega)
          go_upto_region 22 with (first
            | (go_at_call 51; refine (HWS.out _ (HF15.out.trans HD.out (by simp))).mono ?_; rintro e w16 ⟨rfl, hFn⟩
               replace HD := Lib.hid (HD.out.trans hFn (by simp))
               clear hFn HWS e0 e1 e2 e3 e4 e5 e6)
            | (go_at_call 45; refine (ch_slot (HC15.out.fr HD.out)).mono ?_; rintro e w17 ⟨he, hFn⟩
               rw [T6.out] at he
               subst he
               replace HD := Lib.hid (HD.out.trans hFn (by simp))
               clear hFn))
          have HLL := Lib.hid (HO15.out.fr HD.out (by simp))
          have HCL := Lib.hid (HC15.out.fr HD.out)
          have HFL := Lib.hid (HF15.out.trans HD.out (by simp))
          go_loopg [110] NL (fun gn i wr => ∃ (m2 k : Nat), m2 = gn ∧ i = .int .i64 k ∧ m2 + k = NL ∧ Hid (Fr [] w17 wr))
          case atStart => exact ⟨_, 0, rfl, rfl, rfl, Fr.refl _ _⟩
          case round =>
            obtain ⟨m2, k, rfl, rfl, hk2, HFy⟩ := hrel
            obtain ⟨wy, rfl⟩ : ∃ wy, wy = wr := ⟨_, rfl⟩
            by_cases hlt2 : k < NL
            · obtain ⟨gl, hgl, hcl⟩ := OwnI.at (A := D15) (c := d15) (l := L) (HLL.out.fr HFy.out (by simp)) k (by rw [HNL.out]; exact hlt2)
              subst hgl
              have hin : L.getD k 0 ∈ L := by
                have := HNL.out
                rw [List.getD_eq_getElem?_getD, List.getElem?_eq_getElem (by omega)]
                exact List.getElem_mem _
              obtain ⟨t71, t72⟩ := T7.out _ hin
              clear hin
              generalize L.getD k 0 = y at *
              obtain ⟨sy, hsy⟩ : ∃ sy, slotN y = sy := ⟨_, rfl⟩
              obtain ⟨my, hmy⟩ : ∃ my, minerN y = my := ⟨_, rfl⟩
              rw [hsy] at t71 t72
              rw [hmy] at t71
              have HSY : Hid (∀ W, Calls Try.prog 52 #[.int .i64 y] W fun e w' => e = .returned (.int .i64 sy) ∧ Fr [] W w') := fun W => by rw [← hsy]; exact slot_calls y
              have HMY : Hid (∀ W, Calls Try.prog 53 #[.int .i64 y] W fun e w' => e = .returned (.int .i64 my) ∧ Fr [] W w') := fun W => by rw [← hmy]; exact miner_calls y
              have HWY := Lib.hid (fun W hW => HWI.out W hW sy my)
              rw [t71] at HWY
              have hls : ¬ C.slot < sy := by omega
              have hlsb : decide (C.slot < sy) = false := decide_eq_false hls
              clear t71 hsy hmy
              go_wp2_with (first
                | (go_at_call 52; refine (HSY.out _).mono ?_; rintro e w21 ⟨rfl, hFn⟩
                   replace HFy := Lib.hid (HFy.out.trans hFn (by simp))
                   (try clear hcl)
                   clear hFn)
                | (go_at_call 53; refine (HMY.out _).mono ?_; rintro e w22 ⟨rfl, hFn⟩
                   replace HFy := Lib.hid (HFy.out.trans hFn (by simp))
                   clear hFn)
                | (go_at_call 51; refine (HWY.out _ (HFL.out.trans HFy.out (by simp))).mono ?_; rintro e w23 ⟨rfl, hFn⟩
                   replace HFy := Lib.hid (HFy.out.trans hFn (by simp))
                   clear hFn))
              obtain ⟨m3, rfl⟩ : ∃ m3, m2 = m3 + 1 := ⟨m2 - 1, by omega⟩
              go_roundg m3
              case rel => exact ⟨m3, k + 1, rfl, by go_num, by omega, HFy⟩
              case measure => omega
            · go_wp2
              go_roundg m'
              case rel => exact ⟨m', j + 1, C', rfl, by go_num, by omega, HG', T5, T4, (HCL.out.fr HFy.out).less (fun k hk => .inl hk), HFL.out.trans HFy.out (by simp)⟩
              case measure => omega
    · obtain rfl : j = N := by omega
      go_wp2
      exact hR.out _ _ ⟨rfl, HF.out⟩
end Go.Np.Try
