/- What ChainRuns needs. -/
import Derived.Test.YtlllhpnpgcphcaaGreatQChainRunsZtg
import Derived.Deep.CutRange
set_option linter.unusedVariables false
set_option linter.unusedSimpArgs false
namespace Go.Np.Tryz
open Go.RowKit Go.Proofs Go.Proofs.YtlllhpnpgcphcaaGreat.PX Go.Proofs.YtlllhpnpgcphcaaGreatW.PrintWords
attribute [local go_sem high] eqA67
theorem made16 {W10 wm w16 : World} {g d8 : Nat} {mb : S35} {A8 : Option Addr} (hz : w16.heap[g]? = some (.cells #[.int .i64 0, .int .i64 0, .int .i64 0, .int .i64 0, .slice none 0 0] 35 (0, 0))) (hF : Fr [] W10 w16) (h0 : W10.heap.size ≤ g) (h1 : g < wm.heap.size) (hQ : Kd.F k67 w16 (fun k => wm.heap.size ≤ k) A8 mb.f4.length mb.f4) :
    Fr [] W10 (((((w16.setCell ⟨g, 0, none⟩ (.int .i64 mb.f0)).setCell ⟨g, 1, none⟩ (.int .i64 mb.f1)).setCell ⟨g, 2, none⟩ (.int .i64 mb.f2)).setCell ⟨g, 3, none⟩ (.int .i64 mb.f3)).setCell ⟨g, 4, none⟩ (.slice A8 mb.f4.length d8)) ∧
    BlkIn (((((w16.setCell ⟨g, 0, none⟩ (.int .i64 mb.f0)).setCell ⟨g, 1, none⟩ (.int .i64 mb.f1)).setCell ⟨g, 2, none⟩ (.int .i64 mb.f2)).setCell ⟨g, 3, none⟩ (.int .i64 mb.f3)).setCell ⟨g, 4, none⟩ (.slice A8 mb.f4.length d8)) g ⟨mb, A8, d8⟩ ∧
    k67.C (((((w16.setCell ⟨g, 0, none⟩ (.int .i64 mb.f0)).setCell ⟨g, 1, none⟩ (.int .i64 mb.f1)).setCell ⟨g, 2, none⟩ (.int .i64 mb.f2)).setCell ⟨g, 3, none⟩ (.int .i64 mb.f3)).setCell ⟨g, 4, none⟩ (.slice A8 mb.f4.length d8)) A8 mb.f4.length mb.f4 := by
  have hp : Fr [g] w16 (put5 w16 g (.int .i64 mb.f0) (.int .i64 mb.f1) (.int .i64 mb.f2) (.int .i64 mb.f3) (.slice A8 mb.f4.length d8)) := put5_fr (Fr.refl _ _) (.inl (by simp)) _ _ _ _ _
  refine ⟨put5_fr hF (.inr h0) _ _ _ _ _, put5_heap hz _ _ _ _ _, ?_⟩
  exact Kd.F_now (show Kd.F k67 (put5 w16 g _ _ _ _ _) _ A8 mb.f4.length mb.f4 from Foot.step hQ (fun k hk hl => hp.block k hl (by have hk' : wm.heap.size ≤ k := hk; simp; omega)))
theorem made16n {W10 w16 : World} {d8 : Nat} {mb : S35} {A8 : Option Addr} (hF : Fr [] W10 w16) (hC : k67.C w16 A8 mb.f4.length mb.f4) :
    Fr [] W10 (w16.alloc (.cells #[.int .i64 mb.f0, .int .i64 mb.f1, .int .i64 mb.f2, .int .i64 mb.f3, .slice A8 mb.f4.length d8] 35)) ∧
    BlkIn (w16.alloc (.cells #[.int .i64 mb.f0, .int .i64 mb.f1, .int .i64 mb.f2, .int .i64 mb.f3, .slice A8 mb.f4.length d8] 35)) w16.heap.size ⟨mb, A8, d8⟩ ∧
    k67.C (w16.alloc (.cells #[.int .i64 mb.f0, .int .i64 mb.f1, .int .i64 mb.f2, .int .i64 mb.f3, .slice A8 mb.f4.length d8] 35)) A8 mb.f4.length mb.f4 :=
  ⟨hF.alloc _, BlkIn.made rfl, Kd.C_below hC (((Fr.refl [] _).alloc _).below)⟩
set_option maxHeartbeats 32000000 in
set_option maxRecDepth 100000 in
theorem ChainRuns_walk (w : World) (A0 : Option Addr) (c0 : Nat) (dr : List Int) (hdr : (Kd.int .i64).C w A0 dr.length dr) (_m0 : dr.length ≤ maxLen) (_s0 : dr.length * 8 ≤ 140737488351232) (_w0 : ∀ n ∈ dr, (Lit.int .i64 n).wf = true) (hdc : dr.length ≤ c0) (deep : Int) (_wd : (Lit.int .i64 deep).wf = true)
    (va : Value) (l : List Ac) (hva : ActsR2 w va l) :
    Calls Tryz.prog 3 #[.slice A0 dr.length c0, .int .i64 deep, va] w fun e w' => e = .returned (.bool true) ∧ Fr [] w w' := by
  obtain ⟨⟨Av, cv, rfl, hmx, hAL⟩, hTZ⟩ := hva
  have HAV := Lib.hid (calive_calls (w := w))
  obtain ⟨r, hr1, hck⟩ := check_ok dr
  have HCK : Hid (∀ W, Fr [] w W → Calls Tryz.prog 7 #[.slice A0 dr.length c0] W fun e w' => e = .returned (.int .i64 r) ∧ Fr [] W w') := fun W hW => hck W A0 c0 (Kd.C_below hdr hW.below) hdc
  have HDR := Lib.hid hdr
  have HDC := Lib.hid hdc
  have HAL := Lib.hid hAL
  have HTZ := Lib.hid hTZ
  obtain ⟨N, hN⟩ : ∃ N, l.length = N := ⟨_, rfl⟩
  rw [hN] at hmx
  rw [hN]
  unfold maxLen at hmx
  have HN := Lib.hid hN
  refine calls_k fun R hR => ?_
  clear hdr hck _m0 _s0 _w0 _wd hdc hAL hTZ hN
  by_cases hr0 : r = 0
  case neg =>
    have hb1 : (r == 0) = false := by simpa using hr0
    have hb2 : (r != 0) = true := by simpa using hr0
    clear hr1
    go_enter Tryz.func3, Tryz.ntmps3
    go_wp2_with (first
      | (go_at_call 6; refine HAV.out.mono ?_; rintro e w2 ⟨rfl, hF2⟩; have HF2 := Lib.hid hF2; clear hF2 HAV)
      | (go_at_call 7; refine (HCK.out _ HF2.out).mono ?_; rintro e w3 ⟨rfl, hF3⟩; have HF3 := Lib.hid (HF2.out.trans hF3 (by simp)); clear hF3 HCK))
    exact hR.out _ _ ⟨rfl, HF3.out⟩
  subst hr0
  by_cases hlo : deep < 0
  · have hb3 : decide (deep < 0) = true := decide_eq_true hlo
    clear hr1
    go_enter Tryz.func3, Tryz.ntmps3
    go_wp2_with (first
      | (go_at_call 6; refine HAV.out.mono ?_; rintro e w2 ⟨rfl, hF2⟩; have HF2 := Lib.hid hF2; clear hF2 HAV)
      | (go_at_call 7; refine (HCK.out _ HF2.out).mono ?_; rintro e w3 ⟨rfl, hF3⟩; have HF3 := Lib.hid (HF2.out.trans hF3 (by simp)); clear hF3 HCK))
    exact hR.out _ _ ⟨rfl, HF3.out⟩
  have hb3 : decide (deep < 0) = false := decide_eq_false hlo
  by_cases hhi : 10 < deep
  · have hb4 : decide (10 < deep) = true := decide_eq_true hhi
    clear hr1
    go_enter Tryz.func3, Tryz.ntmps3
    go_wp2_with (first
      | (go_at_call 6; refine HAV.out.mono ?_; rintro e w2 ⟨rfl, hF2⟩; have HF2 := Lib.hid hF2; clear hF2 HAV)
      | (go_at_call 7; refine (HCK.out _ HF2.out).mono ?_; rintro e w3 ⟨rfl, hF3⟩; have HF3 := Lib.hid (HF2.out.trans hF3 (by simp)); clear hF3 HCK))
    exact hR.out _ _ ⟨rfl, HF3.out⟩
  have hb4 : decide (10 < deep) = false := decide_eq_false hhi
  by_cases h60 : 60 < N
  · have hb5 : decide (60 < (N : Int)) = true := decide_eq_true (by omega)
    have hb5' : decide (60 < N) = true := decide_eq_true h60
    clear hr1
    go_enter Tryz.func3, Tryz.ntmps3
    go_wp2_with (first
      | (go_at_call 6; refine HAV.out.mono ?_; rintro e w2 ⟨rfl, hF2⟩; have HF2 := Lib.hid hF2; clear hF2 HAV)
      | (go_at_call 7; refine (HCK.out _ HF2.out).mono ?_; rintro e w3 ⟨rfl, hF3⟩; have HF3 := Lib.hid (HF2.out.trans hF3 (by simp)); clear hF3 HCK))
    exact hR.out _ _ ⟨rfl, HF3.out⟩
  have hb5 : decide (60 < (N : Int)) = false := decide_eq_false (by omega)
  have hb5' : decide (60 < N) = false := decide_eq_false h60
  obtain ⟨hd200, hok⟩ := hr1 rfl
  have HOKD := Lib.hid hok
  have hm1000 : dr.length ≤ 1000 := by omega
  clear hr1 hok
  go_enter Tryz.func3, Tryz.ntmps3
  go_upto_region 5 with (first
    | (go_at_call 6; refine HAV.out.mono ?_; rintro e w2 ⟨rfl, hF2⟩; have HF2 := Lib.hid hF2; clear hF2 HAV)
    | (go_at_call 7; refine (HCK.out _ HF2.out).mono ?_; rintro e w3 ⟨rfl, hF3⟩; have HF3 := Lib.hid (HF2.out.trans hF3 (by simp)); clear hF3 HCK))
  have HCD : Hid ((Kd.int .i64).C w3 A0 dr.length dr) := Kd.C_below HDR.out HF3.out.below
  clear hb3 hb4 hb5 hb5'
  go_upto_region 6 with (first
    | (at_builtin; refine wp_copyI rfl _ _ rfl rfl rfl HCD.out hm1000 ?_; intro A4 c4 w4 hc4 hC4 hF4
       have HF4 := Lib.hid (HF3.out.trans hF4 (by simp))
       have HNEW := Lib.hid (ch_new (c := c4) hC4 (by omega) deep)
       clear hc4 hC4 hF4)
    | (go_at_call 8; refine HNEW.out.mono ?_; rintro e w5 ⟨p, rfl, hT5, hF5⟩
       have HT5 := Lib.hid hT5
       have HF5 := Lib.hid hF5
       clear hT5 hF5 HNEW))
  obtain ⟨W6, hW6⟩ : ∃ W6, W6 = w5.alloc (.cells #[.slice none 0 0, .slice none 0 0, .slice A0 dr.length c0, .int .i64 deep, .int .i64 0] 32) := ⟨_, rfl⟩
  have hst := GCW.start HF4.out HF5.out HT5.out hW6
  obtain ⟨g8, hg8⟩ : ∃ g8, g8 = w5.heap.size := ⟨_, rfl⟩
  rw [← hg8] at hst
  have HST := Lib.hid hst
  clear hst
  go_upto_region 7 with (fail)
  rw [← hW6, ← hg8]
  clear hW6 hg8 HT5 HF5 HF4 HF3 HF2 HCD
  go_upto_region 8 with (fail)
  go_loopg [51] N (fun gn i wr => ∃ (m j : Nat) (C : Ch) (sl : Int) (B0 : Option Addr) (d0 : Nat) (B1 : Option Addr) (d1 : Nat), m = gn ∧ i = .int .i64 j ∧ m + j = N ∧ Hid (C.t.Good ∧ C.t.Rng ∧ C.dr = dr ∧ C.deep = deep ∧ C.slot = sl) ∧ Hid (∃ X Y : Nat → Prop, GCW w wr p g8 C C.t (.slice B0 C.t.ks.length d0) (.slice B1 C.t.wait.length d1) (.slice A0 dr.length c0) deep sl X Y))
  case atStart => exact ⟨_, 0, ⟨⟨[], []⟩, dr, deep, 0⟩, 0, none, 0, none, 0, rfl, rfl, rfl, ⟨Tr.empty_good, Tr.empty_rng, rfl, rfl, rfl⟩, ⟨_, _, HST.out⟩⟩
  case round =>
    obtain ⟨m, j, C, sl, B0, d0, B1, d1, rfl, rfl, hj, HA, HGW⟩ := hrel
    obtain ⟨wO, rfl⟩ : ∃ wO, wO = wr := ⟨_, rfl⟩
    clear HST
    obtain ⟨X, Y, hgw⟩ := HGW.out
    have HG := Lib.hid hgw
    clear hgw HGW
    by_cases hlt : j < N
    · obtain ⟨m', rfl⟩ : ∃ m', m = m' + 1 := ⟨m - 1, by omega⟩
      obtain ⟨a, ha⟩ : ∃ a, l[j]? = some a := ⟨_, List.getElem?_eq_getElem (by rw [HN.out]; exact hlt)⟩
      obtain ⟨hfine, hsz, ad, hAv, u0, u1, u2, u3, u4, u5, u6, u7⟩ := act_cells HAL.out j a ha HG.out.fr
      subst hAv
      have HAJ := Lib.hid ha
      have HTX := Lib.hid (HTZ.out a (List.mem_of_getElem? ha))
      have HFI := Lib.hid hfine
      have HSZ := Lib.hid hsz
      clear ha hfine hsz
      obtain ⟨W9, hW9⟩ : ∃ W9, W9 = wO.alloc (.cells #[.int .i64 a.kind, .int .i64 a.n, .int .i64 a.blk.f0, .int .i64 a.blk.f1, .int .i64 a.blk.f2, .int .i64 a.blk.f3, .slice a.A4 a.blk.f4.length a.c4, .slice a.At a.txs.length a.ct] 37) := ⟨_, rfl⟩
      obtain ⟨g10, hg10⟩ : ∃ g, g = wO.heap.size := ⟨_, rfl⟩
      have hF9 : Fr [] wO W9 := by rw [hW9]; exact (Fr.refl _ _).alloc _
      have hB9 : ActIn W9 g10 a := by rw [hW9, hg10]; exact heap_alloc_new _ _
      have hs9 : W9.heap.size = g10 + 1 := by rw [hW9, hg10]; simp
      go_upto_region 10 with (fail)
      rw [← hW9, ← hg10]
      have HS9 := Lib.hid hs9
      have HGE := Lib.hid (Nat.le_of_eq hg10.symm)
      clear hW9 hg10 hs9
      obtain ⟨s0, s1, s2, s3, s4, s5, s6⟩ := hB9.cells
      obtain ⟨W10, hW10⟩ : ∃ W10, W10 = W9.alloc (.cells #[.int .i64 a.blk.f0, .int .i64 a.blk.f1, .int .i64 a.blk.f2, .int .i64 a.blk.f3, .slice a.A4 a.blk.f4.length a.c4] 35) := ⟨_, rfl⟩
      obtain ⟨g11, hg11⟩ : ∃ g, g = W9.heap.size := ⟨_, rfl⟩
      have hF10 : Fr [] W9 W10 := by rw [hW10]; exact (Fr.refl _ _).alloc _
      have hB10 : BlkIn W10 g11 ⟨a.blk, a.A4, a.c4⟩ := by rw [hg11]; exact BlkIn.made hW10
      have hs10 : W10.heap.size = g11 + 1 := by rw [hW10, hg11]; simp
      have hF910 := hF9.trans hF10 (by simp)
      have hs9 := HS9.out
      have hge := HGE.out
      have HGb := Lib.hid (HG.out.mv hF910)
      have HX10 : Hid ((fun k => X k ∨ (wO.heap.size ≤ k ∧ k < W10.heap.size)) g10) := .inr ⟨by omega, by omega⟩
      have HYN : Hid (∀ k, Y k → k ≠ g11) := fun k hk => by have h1 := HG.out.x k (HG.out.y k hk).1; have h2 := hF9.size; omega
      have HG11 : Hid (w.heap.size ≤ g11) := by have h1 := HG.out.fr.size; have h2 := hF9.size; show _ ≤ _; omega
      have HX11 : Hid ((fun k => X k ∨ (wO.heap.size ≤ k ∧ k < W10.heap.size)) g11) := .inr ⟨by omega, by omega⟩
      have HAB := Lib.hid (hB9.fr hF10)
      have HBB := Lib.hid hB10
      have HFb := Lib.hid hF910
      have hfw := (HAL.out j a HAJ.out).1
      have hQ : Kd.F k67 W10 Y a.A4 a.blk.f4.length a.blk.f4 := Kd.F_mono (Kd.F_below (txs_F hfw.C4) HGb.out.fr.below) HGb.out.old
      have HQ := Lib.hid hQ
      have HRNG := Lib.hid HFI.out.rg
      have HL4 := Lib.hid HFI.out.l4
      have HTXC : Hid (∀ W, Fr [] W10 W → k67.C W a.At a.txs.length a.txs) := fun W hW => Kd.C_below HFI.out.Ct (HFb.out.trans hW (by simp)).below
      clear hfw hQ hs9 hs10 hge
      go_upto_region 11 with (fail)
      rw [← hW10, ← hg11]
      clear hF9 hB9 hW10 hg11 hF10 hB10 hF910 u0 u1 u2 u3 u4 u5 u6 u7 s0 s1 s2 s3 s4 s5 s6 HG
      obtain ⟨⟨k0, k1⟩, k7⟩ := HAB.out.all
      by_cases hk1 : a.kind = 1
      · have hkb : (a.kind == 1) = true := by simpa using hk1
        have hkc : (a.kind == 2) = false := by rw [hk1]; rfl
        clear hk1
        have HNX := Lib.hid (ch_next HGb.out.ch a.n)
        have HA1 : Hid ((C.next a.n).t.Good ∧ (C.next a.n).t.Rng ∧ (C.next a.n).dr = dr ∧ (C.next a.n).deep = deep ∧ (C.next a.n).slot = max sl a.n) := ⟨HA.out.1, HA.out.2.1, HA.out.2.2.1, HA.out.2.2.2.1, by show max C.slot a.n = _; rw [HA.out.2.2.2.2]⟩
        go_upto_region 13 with (go_at_call 9; refine HNX.out.mono ?_; rintro e w12 ⟨rfl, hc12, hX12⟩
                                have HG12 := Lib.hid (HGb.out.taken hc12 hX12)
                                have HAB2 := Lib.hid (HAB.out.frX hX12 HX10.out)
                                clear hc12 hX12 HNX k0 k1 k7)
        obtain ⟨⟨k0, k1⟩, k7⟩ := HAB2.out.all
        obtain ⟨x0, x1, x2, x3, x4, f0, f1, f2, f3, f4⟩ := fvc HG12.out.box
        have HRN := Lib.hid (rnext_any (w := w12) B0 B1 A0 C.t.ks.length d0 C.t.wait.length d1 dr.length c0 deep sl a.n)
        obtain ⟨s2, hs2⟩ : ∃ s2, max sl a.n = s2 := ⟨_, rfl⟩
        rw [hs2] at HRN HA1
        obtain ⟨C2, hC2⟩ : ∃ C2, C.next a.n = C2 := ⟨_, rfl⟩
        have hCt : C2.t = C.t := by rw [← hC2]; rfl
        rw [hC2] at HG12 HA1
        have HCT := Lib.hid hCt
        clear hC2 hs2 hCt
        go_upto_region 14 with (go_at_call 10; refine HRN.out.mono ?_; rintro e w13 ⟨rfl, hF13⟩
                                have HGP := Lib.hid (HG12.out.doc (t' := C.t) (u0 := .slice B0 C.t.ks.length d0) (u1 := .slice B1 C.t.wait.length d1) (dp' := deep) (sl' := s2) hF13 ((HG12.out.ks.fr hF13).weak (fun k hk => .inl hk)) ((HG12.out.wait.fr hF13).weak (fun k hk => .inl hk)))
                                have HBX := Lib.hid (HG12.out.mv hF13).box
                                have HAB3 := Lib.hid (HAB2.out.fr hF13)
                                clear hF13 HRN x0 x1 x2 x3 x4 f0 f1 f2 f3 f4 k0 k1 k7
                                obtain ⟨x0, x1, x2, x3, x4, f0, f1, f2, f3, f4⟩ := fvc HBX.out)
        obtain ⟨W14, hW14⟩ : ∃ W14, W14 = put5 w13 g8 (.slice B0 C.t.ks.length d0) (.slice B1 C.t.wait.length d1) (.slice A0 dr.length c0) (.int .i64 deep) (.int .i64 s2) := ⟨_, rfl⟩
        have hF14 : Fr [g8] w13 W14 := by rw [hW14]; exact put5_fr (Fr.refl _ _) (.inl (by simp)) _ _ _ _ _
        have hne : g10 ≠ g8 := fun e => by
          have h1 := HAB.out
          have h2 := HGb.out.box
          unfold ActIn at h1
          unfold RChIn at h2
          rw [e] at h1
          rw [h1] at h2
          simp at h2
        have HAB4 : Hid (ActIn W14 g10 a) := (hF14.block g10 (Array.getElem?_eq_some_iff.1 HAB3.out).1 (by simp; exact hne)).trans HAB3.out
        rw [← hW14, ← HCT.out] at HGP
        have HG14 := HGP
        unfold put5 at hW14
        rw [← hW14]
        clear hW14 hF14 hne x0 x1 x2 x3 x4 f0 f1 f2 f3 f4
        obtain ⟨⟨k0, k1⟩, k7⟩ := HAB4.out.all
        rw [← HCT.out]
        go_upto_region 27 with (fail)
        clear k0 k1 k7
        obtain ⟨x0, x1, x2, x3, x4, _, _, _, _, _⟩ := fvc HG14.out.box
        have hrc : RCh (fun _ => True) W14 C2 B0 d0 B1 d1 A0 c0 := ⟨HA1.out.1, HA1.out.2.1, by rw [HA1.out.2.2.1]; exact HOKD.out, HG14.out.ks.weak (fun _ _ => trivial), HG14.out.wait.weak (fun _ _ => trivial), by rw [HA1.out.2.2.1]; exact Kd.C_below HDR.out HG14.out.fr.below, by rw [HA1.out.2.2.1]; exact HDC.out⟩
        have HRC := Lib.hid hrc
        obtain ⟨tip, htip⟩ : ∃ tip, C2.t.tip = tip := ⟨_, rfl⟩
        obtain ⟨cf, hcf⟩ : ∃ cf, C2.conf = cf := ⟨_, rfl⟩
        obtain ⟨ti, tv, tD, hI⟩ := HG14.out.ch
        have HI := Lib.hid hI
        have HTI : Hid (∀ W, Fr [] W14 W → Calls Tryz.prog 18 #[.agg #[.slice B0 C2.t.ks.length d0, .slice B1 C2.t.wait.length d1]] W fun e w' => e = .returned (.int .i64 tip) ∧ Fr [] W w') := fun W hW => by
          have h := rtip_calls HA1.out.1 HA1.out.2.1 (HRC.out.fr hW).ks (HRC.out.fr hW).wait
          rw [htip] at h; exact h
        have HS1 : Hid (∀ W, Fr [] W14 W → Calls Tryz.prog 19 #[.pointer (some ⟨p, 0, none⟩)] W fun e w' => e = .returned (.int .i64 s2) ∧ Fr [] W w') := fun W hW => by
          have h := ch_slot (HG14.out.ch.fr hW)
          rw [HA1.out.2.2.2.2] at h; exact h
        have HS2 : Hid (∀ W, Fr [] W14 W → Calls Tryz.prog 20 #[.pointer (some ⟨p, 0, none⟩)] W fun e w' => e = .returned (.pointer (some ⟨ti, 0, none⟩)) ∧ Fr [] W w') := fun W hW => ch_tree (HI.out.fr hW)
        have HS3 : Hid (∀ W, Fr [] W14 W → Calls Tryz.prog 21 #[.pointer (some ⟨ti, 0, none⟩)] W fun e w' => e = .returned (.int .i64 tip) ∧ Fr [] W w') := fun W hW => by
          have h := tip_calls (HI.out.fr hW).tr HA1.out.1.ok
          rw [htip] at h; exact h
        have HS4 : Hid (∀ W, Fr [] W14 W → Calls Tryz.prog 22 #[.pointer (some ⟨p, 0, none⟩)] W fun e w' => e = .returned (.int .i64 cf) ∧ Fr [] W w') := fun W hW => by
          have h := ch_conf (HG14.out.ch.fr hW) HA1.out.1
          rw [hcf] at h; exact h
        have HS5 : Hid (∀ W, Fr [] W14 W → Calls Tryz.prog 23 #[.agg #[.slice B0 C2.t.ks.length d0, .slice B1 C2.t.wait.length d1, .slice A0 dr.length c0, .int .i64 deep, .int .i64 s2]] W fun e w' => e = .returned (.int .i64 cf) ∧ Fr [] W w') := fun W hW => by
          have h := rconf_calls (HRC.out.fr hW)
          rw [hcf, HA1.out.2.2.1, HA1.out.2.2.2.1, HA1.out.2.2.2.2] at h; exact h
        have HS6 : Hid (∀ W, Fr [] W14 W → Calls Tryz.prog 24 #[.pointer (some ⟨p, 0, none⟩), .int .i64 tip] W fun e w' => ∃ v, e = .returned v ∧ OwnI W.heap.size w' v (C2.txs tip) ∧ Fr [] W w') := fun W hW => ch_txs (HG14.out.ch.fr hW) HA1.out.1 tip
        have HS7 : Hid (∀ W, Fr [] W14 W → Calls Tryz.prog 25 #[.agg #[.slice B0 C2.t.ks.length d0, .slice B1 C2.t.wait.length d1, .slice A0 dr.length c0, .int .i64 deep, .int .i64 s2], .int .i64 tip] W fun e w' => ∃ v, e = .returned v ∧ OwnI W.heap.size w' v (C2.txs tip) ∧ Fr [] W w') := fun W hW => by
          have h := rtxs_calls (HRC.out.fr hW) tip
          rw [HA1.out.2.2.1, HA1.out.2.2.2.1, HA1.out.2.2.2.2] at h; exact h
        have hB7 := HG14.out.box
        obtain ⟨T, hT⟩ : ∃ T, C2.txs tip = T := ⟨_, rfl⟩
        rw [hT] at HS6 HS7
        obtain ⟨v0, hv0⟩ : ∃ v0 : Value, .slice B0 C2.t.ks.length d0 = v0 := ⟨_, rfl⟩
        obtain ⟨v1, hv1⟩ : ∃ v1 : Value, .slice B1 C2.t.wait.length d1 = v1 := ⟨_, rfl⟩
        rw [hv0, hv1] at HTI HS5 HS7 hB7
        rw [hv0] at x0
        rw [hv1] at x1
        have HSF : Hid (∀ W, Fr [] W14 W → Fr [] W14 W ∧ W.cell? ⟨g8, 0, none⟩ = some v0 ∧ W.cell? ⟨g8, 1, none⟩ = some v1 ∧ W.cell? ⟨g8, 2, none⟩ = some (.slice A0 dr.length c0) ∧ W.cell? ⟨g8, 3, none⟩ = some (.int .i64 deep) ∧ W.cell? ⟨g8, 4, none⟩ = some (.int .i64 s2)) := fun W hW => ⟨hW, (hB7.fr hW).conj⟩
        clear hrc hI htip hcf hT hB7 hv0 hv1
        go_upto_region 28 with (go_at_call 18; refine (HTI.out _ (Fr.refl _ _)).mono ?_; rintro e wt ⟨rfl, hG⟩; have HFt := Lib.hid hG; clear hG HTI x0 x1 x2 x3 x4)
        have HFa0 : Hid (Fr [] W14 wt.drew) := HFt.out.drew
        have hS0a := HSF.out _ HFa0.out
        go_region_held3 (fun W => Fr [] W14 W ∧ W.cell? ⟨g8, 0, none⟩ = some v0 ∧ W.cell? ⟨g8, 1, none⟩ = some v1 ∧ W.cell? ⟨g8, 2, none⟩ = some (.slice A0 dr.length c0) ∧ W.cell? ⟨g8, 3, none⟩ = some (.int .i64 deep) ∧ W.cell? ⟨g8, 4, none⟩ = some (.int .i64 s2)) (with_reducible assumption)
          (first
            | (go_at_call 19; refine (HS1.out _ HFa0.out).mono ?_; rintro e y1 ⟨rfl, hG⟩; have HFa1 := Lib.hid (HFa0.out.trans hG (by simp)); have hS1a := HSF.out _ HFa1.out; clear hG HS1)
            | (go_at_call 20; refine (HS2.out _ HFa1.out).mono ?_; rintro e y2 ⟨rfl, hG⟩; have HFa2 := Lib.hid (HFa1.out.trans hG (by simp)); have hS2a := HSF.out _ HFa2.out; clear hG HS2)
            | (go_at_call 21; refine (HS3.out _ HFa2.out).mono ?_; rintro e y3 ⟨rfl, hG⟩; have HFa3 := Lib.hid (HFa2.out.trans hG (by simp)); have hS3a := HSF.out _ HFa3.out; clear hG HS3)
            | (go_at_call 22; refine (HS4.out _ HFa3.out).mono ?_; rintro e y4 ⟨rfl, hG⟩; have HFa4 := Lib.hid (HFa3.out.trans hG (by simp)); have hS4a := HSF.out _ HFa4.out; clear hG HS4)
            | (go_at_call 23; refine (HS5.out _ HFa4.out).mono ?_; rintro e y5 ⟨rfl, hG⟩; have HFa5 := Lib.hid (HFa4.out.trans hG (by simp)); have hS5a := HSF.out _ HFa5.out; clear hG HS5)
            | (go_at_call 24; refine (HS6.out _ HFa5.out).mono ?_; rintro e y6 ⟨v6, rfl, hO6, hG⟩; obtain ⟨A6, c6, rfl⟩ := hO6.form; have HO6 := Lib.hid hO6; clear hO6; have HFa6 := Lib.hid (HFa5.out.trans hG (by simp)); have hS6a := HSF.out _ HFa6.out; clear hG HS6)
            | (go_at_call 25; refine (HS7.out _ HFa6.out).mono ?_; rintro e y7 ⟨v7, rfl, hO7, hG⟩; obtain ⟨A7, c7, rfl⟩ := hO7.form; have HM7 := Lib.hid (same_sl (HO6.out.sl.fr hG) hO7.sl); simp only [decide_true] at HM7; clear hO7; have HFa7 := Lib.hid (HFa6.out.trans hG (by simp)); have hS7a := HSF.out _ HFa7.out; clear hG HS7)
            | (go_at_call 17; refine (HM7.out).mono ?_; rintro e y8 ⟨rfl, hG⟩; have HFa8 := Lib.hid (HFa7.out.trans hG (by simp)); have hS8a := HSF.out _ HFa8.out; clear hG HM7))
        all_goals
          go_wp2
          go_roundg m'
          case rel => exact ⟨m', j + 1, C2, s2, B0, d0, B1, d1, rfl, by go_num, by omega, HA1, ⟨_, _, HG14.out.mv HFa8.out⟩⟩
          case measure => omega
      · have hkb : (a.kind == 1) = false := by simpa using hk1
        by_cases hk2 : a.kind = 2
        · have hkc : (a.kind == 2) = true := by simpa using hk2
          clear hk1 hk2
          obtain ⟨mb, mk, hmk⟩ : ∃ mb mk, C.make a.n a.txs = (mb, mk) := ⟨_, _, rfl⟩
          have HMK := Lib.hid hmk
          clear hmk
          have HSF : Hid (∀ W, Fr [] W10 W → W.cell? ⟨g10, 1, none⟩ = some (.int .i64 a.n) ∧ W.cell? ⟨g10, 7, none⟩ = some (.slice a.At a.txs.length a.ct)) := fun W hW => ⟨(HAB.out.fr hW).all.1.2, (HAB.out.fr hW).all.2⟩
          have hrb : RCh (fun _ => True) W10 C B0 d0 B1 d1 A0 c0 := ⟨HA.out.1, HA.out.2.1, by rw [HA.out.2.2.1]; exact HOKD.out, HGb.out.ks.weak (fun _ _ => trivial), HGb.out.wait.weak (fun _ _ => trivial), by rw [HA.out.2.2.1]; exact Kd.C_below HDR.out HGb.out.fr.below, by rw [HA.out.2.2.1]; exact HDC.out⟩
          have HRM : Hid (∀ W, Fr [] W10 W → Calls Tryz.prog 12 #[.agg #[.slice B0 C.t.ks.length d0, .slice B1 C.t.wait.length d1, .slice A0 dr.length c0, .int .i64 deep, .int .i64 sl], .int .i64 a.n, .slice a.At a.txs.length a.ct] W fun e w' => RMakeRes W mb mk e w') := fun W hW => by
            have h := rmake_calls (hrb.fr hW) a.n (HTXC.out _ hW) HFI.out.lt
            rw [HMK.out, HA.out.2.2.1, HA.out.2.2.2.1, HA.out.2.2.2.2] at h; exact h
          clear hrb
          have HFa0 : Hid (Fr [] W10 W10.drew) := (Fr.refl _ _).drew
          have hS0a := HSF.out _ HFa0.out
          have HTC := Lib.hid (HTXC.out _ (Fr.refl _ _))
          have hFa0 := HFa0.out
          go_upto_region 16 with (fail)
          clear k0 k1 k7
          go_cut [13, 14, 51] from 51 to 159 (fun v13 v14 v51 wc => ∃ (g13 : Nat) (A8 : Option Addr) (d8 : Nat), v13 = .pointer (some ⟨g13, 0, none⟩) ∧ v14 = .bool mk ∧ v51 = .int .i64 j ∧ Hid (Fr [] W10 wc) ∧ Hid (BlkIn wc g13 ⟨mb, A8, d8⟩) ∧ Hid (mb.f4.length ≤ d8) ∧ Hid (k67.C wc A8 mb.f4.length mb.f4))
          case first =>
            go_region_held3 (fun W => W.cell? ⟨g10, 1, none⟩ = some (.int .i64 a.n) ∧ W.cell? ⟨g10, 7, none⟩ = some (.slice a.At a.txs.length a.ct)) (first | (with_reducible assumption) | exact HSF.out _ (by repeat (first | assumption | exact Fr.refl _ _ | apply Fr.drew | apply Fr.alloc | refine Fr.setCell ?_ (.inr (by first | assumption | exact Nat.le_refl _ | exact Nat.le_succ _)) _)))
              (first
                | (refine wp_copyT_step (w0 := W10) (by rfl) _ _ (by rfl) (by rfl) (by rfl) ?_ ?_ ?_ HTC.out HTX.out ?_; (· repeat (first | assumption | exact Fr.refl _ _ | apply Fr.drew | apply Fr.alloc)); (· first | exact Nat.le_refl _ | exact Nat.le_succ _ | (simp; done)); (· first | exact heap_alloc_new _ _ | (have h2 := heap_alloc_new (World.alloc (World.drew W10) (.cells #[.int .i64 0, .int .i64 0, .int .i64 0, .int .i64 0, .slice none 0 0] 35)) (.cells #[] 67); rw [show (World.alloc (World.drew W10) (.cells #[.int .i64 0, .int .i64 0, .int .i64 0, .int .i64 0, .slice none 0 0] 35)).heap.size = W10.heap.size + 1 from by simp] at h2; exact h2) | exact alloc_keptZ (by repeat (first | assumption | exact Fr.refl _ _ | apply Fr.drew | apply Fr.alloc))); intro A3 c3 w3 hc3 hC3 hF3 hG3
                   have HFc := Lib.hid hF3
                   have HMA := Lib.hid (fun (W : World) (hW : Fr [] w3 W) => ch_makeC (ct := c3) (HGb.out.ch.fr (hF3.trans hW (by simp))) HA.out.1 a.n a.txs (Kd.C_below hC3 hW.below) HMK.out)
                   have hS1a := HSF.out _ hF3
                   have hs3 : W10.heap.size ≤ w3.heap.size := hF3.size
                   first
                     | ((with_reducible (have hG4 : Fr [_] (World.alloc (World.alloc (World.drew W10) (.cells #[] 67)) (.cells #[.int .i64 0, .int .i64 0, .int .i64 0, .int .i64 0, .slice none 0 0] 35)) w3 := hG3)); have hz3 : w3.heap[W10.heap.size + 1]? = some (.cells #[.int .i64 0, .int .i64 0, .int .i64 0, .int .i64 0, .slice none 0 0] 35 (0, 0)) := by
                          have h := (hG3.block (W10.heap.size + 1) (by simp) (by simp)).trans (show _ = some (.cells #[.int .i64 0, .int .i64 0, .int .i64 0, .int .i64 0, .slice none 0 0] 35 (0, 0)) from by have h2 := heap_alloc_new (World.alloc (World.drew W10) (.cells #[] 67)) (.cells #[.int .i64 0, .int .i64 0, .int .i64 0, .int .i64 0, .slice none 0 0] 35); rw [show (World.alloc (World.drew W10) (.cells #[] 67)).heap.size = W10.heap.size + 1 from by simp] at h2; exact h2)
                          exact h)
                     | ((with_reducible (have hG4 : Fr [_] (World.alloc (World.alloc (World.drew W10) (.cells #[.int .i64 0, .int .i64 0, .int .i64 0, .int .i64 0, .slice none 0 0] 35)) (.cells #[] 67)) w3 := hG3)); have hz3 : w3.heap[W10.heap.size]? = some (.cells #[.int .i64 0, .int .i64 0, .int .i64 0, .int .i64 0, .slice none 0 0] 35 (0, 0)) := (hG3.block W10.heap.size (by first | (simp; done) | (simp; omega)) (by simp)).trans (alloc_keptZ (w := World.drew W10) ((Fr.refl _ _).alloc _)))
                     | skip
                   clear hc3 hC3 hG3
                   try clear hG4)
                | (go_at_call 11; refine (HMA.out _ (by repeat (first | assumption | exact Fr.refl _ _ | apply Fr.drew | apply Fr.alloc))).mono ?_; rintro e w16 ⟨A8, d8, rfl, hl8, hC8, hR8, hN8, hF8⟩
                   have HFm := Lib.hid (Fr.trans (S := []) (Fr.trans (S := []) hF3 (show Fr [] w3 _ from (by repeat (first | assumption | exact Fr.refl _ _ | apply Fr.drew | apply Fr.alloc))) (by simp)) hF8 (by simp))
                   have HC8 := Lib.hid hC8
                   have HL8 := Lib.hid hl8
                   have hS2a := HSF.out _ HFm.out
                   have hfm := HFm.out
                   have HQ8 := Lib.hid (Kd.F_mono (txs_own hR8) hN8)
                   first
                     | (have HZ := Lib.hid (alloc_keptZ hF8); have hz5 := fvc HZ.out; obtain ⟨z0, z1, z2, z3, z4, q0, q1, q2, q3, q4⟩ := hz5)
                     | (have HZ := Lib.hid ((hF8.block _ (Array.getElem?_eq_some_iff.1 hz3).1 (by simp)).trans hz3); have hgz := (Array.getElem?_eq_some_iff.1 hz3).1; have hz5 := fvc HZ.out; obtain ⟨z0, z1, z2, z3, z4, q0, q1, q2, q3, q4⟩ := hz5)
                     | skip
                   clear hl8 hC8 hR8 hN8 hF8 HMA))
            all_goals
              first
                | (obtain ⟨hf, hb, hc⟩ := made16 (mb := mb) (d8 := d8) HZ.out HFm.out (by first | assumption | exact Nat.le_refl _ | exact Nat.le_succ _) (by first | exact hgz | (simp; done)) HQ8.out
                   have HFn := Lib.hid hf
                   have HB16 := Lib.hid hb
                   have HC16 := Lib.hid hc
                   clear hf hb hc z0 z1 z2 z3 z4 q0 q1 q2 q3 q4)
                | (obtain ⟨hf, hb, hc⟩ := made16n (mb := mb) (d8 := d8) HFm.out HC8.out
                   have HFn := Lib.hid hf
                   have HB16 := Lib.hid hb
                   have HC16 := Lib.hid hc
                   clear hf hb hc)
              go_wp2
              go_meet
              case rel => exact ⟨_, _, _, rfl, rfl, rfl, HFn, HB16, HL8, HC16⟩
          case rest =>
            obtain ⟨g13, A8, d8, rfl, rfl, rfl, HFn, HB16, HL8, HC16⟩ := hcut
            obtain ⟨W16, rfl⟩ : ∃ W16, W16 = wc := ⟨_, rfl⟩
            have HGn := Lib.hid (HGb.out.mv HFn.out)
            obtain ⟨⟨k0, k1⟩, k7⟩ := (HAB.out.fr HFn.out).all
            obtain ⟨x0, x1, x2, x3, x4, _, _, _, _, _⟩ := fvc HGn.out.box
            go_upto_region 18 with (go_at_call 12; refine (HRM.out _ HFn.out).mono ?_; rintro e w17 ⟨A9, d9, rfl, hl9, hC9, hF9, hFr9⟩
                                    have HL9 := Lib.hid hl9
                                    have HC9 := Lib.hid hC9
                                    have HQ9 := Lib.hid hF9
                                    have HF17 := Lib.hid hFr9
                                    clear hl9 hC9 hF9 hFr9 HRM k0 k1 k7 x0 x1 x2 x3 x4)
            obtain ⟨W17, hW17⟩ : ∃ W17, W17 = w17.alloc (.cells #[.int .i64 mb.f0, .int .i64 mb.f1, .int .i64 mb.f2, .int .i64 mb.f3, .slice A9 mb.f4.length d9] 35) := ⟨_, rfl⟩
            obtain ⟨g15, hg15⟩ : ∃ g, g = w17.heap.size := ⟨_, rfl⟩
            have hF17 : Fr [] w17 W17 := by rw [hW17]; exact (Fr.refl _ _).alloc _
            have hB17 : BlkIn W17 g15 ⟨mb, A9, d9⟩ := by rw [hg15]; exact BlkIn.made hW17
            have HF17a := Lib.hid (HF17.out.trans hF17 (by simp))
            have HB17 := Lib.hid hB17
            have HB16b := Lib.hid (HB16.out.fr HF17a.out)
            have HQ17 := Lib.hid (Kd.F_below HQ9.out hF17.below)
            have HG17 := Lib.hid (HGn.out.mv HF17a.out)
            have hmz : mb.f4.length ≤ 1000000 := by have h := make_small C a.n a.txs; rw [HMK.out] at h; exact Nat.le_trans (show mb.f4.length ≤ 3 from h) (by omega)
            have HSM := Lib.hid (rsame_blk hmz (Kd.C_below HC16.out HF17a.out.below) HL8.out (Kd.C_below HC9.out hF17.below) HL9.out)
            have HMZ := Lib.hid hmz
            rw [← hW17, ← hg15]
            clear hW17 hg15 hF17 hB17 hmz
            obtain ⟨b0, b1, b2, b3, b4⟩ := HB16b.out.cells
            obtain ⟨y0, y1, y2, y3, y4⟩ := HB17.out.cells
            go_upto_region 20 with (go_at_call 13; refine HSM.out.mono ?_; rintro e w18 ⟨rfl, hF18⟩
                                    have HF18 := Lib.hid hF18
                                    clear hF18 HSM b0 b1 b2 b3 b4 y0 y1 y2 y3 y4)
            have HF1718 := Lib.hid (HFn.out.trans (HF17a.out.trans HF18.out (by simp)) (by simp))
            obtain ⟨y0, y1, y2, y3, y4⟩ := (HB17.out.fr HF18.out).cells
            have hbb := HBB.out.fr HF1718.out
            obtain ⟨b0, b1, b2, b3, b4, f0, f1, f2, f3, f4⟩ := fvc hbb
            have hgb18 := HG17.out.mv HF18.out
            go_upto_region 21 with (fail)
            obtain ⟨W20, hW20⟩ : ∃ W20, W20 = put5 w18 g11 (.int .i64 mb.f0) (.int .i64 mb.f1) (.int .i64 mb.f2) (.int .i64 mb.f3) (.slice A9 mb.f4.length d9) := ⟨_, rfl⟩
            have hne : g11 ≠ g8 := fun e => by
              have h1 := HBB.out
              have h2 := HGb.out.box
              unfold BlkIn at h1
              unfold RChIn at h2
              rw [e] at h1
              rw [h1] at h2
              simp at h2
            have hF20 : Fr [g11] w18 W20 := by rw [hW20]; exact put5_fr (Fr.refl _ _) (.inl (by simp)) _ _ _ _ _
            have hB20 : BlkIn W20 g11 ⟨mb, A9, d9⟩ := by rw [hW20]; exact put5_heap hbb _ _ _ _ _
            obtain ⟨X20, Y20, hg20, hx20, hq20⟩ := GCW.made hgb18 hF20 (.inl (.inl (.inl HX11.out))) HG11.out hne HYN.out (Kd.F_below HQ17.out HF18.out.below) (by
              intro k h1 h2
              have h3 := HF17a.out.size
              have h4 := HF18.out.size
              refine ⟨?_, by have := HGn.out.x g8 HGn.out.g; omega, by have := HGn.out.x g11 (.inl HX11.out); omega⟩
              rcases Nat.lt_or_ge k W17.heap.size with h5 | h5
              · exact .inl (.inr ⟨h1, h5⟩)
              · exact .inr ⟨h5, h2⟩)
            have HG20 := Lib.hid hg20
            have HX20 := Lib.hid hx20
            have HQ20 := Lib.hid hq20
            have HB20 := Lib.hid hB20
            unfold put5 at hW20
            rw [← hW20]
            clear hW20 hne hF20 hB20 hg20 hx20 hq20 hbb hgb18 b0 b1 b2 b3 b4 f0 f1 f2 f3 f4 y0 y1 y2 y3 y4
            cases mk with
            | false =>
              go_upto_region 27 with (fail)
              obtain ⟨x0, x1, x2, x3, x4, _, _, _, _, _⟩ := fvc HG20.out.box
              have hrc : RCh (fun _ => True) W20 C B0 d0 B1 d1 A0 c0 := ⟨HA.out.1, HA.out.2.1, by rw [HA.out.2.2.1]; exact HOKD.out, HG20.out.ks.weak (fun _ _ => trivial), HG20.out.wait.weak (fun _ _ => trivial), by rw [HA.out.2.2.1]; exact Kd.C_below HDR.out HG20.out.fr.below, by rw [HA.out.2.2.1]; exact HDC.out⟩
              have HRC := Lib.hid hrc
              obtain ⟨tip, htip⟩ : ∃ tip, C.t.tip = tip := ⟨_, rfl⟩
              obtain ⟨cf, hcf⟩ : ∃ cf, C.conf = cf := ⟨_, rfl⟩
              obtain ⟨ti, tv, tD, hI⟩ := HG20.out.ch
              have HI := Lib.hid hI
              have HTI : Hid (∀ W, Fr [] W20 W → Calls Tryz.prog 18 #[.agg #[.slice B0 C.t.ks.length d0, .slice B1 C.t.wait.length d1]] W fun e w' => e = .returned (.int .i64 tip) ∧ Fr [] W w') := fun W hW => by
                have h := rtip_calls HA.out.1 HA.out.2.1 (HRC.out.fr hW).ks (HRC.out.fr hW).wait
                rw [htip] at h; exact h
              have HS1 : Hid (∀ W, Fr [] W20 W → Calls Tryz.prog 19 #[.pointer (some ⟨p, 0, none⟩)] W fun e w' => e = .returned (.int .i64 sl) ∧ Fr [] W w') := fun W hW => by
                have h := ch_slot (HG20.out.ch.fr hW)
                rw [HA.out.2.2.2.2] at h; exact h
              have HS2 : Hid (∀ W, Fr [] W20 W → Calls Tryz.prog 20 #[.pointer (some ⟨p, 0, none⟩)] W fun e w' => e = .returned (.pointer (some ⟨ti, 0, none⟩)) ∧ Fr [] W w') := fun W hW => ch_tree (HI.out.fr hW)
              have HS3 : Hid (∀ W, Fr [] W20 W → Calls Tryz.prog 21 #[.pointer (some ⟨ti, 0, none⟩)] W fun e w' => e = .returned (.int .i64 tip) ∧ Fr [] W w') := fun W hW => by
                have h := tip_calls (HI.out.fr hW).tr HA.out.1.ok
                rw [htip] at h; exact h
              have HS4 : Hid (∀ W, Fr [] W20 W → Calls Tryz.prog 22 #[.pointer (some ⟨p, 0, none⟩)] W fun e w' => e = .returned (.int .i64 cf) ∧ Fr [] W w') := fun W hW => by
                have h := ch_conf (HG20.out.ch.fr hW) HA.out.1
                rw [hcf] at h; exact h
              have HS5 : Hid (∀ W, Fr [] W20 W → Calls Tryz.prog 23 #[.agg #[.slice B0 C.t.ks.length d0, .slice B1 C.t.wait.length d1, .slice A0 dr.length c0, .int .i64 deep, .int .i64 sl]] W fun e w' => e = .returned (.int .i64 cf) ∧ Fr [] W w') := fun W hW => by
                have h := rconf_calls (HRC.out.fr hW)
                rw [hcf, HA.out.2.2.1, HA.out.2.2.2.1, HA.out.2.2.2.2] at h; exact h
              have HS6 : Hid (∀ W, Fr [] W20 W → Calls Tryz.prog 24 #[.pointer (some ⟨p, 0, none⟩), .int .i64 tip] W fun e w' => ∃ v, e = .returned v ∧ OwnI W.heap.size w' v (C.txs tip) ∧ Fr [] W w') := fun W hW => ch_txs (HG20.out.ch.fr hW) HA.out.1 tip
              have HS7 : Hid (∀ W, Fr [] W20 W → Calls Tryz.prog 25 #[.agg #[.slice B0 C.t.ks.length d0, .slice B1 C.t.wait.length d1, .slice A0 dr.length c0, .int .i64 deep, .int .i64 sl], .int .i64 tip] W fun e w' => ∃ v, e = .returned v ∧ OwnI W.heap.size w' v (C.txs tip) ∧ Fr [] W w') := fun W hW => by
                have h := rtxs_calls (HRC.out.fr hW) tip
                rw [HA.out.2.2.1, HA.out.2.2.2.1, HA.out.2.2.2.2] at h; exact h
              have hB7 := HG20.out.box
              obtain ⟨T, hT⟩ : ∃ T, C.txs tip = T := ⟨_, rfl⟩
              rw [hT] at HS6 HS7
              obtain ⟨v0, hv0⟩ : ∃ v0 : Value, .slice B0 C.t.ks.length d0 = v0 := ⟨_, rfl⟩
              obtain ⟨v1, hv1⟩ : ∃ v1 : Value, .slice B1 C.t.wait.length d1 = v1 := ⟨_, rfl⟩
              rw [hv0, hv1] at HTI HS5 HS7 hB7
              rw [hv0] at x0
              rw [hv1] at x1
              have HSF : Hid (∀ W, Fr [] W20 W → Fr [] W20 W ∧ W.cell? ⟨g8, 0, none⟩ = some v0 ∧ W.cell? ⟨g8, 1, none⟩ = some v1 ∧ W.cell? ⟨g8, 2, none⟩ = some (.slice A0 dr.length c0) ∧ W.cell? ⟨g8, 3, none⟩ = some (.int .i64 deep) ∧ W.cell? ⟨g8, 4, none⟩ = some (.int .i64 sl)) := fun W hW => ⟨hW, (hB7.fr hW).conj⟩
              clear hrc hI htip hcf hT hB7 hv0 hv1
              go_upto_region 28 with (go_at_call 18; refine (HTI.out _ (Fr.refl _ _)).mono ?_; rintro e wt ⟨rfl, hG⟩; have HFt := Lib.hid hG; clear hG HTI x0 x1 x2 x3 x4)
              have HFa0 : Hid (Fr [] W20 wt.drew) := HFt.out.drew
              have hS0a := HSF.out _ HFa0.out
              go_region_held3 (fun W => Fr [] W20 W ∧ W.cell? ⟨g8, 0, none⟩ = some v0 ∧ W.cell? ⟨g8, 1, none⟩ = some v1 ∧ W.cell? ⟨g8, 2, none⟩ = some (.slice A0 dr.length c0) ∧ W.cell? ⟨g8, 3, none⟩ = some (.int .i64 deep) ∧ W.cell? ⟨g8, 4, none⟩ = some (.int .i64 sl)) (with_reducible assumption)
                (first
                  | (go_at_call 19; refine (HS1.out _ HFa0.out).mono ?_; rintro e y1 ⟨rfl, hG⟩; have HFa1 := Lib.hid (HFa0.out.trans hG (by simp)); have hS1a := HSF.out _ HFa1.out; clear hG HS1)
                  | (go_at_call 20; refine (HS2.out _ HFa1.out).mono ?_; rintro e y2 ⟨rfl, hG⟩; have HFa2 := Lib.hid (HFa1.out.trans hG (by simp)); have hS2a := HSF.out _ HFa2.out; clear hG HS2)
                  | (go_at_call 21; refine (HS3.out _ HFa2.out).mono ?_; rintro e y3 ⟨rfl, hG⟩; have HFa3 := Lib.hid (HFa2.out.trans hG (by simp)); have hS3a := HSF.out _ HFa3.out; clear hG HS3)
                  | (go_at_call 22; refine (HS4.out _ HFa3.out).mono ?_; rintro e y4 ⟨rfl, hG⟩; have HFa4 := Lib.hid (HFa3.out.trans hG (by simp)); have hS4a := HSF.out _ HFa4.out; clear hG HS4)
                  | (go_at_call 23; refine (HS5.out _ HFa4.out).mono ?_; rintro e y5 ⟨rfl, hG⟩; have HFa5 := Lib.hid (HFa4.out.trans hG (by simp)); have hS5a := HSF.out _ HFa5.out; clear hG HS5)
                  | (go_at_call 24; refine (HS6.out _ HFa5.out).mono ?_; rintro e y6 ⟨v6, rfl, hO6, hG⟩; obtain ⟨A6, c6, rfl⟩ := hO6.form; have HO6 := Lib.hid hO6; clear hO6; have HFa6 := Lib.hid (HFa5.out.trans hG (by simp)); have hS6a := HSF.out _ HFa6.out; clear hG HS6)
                  | (go_at_call 25; refine (HS7.out _ HFa6.out).mono ?_; rintro e y7 ⟨v7, rfl, hO7, hG⟩; obtain ⟨A7, c7, rfl⟩ := hO7.form; have HM7 := Lib.hid (same_sl (HO6.out.sl.fr hG) hO7.sl); simp only [decide_true] at HM7; clear hO7; have HFa7 := Lib.hid (HFa6.out.trans hG (by simp)); have hS7a := HSF.out _ HFa7.out; clear hG HS7)
                  | (go_at_call 17; refine (HM7.out).mono ?_; rintro e y8 ⟨rfl, hG⟩; have HFa8 := Lib.hid (HFa7.out.trans hG (by simp)); have hS8a := HSF.out _ HFa8.out; clear hG HM7))
              all_goals
                go_wp2
                go_roundg m'
                case rel => exact ⟨m', j + 1, C, sl, B0, d0, B1, d1, rfl, by go_num, by omega, HA, ⟨_, _, HG20.out.mv HFa8.out⟩⟩
                case measure => omega
            | true =>
              have hrm : rng mb := by have h := make_rng HA.out.1.ok a.n a.txs; rw [HMK.out] at h; exact h
              have HRM2 := Lib.hid hrm
              have HMZ2 : Hid (mb.f4.length ≤ 8796093022208) := Nat.le_trans HMZ.out (by omega)
              clear hrm
              go_upto_region 22 with (fail)
              have HCP := Lib.hid (copy_C ⟨mb, A9, d9⟩ (Kd.F_now HQ20.out) HMZ2.out)
              obtain ⟨C', L3, E3, htk⟩ : ∃ C' L3 E3, C.take mb = (C', L3, E3) := ⟨_, _, _, rfl⟩
              have HTK := Lib.hid htk
              have hgd' := Ch.take_good HA.out.1 mb
              have hrg' := Ch.take_rng HA.out.2.1 HRM2.out
              have hkp' := Ch.take_keep C mb
              rw [htk] at hgd' hrg' hkp'
              have HA' : Hid (C'.t.Good ∧ C'.t.Rng ∧ C'.dr = dr ∧ C'.deep = deep ∧ C'.slot = sl) := ⟨hgd', hrg', hkp'.1.trans HA.out.2.2.1, hkp'.2.1.trans HA.out.2.2.2.1, hkp'.2.2.trans HA.out.2.2.2.2⟩
              clear htk hgd' hrg' hkp'
              obtain ⟨e0, e1, e2, e3, e4⟩ := HB20.out.cells
              go_upto_region 23 with (first
                | (go_at_call 15; refine HCP.out.mono ?_; rintro e wf ⟨A3, d3, rfl, hd3, hC3, hFf⟩
                   have HGf := Lib.hid (HG20.out.mv hFf)
                   have HAC := Lib.hid (ch_takeC HGf.out.ch HA.out.1 HGf.out.x mb hC3 hd3 HTK.out)
                   have HBf := Lib.hid (HB20.out.fr hFf)
                   have HQf := Lib.hid (Kd.F_below HQ20.out hFf.below)
                   clear hFf hC3 hd3 HCP)
                | (go_at_call 14; refine HAC.out.mono ?_; rintro e wg ⟨A4, d4, rfl, hO4, hTg, hXg⟩
                   have HGg := Lib.hid (HGf.out.taken hTg hXg)
                   have HBg := Lib.hid (HBf.out.frX hXg (.inl HX20.out))
                   have hQg : Kd.F k67 wg Y20 A9 mb.f4.length mb.f4 := Foot.step HQf.out (fun k hk hl => hXg.block hl (HGf.out.y k hk).1)
                   have HQg := Lib.hid hQg
                   have HO4 := Lib.hid hO4
                   clear hO4 hTg hXg HAC e0 e1 e2 e3 e4 hQg))
              obtain ⟨e0, e1, e2, e3, e4⟩ := HBg.out.cells
              obtain ⟨x0, x1, x2, x3, x4, f0, f1, f2, f3, f4⟩ := fvc HGg.out.box
              have hra := rtake_calls (C := C) (Ad := A0) (cd := c0) HA.out.1 HA.out.2.1 (by rw [HA.out.2.2.1]; exact HOKD.out) HGg.out.ks HGg.out.wait (by rw [HA.out.2.2.1]; exact Kd.C_below HDR.out HGg.out.fr.below) ⟨mb, A9, d9⟩ HL9.out HQg.out HRM2.out
              unfold RTakeRes at hra
              rw [HTK.out, HA.out.2.2.1, HA.out.2.2.2.1, HA.out.2.2.2.2] at hra
              have HRA := Lib.hid hra
              clear hra
              go_upto_region 24 with (go_at_call 16; refine HRA.out.mono ?_; rintro e wh ⟨C0, f0', C1, f1', D, d, rfl, hv0, hv1, hS, hFh⟩
                                      have HV0 := Lib.hid hv0
                                      have HV1 := Lib.hid hv1
                                      have HOD := Lib.hid hS
                                      have HFh := Lib.hid hFh
                                      clear hv0 hv1 hS hFh HRA e0 e1 e2 e3 e4 x0 x1 x2 x3 x4 f0 f1 f2 f3 f4)
              obtain ⟨W24, hW24⟩ : ∃ W24, W24 = wh.alloc (.cells #[.slice C0 C'.t.ks.length f0', .slice C1 C'.t.wait.length f1', .slice A0 dr.length c0, .int .i64 deep, .int .i64 sl] 32) := ⟨_, rfl⟩
              obtain ⟨g19, hg19⟩ : ∃ g19, g19 = wh.heap.size := ⟨_, rfl⟩
              have hF24 : Fr [] wh W24 := by rw [hW24]; exact (Fr.refl _ _).alloc _
              have hB19 : RChIn W24 g19 (.slice C0 C'.t.ks.length f0') (.slice C1 C'.t.wait.length f1') (.slice A0 dr.length c0) deep sl := by rw [hW24, hg19]; exact heap_alloc_new _ _
              have HF24 := Lib.hid (HFh.out.trans hF24 (by simp))
              have HGP := Lib.hid (HGg.out.doc (t' := C'.t) (dp' := deep) (sl' := sl) HF24.out (HV0.out.fr hF24) (HV1.out.fr hF24))
              have HBX := Lib.hid (HGg.out.mv HF24.out).box
              have HO24 := Lib.hid (HOD.out.fr hF24 (by simp))
              rw [← hW24, ← hg19]
              clear hW24 hg19 hF24
              obtain ⟨z0, z1, z2, z3, z4, _, _, _, _, _⟩ := fvc hB19
              obtain ⟨x0, x1, x2, x3, x4, f0, f1, f2, f3, f4⟩ := fvc HBX.out
              clear hB19
              go_upto_region 25 with (fail)
              obtain ⟨W25, hW25⟩ : ∃ W25, W25 = put5 W24 g8 (.slice C0 C'.t.ks.length f0') (.slice C1 C'.t.wait.length f1') (.slice A0 dr.length c0) (.int .i64 deep) (.int .i64 sl) := ⟨_, rfl⟩
              have hF25 : Fr [g8] W24 W25 := by rw [hW25]; exact put5_fr (Fr.refl _ _) (.inl (by simp)) _ _ _ _ _
              have hg8f := HGf.out.x g8 HGf.out.g
              have hg8g := HGg.out.x g8 HGg.out.g
              have HM := Lib.hid (same_sl ((HO4.out.fr HF24.out (by simp)).fr hF25 (fun k hk hm => by
                have h1 := HO4.out.2 k hk
                simp at hm
                omega)).sl (HO24.out.fr hF25 (fun k hk hm => by
                have h1 := HOD.out.2 k hk
                simp at hm
                omega)).sl)
              simp only [decide_true] at HM
              rw [← hW25] at HGP
              have HG25 := HGP
              unfold put5 at hW25
              rw [← hW25]
              clear hW25 hF25 hg8f hg8g x0 x1 x2 x3 x4 f0 f1 f2 f3 f4 z0 z1 z2 z3 z4
              go_upto_region 27 with (go_at_call 17; refine HM.out.mono ?_; rintro e w27 ⟨rfl, hG⟩
                                      have HG27 := Lib.hid (HG25.out.mv hG)
                                      clear hG HM)
              obtain ⟨x0, x1, x2, x3, x4, _, _, _, _, _⟩ := fvc HG27.out.box
              have hrc : RCh (fun _ => True) w27 C' C0 f0' C1 f1' A0 c0 := ⟨HA'.out.1, HA'.out.2.1, by rw [HA'.out.2.2.1]; exact HOKD.out, HG27.out.ks.weak (fun _ _ => trivial), HG27.out.wait.weak (fun _ _ => trivial), by rw [HA'.out.2.2.1]; exact Kd.C_below HDR.out HG27.out.fr.below, by rw [HA'.out.2.2.1]; exact HDC.out⟩
              have HRC := Lib.hid hrc
              obtain ⟨tip, htip⟩ : ∃ tip, C'.t.tip = tip := ⟨_, rfl⟩
              obtain ⟨cf, hcf⟩ : ∃ cf, C'.conf = cf := ⟨_, rfl⟩
              obtain ⟨ti, tv, tD, hI⟩ := HG27.out.ch
              have HI := Lib.hid hI
              have HTI : Hid (∀ W, Fr [] w27 W → Calls Tryz.prog 18 #[.agg #[.slice C0 C'.t.ks.length f0', .slice C1 C'.t.wait.length f1']] W fun e w' => e = .returned (.int .i64 tip) ∧ Fr [] W w') := fun W hW => by
                have h := rtip_calls HA'.out.1 HA'.out.2.1 (HRC.out.fr hW).ks (HRC.out.fr hW).wait
                rw [htip] at h; exact h
              have HS1 : Hid (∀ W, Fr [] w27 W → Calls Tryz.prog 19 #[.pointer (some ⟨p, 0, none⟩)] W fun e w' => e = .returned (.int .i64 sl) ∧ Fr [] W w') := fun W hW => by
                have h := ch_slot (HG27.out.ch.fr hW)
                rw [HA'.out.2.2.2.2] at h; exact h
              have HS2 : Hid (∀ W, Fr [] w27 W → Calls Tryz.prog 20 #[.pointer (some ⟨p, 0, none⟩)] W fun e w' => e = .returned (.pointer (some ⟨ti, 0, none⟩)) ∧ Fr [] W w') := fun W hW => ch_tree (HI.out.fr hW)
              have HS3 : Hid (∀ W, Fr [] w27 W → Calls Tryz.prog 21 #[.pointer (some ⟨ti, 0, none⟩)] W fun e w' => e = .returned (.int .i64 tip) ∧ Fr [] W w') := fun W hW => by
                have h := tip_calls (HI.out.fr hW).tr HA'.out.1.ok
                rw [htip] at h; exact h
              have HS4 : Hid (∀ W, Fr [] w27 W → Calls Tryz.prog 22 #[.pointer (some ⟨p, 0, none⟩)] W fun e w' => e = .returned (.int .i64 cf) ∧ Fr [] W w') := fun W hW => by
                have h := ch_conf (HG27.out.ch.fr hW) HA'.out.1
                rw [hcf] at h; exact h
              have HS5 : Hid (∀ W, Fr [] w27 W → Calls Tryz.prog 23 #[.agg #[.slice C0 C'.t.ks.length f0', .slice C1 C'.t.wait.length f1', .slice A0 dr.length c0, .int .i64 deep, .int .i64 sl]] W fun e w' => e = .returned (.int .i64 cf) ∧ Fr [] W w') := fun W hW => by
                have h := rconf_calls (HRC.out.fr hW)
                rw [hcf, HA'.out.2.2.1, HA'.out.2.2.2.1, HA'.out.2.2.2.2] at h; exact h
              have HS6 : Hid (∀ W, Fr [] w27 W → Calls Tryz.prog 24 #[.pointer (some ⟨p, 0, none⟩), .int .i64 tip] W fun e w' => ∃ v, e = .returned v ∧ OwnI W.heap.size w' v (C'.txs tip) ∧ Fr [] W w') := fun W hW => ch_txs (HG27.out.ch.fr hW) HA'.out.1 tip
              have HS7 : Hid (∀ W, Fr [] w27 W → Calls Tryz.prog 25 #[.agg #[.slice C0 C'.t.ks.length f0', .slice C1 C'.t.wait.length f1', .slice A0 dr.length c0, .int .i64 deep, .int .i64 sl], .int .i64 tip] W fun e w' => ∃ v, e = .returned v ∧ OwnI W.heap.size w' v (C'.txs tip) ∧ Fr [] W w') := fun W hW => by
                have h := rtxs_calls (HRC.out.fr hW) tip
                rw [HA'.out.2.2.1, HA'.out.2.2.2.1, HA'.out.2.2.2.2] at h; exact h
              have hB7 := HG27.out.box
              obtain ⟨T, hT⟩ : ∃ T, C'.txs tip = T := ⟨_, rfl⟩
              rw [hT] at HS6 HS7
              obtain ⟨v0, hv0⟩ : ∃ v0 : Value, .slice C0 C'.t.ks.length f0' = v0 := ⟨_, rfl⟩
              obtain ⟨v1, hv1⟩ : ∃ v1 : Value, .slice C1 C'.t.wait.length f1' = v1 := ⟨_, rfl⟩
              rw [hv0, hv1] at HTI HS5 HS7 hB7
              rw [hv0] at x0
              rw [hv1] at x1
              have HSF : Hid (∀ W, Fr [] w27 W → Fr [] w27 W ∧ W.cell? ⟨g8, 0, none⟩ = some v0 ∧ W.cell? ⟨g8, 1, none⟩ = some v1 ∧ W.cell? ⟨g8, 2, none⟩ = some (.slice A0 dr.length c0) ∧ W.cell? ⟨g8, 3, none⟩ = some (.int .i64 deep) ∧ W.cell? ⟨g8, 4, none⟩ = some (.int .i64 sl)) := fun W hW => ⟨hW, (hB7.fr hW).conj⟩
              clear hrc hI htip hcf hT hB7 hv0 hv1
              go_upto_region 28 with (go_at_call 18; refine (HTI.out _ (Fr.refl _ _)).mono ?_; rintro e wt ⟨rfl, hG⟩; have HFt := Lib.hid hG; clear hG HTI x0 x1 x2 x3 x4)
              have HFa0 : Hid (Fr [] w27 wt.drew) := HFt.out.drew
              have hS0a := HSF.out _ HFa0.out
              go_region_held3 (fun W => Fr [] w27 W ∧ W.cell? ⟨g8, 0, none⟩ = some v0 ∧ W.cell? ⟨g8, 1, none⟩ = some v1 ∧ W.cell? ⟨g8, 2, none⟩ = some (.slice A0 dr.length c0) ∧ W.cell? ⟨g8, 3, none⟩ = some (.int .i64 deep) ∧ W.cell? ⟨g8, 4, none⟩ = some (.int .i64 sl)) (with_reducible assumption)
                (first
                  | (go_at_call 19; refine (HS1.out _ HFa0.out).mono ?_; rintro e y1 ⟨rfl, hG⟩; have HFa1 := Lib.hid (HFa0.out.trans hG (by simp)); have hS1a := HSF.out _ HFa1.out; clear hG HS1)
                  | (go_at_call 20; refine (HS2.out _ HFa1.out).mono ?_; rintro e y2 ⟨rfl, hG⟩; have HFa2 := Lib.hid (HFa1.out.trans hG (by simp)); have hS2a := HSF.out _ HFa2.out; clear hG HS2)
                  | (go_at_call 21; refine (HS3.out _ HFa2.out).mono ?_; rintro e y3 ⟨rfl, hG⟩; have HFa3 := Lib.hid (HFa2.out.trans hG (by simp)); have hS3a := HSF.out _ HFa3.out; clear hG HS3)
                  | (go_at_call 22; refine (HS4.out _ HFa3.out).mono ?_; rintro e y4 ⟨rfl, hG⟩; have HFa4 := Lib.hid (HFa3.out.trans hG (by simp)); have hS4a := HSF.out _ HFa4.out; clear hG HS4)
                  | (go_at_call 23; refine (HS5.out _ HFa4.out).mono ?_; rintro e y5 ⟨rfl, hG⟩; have HFa5 := Lib.hid (HFa4.out.trans hG (by simp)); have hS5a := HSF.out _ HFa5.out; clear hG HS5)
                  | (go_at_call 24; refine (HS6.out _ HFa5.out).mono ?_; rintro e y6 ⟨v6, rfl, hO6, hG⟩; obtain ⟨A6, c6, rfl⟩ := hO6.form; have HO6 := Lib.hid hO6; clear hO6; have HFa6 := Lib.hid (HFa5.out.trans hG (by simp)); have hS6a := HSF.out _ HFa6.out; clear hG HS6)
                  | (go_at_call 25; refine (HS7.out _ HFa6.out).mono ?_; rintro e y7 ⟨v7, rfl, hO7, hG⟩; obtain ⟨A7, c7, rfl⟩ := hO7.form; have HM7 := Lib.hid (same_sl (HO6.out.sl.fr hG) hO7.sl); simp only [decide_true] at HM7; clear hO7; have HFa7 := Lib.hid (HFa6.out.trans hG (by simp)); have hS7a := HSF.out _ HFa7.out; clear hG HS7)
                  | (go_at_call 17; refine (HM7.out).mono ?_; rintro e y8 ⟨rfl, hG⟩; have HFa8 := Lib.hid (HFa7.out.trans hG (by simp)); have hS8a := HSF.out _ HFa8.out; clear hG HM7))
              all_goals
                go_wp2
                go_roundg m'
                case rel => exact ⟨m', j + 1, C', sl, C0, f0', C1, f1', rfl, by go_num, by omega, HA', ⟨_, _, HG27.out.mv HFa8.out⟩⟩
                case measure => omega
        · have hkc : (a.kind == 2) = false := by simpa using hk2
          clear hk1 hk2
          go_upto_region 22 with (fail)
          clear k0 k1 k7
          have HCP := Lib.hid (copy_C ⟨a.blk, a.A4, a.c4⟩ (Kd.F_now HQ.out) HSZ.out)
          obtain ⟨C', L3, E3, htk⟩ : ∃ C' L3 E3, C.take a.blk = (C', L3, E3) := ⟨_, _, _, rfl⟩
          have HTK := Lib.hid htk
          have hgd' := Ch.take_good HA.out.1 a.blk
          have hrg' := Ch.take_rng HA.out.2.1 HRNG.out
          have hkp' := Ch.take_keep C a.blk
          rw [htk] at hgd' hrg' hkp'
          have HA' : Hid (C'.t.Good ∧ C'.t.Rng ∧ C'.dr = dr ∧ C'.deep = deep ∧ C'.slot = sl) := ⟨hgd', hrg', hkp'.1.trans HA.out.2.2.1, hkp'.2.1.trans HA.out.2.2.2.1, hkp'.2.2.trans HA.out.2.2.2.2⟩
          clear htk hgd' hrg' hkp'
          obtain ⟨e0, e1, e2, e3, e4⟩ := HBB.out.cells
          go_upto_region 23 with (first
            | (go_at_call 15; refine HCP.out.mono ?_; rintro e wf ⟨A3, d3, rfl, hd3, hC3, hFf⟩
               have HGf := Lib.hid (HGb.out.mv hFf)
               have HAC := Lib.hid (ch_takeC HGf.out.ch HA.out.1 HGf.out.x a.blk hC3 hd3 HTK.out)
               have HBf := Lib.hid (HBB.out.fr hFf)
               have HQf := Lib.hid (Kd.F_below HQ.out hFf.below)
               clear hFf hC3 hd3 HCP)
            | (go_at_call 14; refine HAC.out.mono ?_; rintro e wg ⟨A4, d4, rfl, hO4, hTg, hXg⟩
               have HGg := Lib.hid (HGf.out.taken hTg hXg)
               have HBg := Lib.hid (HBf.out.frX hXg (.inl HX11.out))
               have hQg : Kd.F k67 wg Y a.A4 a.blk.f4.length a.blk.f4 := Foot.step HQf.out (fun k hk hl => hXg.block hl (HGf.out.y k hk).1)
               have HQg := Lib.hid hQg
               have HO4 := Lib.hid hO4
               clear hO4 hTg hXg HAC e0 e1 e2 e3 e4 hQg))
          obtain ⟨e0, e1, e2, e3, e4⟩ := HBg.out.cells
          obtain ⟨x0, x1, x2, x3, x4, f0, f1, f2, f3, f4⟩ := fvc HGg.out.box
          have hra := rtake_calls (C := C) (Ad := A0) (cd := c0) HA.out.1 HA.out.2.1 (by rw [HA.out.2.2.1]; exact HOKD.out) HGg.out.ks HGg.out.wait (by rw [HA.out.2.2.1]; exact Kd.C_below HDR.out HGg.out.fr.below) ⟨a.blk, a.A4, a.c4⟩ HL4.out HQg.out HRNG.out
          unfold RTakeRes at hra
          rw [HTK.out, HA.out.2.2.1, HA.out.2.2.2.1, HA.out.2.2.2.2] at hra
          have HRA := Lib.hid hra
          clear hra
          go_upto_region 24 with (go_at_call 16; refine HRA.out.mono ?_; rintro e wh ⟨C0, f0', C1, f1', D, d, rfl, hv0, hv1, hS, hFh⟩
                                  have HV0 := Lib.hid hv0
                                  have HV1 := Lib.hid hv1
                                  have HOD := Lib.hid hS
                                  have HFh := Lib.hid hFh
                                  clear hv0 hv1 hS hFh HRA e0 e1 e2 e3 e4 x0 x1 x2 x3 x4 f0 f1 f2 f3 f4)
          obtain ⟨W24, hW24⟩ : ∃ W24, W24 = wh.alloc (.cells #[.slice C0 C'.t.ks.length f0', .slice C1 C'.t.wait.length f1', .slice A0 dr.length c0, .int .i64 deep, .int .i64 sl] 32) := ⟨_, rfl⟩
          obtain ⟨g19, hg19⟩ : ∃ g19, g19 = wh.heap.size := ⟨_, rfl⟩
          have hF24 : Fr [] wh W24 := by rw [hW24]; exact (Fr.refl _ _).alloc _
          have hB19 : RChIn W24 g19 (.slice C0 C'.t.ks.length f0') (.slice C1 C'.t.wait.length f1') (.slice A0 dr.length c0) deep sl := by rw [hW24, hg19]; exact heap_alloc_new _ _
          have HF24 := Lib.hid (HFh.out.trans hF24 (by simp))
          have HGP := Lib.hid (HGg.out.doc (t' := C'.t) (dp' := deep) (sl' := sl) HF24.out (HV0.out.fr hF24) (HV1.out.fr hF24))
          have HBX := Lib.hid (HGg.out.mv HF24.out).box
          have HO24 := Lib.hid (HOD.out.fr hF24 (by simp))
          rw [← hW24, ← hg19]
          clear hW24 hg19 hF24
          obtain ⟨z0, z1, z2, z3, z4, _, _, _, _, _⟩ := fvc hB19
          obtain ⟨x0, x1, x2, x3, x4, f0, f1, f2, f3, f4⟩ := fvc HBX.out
          clear hB19
          go_upto_region 25 with (fail)
          obtain ⟨W25, hW25⟩ : ∃ W25, W25 = put5 W24 g8 (.slice C0 C'.t.ks.length f0') (.slice C1 C'.t.wait.length f1') (.slice A0 dr.length c0) (.int .i64 deep) (.int .i64 sl) := ⟨_, rfl⟩
          have hF25 : Fr [g8] W24 W25 := by rw [hW25]; exact put5_fr (Fr.refl _ _) (.inl (by simp)) _ _ _ _ _
          have hg8f := HGf.out.x g8 HGf.out.g
          have hg8g := HGg.out.x g8 HGg.out.g
          have HM := Lib.hid (same_sl ((HO4.out.fr HF24.out (by simp)).fr hF25 (fun k hk hm => by
            have h1 := HO4.out.2 k hk
            simp at hm
            omega)).sl (HO24.out.fr hF25 (fun k hk hm => by
            have h1 := HOD.out.2 k hk
            simp at hm
            omega)).sl)
          simp only [decide_true] at HM
          rw [← hW25] at HGP
          have HG25 := HGP
          unfold put5 at hW25
          rw [← hW25]
          clear hW25 hF25 hg8f hg8g x0 x1 x2 x3 x4 f0 f1 f2 f3 f4 z0 z1 z2 z3 z4
          go_upto_region 27 with (go_at_call 17; refine HM.out.mono ?_; rintro e w27 ⟨rfl, hG⟩
                                  have HG27 := Lib.hid (HG25.out.mv hG)
                                  clear hG HM)
          obtain ⟨x0, x1, x2, x3, x4, _, _, _, _, _⟩ := fvc HG27.out.box
          have hrc : RCh (fun _ => True) w27 C' C0 f0' C1 f1' A0 c0 := ⟨HA'.out.1, HA'.out.2.1, by rw [HA'.out.2.2.1]; exact HOKD.out, HG27.out.ks.weak (fun _ _ => trivial), HG27.out.wait.weak (fun _ _ => trivial), by rw [HA'.out.2.2.1]; exact Kd.C_below HDR.out HG27.out.fr.below, by rw [HA'.out.2.2.1]; exact HDC.out⟩
          have HRC := Lib.hid hrc
          obtain ⟨tip, htip⟩ : ∃ tip, C'.t.tip = tip := ⟨_, rfl⟩
          obtain ⟨cf, hcf⟩ : ∃ cf, C'.conf = cf := ⟨_, rfl⟩
          obtain ⟨ti, tv, tD, hI⟩ := HG27.out.ch
          have HI := Lib.hid hI
          have HTI : Hid (∀ W, Fr [] w27 W → Calls Tryz.prog 18 #[.agg #[.slice C0 C'.t.ks.length f0', .slice C1 C'.t.wait.length f1']] W fun e w' => e = .returned (.int .i64 tip) ∧ Fr [] W w') := fun W hW => by
            have h := rtip_calls HA'.out.1 HA'.out.2.1 (HRC.out.fr hW).ks (HRC.out.fr hW).wait
            rw [htip] at h; exact h
          have HS1 : Hid (∀ W, Fr [] w27 W → Calls Tryz.prog 19 #[.pointer (some ⟨p, 0, none⟩)] W fun e w' => e = .returned (.int .i64 sl) ∧ Fr [] W w') := fun W hW => by
            have h := ch_slot (HG27.out.ch.fr hW)
            rw [HA'.out.2.2.2.2] at h; exact h
          have HS2 : Hid (∀ W, Fr [] w27 W → Calls Tryz.prog 20 #[.pointer (some ⟨p, 0, none⟩)] W fun e w' => e = .returned (.pointer (some ⟨ti, 0, none⟩)) ∧ Fr [] W w') := fun W hW => ch_tree (HI.out.fr hW)
          have HS3 : Hid (∀ W, Fr [] w27 W → Calls Tryz.prog 21 #[.pointer (some ⟨ti, 0, none⟩)] W fun e w' => e = .returned (.int .i64 tip) ∧ Fr [] W w') := fun W hW => by
            have h := tip_calls (HI.out.fr hW).tr HA'.out.1.ok
            rw [htip] at h; exact h
          have HS4 : Hid (∀ W, Fr [] w27 W → Calls Tryz.prog 22 #[.pointer (some ⟨p, 0, none⟩)] W fun e w' => e = .returned (.int .i64 cf) ∧ Fr [] W w') := fun W hW => by
            have h := ch_conf (HG27.out.ch.fr hW) HA'.out.1
            rw [hcf] at h; exact h
          have HS5 : Hid (∀ W, Fr [] w27 W → Calls Tryz.prog 23 #[.agg #[.slice C0 C'.t.ks.length f0', .slice C1 C'.t.wait.length f1', .slice A0 dr.length c0, .int .i64 deep, .int .i64 sl]] W fun e w' => e = .returned (.int .i64 cf) ∧ Fr [] W w') := fun W hW => by
            have h := rconf_calls (HRC.out.fr hW)
            rw [hcf, HA'.out.2.2.1, HA'.out.2.2.2.1, HA'.out.2.2.2.2] at h; exact h
          have HS6 : Hid (∀ W, Fr [] w27 W → Calls Tryz.prog 24 #[.pointer (some ⟨p, 0, none⟩), .int .i64 tip] W fun e w' => ∃ v, e = .returned v ∧ OwnI W.heap.size w' v (C'.txs tip) ∧ Fr [] W w') := fun W hW => ch_txs (HG27.out.ch.fr hW) HA'.out.1 tip
          have HS7 : Hid (∀ W, Fr [] w27 W → Calls Tryz.prog 25 #[.agg #[.slice C0 C'.t.ks.length f0', .slice C1 C'.t.wait.length f1', .slice A0 dr.length c0, .int .i64 deep, .int .i64 sl], .int .i64 tip] W fun e w' => ∃ v, e = .returned v ∧ OwnI W.heap.size w' v (C'.txs tip) ∧ Fr [] W w') := fun W hW => by
            have h := rtxs_calls (HRC.out.fr hW) tip
            rw [HA'.out.2.2.1, HA'.out.2.2.2.1, HA'.out.2.2.2.2] at h; exact h
          have hB7 := HG27.out.box
          obtain ⟨T, hT⟩ : ∃ T, C'.txs tip = T := ⟨_, rfl⟩
          rw [hT] at HS6 HS7
          obtain ⟨v0, hv0⟩ : ∃ v0 : Value, .slice C0 C'.t.ks.length f0' = v0 := ⟨_, rfl⟩
          obtain ⟨v1, hv1⟩ : ∃ v1 : Value, .slice C1 C'.t.wait.length f1' = v1 := ⟨_, rfl⟩
          rw [hv0, hv1] at HTI HS5 HS7 hB7
          rw [hv0] at x0
          rw [hv1] at x1
          have HSF : Hid (∀ W, Fr [] w27 W → Fr [] w27 W ∧ W.cell? ⟨g8, 0, none⟩ = some v0 ∧ W.cell? ⟨g8, 1, none⟩ = some v1 ∧ W.cell? ⟨g8, 2, none⟩ = some (.slice A0 dr.length c0) ∧ W.cell? ⟨g8, 3, none⟩ = some (.int .i64 deep) ∧ W.cell? ⟨g8, 4, none⟩ = some (.int .i64 sl)) := fun W hW => ⟨hW, (hB7.fr hW).conj⟩
          clear hrc hI htip hcf hT hB7 hv0 hv1
          go_upto_region 28 with (go_at_call 18; refine (HTI.out _ (Fr.refl _ _)).mono ?_; rintro e wt ⟨rfl, hG⟩; have HFt := Lib.hid hG; clear hG HTI x0 x1 x2 x3 x4)
          have HFa0 : Hid (Fr [] w27 wt.drew) := HFt.out.drew
          have hS0a := HSF.out _ HFa0.out
          go_region_held3 (fun W => Fr [] w27 W ∧ W.cell? ⟨g8, 0, none⟩ = some v0 ∧ W.cell? ⟨g8, 1, none⟩ = some v1 ∧ W.cell? ⟨g8, 2, none⟩ = some (.slice A0 dr.length c0) ∧ W.cell? ⟨g8, 3, none⟩ = some (.int .i64 deep) ∧ W.cell? ⟨g8, 4, none⟩ = some (.int .i64 sl)) (with_reducible assumption)
            (first
              | (go_at_call 19; refine (HS1.out _ HFa0.out).mono ?_; rintro e y1 ⟨rfl, hG⟩; have HFa1 := Lib.hid (HFa0.out.trans hG (by simp)); have hS1a := HSF.out _ HFa1.out; clear hG HS1)
              | (go_at_call 20; refine (HS2.out _ HFa1.out).mono ?_; rintro e y2 ⟨rfl, hG⟩; have HFa2 := Lib.hid (HFa1.out.trans hG (by simp)); have hS2a := HSF.out _ HFa2.out; clear hG HS2)
              | (go_at_call 21; refine (HS3.out _ HFa2.out).mono ?_; rintro e y3 ⟨rfl, hG⟩; have HFa3 := Lib.hid (HFa2.out.trans hG (by simp)); have hS3a := HSF.out _ HFa3.out; clear hG HS3)
              | (go_at_call 22; refine (HS4.out _ HFa3.out).mono ?_; rintro e y4 ⟨rfl, hG⟩; have HFa4 := Lib.hid (HFa3.out.trans hG (by simp)); have hS4a := HSF.out _ HFa4.out; clear hG HS4)
              | (go_at_call 23; refine (HS5.out _ HFa4.out).mono ?_; rintro e y5 ⟨rfl, hG⟩; have HFa5 := Lib.hid (HFa4.out.trans hG (by simp)); have hS5a := HSF.out _ HFa5.out; clear hG HS5)
              | (go_at_call 24; refine (HS6.out _ HFa5.out).mono ?_; rintro e y6 ⟨v6, rfl, hO6, hG⟩; obtain ⟨A6, c6, rfl⟩ := hO6.form; have HO6 := Lib.hid hO6; clear hO6; have HFa6 := Lib.hid (HFa5.out.trans hG (by simp)); have hS6a := HSF.out _ HFa6.out; clear hG HS6)
              | (go_at_call 25; refine (HS7.out _ HFa6.out).mono ?_; rintro e y7 ⟨v7, rfl, hO7, hG⟩; obtain ⟨A7, c7, rfl⟩ := hO7.form; have HM7 := Lib.hid (same_sl (HO6.out.sl.fr hG) hO7.sl); simp only [decide_true] at HM7; clear hO7; have HFa7 := Lib.hid (HFa6.out.trans hG (by simp)); have hS7a := HSF.out _ HFa7.out; clear hG HS7)
              | (go_at_call 17; refine (HM7.out).mono ?_; rintro e y8 ⟨rfl, hG⟩; have HFa8 := Lib.hid (HFa7.out.trans hG (by simp)); have hS8a := HSF.out _ HFa8.out; clear hG HM7))
          all_goals
            go_wp2
            go_roundg m'
            case rel => exact ⟨m', j + 1, C', sl, C0, f0', C1, f1', rfl, by go_num, by omega, HA', ⟨_, _, HG27.out.mv HFa8.out⟩⟩
            case measure => omega
    · obtain rfl : j = N := by omega
      go_wp2
      exact hR.out _ _ ⟨rfl, HG.out.fr⟩
end Go.Np.Tryz
