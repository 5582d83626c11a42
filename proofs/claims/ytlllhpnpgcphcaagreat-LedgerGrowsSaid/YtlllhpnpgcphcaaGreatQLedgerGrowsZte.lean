/- A text that the row of LedgerGrows needs. (Pruned by tools/prune.py.) -/
import Derived.Test.YtlllhpnpgcphcaaGreatQLedgerGrowsZtd
import Derived.Test.YtlllhpnpgcphcaaGreatQLedgerGrowsLedq
import Derived.Deep.Slices
import Derived.OpenShut
import Derived.ChangeSlices
set_option linter.unusedVariables false
set_option linter.unusedSimpArgs false
namespace Go.Np.Tryz
open Go.RowKit Go.Proofs Go.ChangeShapes Go.WideShapes Go.Proofs.YtlllhpnpgcphcaaGreat.PX Go.Proofs.YtlllhpnpgcphcaaGreatW.PrintWords
def BlocksR2 (W : World) (v : Value) (l : List Blk) : Prop := BlocksR W v l ∧ ∃ A n c, v = .slice A n c ∧ n ≤ c
set_option maxRecDepth 100000 in
theorem open_blocksR2 {H : Type} {enc : TypeId × Value → H} {W : World} {base b0 : Nat} {sp : Nat → Bool} {held : Bool} {v : Value} {d : DataW H} {ps : List MemPlace} {ts : List TypeId} {ds : List (DataW H)} {j : Nat}
    (hs : (DataW.weightsEach Tryz.prog ts ds).all (· ≤ reachBytes) = true) (ht : ts[j]? = some 28) (hd : ds[j]? = some d)
    (hv : Value.okWide Tryz.prog W .any b0 28 v) (h : DataW.Trod enc Tryz.prog W base sp held 28 v d ps) : ∃ l : List Blk, BlocksR2 W v l := by
  obtain ⟨l, hl⟩ := open_blocksR hs ht hd hv h
  refine ⟨l, hl, ?_⟩
  obtain ⟨a, n, c, rfl⟩ := okWide_slice Tryz.underlying28 hv
  obtain ⟨fuel, hf⟩ := h
  rcases Go.Deep.open_slice Tryz.underlying28 hf with ⟨hcs, _⟩ | ⟨ad, len, cap, m, k, D, Pl, hcs, _, hlc, hcm, hm, hxx, hx⟩
  · simp [Value.cells] at hcs
    obtain ⟨rfl, rfl, rfl⟩ := hcs
    exact ⟨_, _, _, rfl, Nat.le_refl _⟩
  · simp [Value.cells] at hcs
    obtain ⟨rfl, rfl, rfl⟩ := hcs
    exact ⟨_, _, _, rfl, hlc⟩
set_option maxHeartbeats 16000000 in
set_option maxRecDepth 100000 in
theorem LedgerGrows_walk (w : World) (A0 : Option Addr) (c0 : Nat) (dr : List Int) (hdr : (Kd.int .i64).C w A0 dr.length dr) (_m0 : dr.length ≤ maxLen) (_s0 : dr.length * 8 ≤ 140737488351232) (_w0 : ∀ n ∈ dr, (Lit.int .i64 n).wf = true) (hdc : dr.length ≤ c0)
    (vb : Value) (bl : List Blk) (hvb : BlocksR2 w vb bl)
    (A2 : Option Addr) (c2 : Nat) (ds : List Int) (hds : (Kd.int .i64).C w A2 ds.length ds) (_m2 : ds.length ≤ maxLen) (_s2 : ds.length * 8 ≤ 140737488351232) (_w2 : ∀ n ∈ ds, (Lit.int .i64 n).wf = true) (hdsc : ds.length ≤ c2) :
    Calls Tryz.prog 5 #[.slice A0 dr.length c0, vb, .slice A2 ds.length c2] w fun e w' => e = .returned (.bool true) ∧ Fr [] w w' := by
  obtain ⟨⟨⟨Ab, cb, rfl, hbC, hbS⟩, hbR⟩, Ab2, nb2, cb2, hvb2, hcap2⟩ := hvb
  injection hvb2 with hvba hvbn hvbc
  rw [← hvbn, ← hvbc] at hcap2
  have HBCAP0 := Lib.hid hcap2
  clear hvba hvbn hvbc hcap2
  have HAL := Lib.hid (lalive_calls (w := w))
  have hnm : bl.length = bl.length := rfl
  obtain ⟨nd, hnd⟩ : ∃ nd, dr.length = nd := ⟨_, rfl⟩
  obtain ⟨nb, hnb⟩ : ∃ nb, bl.length = nb := ⟨_, rfl⟩
  obtain ⟨ns, hns⟩ : ∃ ns, ds.length = ns := ⟨_, rfl⟩
  obtain ⟨r, hr1, hck⟩ := check_ok dr
  have HCK : Hid (∀ W, Fr [] w W → Calls Tryz.prog 7 #[.slice A0 nd c0] W fun e w' => e = .returned (.int .i64 r) ∧ Fr [] W w') := fun W hW => by
    have h := hck W A0 c0 (Kd.C_below hdr hW.below) hdc
    rw [hnd] at h; exact h
  have HDR := Lib.hid hdr
  have HDS := Lib.hid hds
  have HBC := Lib.hid hbC
  have HBS := Lib.hid hbS
  have HBR := Lib.hid hbR
  have HND := Lib.hid hnd
  have HNB := Lib.hid hnb
  have HNS := Lib.hid hns
  have HDC := Lib.hid hdc
  have HDSC := Lib.hid hdsc
  rw [hnd, hnb, hns]
  refine calls_k fun R hR => ?_
  clear hdr hds hbC hbS hbR hck _m0 _s0 _w0 _m2 _s2 _w2 hdc hdsc hnm hnd hnb hns
  by_cases hr0 : r = 0
  case neg =>
    have hb1 : (r == 0) = false := by simpa using hr0
    have hb2 : (r != 0) = true := by simpa using hr0
    clear hr1
    go_enter Tryz.func5, Tryz.ntmps5
    go_wp2_with (first
      | (go_at_call 26; refine HAL.out.mono ?_; rintro e w2 ⟨rfl, hF2⟩; have HF2 := Lib.hid hF2; clear hF2 HAL)
      | (go_at_call 7; refine (HCK.out _ HF2.out).mono ?_; rintro e w3 ⟨rfl, hF3⟩; have HF3 := Lib.hid (HF2.out.trans hF3 (by simp)); clear hF3 HCK))
    exact hR.out _ _ ⟨rfl, HF3.out⟩
  subst hr0
  by_cases h40 : 40 < nb
  · have g1 : decide (40 < (nb : Int)) = true := decide_eq_true (by omega)
    have g1' : decide (40 < nb) = true := decide_eq_true h40
    clear hr1
    go_enter Tryz.func5, Tryz.ntmps5
    go_wp2_with (first
      | (go_at_call 26; refine HAL.out.mono ?_; rintro e w2 ⟨rfl, hF2⟩; have HF2 := Lib.hid hF2; clear hF2 HAL)
      | (go_at_call 7; refine (HCK.out _ HF2.out).mono ?_; rintro e w3 ⟨rfl, hF3⟩; have HF3 := Lib.hid (HF2.out.trans hF3 (by simp)); clear hF3 HCK))
    exact hR.out _ _ ⟨rfl, HF3.out⟩
  have g1 : decide (40 < (nb : Int)) = false := decide_eq_false (by omega)
  have g1' : decide (40 < nb) = false := decide_eq_false h40
  by_cases h20 : 20 < ns
  · have g2 : decide (20 < (ns : Int)) = true := decide_eq_true (by omega)
    have g2' : decide (20 < ns) = true := decide_eq_true h20
    clear hr1
    go_enter Tryz.func5, Tryz.ntmps5
    go_wp2_with (first
      | (go_at_call 26; refine HAL.out.mono ?_; rintro e w2 ⟨rfl, hF2⟩; have HF2 := Lib.hid hF2; clear hF2 HAL)
      | (go_at_call 7; refine (HCK.out _ HF2.out).mono ?_; rintro e w3 ⟨rfl, hF3⟩; have HF3 := Lib.hid (HF2.out.trans hF3 (by simp)); clear hF3 HCK))
    exact hR.out _ _ ⟨rfl, HF3.out⟩
  have g2 : decide (20 < (ns : Int)) = false := decide_eq_false (by omega)
  have g2' : decide (20 < ns) = false := decide_eq_false h20
  have hns20 : ns ≤ 20 := by omega
  obtain ⟨hd200, hok⟩ := hr1 rfl
  have hnb40 : nb ≤ 40 := by omega
  obtain ⟨hb, hhb⟩ : ∃ hb, nb / 2 = hb := ⟨_, rfl⟩
  obtain ⟨hs, hhs⟩ : ∃ hs, ns / 2 = hs := ⟨_, rfl⟩
  have hbn : hb ≤ nb := by omega
  have hsn : hs ≤ ns := by omega
  have hbc : hb ≤ cb := by have := HBCAP0.out; rw [HNB.out] at this; omega
  have hsc : hs ≤ c2 := by have := HDSC.out; rw [HNS.out] at this; omega
  have Q2 : Hid ((nb : Int) / 2 = (hb : Int)) := by show _ = _; omega
  have Q4 : Hid ((ns : Int) / 2 = (hs : Int)) := by show _ = _; omega
  have htk : (bl.take hb).length = hb := by rw [List.length_take, HNB.out]; omega
  have HGH : Hid (∀ W, Fr [] w W → Calls Tryz.prog 27 #[.slice A0 nd c0, .int .i64 1, .slice Ab hb cb] W fun e w' => GrownCh W A0 c0 (grownC dr 1 (bl.take hb)) e w') := fun W hW => by
    have hC := Kd.C_take HBC.out (m := hb) (by rw [HNB.out]; exact hbn)
    rw [htk] at hC
    have h := grownch_calls (c := cb) (cd := c0) (Kd.C_below HDR.out hW.below) hd200 hok 1 (Kd.C_below hC hW.below) htk (fun b hb => HBS.out b (List.mem_of_mem_take hb)) (fun b hb => HBR.out b (List.mem_of_mem_take hb))
    rw [HND.out] at h; exact h
  have HGR : Hid (∀ W, Fr [] w W → Calls Tryz.prog 27 #[.slice A0 nd c0, .int .i64 1, .slice Ab nb cb] W fun e w' => GrownCh W A0 c0 (grownC dr 1 bl) e w') := fun W hW => by
    have h := grownch_calls (c := cb) (cd := c0) (Kd.C_below HDR.out hW.below) hd200 hok 1 (Kd.C_below HBC.out hW.below) rfl HBS.out HBR.out
    rw [HND.out, HNB.out] at h; exact h
  have hgood := (grownC_all dr 1 (l := bl) HBR.out).1
  have hgoodh := (grownC_all dr 1 (l := bl.take hb) (fun b hb => HBR.out b (List.mem_of_mem_take hb))).1
  have hext := grownC_ext dr 1 bl hb
  obtain ⟨H, hH⟩ : ∃ H, grownC dr 1 (bl.take hb) = H := ⟨_, rfl⟩
  obtain ⟨C, hC⟩ : ∃ C, grownC dr 1 bl = C := ⟨_, rfl⟩
  rw [hC] at HGR hgood hext
  rw [hH] at HGH hgoodh hext
  have HG := Lib.hid hgood
  have HGH' := Lib.hid hgoodh
  have HEXT := Lib.hid hext
  clear hr1 hd200 hok hgood hgoodh hext hC hH htk hhb hhs h40 h20
  go_enter Tryz.func5, Tryz.ntmps5
  go_upto_region 5 with (first
    | (go_at_call 26; refine HAL.out.mono ?_; rintro e w2 ⟨rfl, hF2⟩; have HF2 := Lib.hid hF2; clear hF2 HAL)
    | (go_at_call 7; refine (HCK.out _ HF2.out).mono ?_; rintro e w3 ⟨rfl, hF3⟩; have HF3 := Lib.hid (HF2.out.trans hF3 (by simp)); clear hF3 HCK))
  have q2 := Q2.out
  have q5 : wrap64 (hb : Int) = (hb : Int) := wr_in _ (by omega)
  go_upto_region 6 with (first
    | (go_at_call 27; refine (HGH.out _ HF3.out).mono ?_; rintro e w5 ⟨c, B0, d0, B1, d1, rfl, hch5, _, _, hF5⟩
       have HF5 := Lib.hid (HF3.out.trans hF5 (by simp))
       have HC5 := Lib.hid hch5
       clear hch5 hF5 HGH))
  clear g1 g1' g2 g2' q2 q5
  obtain ⟨W6, hW6⟩ : ∃ W6, W6 = w5.alloc (.cells #[.slice B0 H.t.ks.length d0, .slice B1 H.t.wait.length d1, .slice A0 H.dr.length c0, .int .i64 H.deep, .int .i64 200] 32) := ⟨_, rfl⟩
  have hF56 : Fr [] w5 W6 := by rw [hW6]; exact (Fr.refl _ _).alloc _
  have HC6 := Lib.hid (HC5.out.fr hF56)
  have HF6 := Lib.hid (HF5.out.trans hF56 (by simp))
  rw [← hW6]
  clear hW6 hF56 HC5 HF5
  go_upto_region 7 with (go_at_call 27; refine (HGR.out _ HF6.out).mono ?_; rintro e w7 ⟨c', B2, d2, B3, d3, rfl, hch7, _, _, hF7⟩
                         have HD7 := Lib.hid hch7
                         have HC7 := Lib.hid (HC6.out.fr hF7)
                         have HF7 := Lib.hid (HF6.out.trans hF7 (by simp))
                         clear hch7 hF7 HGR)
  obtain ⟨W8, hW8⟩ : ∃ W8, W8 = w7.alloc (.cells #[.slice B2 C.t.ks.length d2, .slice B3 C.t.wait.length d3, .slice A0 C.dr.length c0, .int .i64 C.deep, .int .i64 200] 32) := ⟨_, rfl⟩
  have hF78 : Fr [] w7 W8 := by rw [hW8]; exact (Fr.refl _ _).alloc _
  have HC8 := Lib.hid (HC7.out.fr hF78)
  have HD8 := Lib.hid (HD7.out.fr hF78)
  have HF8 := Lib.hid (HF7.out.trans hF78 (by simp))
  rw [← hW8]
  clear hW8 hF78 HC7 HD7 HC6 HF6 HF7
  have q4 := Q4.out
  have q6 : wrap64 (hs : Int) = (hs : Int) := wr_in _ (by omega)
  go_upto_region 8 with (fail)
  clear q4 q6
  have htd : (ds.take hs).length = hs := by rw [List.length_take, HNS.out]; omega
  have hds20 : ds.length ≤ 40 := by rw [HNS.out]; omega
  obtain ⟨FA, hFA⟩ : ∃ FA, finalL H (ds.take hs) = FA := ⟨_, rfl⟩
  obtain ⟨FB, hFB⟩ : ∃ FB, finalL H ds = FB := ⟨_, rfl⟩
  obtain ⟨FC, hFC⟩ : ∃ FC, finalL C ds = FC := ⟨_, rfl⟩
  obtain ⟨FD, hFD⟩ : ∃ FD, availL C ds = FD := ⟨_, rfl⟩
  obtain ⟨FE, hFE⟩ : ∃ FE, availL H ds = FE := ⟨_, rfl⟩
  obtain ⟨s1, hs1⟩ : ∃ s1, settledN H ds = s1 := ⟨_, rfl⟩
  obtain ⟨s2, hs2⟩ : ∃ s2, settledN C ds = s2 := ⟨_, rfl⟩
  have b1 : beginsB FA FB = true := by rw [← hFA, ← hFB]; exact final_take H hs ds
  have b2 : beginsB FB FC = true := by rw [← hFB, ← hFC]; exact final_more HGH'.out.ok HG.out.ok HEXT.out ds
  have b3 : beginsB FC FD = true := by rw [← hFC, ← hFD]; exact final_avail C ds
  have b4 : beginsB FB FE = true := by rw [← hFB, ← hFE]; exact final_avail H ds
  have hnod : FD.Nodup := by rw [← hFD]; exact avail_nodup C ds
  have hle : s1 ≤ s2 := by rw [← hs1, ← hs2]; exact settled_mono HEXT.out ds
  have hav48 : FD.length ≤ 60000 := by
    rw [← hFD]
    have h1 := cleanL_le (finalL C ds ++ C.txs C.conf) []
    have h2 := final_len HG.out hds20
    have h3 := txs_len HG.out C.conf
    rw [List.length_append] at h1
    unfold availL
    omega
  have HFAc : Hid (∀ W, Fr [] W8 W → Calls Tryz.prog 30 #[.pointer (some ⟨c, 0, none⟩), .slice A2 hs c2] W fun e w' => ∃ A' c', e = .returned (.slice A' FA.length c') ∧ SlI w' (.slice A' FA.length c') FA ∧ Fr [] W w') := fun W hW => by
    have hC := Kd.C_take HDS.out (m := hs) (by rw [HNS.out]; exact hsn)
    have h := final_calls (cp := c2) (HC8.out.fr hW) HGH'.out (Kd.C_below hC (HF8.out.trans hW (by simp)).below) (by rw [htd]; exact hsc) (by rw [htd]; omega)
    rw [hFA, htd] at h
    refine h.mono ?_
    rintro e w' ⟨v, rfl, ⟨A', c', rfl, h1, h2⟩, h3⟩
    exact ⟨A', c', rfl, ⟨A', c', rfl, h1, h2⟩, h3⟩
  have HFBc : Hid (∀ W, Fr [] W8 W → Calls Tryz.prog 30 #[.pointer (some ⟨c, 0, none⟩), .slice A2 ns c2] W fun e w' => ∃ A' c', e = .returned (.slice A' FB.length c') ∧ SlI w' (.slice A' FB.length c') FB ∧ Fr [] W w') := fun W hW => by
    have h := final_calls (cp := c2) (HC8.out.fr hW) HGH'.out (Kd.C_below HDS.out (HF8.out.trans hW (by simp)).below) HDSC.out hds20
    rw [hFB, HNS.out] at h
    refine h.mono ?_
    rintro e w' ⟨v, rfl, ⟨A', c', rfl, h1, h2⟩, h3⟩
    exact ⟨A', c', rfl, ⟨A', c', rfl, h1, h2⟩, h3⟩
  have HFCc : Hid (∀ W, Fr [] W8 W → Calls Tryz.prog 30 #[.pointer (some ⟨c', 0, none⟩), .slice A2 ns c2] W fun e w' => ∃ A' c', e = .returned (.slice A' FC.length c') ∧ SlI w' (.slice A' FC.length c') FC ∧ Fr [] W w') := fun W hW => by
    have h := final_calls (cp := c2) (HD8.out.fr hW) HG.out (Kd.C_below HDS.out (HF8.out.trans hW (by simp)).below) HDSC.out hds20
    rw [hFC, HNS.out] at h
    refine h.mono ?_
    rintro e w' ⟨v, rfl, ⟨A', c', rfl, h1, h2⟩, h3⟩
    exact ⟨A', c', rfl, ⟨A', c', rfl, h1, h2⟩, h3⟩
  have HFDc : Hid (∀ W, Fr [] W8 W → Calls Tryz.prog 32 #[.pointer (some ⟨c', 0, none⟩), .slice A2 ns c2] W fun e w' => ∃ A' c', e = .returned (.slice A' FD.length c') ∧ SlI w' (.slice A' FD.length c') FD ∧ Fr [] W w') := fun W hW => by
    have h := avail_calls (cp := c2) (HD8.out.fr hW) HG.out (Kd.C_below HDS.out (HF8.out.trans hW (by simp)).below) HDSC.out hds20
    rw [hFD, HNS.out] at h; exact h
  have HFEc : Hid (∀ W, Fr [] W8 W → Calls Tryz.prog 32 #[.pointer (some ⟨c, 0, none⟩), .slice A2 ns c2] W fun e w' => ∃ A' c', e = .returned (.slice A' FE.length c') ∧ SlI w' (.slice A' FE.length c') FE ∧ Fr [] W w') := fun W hW => by
    have h := avail_calls (cp := c2) (HC8.out.fr hW) HGH'.out (Kd.C_below HDS.out (HF8.out.trans hW (by simp)).below) HDSC.out hds20
    rw [hFE, HNS.out] at h; exact h
  have HS1 : Hid (∀ W, Fr [] W8 W → Calls Tryz.prog 28 #[.pointer (some ⟨c, 0, none⟩), .slice A2 ns c2] W fun e w' => e = .returned (.int .i64 s1) ∧ Fr [] W w') := fun W hW => by
    have h := settled_calls (cp := c2) (HC8.out.fr hW) (Kd.C_below HDS.out (HF8.out.trans hW (by simp)).below)
    rw [hs1, HNS.out] at h; exact h
  have HS2 : Hid (∀ W, Fr [] W8 W → Calls Tryz.prog 28 #[.pointer (some ⟨c', 0, none⟩), .slice A2 ns c2] W fun e w' => e = .returned (.int .i64 s2) ∧ Fr [] W w') := fun W hW => by
    have h := settled_calls (cp := c2) (HD8.out.fr hW) (Kd.C_below HDS.out (HF8.out.trans hW (by simp)).below)
    rw [hs2, HNS.out] at h; exact h
  have HB1 := Lib.hid b1
  have HB2 := Lib.hid b2
  have HB3 := Lib.hid b3
  have HB4 := Lib.hid b4
  have HNOD := Lib.hid hnod
  have HLE := Lib.hid hle
  have HAV48 := Lib.hid hav48
  clear htd hds20 hFA hFB hFC hFD hFE hs1 hs2 b1 b2 b3 b4 hnod hle hav48
  have tok1 := Lib.hid True.intro
  go_upto_region 10 with (first
    | (go_at_call 30; have _t := tok1; refine (HFAc.out _ (Fr.refl _ _)).mono ?_; rintro e x1 ⟨A11, c11, rfl, hS, hG⟩; have HV1 := Lib.hid hS; have HX1 := Lib.hid hG; have tok2 := Lib.hid True.intro; clear hS hG tok1)
    | (go_at_call 30; have _t := tok2; refine (HFBc.out _ HX1.out).mono ?_; rintro e x2 ⟨A12, c12, rfl, hS, hG⟩; have HV2 := Lib.hid hS; have HW1 := Lib.hid (HV1.out.fr hG); have HX2 := Lib.hid (HX1.out.trans hG (by simp)); have tok3 := Lib.hid True.intro; clear hS hG tok2)
    | (go_at_call 30; have _t := tok3; refine (HFCc.out _ HX2.out).mono ?_; rintro e x3 ⟨A13, c13, rfl, hS, hG⟩; have HV3 := Lib.hid hS; have HW2 := Lib.hid (HV2.out.fr hG); have HW11 := Lib.hid (HW1.out.fr hG); have HX3 := Lib.hid (HX2.out.trans hG (by simp)); clear hS hG tok3)
    | (go_at_call 32; refine (HFDc.out _ HX3.out).mono ?_; rintro e x4 ⟨A14, c14, rfl, hS, hG⟩; have HV4 := Lib.hid hS; have HW3 := Lib.hid (HV3.out.fr hG); have HW22 := Lib.hid (HW2.out.fr hG); have HW111 := Lib.hid (HW11.out.fr hG); have HX4 := Lib.hid (HX3.out.trans hG (by simp)); clear hS hG))
  have hg1 := begins_calls HW111.out HW22.out
  rw [HB1.out] at hg1
  have HG1 := Lib.hid hg1
  clear hg1
  have tok4 := Lib.hid True.intro
  go_upto_region 12 with (first
    | (go_at_call 34; have _t := tok4; refine HG1.out.mono ?_; rintro e x5 ⟨rfl, hG⟩; have hg := begins_calls (HW22.out.fr hG) (HW3.out.fr hG); rw [HB2.out] at hg; have HG2 := Lib.hid hg; have HK3 := Lib.hid (HW3.out.fr hG); have HK4 := Lib.hid (HV4.out.fr hG); have HX5 := Lib.hid (HX4.out.trans hG (by simp)); have tok5 := Lib.hid True.intro; clear hG hg tok4)
    | (go_at_call 34; have _t := tok5; refine HG2.out.mono ?_; rintro e x6 ⟨rfl, hG⟩; have hg := begins_calls (HK3.out.fr hG) (HK4.out.fr hG); rw [HB3.out] at hg; have HG3 := Lib.hid hg; have HK44 := Lib.hid (HK4.out.fr hG); have HX6 := Lib.hid (HX5.out.trans hG (by simp)); have tok6 := Lib.hid True.intro; clear hG hg tok5)
    | (go_at_call 34; have _t := tok6; refine HG3.out.mono ?_; rintro e x7 ⟨rfl, hG⟩; have HK444 := Lib.hid (HK44.out.fr hG); have HX7 := Lib.hid (HX6.out.trans hG (by simp)); have tok7 := Lib.hid True.intro; clear hG tok6)
    | (go_at_call 30; refine (HFBc.out _ HX7.out).mono ?_; rintro e x8 ⟨A18, c18, rfl, hS, hG⟩; have HV8 := Lib.hid hS; have HK5 := Lib.hid (HK444.out.fr hG); have HX8 := Lib.hid (HX7.out.trans hG (by simp)); clear hS hG)
    | (go_at_call 32; refine (HFEc.out _ HX8.out).mono ?_; rintro e x9 ⟨A19, c19, rfl, hS, hG⟩; have hg := begins_calls (HV8.out.fr hG) hS; rw [HB4.out] at hg; have HG4 := Lib.hid hg; have HK6 := Lib.hid (HK5.out.fr hG); have HX9 := Lib.hid (HX8.out.trans hG (by simp)); clear hS hG hg)
    | (go_at_call 34; refine HG4.out.mono ?_; rintro e x10 ⟨rfl, hG⟩; have HK7 := Lib.hid (HK6.out.fr hG); have HX10 := Lib.hid (HX9.out.trans hG (by simp)); clear hG))
  have hk7 := HK7.out.C
  have HY := Lib.hid (fun k (hk : k < FD.length) => int_at hk7.2.2 k hk)
  have hcap := hk7.2.1
  obtain ⟨n, hn⟩ : ∃ n, FD.length = n := ⟨_, rfl⟩
  have hn6 : n ≤ 60000 := by rw [← hn]; exact HAV48.out
  rw [hn] at hcap
  rw [hn]
  have HN := Lib.hid hn
  clear hk7 hn HV1 HW1 HX1 HV2 HW2 HW11 HX2 HV3 HX3 HV4 HW3 HW22 HW111 HX4 HK3 HK4 HK44 HK444 HK5 HK6 HX5 HX6 HX7 HX8 HX9 HV8
  go_upto_region 13 with (fail)
  go_loopg [96] n (fun gn i wr => ∃ (m k : Nat), m = gn ∧ i = .int .i64 k ∧ m + k = n ∧ x10 = wr)
  case atStart => exact ⟨_, 0, rfl, rfl, rfl, rfl⟩
  case round =>
    obtain ⟨m, k, rfl, rfl, hk, rfl⟩ := hrel
    by_cases hlt : k < n
    · obtain ⟨m', rfl⟩ : ∃ m', m = m' + 1 := ⟨m - 1, by omega⟩
      obtain ⟨ad, hA, hcell⟩ := HY.out k (by rw [HN.out]; exact hlt)
      subst hA
      obtain ⟨x, hx⟩ : ∃ x, FD.getD k 0 = x := ⟨_, rfl⟩
      rw [hx] at hcell
      have HX := Lib.hid hx
      have hk0 : (0 : Int) ≤ (k : Int) := by omega
      have hkc : k ≤ c14 := by omega
      clear hx
      go_upto_region 16 with (fail)
      clear hcell
      go_loopg [105] k (fun gn i wr => ∃ (m2 j : Nat), m2 = gn ∧ i = .int .i64 j ∧ m2 + j = k ∧ x10 = wr)
      case atStart => exact ⟨_, 0, rfl, rfl, rfl, rfl⟩
      case round =>
        obtain ⟨m2, j, rfl, rfl, hj, rfl⟩ := hrel
        by_cases hlt2 : j < k
        · obtain ⟨m2', rfl⟩ : ∃ m2', m2 = m2' + 1 := ⟨m2 - 1, by omega⟩
          obtain ⟨ad2, hA2, hcell2⟩ := HY.out j (by rw [HN.out]; omega)
          injection hA2 with hA2
          subst hA2
          obtain ⟨y, hy⟩ : ∃ y, FD.getD j 0 = y := ⟨_, rfl⟩
          rw [hy] at hcell2
          have hxy : (x == y) = false := by
            rw [beq_eq_false_iff_ne]
            intro e
            have h1 := nodup_at HNOD.out hlt2 (by rw [HN.out]; exact hlt)
            rw [hy, HX.out] at h1
            exact h1 e.symm
          clear hy
          go_wp2
          go_roundg m2'
          case rel => exact ⟨m2', j + 1, rfl, by go_num, by omega, rfl⟩
          case measure => omega
        · obtain rfl : j = k := by omega
          go_wp2
          go_roundg m'
          case rel => exact ⟨m', j + 1, rfl, by go_num, by omega, rfl⟩
          case measure => omega
    · obtain rfl : k = n := by omega
      have e1 : decide ((s1 : Int) ≤ (s2 : Int)) = true := decide_eq_true (by have := HLE.out; omega)
      have e2 : decide (s1 ≤ s2) = true := decide_eq_true HLE.out
      have tok8 := Lib.hid True.intro
      go_wp2_with (first
        | (go_at_call 28; have _t := tok8; refine (HS1.out _ HX10.out).mono ?_; rintro e y1 ⟨rfl, hG⟩; have HY1 := Lib.hid (HX10.out.trans hG (by simp)); clear hG tok8)
        | (go_at_call 28; refine (HS2.out _ HY1.out).mono ?_; rintro e y2 ⟨rfl, hG⟩; have HY2 := Lib.hid (HY1.out.trans hG (by simp)); clear hG))
      exact hR.out _ _ ⟨rfl, HF8.out.trans HY2.out (by simp)⟩
end Go.Np.Tryz
