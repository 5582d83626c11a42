/- tree.Tree: Add, where it grows; Add as a whole. (Printed by tools/gen_tradd.py.) -/
import Derived.Test.YtdfoalbkfdnmcaaTreeW
set_option linter.unusedVariables false
set_option linter.unusedSimpArgs false
namespace Go.Np.Try
open Go.RowKit Go.Proofs Go.Proofs.Ytdfoalbkfdnmcaa.PX Go.Proofs.YtdfoalbkfdnmcaaW.PrintWords
theorem OwnI.frX {base : Nat} {X : Nat → Prop} {w w' : World} {v : Value} {l : List Int} (h : OwnI base w v l) (hf : FrX X w w') (hb : ∀ k ∈ v.ownBlock.toList, X k) : OwnI base w' v l := by
  obtain ⟨S, h1, h2⟩ := hf
  exact h.fr h1 (fun k hk hm => h2 k hm (hb k hk))
theorem OwnI.one (w : World) (x : Int) : OwnI w.heap.size (w.alloc (.cells #[.int .i64 x] 3)) (.slice (some ⟨w.heap.size, 0, none⟩) 1 1) [x] :=
  ⟨⟨rfl, .inr ⟨w.heap.size, 1, #[.int .i64 x], rfl, Nat.zero_le _, heap_alloc_new w _, Nat.le_refl _, by decide, rfl, rfl⟩⟩, fun k hk => by simp [Value.ownBlock] at hk; omega⟩
theorem OwnI.lt {base : Nat} {w : World} {v : Value} {l : List Int} (h : OwnI base w v l) : ∀ k ∈ v.ownBlock.toList, k < w.heap.size := fun k hk => row_lt h.1 k hk
set_option maxHeartbeats 4000000 in
set_option maxRecDepth 100000 in
theorem add_grown {X : Nat → Prop} {w : World} {p : Nat} {t : Tr} (h : TrAt X w p t) (hG : t.Good) (q : BV) (hC : k59.C w q.A q.b.f4.length q.b.f4) (hc : q.b.f4.length ≤ q.c) (hXw : ∀ k, X k → k < w.heap.size) (h0 : nameB q.b ≠ 0) (h1 : t.has (nameB q.b) = false) (h2 : nameB q.b ∉ t.wait.map nameB) (hr : t.ready q.b = true) (hm : t.room = true) :
    Calls Try.prog 16 #[.pointer (some ⟨p, 0, none⟩), blkV q.b q.A q.c] w fun e w' => AddRes X w p t q.b e w' := by
  unfold blkV
  refine calls_k fun R hR => ?_
  obtain ⟨W, hW⟩ : ∃ W, W = w.alloc (.cells #[.int .i64 q.b.f0, .int .i64 q.b.f1, .int .i64 q.b.f2, .int .i64 q.b.f3, .slice q.A q.b.f4.length q.c] 28) := ⟨_, rfl⟩
  obtain ⟨g, hg⟩ : ∃ g, g = w.heap.size := ⟨_, rfl⟩
  have hF : Fr [] w W := by rw [hW]; exact (Fr.refl _ _).alloc _
  have hsz : W.heap.size = g + 1 := by rw [hW, hg]; simp
  have hbl : W.heap[g]? = some (.cells #[.int .i64 q.b.f0, .int .i64 q.b.f1, .int .i64 q.b.f2, .int .i64 q.b.f3, .slice q.A q.b.f4.length q.c] 28 (0, 0)) := by rw [hW, hg]; exact heap_alloc_new _ _
  have e0 := cell_of hbl 0
  have e1 := cell_of hbl 1
  have e2 := cell_of hbl 2
  have e3 := cell_of hbl 3
  have e4 := cell_of hbl 4
  simp at e0 e1 e2 e3 e4
  have hC1 := Kd.C_below hC hF.below
  have HN := Lib.hid (name_calls q.b q.A q.c hC1 hc)
  simp only [blkV] at HN
  have HT1 := Lib.hid (h.fr hF)
  have HF := Lib.hid hF
  have HBL := Lib.hid hbl
  have HC1 := Lib.hid hC1
  have hwl : t.wait.length ≤ 100000 := Nat.le_trans hG.wl (by decide)
  have hgw : w.heap.size ≤ g := Nat.le_of_eq hg.symm
  have hl3 : q.b.f4.length ≤ 1099511627776 := by
    have hr := (nameB_pos h0).1
    simp only [rightB, okTxs, unlikeB, Bool.and_eq_true, decide_eq_true_eq] at hr
    omega
  have HH0 := Lib.hid h
  have h0b : (nameB q.b == 0) = false := by simpa using h0
  have h1d : Hid (t.has (nameB q.b) = false) := h1
  have h2d : Hid (decide (nameB q.b ∈ t.wait.map nameB) = false) := decide_eq_false h2
  have H0 := Lib.hid h0
  have H1 := Lib.hid h1
  have H2 := Lib.hid h2
  have HG := Lib.hid hG
  have HADD := Lib.hid (Tr.add_new h0 h1 h2)
  clear h hC hG hF hbl hC1 h0 h1 h2
  have HR0 := Lib.hid hr
  have HM := Lib.hid hm
  have hadd := HADD.out
  rw [if_neg (by simp [hr]), if_neg (by simp [hm])] at hadd
  obtain ⟨RES, hRES⟩ : ∃ RES, RES = Tr.settle (t.wait.length + 1) (t.grow q.b) [nameB q.b] := ⟨_, rfl⟩
  simp only [← hRES] at hadd
  unfold AddRes at hR
  rw [hadd] at hR
  have HRES := Lib.hid hRES
  clear hr hm hadd hRES HADD
  go_enter Try.func16, Try.ntmps16
  go_upto_region 1 with (fail)
  rw [← hW, ← hg]
  clear hW hg
  go_upto_region 4 with (first
    | (go_at_call 22; refine HN.out.mono ?_; rintro e w2 ⟨rfl, hB2⟩
       have hF2 := Fr.of_below [] hB2
       have HH := Lib.hid (has_calls (HT1.out.fr hF2) (nameB q.b))
       have HF2 := Lib.hid hF2
       clear hF2 hB2 HN)
    | (go_at_call 19; rw [h1d.out] at HH; refine HH.out.mono ?_; rintro e w3 ⟨rfl, hF3⟩
       have hF13 := HF2.out.trans hF3 (by simp)
       have HWA := Lib.hid (waiting_calls (HT1.out.fr hF13) hwl)
       have HF3 := Lib.hid hF13
       clear hF3 hF13 HH)
    | (go_at_call 20; refine HWA.out.mono ?_; rintro e w4 ⟨v4, rfl, hO4, hF4⟩
       have hF14 := HF3.out.trans hF4 (by simp)
       have HCO := Lib.hid (contains_calls (nameB q.b) hO4.sl (by rw [List.length_map]; omega))
       have HF4 := Lib.hid hF14
       clear hF4 hF14 HWA hO4)
    | (go_at_call 46; rw [h2d.out] at HCO; refine HCO.out.mono ?_; rintro e w5 ⟨rfl, hF5⟩
       have HF5 := Lib.hid (HF4.out.trans hF5 (by simp))
       clear hF5 HCO))
  replace e0 := cellF HF5.out e0
  replace e1 := cellF HF5.out e1
  replace e2 := cellF HF5.out e2
  replace e3 := cellF HF5.out e3
  replace e4 := cellF HF5.out e4
  have hbl5 := (HF5.out.block g (by omega) (by simp)).trans HBL.out
  have z0 := froz_of hbl5 0
  have z1 := froz_of hbl5 1
  have z2 := froz_of hbl5 2
  have z3 := froz_of hbl5 3
  have z4 := froz_of hbl5 4
  have HCP := Lib.hid (copy_calls q (Kd.C_below HC1.out HF5.out.below) hl3)
  simp only [blkV] at HCP
  have hsz5 := HF5.out.size
  have HB5 := Lib.hid hbl5
  clear hbl5 h1d h2d h0b
  go_upto_region 5 with (first
    | (go_at_call 17; refine HCP.out.mono ?_; rintro e w6 ⟨A6, c6, rfl, hr6, hn6, hF6⟩
       simp only [blkV]
       have hbl6 := (hF6.block g (by omega) (by simp)).trans HB5.out
       replace e0 := cellF hF6 e0
       replace e1 := cellF hF6 e1
       replace e2 := cellF hF6 e2
       replace e3 := cellF hF6 e3
       replace e4 := cellF hF6 e4
       replace z0 := froz_of hbl6 0
       replace z1 := froz_of hbl6 1
       replace z2 := froz_of hbl6 2
       replace z3 := froz_of hbl6 3
       replace z4 := froz_of hbl6 4
       have HR6 := Lib.hid hr6
       have HN6 := Lib.hid hn6
       have HF6 := Lib.hid hF6
       have HB6 := Lib.hid hbl6
       clear hr6 hn6 hF6 hbl6 HCP))
  obtain ⟨W7, hW7⟩ : ∃ W7, W7 = put5 w6 g (.int .i64 q.b.f0) (.int .i64 q.b.f1) (.int .i64 q.b.f2) (.int .i64 q.b.f3) (.slice A6 q.b.f4.length c6) := ⟨_, rfl⟩
  have hbl7 : W7.heap[g]? = some (.cells #[.int .i64 q.b.f0, .int .i64 q.b.f1, .int .i64 q.b.f2, .int .i64 q.b.f3, .slice A6 q.b.f4.length c6] 28 (0, 0)) := by rw [hW7]; exact put5_heap HB6.out _ _ _ _ _
  have hF7 : Fr [] w W7 := by rw [hW7]; exact put5_fr ((HF.out.trans HF5.out (by simp)).trans HF6.out (by simp)) (.inr hgw) _ _ _ _ _
  have hF67 : Fr [g] w6 W7 := by rw [hW7]; exact put5_fr (b := g) (Fr.refl [g] w6) (.inl (by simp)) _ _ _ _ _
  have hT7 : TxsAt (fun k => X k ∨ k = g) W7 ⟨q.b, A6, c6⟩ := by
    refine ⟨row_fr HR6.out hF67 (fun k hk hm => ?_), fun k hk hx => ?_⟩
    · have := HN6.out k hk
      simp at hm; omega
    · have := HN6.out k hk
      rcases hx with hx | hx
      · have := hXw k hx; omega
      · omega
  have hA7 : TrAt (fun k => X k ∨ k = g) W7 p t := (HH0.out.grow (fun k hx hl => by rcases hx with hx | hx; exact hx; omega)).fr hF7
  have hX7 : ∀ k, (X k ∨ k = g) → k < W7.heap.size := fun k hx => by
    have hs7 := (Array.getElem?_eq_some_iff.1 hbl7).1
    have hs8 := hF7.size
    rcases hx with hx | hx
    · have := hXw k hx; omega
    · omega
  have d0 := cell_of hbl7 0
  have d1 := cell_of hbl7 1
  have d2 := cell_of hbl7 2
  have d3 := cell_of hbl7 3
  have d4 := cell_of hbl7 4
  simp at d0 d1 d2 d3 d4
  have HRD := Lib.hid (ready_calls hA7 q.b A6 c6)
  simp only [blkV] at HRD
  have HB7 := Lib.hid hbl7
  have HF7 := Lib.hid hF7
  have HT7 := Lib.hid hT7
  have HA7 := Lib.hid hA7
  have HX7 := Lib.hid hX7
  unfold put5 at hW7
  rw [← hW7]
  clear hbl7 hF7 hF67 hT7 hA7 hX7 hW7 e0 e1 e2 e3 e4 z0 z1 z2 z3 z4
  have h1g : t.has (nameB q.b) = false := by
    have := HH0
    exact H1.out
  go_upto_region 8 with (first
    | (go_at_call 47; rw [HR0.out] at HRD; refine HRD.out.mono ?_; rintro e w8 ⟨rfl, hF8⟩
       replace d0 := cellF hF8 d0
       replace d1 := cellF hF8 d1
       replace d2 := cellF hF8 d2
       replace d3 := cellF hF8 d3
       replace d4 := cellF hF8 d4
       have HF8 := Lib.hid hF8
       clear hF8 HRD))
  have HGR := Lib.hid (grow_calls (HA7.out.fr HF8.out) HG.out.ok ⟨q.b, A6, c6⟩ (HT7.out.fr HF8.out (by simp)) HM.out HR0.out h1g (Nat.le_trans (HG.out.path400 _) (by decide)))
  simp only [blkV] at HGR
  clear h1g
  go_upto_region 11 with (first
    | (go_at_call 49; refine HGR.out.mono ?_; rintro e w9 ⟨rfl, hA9, hF9, hT9⟩
       have HA9 := Lib.hid hA9
       have HF9 := Lib.hid hF9
       clear hA9 hF9 hT9 HGR d0 d1 d2 d3 d4))
  obtain ⟨W10, hW10⟩ : ∃ W10, W10 = w9.alloc (.cells #[.int .i64 (nameB q.b)] 3) := ⟨_, rfl⟩
  have hO10 : OwnI w9.heap.size W10 (.slice (some ⟨w9.heap.size, 0, none⟩) 1 1) [nameB q.b] := by rw [hW10]; exact OwnI.one w9 _
  have hF10 : Fr [] w9 W10 := by rw [hW10]; exact (Fr.refl _ _).alloc _
  have hA10 := HA9.out.later hF10 (by simp)
  have hX10 : FrX X w W10 := ((FrX.of0 (HF7.out.trans HF8.out (by simp))).trans (HF9.out.weak (fun k hx => .inl hx))).trans (.of0 hF10)
  have hs9 : W7.heap.size ≤ w9.heap.size := Nat.le_trans HF8.out.size HF9.out.size
  have hs7 := HF7.out.size
  have hgood := HG.out.grow H0.out HR0.out H1.out H2.out HM.out
  have hst : ∃ (D : Option Addr) (cp : Nat) (Xj : Nat → Prop), (.slice (some ⟨w9.heap.size, 0, none⟩) 1 1 : Value) = .slice D ([nameB q.b] : List Int).length cp ∧ OwnI w.heap.size W10 (.slice D ([nameB q.b] : List Int).length cp) [nameB q.b] ∧ TrAt Xj W10 p (t.grow q.b) ∧ (∀ k, X k → Xj k) ∧ (∀ k ∈ (Value.slice D ([nameB q.b] : List Int).length cp).ownBlock.toList, Xj k) ∧ (∀ k, Xj k → k < W10.heap.size) := by
    refine ⟨some ⟨w9.heap.size, 0, none⟩, 1, _, rfl, ⟨hO10.1, fun k hk => ?_⟩, hA10, fun k hx => .inl (.inl hx), fun k hk => ?_, fun k hx => ?_⟩
    · have := hO10.2 k hk; omega
    · have h5 := hO10.2 k hk
      have h6 := hO10.lt k hk
      exact .inr ⟨h5, h6⟩
    · have := hF10.size
      rcases hx with hx | hx
      · have := HX7.out k hx; omega
      · exact hx.2
  obtain ⟨D0, cp0, X0, hD0, hst⟩ := hst
  have HST := Lib.hid hst
  have HX10 := Lib.hid hX10
  have HGOOD := Lib.hid hgood
  have HLEN : Hid (([nameB q.b] : List Int).length + (t.grow q.b).wait.length ≤ 17) := by have := HG.out.wl; unfold Hid; simp [Tr.grow]; omega
  have HD0 := Lib.hid hD0
  rw [← hW10]
  clear hW10 hO10 hF10 hA10 hX10 hgood hst hD0
  go_loopg [7] (t.wait.length + 1) (fun gn o wr => ∃ (m : Nat) (tj : Tr) (l : List Int) (D : Option Addr) (cp : Nat) (Xj : Nat → Prop), m = gn ∧ o = .slice D l.length cp ∧ Hid (tj.wait.length + 1 ≤ m) ∧ Hid (Tr.settle m tj l = RES) ∧ Hid tj.Good ∧ Hid (l.length + tj.wait.length ≤ 17) ∧
    Hid (OwnI w.heap.size wr (.slice D l.length cp) l ∧ TrAt Xj wr p tj ∧ (∀ k, X k → Xj k) ∧ (∀ k ∈ (Value.slice D l.length cp).ownBlock.toList, Xj k) ∧ (∀ k, Xj k → k < wr.heap.size)) ∧ Hid (FrX X w wr))
  case atStart => exact ⟨_, t.grow q.b, [nameB q.b], D0, cp0, X0, rfl, HD0.out, Nat.le_refl _, HRES.out.symm, HGOOD, HLEN, HST, HX10⟩
  case round =>
    obtain ⟨m, tj, l, D, cp, Xj, rfl, rfl, HMW, HSE, HGJ, HLJ, HSJ, HFJ⟩ := hrel
    clear HST HX10 HGOOD HLEN HD0 HA9 HF9 HB7 HF7 HT7 HA7 HX7 HF8 HB6 HN6 HR6 HF6 HB5 HF5 HF4 HF3 HF2 HT1 HF HBL HC1 HRES
    have hwj : tj.wait.length ≤ 100000 := Nat.le_trans HGJ.out.wl (by decide)
    cases hf : tj.wait.findIdx? tj.ready with
    | none =>
      obtain ⟨m', rfl⟩ : ∃ m', m = m' + 1 := ⟨m - 1, by have := HMW.out; omega⟩
      have hres := HSE.out
      rw [Tr.settle_none hf] at hres
      rw [← hres] at hR
      have HTK := Lib.hid (take_none HSJ.out.2.1 hwj hf)
      clear hres hf HSE
      go_wp2_with (first
        | (go_at_call 50; refine HTK.out.mono ?_; rintro e w1 ⟨rfl, hF1⟩
           have HF1 := Lib.hid (hF1.alloc (.cells #[.int .i64 0, .int .i64 0, .int .i64 0, .int .i64 0, .slice none 0 0] 28))
           clear hF1 HTK))
      exact hR.out _ _ ⟨_, rfl, HSJ.out.1.fr HF1.out (by simp), (HSJ.out.2.1.fr HF1.out).grow (fun k hx _ => HSJ.out.2.2.1 k hx), HFJ.out.trans (.of0 HF1.out)⟩
    | some i =>
      have HTK := Lib.hid (take_some HSJ.out.2.1 hwj hf HSJ.out.2.2.2.2)
      have HFI := Lib.hid hf
      clear hf
      go_upto_region 12 with (first
        | (go_at_call 50; refine HTK.out.mono ?_; rintro e w1 ⟨q2, rfl, hwi, hT1, hA1, hF1⟩
           simp only [blkV]
           have HWI := Lib.hid hwi
           have HT1 := Lib.hid hT1
           have HA1 := Lib.hid hA1
           have HF1 := Lib.hid hF1
           clear hwi hT1 hA1 hF1 HTK))
      obtain ⟨W2, hW2⟩ : ∃ W2, W2 = w1.alloc (.cells #[.int .i64 q2.b.f0, .int .i64 q2.b.f1, .int .i64 q2.b.f2, .int .i64 q2.b.f3, .slice q2.A q2.b.f4.length q2.c] 28) := ⟨_, rfl⟩
      obtain ⟨g2, hg2⟩ : ∃ g2, g2 = w1.heap.size := ⟨_, rfl⟩
      have hF2 : Fr [] w1 W2 := by rw [hW2]; exact (Fr.refl _ _).alloc _
      have hs2 : W2.heap.size = g2 + 1 := by rw [hW2, hg2]; simp
      have hbl2 : W2.heap[g2]? = some (.cells #[.int .i64 q2.b.f0, .int .i64 q2.b.f1, .int .i64 q2.b.f2, .int .i64 q2.b.f3, .slice q2.A q2.b.f4.length q2.c] 28 (0, 0)) := by rw [hW2, hg2]; exact heap_alloc_new _ _
      have i0 := cell_of hbl2 0
      have i1 := cell_of hbl2 1
      have i2 := cell_of hbl2 2
      have i3 := cell_of hbl2 3
      have i4 := cell_of hbl2 4
      simp at i0 i1 i2 i3 i4
      have hA2 : TrAt (fun k => Xj k ∨ k = g2) W2 p ⟨tj.known, tj.wait.eraseIdx i⟩ := (HA1.out.grow (fun k hx hl => by rcases hx with hx | hx; exact hx; omega)).fr hF2
      have hT2 : TxsAt (fun k => Xj k ∨ k = g2) W2 q2 := (HT1.out.grow (fun k hx hl => by rcases hx with hx | hx; exact hx; omega)).fr hF2 (by simp)
      have hwi := HWI.out
      obtain ⟨hn0, hn1, hn2⟩ := HGJ.out.taken hwi
      have hrd := Tr.ready_at HFI.out hwi
      have hge := HGJ.out.erase i
      have hse := HSE.out
      obtain ⟨m', rfl⟩ : ∃ m', m = m' + 1 := ⟨m - 1, by have := HMW.out; omega⟩
      rw [Tr.settle_some HFI.out hwi] at hse
      have hil : i < tj.wait.length := (List.getElem?_eq_some_iff.1 hwi).1
      have hel : (tj.wait.eraseIdx i).length = tj.wait.length - 1 := by rw [List.length_eraseIdx, if_pos hil]
      have HEL := Lib.hid hel
      have HIL := Lib.hid hil
      have HGE := Lib.hid hge
      have hs12 : w1.heap.size ≤ W2.heap.size := hF2.size
      have HF2' := Lib.hid hF2
      have HFW := Lib.hid (HFJ.out.trans ((HF1.out.weak (fun k hx => HSJ.out.2.2.1 k hx)).trans (.of0 hF2)))
      have hO2 : OwnI w.heap.size W2 (.slice D l.length cp) l := (HSJ.out.1.frX HF1.out HSJ.out.2.2.2.1).fr hF2 (by simp)
      have HO2 := Lib.hid hO2
      have HXJ := Lib.hid HSJ.out.2.2.1
      have HXD := Lib.hid HSJ.out.2.2.2.1
      have hsr := HF1.out.size
      have HXB : Hid (∀ k, Xj k → k < w1.heap.size) := fun k hx => Nat.lt_of_lt_of_le (HSJ.out.2.2.2.2 k hx) hsr
      rw [← hW2, ← hg2]
      have hs2' : g2 < W2.heap.size := by omega
      clear hW2 hF2 hwi hel hil hge hO2 HSJ HSE HFJ HFI HWI hwj hg2 hs2
      go_upto_region 14 with (fail)
      by_cases hm : (⟨tj.known, tj.wait.eraseIdx i⟩ : Tr).room = true
      · rw [if_pos hm] at hse
        have HGC := Lib.hid (grow_calls hA2 HGE.out.ok q2 hT2 hm ((Tr.ready_known (s := tj) rfl _).trans hrd) ((Tr.has_known (s := tj) rfl _).trans hn1) (Nat.le_trans (HGE.out.path400 _) (by decide)))
        simp only [blkV] at HGC
        have HGG := Lib.hid (HGE.out.grow hn0 ((Tr.ready_known (s := tj) rfl _).trans hrd) ((Tr.has_known (s := tj) rfl _).trans hn1) hn2 hm)
        have HSE' := Lib.hid hse
        have HBL2 := Lib.hid hbl2
        have hb63 : l.length < maxLen := by have := HLJ.out; unfold maxLen; omega
        have hb8 : (l.length + 1) * 8 ≤ 140737488355328 := by have := HLJ.out; omega
        clear hA2 hT2 hm hrd hn1 hn0 hn2 hse hbl2
        go_wp2_with (first
          | (go_at_call 49; refine HGC.out.mono ?_; rintro e w3 ⟨rfl, hA3, hF3, hT3⟩
             have hb3 : w3.heap[g2]? = _ := (hF3.block (k := g2) (by omega) (.inr rfl)).trans HBL2.out
             replace i0 := cell_of hb3 0
             replace i1 := cell_of hb3 1
             replace i2 := cell_of hb3 2
             replace i3 := cell_of hb3 3
             replace i4 := cell_of hb3 4
             simp at i0 i1 i2 i3 i4
             have HNM := Lib.hid (name_calls q2.b q2.A q2.c hT3.C.2 hT3.C.1)
             simp only [blkV] at HNM
             have HA3 := Lib.hid hA3
             have HF3 := Lib.hid hF3
             clear hA3 hF3 hT3 hb3 HGC HBL2)
          | (go_at_call 22; refine HNM.out.mono ?_; rintro e w4 ⟨rfl, hB4⟩
             have hF4 := Fr.of_below [] hB4
             have hO4 := (HO2.out.frX HF3.out (fun k hk => .inl (HXD.out k hk))).fr hF4 (by simp)
             have hrow4 := hO4.1
             have HF4 := Lib.hid hF4
             have HO4 := Lib.hid hO4
             clear hF4 hO4 hB4 HNM i0 i1 i2 i3 i4)
          | (at_builtin; refine wp_append1 rfl _ _ 29 3 rfl Try.underlying29 infoI rfl (by decide) hrow4 rfl [.int .i64 (nameB q2.b)] rfl rfl (by simp [Value.oneCell']) hb63 hb8 ?_; intro A5 c5 w5 hr5 hF5 hN5
             have HR5 := Lib.hid hr5
             have HF5' := Lib.hid hF5
             have HN5 := Lib.hid hN5
             clear hr5 hF5 hN5 hrow4))
        have hA4 := (HA3.out.fr HF4.out).later HF5'.out (fun k hk => .inl (.inl (HXD.out k hk)))
        have hs4 := HF4.out.size
        have hs5 := HF5'.out.size
        have hs3 := HF3.out.size
        have hsw : w.heap.size ≤ W2.heap.size := HFW.out.size
        have hO5 : OwnI w.heap.size w5 (.slice A5 (l ++ [nameB q2.b]).length c5) (l ++ [nameB q2.b]) := by
          refine ⟨?_, fun k hk => ?_⟩
          · have := HR5.out
            simpa using this
          · rcases HN5.out k (by simpa using hk) with h1 | h1
            · exact HO4.out.2 k h1
            · omega
        have hX5 : FrX X w w5 := (HFW.out.trans ((HF3.out.weak (fun k hx => .inl (HXJ.out k hx))).trans (.of0 HF4.out))).trans ⟨_, HF5'.out, fun k hk hx => by
          have := HO4.out.2 k hk
          have := hXw k hx
          omega⟩
        have hl1 : (l ++ [nameB q2.b]).length = l.length + 1 := by simp
        go_roundg m'
        case rel =>
          refine ⟨m', _, l ++ [nameB q2.b], A5, c5, _, rfl, by rw [hl1], ?_, HSE'.out, HGG.out, ?_, ⟨hO5, hA4, fun k hx => .inl (.inl (HXJ.out k hx)), fun k hk => ?_, fun k hx => ?_⟩, hX5⟩
          · have := HMW.out
            have := HEL.out
            have := HIL.out
            show (tj.wait.eraseIdx i).length + 1 ≤ m'
            omega
          · have := HLJ.out
            have := HEL.out
            have := HIL.out
            show (l ++ [nameB q2.b]).length + (tj.wait.eraseIdx i).length ≤ 17
            omega
          · rcases HN5.out k (by simpa using hk) with h1 | h1
            · exact .inl (.inl (HXD.out k h1))
            · exact .inr ⟨h1, hO5.lt k hk⟩
          · rcases hx with (hx | hx) | hx
            · have := HXB.out k hx; omega
            · omega
            · exact hx.2
        case measure => omega
      · rw [if_neg hm] at hse
        have HGF := Lib.hid (grow_full hA2 q2 (by simpa using hm))
        simp only [blkV] at HGF
        have HSE' := Lib.hid hse
        clear hA2 hT2 hm hrd hn1 hn0 hn2 hse hbl2
        go_wp2_with (first
          | (go_at_call 49; refine HGF.out.mono ?_; rintro e w3 ⟨rfl, hF3⟩
             have HF3 := Lib.hid hF3
             clear hF3 HGF))
        have hs3 := HF3.out.size
        go_roundg m'
        case rel =>
          refine ⟨m', _, l, D, cp, Xj, rfl, rfl, ?_, HSE'.out, HGE.out, ?_, ⟨HO2.out.fr HF3.out (by simp), HA1.out.fr (HF2'.out.trans HF3.out (by simp)), HXJ.out, HXD.out, fun k hx => ?_⟩, HFW.out.trans (.of0 HF3.out)⟩
          · have := HMW.out
            have := HEL.out
            have := HIL.out
            show (tj.wait.eraseIdx i).length + 1 ≤ m'
            omega
          · have := HLJ.out
            have := HEL.out
            have := HIL.out
            show l.length + (tj.wait.eraseIdx i).length ≤ 17
            omega
          · have := HXB.out k hx; omega
        case measure => omega
theorem add_calls {X : Nat → Prop} {w : World} {p : Nat} {t : Tr} (h : TrAt X w p t) (hG : t.Good) (q : BV) (hC : k59.C w q.A q.b.f4.length q.b.f4) (hc : q.b.f4.length ≤ q.c) (hXw : ∀ k, X k → k < w.heap.size) :
    Calls Try.prog 16 #[.pointer (some ⟨p, 0, none⟩), blkV q.b q.A q.c] w fun e w' => AddRes X w p t q.b e w' := by
  by_cases h0 : nameB q.b = 0
  · exact add_zero h hG q hC hc hXw h0
  cases h1 : t.has (nameB q.b) with
  | true => exact add_has h hG q hC hc hXw h0 h1
  | false =>
    by_cases h2 : nameB q.b ∈ t.wait.map nameB
    · exact add_waits h hG q hC hc hXw h0 h1 h2
    cases hr : t.ready q.b with
    | false => exact add_orphan h hG q hC hc hXw h0 h1 h2 hr
    | true =>
      cases hm : t.room with
      | false => exact add_full h hG q hC hc hXw h0 h1 h2 hr hm
      | true => exact add_grown h hG q hC hc hXw h0 h1 h2 hr hm
end Go.Np.Try
