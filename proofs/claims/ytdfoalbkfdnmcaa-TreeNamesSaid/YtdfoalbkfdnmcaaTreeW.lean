/- tree.Tree: Add. (Printed by tools/gen_tradd.py.) -/
import Derived.Test.YtdfoalbkfdnmcaaTreeM
set_option linter.unusedVariables false
set_option linter.unusedSimpArgs false
namespace Go.Np.Try
open Go.RowKit Go.Proofs Go.Proofs.Ytdfoalbkfdnmcaa.PX Go.Proofs.YtdfoalbkfdnmcaaW.PrintWords
def AddRes (X : Nat → Prop) (w : World) (p : Nat) (t : Tr) (b : Blk) (e : Ending) (w' : World) : Prop := ∃ v, e = .returned (.tuple #[v, .bool (t.add b).2.2]) ∧ OwnI w.heap.size w' v (t.add b).2.1 ∧ TrAt X w' p (t.add b).1 ∧ FrX X w w'
theorem AddRes.same {X : Nat → Prop} {w w' : World} {p : Nat} {t : Tr} {b : Blk} (h : TrAt X w p t) (hF : Fr [] w w') (ha : t.add b = (t, [], false)) : AddRes X w p t b (.returned (.tuple #[.slice none 0 0, .bool false])) w' := by
  unfold AddRes
  rw [ha]
  exact ⟨_, rfl, OwnI.nil _ _, h.fr hF, .of0 hF⟩
theorem Tr.add_refused {t : Tr} {b : Blk} (h : nameB b = 0 ∨ t.has (nameB b) = true ∨ nameB b ∈ t.wait.map nameB) : t.add b = (t, [], false) := by unfold Tr.add; rw [if_pos h]
set_option maxHeartbeats 4000000 in
set_option maxRecDepth 100000 in
theorem add_zero {X : Nat → Prop} {w : World} {p : Nat} {t : Tr} (h : TrAt X w p t) (hG : t.Good) (q : BV) (hC : k59.C w q.A q.b.f4.length q.b.f4) (hc : q.b.f4.length ≤ q.c) (hXw : ∀ k, X k → k < w.heap.size) (h0 : nameB q.b = 0) :
    Calls Try.prog 16 #[.pointer (some ⟨p, 0, none⟩), blkV q.b q.A q.c] w fun e w' => AddRes X w p t q.b e w' := by
  unfold blkV
  refine calls_k fun R hR => ?_
  obtain ⟨W, hW⟩ : ∃ W, W = w.alloc (.cells #[.int .i64 q.b.f0, .int .i64 q.b.f1, .int .i64 q.b.f2, .int .i64 q.b.f3, .slice q.A q.b.f4.length q.c] 28) := ⟨_, rfl⟩
  obtain ⟨g, hg⟩ : ∃ g, g = w.heap.size := ⟨_, rfl⟩
  have hF : Fr [] w W := by rw [hW]; exact (Fr.refl _ _).alloc _
  have hsz : W.heap.size = g + 1 := by rw [hW, hg]; simp
  have hbl : W.heap[g]? = some (.cells #[.int .i64 q.b.f0, .int .i64 q.b.f1, .int .i64 q.b.f2, .int .i64 q.b.f3, .slice q.A q.b.f4.length q.c] 28 (0, 0)) := by rw [hW, hg]; exact heap_alloc_new _ _
  have e0 := cell_of hbl 0
  have e1 := cell_of hbl 1
  have e2 := cell_of hbl 2
  have e3 := cell_of hbl 3
  have e4 := cell_of hbl 4
  simp at e0 e1 e2 e3 e4
  have hC1 := Kd.C_below hC hF.below
  have HN := Lib.hid (name_calls q.b q.A q.c hC1 hc)
  simp only [blkV] at HN
  have HT1 := Lib.hid (h.fr hF)
  have HF := Lib.hid hF
  have HBL := Lib.hid hbl
  have HC1 := Lib.hid hC1
  have hwl : t.wait.length ≤ 100000 := Nat.le_trans hG.wl (by decide)
  have hgw : w.heap.size ≤ g := Nat.le_of_eq hg.symm
  have HA := Lib.hid (Tr.add_refused (t := t) (.inl h0))
  rw [h0] at HN
  have HH := Lib.hid h
  clear h hC hG hF hbl hC1 h0
  go_enter Try.func16, Try.ntmps16
  go_upto_region 1 with (fail)
  rw [← hW, ← hg]
  clear hW hg
  go_wp2_with (go_at_call 22; refine HN.out.mono ?_; rintro e w2 ⟨rfl, hB2⟩)
  exact hR.out _ _ (AddRes.same HH.out (HF.out.trans (Fr.of_below [] hB2) (by simp)) HA.out)
set_option maxHeartbeats 4000000 in
set_option maxRecDepth 100000 in
theorem add_has {X : Nat → Prop} {w : World} {p : Nat} {t : Tr} (h : TrAt X w p t) (hG : t.Good) (q : BV) (hC : k59.C w q.A q.b.f4.length q.b.f4) (hc : q.b.f4.length ≤ q.c) (hXw : ∀ k, X k → k < w.heap.size) (h0 : nameB q.b ≠ 0) (h1 : t.has (nameB q.b) = true) :
    Calls Try.prog 16 #[.pointer (some ⟨p, 0, none⟩), blkV q.b q.A q.c] w fun e w' => AddRes X w p t q.b e w' := by
  unfold blkV
  refine calls_k fun R hR => ?_
  obtain ⟨W, hW⟩ : ∃ W, W = w.alloc (.cells #[.int .i64 q.b.f0, .int .i64 q.b.f1, .int .i64 q.b.f2, .int .i64 q.b.f3, .slice q.A q.b.f4.length q.c] 28) := ⟨_, rfl⟩
  obtain ⟨g, hg⟩ : ∃ g, g = w.heap.size := ⟨_, rfl⟩
  have hF : Fr [] w W := by rw [hW]; exact (Fr.refl _ _).alloc _
  have hsz : W.heap.size = g + 1 := by rw [hW, hg]; simp
  have hbl : W.heap[g]? = some (.cells #[.int .i64 q.b.f0, .int .i64 q.b.f1, .int .i64 q.b.f2, .int .i64 q.b.f3, .slice q.A q.b.f4.length q.c] 28 (0, 0)) := by rw [hW, hg]; exact heap_alloc_new _ _
  have e0 := cell_of hbl 0
  have e1 := cell_of hbl 1
  have e2 := cell_of hbl 2
  have e3 := cell_of hbl 3
  have e4 := cell_of hbl 4
  simp at e0 e1 e2 e3 e4
  have hC1 := Kd.C_below hC hF.below
  have HN := Lib.hid (name_calls q.b q.A q.c hC1 hc)
  simp only [blkV] at HN
  have HT1 := Lib.hid (h.fr hF)
  have HF := Lib.hid hF
  have HBL := Lib.hid hbl
  have HC1 := Lib.hid hC1
  have hwl : t.wait.length ≤ 100000 := Nat.le_trans hG.wl (by decide)
  have hgw : w.heap.size ≤ g := Nat.le_of_eq hg.symm
  have HA := Lib.hid (Tr.add_refused (t := t) (.inr (.inl h1)))
  have HH0 := Lib.hid h
  have h0b : (nameB q.b == 0) = false := by simpa using h0
  have HAS : Hid (∀ W, Fr [] w W → Calls Try.prog 19 #[.pointer (some ⟨p, 0, none⟩), .int .i64 (nameB q.b)] W fun e w' => e = .returned (.bool true) ∧ Fr [] W w') := by
    intro W hW
    have := has_calls (h.fr hW) (nameB q.b)
    rw [h1] at this
    exact this
  clear h hC hG hF hbl hC1 h0 h1
  go_enter Try.func16, Try.ntmps16
  go_upto_region 1 with (fail)
  rw [← hW, ← hg]
  clear hW hg
  go_wp2_with (first
    | (go_at_call 22; refine HN.out.mono ?_; rintro e w2 ⟨rfl, hB2⟩
       have HF2 := Lib.hid (HF.out.trans (Fr.of_below [] hB2) (by simp))
       clear hB2)
    | (go_at_call 19; refine (HAS.out _ HF2.out).mono ?_; rintro e w3 ⟨rfl, hF3⟩))
  exact hR.out _ _ (AddRes.same HH0.out (HF2.out.trans hF3 (by simp)) HA.out)
set_option maxHeartbeats 4000000 in
set_option maxRecDepth 100000 in
theorem add_waits {X : Nat → Prop} {w : World} {p : Nat} {t : Tr} (h : TrAt X w p t) (hG : t.Good) (q : BV) (hC : k59.C w q.A q.b.f4.length q.b.f4) (hc : q.b.f4.length ≤ q.c) (hXw : ∀ k, X k → k < w.heap.size) (h0 : nameB q.b ≠ 0) (h1 : t.has (nameB q.b) = false) (h2 : nameB q.b ∈ t.wait.map nameB) :
    Calls Try.prog 16 #[.pointer (some ⟨p, 0, none⟩), blkV q.b q.A q.c] w fun e w' => AddRes X w p t q.b e w' := by
  unfold blkV
  refine calls_k fun R hR => ?_
  obtain ⟨W, hW⟩ : ∃ W, W = w.alloc (.cells #[.int .i64 q.b.f0, .int .i64 q.b.f1, .int .i64 q.b.f2, .int .i64 q.b.f3, .slice q.A q.b.f4.length q.c] 28) := ⟨_, rfl⟩
  obtain ⟨g, hg⟩ : ∃ g, g = w.heap.size := ⟨_, rfl⟩
  have hF : Fr [] w W := by rw [hW]; exact (Fr.refl _ _).alloc _
  have hsz : W.heap.size = g + 1 := by rw [hW, hg]; simp
  have hbl : W.heap[g]? = some (.cells #[.int .i64 q.b.f0, .int .i64 q.b.f1, .int .i64 q.b.f2, .int .i64 q.b.f3, .slice q.A q.b.f4.length q.c] 28 (0, 0)) := by rw [hW, hg]; exact heap_alloc_new _ _
  have e0 := cell_of hbl 0
  have e1 := cell_of hbl 1
  have e2 := cell_of hbl 2
  have e3 := cell_of hbl 3
  have e4 := cell_of hbl 4
  simp at e0 e1 e2 e3 e4
  have hC1 := Kd.C_below hC hF.below
  have HN := Lib.hid (name_calls q.b q.A q.c hC1 hc)
  simp only [blkV] at HN
  have HT1 := Lib.hid (h.fr hF)
  have HF := Lib.hid hF
  have HBL := Lib.hid hbl
  have HC1 := Lib.hid hC1
  have hwl : t.wait.length ≤ 100000 := Nat.le_trans hG.wl (by decide)
  have hgw : w.heap.size ≤ g := Nat.le_of_eq hg.symm
  have HA := Lib.hid (Tr.add_refused (t := t) (.inr (.inr h2)))
  have HH0 := Lib.hid h
  have h0b : (nameB q.b == 0) = false := by simpa using h0
  have h1d : Hid (t.has (nameB q.b) = false) := h1
  have h2d : Hid (decide (nameB q.b ∈ t.wait.map nameB) = true) := decide_eq_true h2
  clear h hC hG hF hbl hC1 h0 h1 h2
  go_enter Try.func16, Try.ntmps16
  go_upto_region 1 with (fail)
  rw [← hW, ← hg]
  clear hW hg
  go_wp2_with (first
    | (go_at_call 22; refine HN.out.mono ?_; rintro e w2 ⟨rfl, hB2⟩
       have hF2 := Fr.of_below [] hB2
       have HH := Lib.hid (has_calls (HT1.out.fr hF2) (nameB q.b))
       have HF2 := Lib.hid hF2
       clear hF2 hB2 HN)
    | (go_at_call 19; rw [h1d.out] at HH; refine HH.out.mono ?_; rintro e w3 ⟨rfl, hF3⟩
       have hF13 := HF2.out.trans hF3 (by simp)
       have HWA := Lib.hid (waiting_calls (HT1.out.fr hF13) hwl)
       have HF3 := Lib.hid hF13
       clear hF3 hF13 HH)
    | (go_at_call 20; refine HWA.out.mono ?_; rintro e w4 ⟨v4, rfl, hO4, hF4⟩
       have hF14 := HF3.out.trans hF4 (by simp)
       have HCO := Lib.hid (contains_calls (nameB q.b) hO4.sl (by rw [List.length_map]; omega))
       have HF4 := Lib.hid hF14
       clear hF4 hF14 HWA hO4)
    | (go_at_call 46; rw [h2d.out] at HCO; refine HCO.out.mono ?_; rintro e w5 ⟨rfl, hF5⟩
       have HF5 := Lib.hid (HF4.out.trans hF5 (by simp))
       clear hF5 HCO))
  exact hR.out _ _ (AddRes.same HH0.out (HF.out.trans HF5.out (by simp)) HA.out)
theorem Tr.add_new {t : Tr} {b : Blk} (h0 : nameB b ≠ 0) (h1 : t.has (nameB b) = false) (h2 : nameB b ∉ t.wait.map nameB) : t.add b = (if t.ready b = false then (⟨t.known, (t.wait ++ [b]).drop (t.wait.length + 1 - 16)⟩, [], true)
  else if t.room = false then (t, [], false)
  else
    let r := Tr.settle (t.wait.length + 1) (t.grow b) [nameB b]
    (r.1, r.2, true)) := by
  unfold Tr.add
  rw [if_neg]
  rintro (h | h | h)
  · exact h0 h
  · rw [h1] at h; cases h
  · exact h2 h
set_option maxHeartbeats 4000000 in
set_option maxRecDepth 100000 in
theorem add_orphan {X : Nat → Prop} {w : World} {p : Nat} {t : Tr} (h : TrAt X w p t) (hG : t.Good) (q : BV) (hC : k59.C w q.A q.b.f4.length q.b.f4) (hc : q.b.f4.length ≤ q.c) (hXw : ∀ k, X k → k < w.heap.size) (h0 : nameB q.b ≠ 0) (h1 : t.has (nameB q.b) = false) (h2 : nameB q.b ∉ t.wait.map nameB) (hr : t.ready q.b = false) :
    Calls Try.prog 16 #[.pointer (some ⟨p, 0, none⟩), blkV q.b q.A q.c] w fun e w' => AddRes X w p t q.b e w' := by
  unfold blkV
  refine calls_k fun R hR => ?_
  obtain ⟨W, hW⟩ : ∃ W, W = w.alloc (.cells #[.int .i64 q.b.f0, .int .i64 q.b.f1, .int .i64 q.b.f2, .int .i64 q.b.f3, .slice q.A q.b.f4.length q.c] 28) := ⟨_, rfl⟩
  obtain ⟨g, hg⟩ : ∃ g, g = w.heap.size := ⟨_, rfl⟩
  have hF : Fr [] w W := by rw [hW]; exact (Fr.refl _ _).alloc _
  have hsz : W.heap.size = g + 1 := by rw [hW, hg]; simp
  have hbl : W.heap[g]? = some (.cells #[.int .i64 q.b.f0, .int .i64 q.b.f1, .int .i64 q.b.f2, .int .i64 q.b.f3, .slice q.A q.b.f4.length q.c] 28 (0, 0)) := by rw [hW, hg]; exact heap_alloc_new _ _
  have e0 := cell_of hbl 0
  have e1 := cell_of hbl 1
  have e2 := cell_of hbl 2
  have e3 := cell_of hbl 3
  have e4 := cell_of hbl 4
  simp at e0 e1 e2 e3 e4
  have hC1 := Kd.C_below hC hF.below
  have HN := Lib.hid (name_calls q.b q.A q.c hC1 hc)
  simp only [blkV] at HN
  have HT1 := Lib.hid (h.fr hF)
  have HF := Lib.hid hF
  have HBL := Lib.hid hbl
  have HC1 := Lib.hid hC1
  have hwl : t.wait.length ≤ 100000 := Nat.le_trans hG.wl (by decide)
  have hgw : w.heap.size ≤ g := Nat.le_of_eq hg.symm
  have hl3 : q.b.f4.length ≤ 1099511627776 := by
    have hr := (nameB_pos h0).1
    simp only [rightB, okTxs, unlikeB, Bool.and_eq_true, decide_eq_true_eq] at hr
    omega
  have HH0 := Lib.hid h
  have h0b : (nameB q.b == 0) = false := by simpa using h0
  have h1d : Hid (t.has (nameB q.b) = false) := h1
  have h2d : Hid (decide (nameB q.b ∈ t.wait.map nameB) = false) := decide_eq_false h2
  have H0 := Lib.hid h0
  have H1 := Lib.hid h1
  have H2 := Lib.hid h2
  have HG := Lib.hid hG
  have HADD := Lib.hid (Tr.add_new h0 h1 h2)
  clear h hC hG hF hbl hC1 h0 h1 h2
  have HR0 := Lib.hid hr
  have hadd := HADD.out
  rw [if_pos hr] at hadd
  unfold AddRes at hR
  rw [hadd] at hR
  clear hr hadd
  go_enter Try.func16, Try.ntmps16
  go_upto_region 1 with (fail)
  rw [← hW, ← hg]
  clear hW hg
  go_upto_region 4 with (first
    | (go_at_call 22; refine HN.out.mono ?_; rintro e w2 ⟨rfl, hB2⟩
       have hF2 := Fr.of_below [] hB2
       have HH := Lib.hid (has_calls (HT1.out.fr hF2) (nameB q.b))
       have HF2 := Lib.hid hF2
       clear hF2 hB2 HN)
    | (go_at_call 19; rw [h1d.out] at HH; refine HH.out.mono ?_; rintro e w3 ⟨rfl, hF3⟩
       have hF13 := HF2.out.trans hF3 (by simp)
       have HWA := Lib.hid (waiting_calls (HT1.out.fr hF13) hwl)
       have HF3 := Lib.hid hF13
       clear hF3 hF13 HH)
    | (go_at_call 20; refine HWA.out.mono ?_; rintro e w4 ⟨v4, rfl, hO4, hF4⟩
       have hF14 := HF3.out.trans hF4 (by simp)
       have HCO := Lib.hid (contains_calls (nameB q.b) hO4.sl (by rw [List.length_map]; omega))
       have HF4 := Lib.hid hF14
       clear hF4 hF14 HWA hO4)
    | (go_at_call 46; rw [h2d.out] at HCO; refine HCO.out.mono ?_; rintro e w5 ⟨rfl, hF5⟩
       have HF5 := Lib.hid (HF4.out.trans hF5 (by simp))
       clear hF5 HCO))
  replace e0 := cellF HF5.out e0
  replace e1 := cellF HF5.out e1
  replace e2 := cellF HF5.out e2
  replace e3 := cellF HF5.out e3
  replace e4 := cellF HF5.out e4
  have hbl5 := (HF5.out.block g (by omega) (by simp)).trans HBL.out
  have z0 := froz_of hbl5 0
  have z1 := froz_of hbl5 1
  have z2 := froz_of hbl5 2
  have z3 := froz_of hbl5 3
  have z4 := froz_of hbl5 4
  have HCP := Lib.hid (copy_calls q (Kd.C_below HC1.out HF5.out.below) hl3)
  simp only [blkV] at HCP
  have hsz5 := HF5.out.size
  have HB5 := Lib.hid hbl5
  clear hbl5 h1d h2d h0b
  go_upto_region 5 with (first
    | (go_at_call 17; refine HCP.out.mono ?_; rintro e w6 ⟨A6, c6, rfl, hr6, hn6, hF6⟩
       simp only [blkV]
       have hbl6 := (hF6.block g (by omega) (by simp)).trans HB5.out
       replace e0 := cellF hF6 e0
       replace e1 := cellF hF6 e1
       replace e2 := cellF hF6 e2
       replace e3 := cellF hF6 e3
       replace e4 := cellF hF6 e4
       replace z0 := froz_of hbl6 0
       replace z1 := froz_of hbl6 1
       replace z2 := froz_of hbl6 2
       replace z3 := froz_of hbl6 3
       replace z4 := froz_of hbl6 4
       have HR6 := Lib.hid hr6
       have HN6 := Lib.hid hn6
       have HF6 := Lib.hid hF6
       have HB6 := Lib.hid hbl6
       clear hr6 hn6 hF6 hbl6 HCP))
  obtain ⟨W7, hW7⟩ : ∃ W7, W7 = put5 w6 g (.int .i64 q.b.f0) (.int .i64 q.b.f1) (.int .i64 q.b.f2) (.int .i64 q.b.f3) (.slice A6 q.b.f4.length c6) := ⟨_, rfl⟩
  have hbl7 : W7.heap[g]? = some (.cells #[.int .i64 q.b.f0, .int .i64 q.b.f1, .int .i64 q.b.f2, .int .i64 q.b.f3, .slice A6 q.b.f4.length c6] 28 (0, 0)) := by rw [hW7]; exact put5_heap HB6.out _ _ _ _ _
  have hF7 : Fr [] w W7 := by rw [hW7]; exact put5_fr ((HF.out.trans HF5.out (by simp)).trans HF6.out (by simp)) (.inr hgw) _ _ _ _ _
  have hF67 : Fr [g] w6 W7 := by rw [hW7]; exact put5_fr (b := g) (Fr.refl [g] w6) (.inl (by simp)) _ _ _ _ _
  have hT7 : TxsAt (fun k => X k ∨ k = g) W7 ⟨q.b, A6, c6⟩ := by
    refine ⟨row_fr HR6.out hF67 (fun k hk hm => ?_), fun k hk hx => ?_⟩
    · have := HN6.out k hk
      simp at hm; omega
    · have := HN6.out k hk
      rcases hx with hx | hx
      · have := hXw k hx; omega
      · omega
  have hA7 : TrAt (fun k => X k ∨ k = g) W7 p t := (HH0.out.grow (fun k hx hl => by rcases hx with hx | hx; exact hx; omega)).fr hF7
  have hX7 : ∀ k, (X k ∨ k = g) → k < W7.heap.size := fun k hx => by
    have hs7 := (Array.getElem?_eq_some_iff.1 hbl7).1
    have hs8 := hF7.size
    rcases hx with hx | hx
    · have := hXw k hx; omega
    · omega
  have d0 := cell_of hbl7 0
  have d1 := cell_of hbl7 1
  have d2 := cell_of hbl7 2
  have d3 := cell_of hbl7 3
  have d4 := cell_of hbl7 4
  simp at d0 d1 d2 d3 d4
  have HRD := Lib.hid (ready_calls hA7 q.b A6 c6)
  simp only [blkV] at HRD
  have HB7 := Lib.hid hbl7
  have HF7 := Lib.hid hF7
  have HT7 := Lib.hid hT7
  have HA7 := Lib.hid hA7
  have HX7 := Lib.hid hX7
  unfold put5 at hW7
  rw [← hW7]
  clear hbl7 hF7 hF67 hT7 hA7 hX7 hW7 e0 e1 e2 e3 e4 z0 z1 z2 z3 z4
  go_upto_region 6 with (first
    | (go_at_call 47; rw [HR0.out] at HRD; refine HRD.out.mono ?_; rintro e w8 ⟨rfl, hF8⟩
       replace d0 := cellF hF8 d0
       replace d1 := cellF hF8 d1
       replace d2 := cellF hF8 d2
       replace d3 := cellF hF8 d3
       replace d4 := cellF hF8 d4
       have HF8 := Lib.hid hF8
       clear hF8 HRD))
  have HFD : Hid (Fr [] W7 w8.drew) := HF8.out.drew
  have hSD : w8.drew.cell? ⟨g, 0, none⟩ = some (.int .i64 q.b.f0) ∧ w8.drew.cell? ⟨g, 1, none⟩ = some (.int .i64 q.b.f1) ∧ w8.drew.cell? ⟨g, 2, none⟩ = some (.int .i64 q.b.f2) ∧ w8.drew.cell? ⟨g, 3, none⟩ = some (.int .i64 q.b.f3) ∧ w8.drew.cell? ⟨g, 4, none⟩ = some (.slice A6 q.b.f4.length c6) := ⟨d0, d1, d2, d3, d4⟩
  have HP : Hid (Calls Try.prog 48 #[.pointer (some ⟨p, 1, none⟩), .agg #[.int .i64 q.b.f0, .int .i64 q.b.f1, .int .i64 q.b.f2, .int .i64 q.b.f3, .slice A6 q.b.f4.length c6], .int .i64 16] w8.drew fun e w' => e = .returned (.tuple #[]) ∧ (TrAt X w' p ⟨t.known, (t.wait ++ [q.b]).drop (t.wait.length + 1 - 16)⟩ ∧ FrX X w w') ∧ (w'.cell? ⟨g, 0, none⟩ = some (.int .i64 q.b.f0) ∧ w'.cell? ⟨g, 1, none⟩ = some (.int .i64 q.b.f1) ∧ w'.cell? ⟨g, 2, none⟩ = some (.int .i64 q.b.f2) ∧ w'.cell? ⟨g, 3, none⟩ = some (.int .i64 q.b.f3) ∧ w'.cell? ⟨g, 4, none⟩ = some (.slice A6 q.b.f4.length c6))) := by
    obtain ⟨b, v, ds, qs, hin⟩ := HA7.out.fr HFD.out
    have hl16 : qs.length ≤ 16 := by have := congrArg List.length hin.hqs; simp at this; rw [this]; exact HG.out.wl
    refine (push_calls hin ⟨q.b, A6, c6⟩ (HT7.out.fr HFD.out (by simp)) hl16 (fun k hx => Nat.lt_of_lt_of_le (HX7.out k hx) HFD.out.size)).mono ?_
    rintro e w' ⟨rfl, h8, h9⟩
    have hb : w'.heap[g]? = _ := (h9.block (k := g) (Nat.lt_of_lt_of_le (HX7.out g (.inr rfl)) HFD.out.size) (.inr rfl)).trans ((HFD.out.block g (HX7.out g (.inr rfl)) (by simp)).trans HB7.out)
    have x0 := cell_of hb 0
    have x1 := cell_of hb 1
    have x2 := cell_of hb 2
    have x3 := cell_of hb 3
    have x4 := cell_of hb 4
    simp at x0 x1 x2 x3 x4
    exact ⟨rfl, ⟨h8.grow (fun k hx _ => .inl hx), (FrX.of0 (HF7.out.trans HFD.out (by simp))).trans (h9.weak (fun k hx => .inl hx))⟩, x0, x1, x2, x3, x4⟩
  go_region_held3 (fun W' => W'.cell? ⟨g, 0, none⟩ = some (.int .i64 q.b.f0) ∧ W'.cell? ⟨g, 1, none⟩ = some (.int .i64 q.b.f1) ∧ W'.cell? ⟨g, 2, none⟩ = some (.int .i64 q.b.f2) ∧ W'.cell? ⟨g, 3, none⟩ = some (.int .i64 q.b.f3) ∧ W'.cell? ⟨g, 4, none⟩ = some (.slice A6 q.b.f4.length c6))
    (assumption)
    (first
      | (go_at_call 48; refine HP.out.mono ?_; rintro e w9 ⟨rfl, hA9, hS9⟩; have HA9 := Lib.hid hA9; clear hA9))
  all_goals (go_wp2; exact hR.out _ _ ⟨_, rfl, OwnI.nil _ _, HA9.out.1, HA9.out.2⟩)
set_option maxHeartbeats 4000000 in
set_option maxRecDepth 100000 in
theorem add_full {X : Nat → Prop} {w : World} {p : Nat} {t : Tr} (h : TrAt X w p t) (hG : t.Good) (q : BV) (hC : k59.C w q.A q.b.f4.length q.b.f4) (hc : q.b.f4.length ≤ q.c) (hXw : ∀ k, X k → k < w.heap.size) (h0 : nameB q.b ≠ 0) (h1 : t.has (nameB q.b) = false) (h2 : nameB q.b ∉ t.wait.map nameB) (hr : t.ready q.b = true) (hm : t.room = false) :
    Calls Try.prog 16 #[.pointer (some ⟨p, 0, none⟩), blkV q.b q.A q.c] w fun e w' => AddRes X w p t q.b e w' := by
  unfold blkV
  refine calls_k fun R hR => ?_
  obtain ⟨W, hW⟩ : ∃ W, W = w.alloc (.cells #[.int .i64 q.b.f0, .int .i64 q.b.f1, .int .i64 q.b.f2, .int .i64 q.b.f3, .slice q.A q.b.f4.length q.c] 28) := ⟨_, rfl⟩
  obtain ⟨g, hg⟩ : ∃ g, g = w.heap.size := ⟨_, rfl⟩
  have hF : Fr [] w W := by rw [hW]; exact (Fr.refl _ _).alloc _
  have hsz : W.heap.size = g + 1 := by rw [hW, hg]; simp
  have hbl : W.heap[g]? = some (.cells #[.int .i64 q.b.f0, .int .i64 q.b.f1, .int .i64 q.b.f2, .int .i64 q.b.f3, .slice q.A q.b.f4.length q.c] 28 (0, 0)) := by rw [hW, hg]; exact heap_alloc_new _ _
  have e0 := cell_of hbl 0
  have e1 := cell_of hbl 1
  have e2 := cell_of hbl 2
  have e3 := cell_of hbl 3
  have e4 := cell_of hbl 4
  simp at e0 e1 e2 e3 e4
  have hC1 := Kd.C_below hC hF.below
  have HN := Lib.hid (name_calls q.b q.A q.c hC1 hc)
  simp only [blkV] at HN
  have HT1 := Lib.hid (h.fr hF)
  have HF := Lib.hid hF
  have HBL := Lib.hid hbl
  have HC1 := Lib.hid hC1
  have hwl : t.wait.length ≤ 100000 := Nat.le_trans hG.wl (by decide)
  have hgw : w.heap.size ≤ g := Nat.le_of_eq hg.symm
  have hl3 : q.b.f4.length ≤ 1099511627776 := by
    have hr := (nameB_pos h0).1
    simp only [rightB, okTxs, unlikeB, Bool.and_eq_true, decide_eq_true_eq] at hr
    omega
  have HH0 := Lib.hid h
  have h0b : (nameB q.b == 0) = false := by simpa using h0
  have h1d : Hid (t.has (nameB q.b) = false) := h1
  have h2d : Hid (decide (nameB q.b ∈ t.wait.map nameB) = false) := decide_eq_false h2
  have H0 := Lib.hid h0
  have H1 := Lib.hid h1
  have H2 := Lib.hid h2
  have HG := Lib.hid hG
  have HADD := Lib.hid (Tr.add_new h0 h1 h2)
  clear h hC hG hF hbl hC1 h0 h1 h2
  have HR0 := Lib.hid hr
  have HM := Lib.hid hm
  have hadd := HADD.out
  rw [if_neg (by simp [hr]), if_pos hm] at hadd
  clear hr hm
  go_enter Try.func16, Try.ntmps16
  go_upto_region 1 with (fail)
  rw [← hW, ← hg]
  clear hW hg
  go_upto_region 4 with (first
    | (go_at_call 22; refine HN.out.mono ?_; rintro e w2 ⟨rfl, hB2⟩
       have hF2 := Fr.of_below [] hB2
       have HH := Lib.hid (has_calls (HT1.out.fr hF2) (nameB q.b))
       have HF2 := Lib.hid hF2
       clear hF2 hB2 HN)
    | (go_at_call 19; rw [h1d.out] at HH; refine HH.out.mono ?_; rintro e w3 ⟨rfl, hF3⟩
       have hF13 := HF2.out.trans hF3 (by simp)
       have HWA := Lib.hid (waiting_calls (HT1.out.fr hF13) hwl)
       have HF3 := Lib.hid hF13
       clear hF3 hF13 HH)
    | (go_at_call 20; refine HWA.out.mono ?_; rintro e w4 ⟨v4, rfl, hO4, hF4⟩
       have hF14 := HF3.out.trans hF4 (by simp)
       have HCO := Lib.hid (contains_calls (nameB q.b) hO4.sl (by rw [List.length_map]; omega))
       have HF4 := Lib.hid hF14
       clear hF4 hF14 HWA hO4)
    | (go_at_call 46; rw [h2d.out] at HCO; refine HCO.out.mono ?_; rintro e w5 ⟨rfl, hF5⟩
       have HF5 := Lib.hid (HF4.out.trans hF5 (by simp))
       clear hF5 HCO))
  replace e0 := cellF HF5.out e0
  replace e1 := cellF HF5.out e1
  replace e2 := cellF HF5.out e2
  replace e3 := cellF HF5.out e3
  replace e4 := cellF HF5.out e4
  have hbl5 := (HF5.out.block g (by omega) (by simp)).trans HBL.out
  have z0 := froz_of hbl5 0
  have z1 := froz_of hbl5 1
  have z2 := froz_of hbl5 2
  have z3 := froz_of hbl5 3
  have z4 := froz_of hbl5 4
  have HCP := Lib.hid (copy_calls q (Kd.C_below HC1.out HF5.out.below) hl3)
  simp only [blkV] at HCP
  have hsz5 := HF5.out.size
  have HB5 := Lib.hid hbl5
  clear hbl5 h1d h2d h0b
  go_upto_region 5 with (first
    | (go_at_call 17; refine HCP.out.mono ?_; rintro e w6 ⟨A6, c6, rfl, hr6, hn6, hF6⟩
       simp only [blkV]
       have hbl6 := (hF6.block g (by omega) (by simp)).trans HB5.out
       replace e0 := cellF hF6 e0
       replace e1 := cellF hF6 e1
       replace e2 := cellF hF6 e2
       replace e3 := cellF hF6 e3
       replace e4 := cellF hF6 e4
       replace z0 := froz_of hbl6 0
       replace z1 := froz_of hbl6 1
       replace z2 := froz_of hbl6 2
       replace z3 := froz_of hbl6 3
       replace z4 := froz_of hbl6 4
       have HR6 := Lib.hid hr6
       have HN6 := Lib.hid hn6
       have HF6 := Lib.hid hF6
       have HB6 := Lib.hid hbl6
       clear hr6 hn6 hF6 hbl6 HCP))
  obtain ⟨W7, hW7⟩ : ∃ W7, W7 = put5 w6 g (.int .i64 q.b.f0) (.int .i64 q.b.f1) (.int .i64 q.b.f2) (.int .i64 q.b.f3) (.slice A6 q.b.f4.length c6) := ⟨_, rfl⟩
  have hbl7 : W7.heap[g]? = some (.cells #[.int .i64 q.b.f0, .int .i64 q.b.f1, .int .i64 q.b.f2, .int .i64 q.b.f3, .slice A6 q.b.f4.length c6] 28 (0, 0)) := by rw [hW7]; exact put5_heap HB6.out _ _ _ _ _
  have hF7 : Fr [] w W7 := by rw [hW7]; exact put5_fr ((HF.out.trans HF5.out (by simp)).trans HF6.out (by simp)) (.inr hgw) _ _ _ _ _
  have hF67 : Fr [g] w6 W7 := by rw [hW7]; exact put5_fr (b := g) (Fr.refl [g] w6) (.inl (by simp)) _ _ _ _ _
  have hT7 : TxsAt (fun k => X k ∨ k = g) W7 ⟨q.b, A6, c6⟩ := by
    refine ⟨row_fr HR6.out hF67 (fun k hk hm => ?_), fun k hk hx => ?_⟩
    · have := HN6.out k hk
      simp at hm; omega
    · have := HN6.out k hk
      rcases hx with hx | hx
      · have := hXw k hx; omega
      · omega
  have hA7 : TrAt (fun k => X k ∨ k = g) W7 p t := (HH0.out.grow (fun k hx hl => by rcases hx with hx | hx; exact hx; omega)).fr hF7
  have hX7 : ∀ k, (X k ∨ k = g) → k < W7.heap.size := fun k hx => by
    have hs7 := (Array.getElem?_eq_some_iff.1 hbl7).1
    have hs8 := hF7.size
    rcases hx with hx | hx
    · have := hXw k hx; omega
    · omega
  have d0 := cell_of hbl7 0
  have d1 := cell_of hbl7 1
  have d2 := cell_of hbl7 2
  have d3 := cell_of hbl7 3
  have d4 := cell_of hbl7 4
  simp at d0 d1 d2 d3 d4
  have HRD := Lib.hid (ready_calls hA7 q.b A6 c6)
  simp only [blkV] at HRD
  have HB7 := Lib.hid hbl7
  have HF7 := Lib.hid hF7
  have HT7 := Lib.hid hT7
  have HA7 := Lib.hid hA7
  have HX7 := Lib.hid hX7
  unfold put5 at hW7
  rw [← hW7]
  clear hbl7 hF7 hF67 hT7 hA7 hX7 hW7 e0 e1 e2 e3 e4 z0 z1 z2 z3 z4
  go_upto_region 8 with (first
    | (go_at_call 47; rw [HR0.out] at HRD; refine HRD.out.mono ?_; rintro e w8 ⟨rfl, hF8⟩
       replace d0 := cellF hF8 d0
       replace d1 := cellF hF8 d1
       replace d2 := cellF hF8 d2
       replace d3 := cellF hF8 d3
       replace d4 := cellF hF8 d4
       have HF8 := Lib.hid hF8
       clear hF8 HRD))
  have HGR := Lib.hid (grow_full (HA7.out.fr HF8.out) ⟨q.b, A6, c6⟩ HM.out)
  simp only [blkV] at HGR
  go_wp2_with (go_at_call 49; refine HGR.out.mono ?_; rintro e w9 ⟨rfl, hF9⟩)
  exact hR.out _ _ (AddRes.same HH0.out ((HF7.out.trans HF8.out (by simp)).trans hF9 (by simp)) hadd)
end Go.Np.Try
