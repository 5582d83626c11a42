/- A text that the row of ChainGrows needs. (Pruned by tools/prune.py.) -/
import Derived.Test.YtlllhpnpgcphcaaQChainGrowsChf
set_option linter.unusedVariables false
set_option linter.unusedSimpArgs false
namespace Go.Np.Try
open Go.RowKit Go.Proofs Go.Proofs.Ytlllhpnpgcphcaa.PX Go.Proofs.YtlllhpnpgcphcaaW.PrintWords
theorem flatT_snoc (l : List S52) (t : S52) : flatT (l ++ [t]) = flatT l ++ [.int .i64 t.f0, .int .i64 t.f1] := by simp [flatT, cellsT]
theorem pick_len (old : List Int) : ∀ (l acc : List S52), acc.length ≤ 3 → (l.foldl (pickT old) acc).length ≤ 3
  | [], acc, h => h
  | t :: l, acc, h => by
    rw [List.foldl_cons]
    refine pick_len old l _ ?_
    unfold pickT
    split
    · simp; omega
    · exact h
theorem tx_at {w : World} {A : Option Addr} {n : Nat} {l : List S52} (h : k52.C w A n l) (j : Nat) (t : S52) (ht : l[j]? = some t) (hj : j < n) : ∃ ad, A = some ad ∧ w.cell? (ad.add (j * 2)) = some (.int .i64 t.f0) ∧ w.cell? ⟨(ad.add (j * 2)).block, (ad.add (j * 2)).off + 1, none⟩ = some (.int .i64 t.f1) := by
  obtain ⟨ad, e, h0, h1⟩ := at_T52 h (j : Int) (by omega) (by omega)
  have hb : rd_T52 l (j : Int) = t := by simp [rd_T52, List.getD_eq_getElem?_getD, ht]
  rw [hb] at h0 h1
  exact ⟨ad, e, by simpa using h0, by simpa using h1⟩
structure MkIn (w W : World) (gR g9 : Nat) (b : Blk) (B : Option Addr) (cb : Nat) : Prop where
  res : W.heap[gR]? = some (.cells #[.int .i64 0, .int .i64 0, .int .i64 0, .int .i64 0, .slice none 0 0] 32 (0, 0))
  box : BlkIn W g9 ⟨b, B, cb⟩
  row : W.ownsRow 0 52 2 (.slice B b.f4.length cb) b.f4.length (flatT b.f4)
  own : ∀ k ∈ (Value.slice B b.f4.length cb).ownBlock.toList, w.heap.size ≤ k
  fr : Fr [] w W
theorem MkIn.mv {w W W' : World} {gR g9 : Nat} {b : Blk} {B : Option Addr} {cb : Nat} (h : MkIn w W gR g9 b B cb) (hF : Fr [] W W') : MkIn w W' gR g9 b B cb :=
  ⟨(hF.block gR (Array.getElem?_eq_some_iff.1 h.res).1 (by simp)).trans h.res, h.box.fr hF, row_fr h.row hF (by simp), h.own, h.fr.trans hF (by simp)⟩
theorem MkIn.more {w W W' : World} {gR g9 : Nat} {f0 f1 f2 f3 : Int} {acc : List S52} {B B' : Option Addr} {cb cb' : Nat} (t : S52) (hg : gR ≠ g9) (h9 : w.heap.size ≤ g9) (h : MkIn w W gR g9 ⟨f0, f1, f2, f3, acc⟩ B cb)
    (hr : W'.ownsRow 0 52 2 (.slice B' (acc.length + 1) cb') (acc.length + 1) (flatT acc ++ [.int .i64 t.f0, .int .i64 t.f1])) (hF : Fr (Value.slice B acc.length cb).ownBlock.toList W W') (hU : Fresh (Value.slice B acc.length cb).ownBlock.toList (Value.slice B' (acc.length + 1) cb').ownBlock.toList W) :
    MkIn w (W'.setCell ⟨g9, 4, none⟩ (.slice B' (acc.length + 1) cb')) gR g9 ⟨f0, f1, f2, f3, acc ++ [t]⟩ B' cb' := by
  have hrow : W.ownsRow 0 52 2 (.slice B acc.length cb) acc.length (flatT acc) := h.row
  have n1 : gR ∉ (Value.slice B acc.length cb).ownBlock.toList := row_ne_obj hrow h.res (by decide)
  have n2 : g9 ∉ (Value.slice B acc.length cb).ownBlock.toList := row_ne_obj hrow h.box (by decide)
  have hbx := (hF.block g9 (Array.getElem?_eq_some_iff.1 h.box).1 n2).trans h.box
  have hfin : Fr [] w W' := h.fr.trans hF (fun k hk => .inr (h.own k hk))
  have hl : (acc ++ [t]).length = acc.length + 1 := by simp
  refine ⟨?_, ?_, ?_, ?_, hfin.setCell (.inr h9) _⟩
  · exact (set_far _ (by show gR ≠ g9; exact hg) _).trans ((hF.block gR (Array.getElem?_eq_some_iff.1 h.res).1 n1).trans h.res)
  · show (W'.setCell ⟨g9, 4, none⟩ _).heap[g9]? = _
    have h5 := obj_set hbx 4 (.slice B' (acc.length + 1) cb')
    simpa [hl] using h5
  · show (W'.setCell ⟨g9, 4, none⟩ _).ownsRow 0 _ 2 (.slice B' (acc ++ [t]).length cb') (acc ++ [t]).length (flatT (acc ++ [t]))
    rw [hl, flatT_snoc]
    refine row_move hr (fun k hk => set_far _ ?_ _)
    show k ≠ g9
    intro he
    subst he
    exact row_ne_obj hr hbx (by decide) (by simp [hk])
  · show ∀ k ∈ (Value.slice B' (acc ++ [t]).length cb').ownBlock.toList, _
    rw [hl]
    intro k hk
    rcases hU k hk with h1 | h1
    · exact h.own k h1
    · exact Nat.le_trans h.fr.size h1
set_option maxHeartbeats 4000000 in
set_option maxRecDepth 100000 in
theorem make_won {X : Nat → Prop} {w : World} {c p cp : Nat} {A : Option Addr} {C : Ch} {D : Nat → Prop} (h : ChIn X w c C p (.slice A C.dr.length cp) D) (hG : C.t.Good) (me : Int) (txs : List S52) {At : Option Addr} {ct : Nat} (hT : k52.C w At txs.length txs) (hwn : winsB C.dr C.slot me = true) (hsl : slotN C.t.tip < C.slot) :
    Calls Try.prog 50 #[.pointer (some ⟨c, 0, none⟩), .int .i64 me, .slice At txs.length ct] w fun e w' => ChMake w C me txs e w' := by
  have hyes : C.make me txs = if rightB (C.blk me txs) = true then (C.blk me txs, true) else (z32, false) := by
    unfold Ch.make
    by_cases hr : rightB (C.blk me txs) = true
    · rw [if_pos ⟨hwn, hsl, hr⟩, if_pos hr]
    · rw [if_neg (fun h => hr h.2.2), if_neg hr]
  refine calls_k fun R hR => ?_
  unfold ChMake at hR
  obtain ⟨W1, hW1⟩ : ∃ W1, W1 = w.alloc (.cells #[.int .i64 0, .int .i64 0, .int .i64 0, .int .i64 0, .slice none 0 0] 32) := ⟨_, rfl⟩
  obtain ⟨gR, hgR⟩ : ∃ g, g = w.heap.size := ⟨_, rfl⟩
  have hF1 : Fr [] w W1 := by rw [hW1]; exact (Fr.refl _ _).alloc _
  have hB1 : W1.heap[gR]? = some (.cells #[.int .i64 0, .int .i64 0, .int .i64 0, .int .i64 0, .slice none 0 0] 32 (0, 0)) := by rw [hW1, hgR]; exact heap_alloc_new _ _
  have hgw : w.heap.size ≤ gR := Nat.le_of_eq hgR.symm
  have HS : Hid (∀ W, Fr [] W1 W → Fr [] W1 W ∧ W.cell? ⟨c, 0, none⟩ = some (.pointer (some ⟨p, 0, none⟩)) ∧ W.cell? ⟨c, 1, none⟩ = some (.slice A C.dr.length cp) ∧ W.cell? ⟨c, 3, none⟩ = some (.int .i64 C.slot)) := fun W hW => ⟨hW, ((h.fr hF1).fr hW).cells.1, ((h.fr hF1).fr hW).cells.2.1, ((h.fr hF1).fr hW).cells.2.2.2.1⟩
  have HTP : Hid (∀ W, Fr [] W1 W → Calls Try.prog 34 #[.pointer (some ⟨p, 0, none⟩)] W fun e w' => e = .returned (.int .i64 C.t.tip) ∧ Fr [] W w') := fun W hW => tip_calls ((h.fr hF1).tr.fr hW) hG.ok
  have HWI : Hid (∀ W, Fr [] W1 W → Calls Try.prog 51 #[.slice A C.dr.length cp, .int .i64 C.slot, .int .i64 me] W fun e w' => e = .returned (.bool true) ∧ Fr [] W w') := fun W hW => by
    have h1 := wins_calls (w := W) ((h.fr hF1).fr hW).dr C.slot me
    rw [hwn] at h1; exact h1
  have HF1 := Lib.hid hF1
  have HB1 := Lib.hid hB1
  have H := Lib.hid h
  have HG := Lib.hid hG
  rw [hyes] at hR
  have HTX : Hid (∀ W, Fr [] W1 W → Calls Try.prog 48 #[.pointer (some ⟨c, 0, none⟩), .int .i64 C.t.tip] W fun e w' => ∃ v, e = .returned v ∧ OwnI W.heap.size w' v (C.txs C.t.tip) ∧ Fr [] W w') := fun W hW => ch_txs ⟨p, _, D, (h.fr hF1).fr hW⟩ hG C.t.tip
  have HT := Lib.hid (txs_F hT)
  obtain ⟨N, hN⟩ : ∃ N, txs.length = N := ⟨_, rfl⟩
  have hNm : N ≤ 9223372036854775807 := by rw [← hN]; exact hT.2.1
  have hol := txs_len hG C.t.tip
  have HBLK : Hid (C.blk me txs = ⟨C.slot, me, 0, C.t.tip, txs.foldl (pickT (C.txs C.t.tip)) []⟩) := rfl
  clear h hG hT hwn hyes hF1 hB1
  go_enter Try.func50, Try.ntmps50
  go_upto_region 1 with (fail)
  rw [← hW1, ← hgR]
  clear hW1 hgR
  obtain ⟨_, c0, c1, c3⟩ := HS.out _ (Fr.refl _ _)
  go_upto_region 2 with (first
    | (go_at_call 34; refine (HTP.out _ (Fr.refl _ _)).mono ?_; rintro e w2 ⟨rfl, hF2⟩
       have HF2 := Lib.hid hF2
       clear hF2 HTP c0 c1 c3))
  have HD0 := Lib.hid HF2.out.drew
  have hs0 := (HS.out _ HD0.out).2
  obtain ⟨sn, hsn⟩ : ∃ sn, sn = slotN C.t.tip := ⟨_, rfl⟩
  have HSL := Lib.hid (fun W => slot_calls (w := W) C.t.tip)
  rw [← hsn] at hsl HSL
  clear hsn
  have hgb : decide (C.slot ≤ sn) = false := decide_eq_false (by omega)
  go_region_held3 (fun W => W.cell? ⟨c, 0, none⟩ = some (.pointer (some ⟨p, 0, none⟩)) ∧ W.cell? ⟨c, 1, none⟩ = some (.slice A C.dr.length cp) ∧ W.cell? ⟨c, 3, none⟩ = some (.int .i64 C.slot))
    (assumption)
    (first
      | (go_at_call 51; refine (HWI.out _ HD0.out).mono ?_; rintro e w3 ⟨rfl, hF3⟩; have HD1 := Lib.hid (HD0.out.trans hF3 (by simp)); have hs1 := (HS.out _ HD1.out).2; clear hF3 HWI)
      | (go_at_call 52; refine (HSL.out _).mono ?_; rintro e w4 ⟨rfl, hF4⟩; have HD2 := Lib.hid (HD1.out.trans hF4 (by simp)); have hs2 := (HS.out _ HD2.out).2; clear hF4 HSL))
  all_goals
    obtain ⟨tip, htip⟩ : ∃ tip, tip = C.t.tip := ⟨_, rfl⟩
    obtain ⟨old, hold⟩ : ∃ old, old = C.txs C.t.tip := ⟨_, rfl⟩
    rw [← hold] at HTX HBLK hol
    rw [← htip] at HTX HBLK
    obtain ⟨k0, k1, k3⟩ := hs2
    clear hs0 hs1 hgb
    rw [← htip]
    clear hold htip
    go_upto_region 5 with (fail)
    obtain ⟨W5, hW5⟩ : ∃ W5, W5 = w4.alloc (.cells #[.int .i64 C.slot, .int .i64 me, .int .i64 0, .int .i64 tip, .slice none 0 0] 32) := ⟨_, rfl⟩
    obtain ⟨g9, hg9⟩ : ∃ g, g = w4.heap.size := ⟨_, rfl⟩
    have hF5 : Fr [] w4 W5 := by rw [hW5]; exact (Fr.refl _ _).alloc _
    have hb5 : W5.heap[g9]? = some (.cells #[.int .i64 C.slot, .int .i64 me, .int .i64 0, .int .i64 tip, .slice none 0 0] 32 (0, 0)) := by rw [hW5, hg9]; exact heap_alloc_new _ _
    have hD5 := HD2.out.trans hF5 (by simp)
    have hR4 := (HD2.out.block gR (Array.getElem?_eq_some_iff.1 HB1.out).1 (by simp)).trans HB1.out
    have hlt4 := (Array.getElem?_eq_some_iff.1 hR4).1
    have hg9R : gR ≠ g9 := by omega
    have hg9w : w.heap.size ≤ g9 := by omega
    have hMK : MkIn w W5 gR g9 ⟨C.slot, me, 0, tip, []⟩ none 0 := ⟨(hF5.block gR hlt4 (by simp)).trans hR4, hb5, World.ownsRow_nil _ _ _ _, by simp [Value.ownBlock], HF1.out.trans hD5 (by simp)⟩
    have HMK := Lib.hid hMK
    have HTX5 := Lib.hid (HTX.out _ hD5)
    rw [← hW5, ← hg9]
    clear hW5 hg9 hF5 hb5 hD5 hR4 hlt4 hMK HTX k0 k1 k3 HD1 HD0 HF2
    go_upto_region 7 with (first
      | (go_at_call 48; refine HTX5.out.mono ?_; rintro e w6 ⟨v6, rfl, hO6, hF6⟩
         obtain ⟨A6, d6, rfl⟩ := hO6.form
         have HMK6 := Lib.hid (HMK.out.mv hF6)
         have HO6 := Lib.hid hO6
         have hsz6 := hF6.size
         clear hO6 hF6 HTX5))
    have HST : Hid (MkIn w w6 gR g9 ⟨C.slot, me, 0, tip, (txs.take 0).foldl (pickT old) []⟩ none 0) := HMK6.out
    go_loopg [51] N (fun gn i wr => ∃ (m j : Nat) (acc : List S52) (B : Option Addr) (cb : Nat), m = gn ∧ i = .int .i64 j ∧ m + j = N ∧ Hid (acc = (txs.take j).foldl (pickT old) []) ∧ Hid (MkIn w wr gR g9 ⟨C.slot, me, 0, tip, acc⟩ B cb) ∧ Hid (OwnI W5.heap.size wr (.slice A6 old.length d6) old) ∧ Hid (∀ k ∈ (Value.slice B acc.length cb).ownBlock.toList, w6.heap.size ≤ k) ∧ Hid (w6.heap.size ≤ wr.heap.size))
    case atStart => exact ⟨_, 0, [], none, 0, rfl, rfl, rfl, rfl, HST, HO6, by show ∀ k ∈ _, _; simp [Value.ownBlock], Nat.le_refl _⟩
    case round =>
      obtain ⟨m, j, acc, B, cb, rfl, rfl, hj, HAC, HM, HOL, HOW, HSZ⟩ := hrel
      obtain ⟨wO, rfl⟩ : ∃ wO, wO = wr := ⟨_, rfl⟩
      clear HST HMK HMK6
      have hacc : acc.length ≤ 3 := by rw [HAC.out]; exact pick_len old _ _ (by simp)
      obtain ⟨e0, e1, e2, e3, e4⟩ := HM.out.box.cells
      dsimp only at e0 e1 e2 e3 e4
      by_cases hlt : j < N
      · obtain ⟨t, ht⟩ : ∃ t, txs[j]? = some t := ⟨_, List.getElem?_eq_getElem (by rw [hN]; exact hlt)⟩
        have HNX : Hid (∀ acc', pickT old acc t = acc' → acc' = (txs.take (j + 1)).foldl (pickT old) []) := fun acc' h1 => by
          obtain ⟨hjl, hte⟩ := List.getElem?_eq_some_iff.1 ht
          rw [List.take_succ_eq_append_getElem hjl, hte, List.foldl_append, ← HAC.out, ← h1]
          rfl
        have hFT := Kd.F_now (Kd.F_below HT.out HM.out.fr.below)
        rw [hN] at hFT
        obtain ⟨ad, hAt, t0, t1⟩ := tx_at hFT j t ht hlt
        subst hAt
        have HT0 := Lib.hid ht
        clear ht hFT
        go_upto_region 9 with (fail)
        obtain ⟨W8, hW8⟩ : ∃ W8, W8 = wO.alloc (.cells #[.int .i64 t.f0, .int .i64 t.f1] 52) := ⟨_, rfl⟩
        obtain ⟨g8, hg8⟩ : ∃ g, g = wO.heap.size := ⟨_, rfl⟩
        have hF8 : Fr [] wO W8 := by rw [hW8]; exact (Fr.refl _ _).alloc _
        have hb8 : W8.heap[g8]? = some (.cells #[.int .i64 t.f0, .int .i64 t.f1] 52 (0, 0)) := by rw [hW8, hg8]; exact heap_alloc_new _ _
        have HB8 := Lib.hid hb8
        have HM8 := Lib.hid (HM.out.mv hF8)
        have HOL8 := Lib.hid (HOL.out.fr hF8 (by simp))
        have HSZ8 : Hid (w6.heap.size ≤ W8.heap.size) := Nat.le_trans HSZ.out hF8.size
        have hq0 := cell_of hb8 0
        have hq1 := cell_of hb8 1
        simp at hq0 hq1
        rw [← hW8, ← hg8]
        clear hW8 hg8 hF8 hb8 t0 t1 e0 e1 e2 e3 e4 HM HOL HSZ
        obtain ⟨e0, e1, e2, e3, e4⟩ := HM8.out.box.cells
        dsimp only at e0 e1 e2 e3 e4
        obtain ⟨m', rfl⟩ : ∃ m', m = m' + 1 := ⟨m - 1, by omega⟩
        by_cases hl3 : acc.length < 3
        · have hlb : decide ((acc.length : Int) < 3) = true := decide_eq_true (by omega)
          have hlb2 : decide (acc.length < 3) = true := decide_eq_true hl3
          have HCO := Lib.hid (contains_calls t.f0 HOL8.out.sl (by omega))
          by_cases hin : t.f0 ∈ old
          · rw [decide_eq_true hin] at HCO
            have HPK := Lib.hid (HNX.out acc (by unfold pickT; rw [if_neg (fun h => h.2 hin)]))
            clear hin
            go_wp2_with (first
              | (go_at_call 69; refine HCO.out.mono ?_; rintro e w9 ⟨rfl, hF9⟩
                 have HM9 := Lib.hid (HM8.out.mv hF9)
                 have HOL9 := Lib.hid (HOL8.out.fr hF9 (by simp))
                 have HSZ9 : Hid (w6.heap.size ≤ w9.heap.size) := Nat.le_trans HSZ8.out hF9.size
                 clear hF9 HCO e0 e1 e2 e3 e4 hq0 hq1))
            go_roundg m'
            case rel => exact ⟨m', j + 1, acc, B, cb, rfl, by go_num, by omega, HPK, HM9, HOL9, HOW, HSZ9⟩
            case measure => omega
          · rw [decide_eq_false hin] at HCO
            have HPK := Lib.hid (HNX.out (acc ++ [t]) (by unfold pickT; rw [if_pos ⟨hl3, hin⟩]))
            have hb63 : acc.length < maxLen := by unfold maxLen; omega
            have hb16 : (acc.length + 1) * 16 ≤ 140737488355328 := by omega
            clear hin
            go_upto_region 10 with (first
              | (go_at_call 69; refine HCO.out.mono ?_; rintro e w9 ⟨rfl, hF9⟩
                 have HM9 := Lib.hid (HM8.out.mv hF9)
                 have HOL9 := Lib.hid (HOL8.out.fr hF9 (by simp))
                 have HSZ9 : Hid (w6.heap.size ≤ w9.heap.size) := Nat.le_trans HSZ8.out hF9.size
                 replace hq0 := cellF hF9 hq0
                 replace hq1 := cellF hF9 hq1
                 clear hF9 HCO e0 e1 e2 e3 e4))
            obtain ⟨e0, e1, e2, e3, e4⟩ := HM9.out.box.cells
            dsimp only at e0 e1 e2 e3 e4
            have hrow := HM9.out.row
            have hfz := froz_of HM9.out.box 4
            go_wp2_with (first
              | (at_builtin; refine wp_append1 rfl _ _ 30 52 rfl Try.underlying30 info52 rfl (by decide) hrow rfl [.int .i64 t.f0, .int .i64 t.f1] rfl rfl (by simp [Value.oneCell']) hb63 hb16 ?_; intro A10 c10 w10 hr10 hF10 hU10
                 have HM10 := Lib.hid (HM9.out.more t hg9R hg9w hr10 hF10 hU10)
                 have HOL10 : Hid (OwnI W5.heap.size (w10.setCell ⟨g9, 4, none⟩ (.slice A10 (acc.length + 1) c10)) (.slice A6 old.length d6) old) := by
                   have hne := row_ne_obj HOL9.out.1 HM9.out.box (by decide)
                   refine (HOL9.out.fr hF10 (fun k hk hm => ?_)).fr (S := [g9]) ((Fr.refl _ _).setCell (.inl (by simp)) _) (fun k hk hm => ?_)
                   · exact own_ne HOL9.out.1 HM9.out.row (by decide) k hk hm
                   · simp at hm; subst hm; exact hne hk
                 have HOW10 : Hid (∀ k ∈ (Value.slice A10 (acc.length + 1) c10).ownBlock.toList, w6.heap.size ≤ k) := fun k hk => by
                   rcases hU10 k hk with h1 | h1
                   · exact HOW.out k h1
                   · exact Nat.le_trans HSZ9.out h1
                 have HSZ10 : Hid (w6.heap.size ≤ (w10.setCell ⟨g9, 4, none⟩ (.slice A10 (acc.length + 1) c10)).heap.size) := Nat.le_trans HSZ9.out (Nat.le_trans hF10.size (by simp [World.setCell]))
                 have hfz10 := ((hF10.block g9 (Array.getElem?_eq_some_iff.1 HM9.out.box).1 (row_ne_obj HM9.out.row HM9.out.box (by decide))).trans HM9.out.box)
                 replace e4 := (five_cells hfz10).2.2.2.2.1
                 dsimp only at e4
                 replace hfz := froz_of hfz10 4
                 clear hr10 hF10 hU10 hrow e0 e1 e2 e3 hfz10 hq0 hq1))
            have hl1 : (acc ++ [t]).length = acc.length + 1 := by simp
            go_roundg m'
            case rel => exact ⟨m', j + 1, acc ++ [t], A10, c10, rfl, by go_num, by omega, HPK, HM10, HOL10, by rw [hl1]; exact HOW10, HSZ10⟩
            case measure => omega
        · have hlb : decide ((acc.length : Int) < 3) = false := decide_eq_false (by omega)
          have hlb2 : decide (acc.length < 3) = false := decide_eq_false hl3
          have HPK := Lib.hid (HNX.out acc (by unfold pickT; rw [if_neg (fun h => hl3 h.1)]))
          go_wp2
          go_roundg m'
          case rel => exact ⟨m', j + 1, acc, B, cb, rfl, by go_num, by omega, HPK, HM8, HOL8, HOW, HSZ8⟩
          case measure => omega
      · obtain rfl : j = N := by omega
        have hfull : C.blk me txs = ⟨C.slot, me, 0, tip, acc⟩ := by rw [HBLK.out, HAC.out, List.take_of_length_le (by omega)]
        rw [hfull] at hR
        obtain ⟨B', cb', hee, hlc, hCC⟩ := flatT_C HM.out.row
        injection hee with hee1 _ hee3
        subst hee1 hee3
        have HRT := Lib.hid (right_calls (w := wO) ⟨⟨C.slot, me, 0, tip, acc⟩, B, cb⟩ hCC hlc)
        clear hfull hCC hlc
        cases hrb : rightB ⟨C.slot, me, 0, tip, acc⟩ with
        | true =>
          rw [hrb, if_pos rfl] at hR
          rw [hrb] at HRT
          clear hrb
          go_upto_region 14 with (first
            | (go_at_call 88; refine HRT.out.mono ?_; rintro e w9 ⟨rfl, hF9⟩
               have HM9 := Lib.hid (HM.out.mv hF9)
               clear hF9 HRT e0 e1 e2 e3 e4))
          obtain ⟨e0, e1, e2, e3, e4⟩ := HM9.out.box.cells
          dsimp only at e0 e1 e2 e3 e4
          obtain ⟨y0, y1, y2, y3, y4, z0, z1, z2, z3, z4⟩ := five_cells HM9.out.res
          go_wp2
          have hp := put5_heap HM9.out.res (.int .i64 C.slot) (.int .i64 me) (.int .i64 0) (.int .i64 tip) (.slice B acc.length cb)
          have hfr := put5_fr (b := gR) HM9.out.fr (.inr hgw) (.int .i64 C.slot) (.int .i64 me) (.int .i64 0) (.int .i64 tip) (.slice B acc.length cb)
          have hrw := row_fr HM9.out.row (put5_fr (b := gR) (Fr.refl [gR] w9) (.inl (by simp)) (.int .i64 C.slot) (.int .i64 me) (.int .i64 0) (.int .i64 tip) (.slice B acc.length cb)) (fun k hk hm => by
            simp at hm; subst hm; exact row_ne_obj HM9.out.row HM9.out.res (by decide) hk)
          have hown := HM9.out.own
          unfold put5 at hp hfr hrw
          refine bodyPost_ret (results_ct rfl _ _ gR 32 _ (0, 0) _ rfl hp Try.underlying32 rfl (by kernel_rfl)) rfl ?_
          exact hR.out _ _ ⟨B, cb, rfl, hrw, hown, hfr⟩
        | false =>
          rw [hrb, if_neg (by simp)] at hR
          rw [hrb] at HRT
          clear hrb
          go_upto_region 13 with (first
            | (go_at_call 88; refine HRT.out.mono ?_; rintro e w9 ⟨rfl, hF9⟩
               have HM9 := Lib.hid (HM.out.mv hF9)
               clear hF9 HRT e0 e1 e2 e3 e4))
          obtain ⟨y0, y1, y2, y3, y4, z0, z1, z2, z3, z4⟩ := five_cells HM9.out.res
          go_wp2
          have hp := put5_heap HM9.out.res (.int .i64 0) (.int .i64 0) (.int .i64 0) (.int .i64 0) (.slice none 0 0)
          have hfr := put5_fr (b := gR) HM9.out.fr (.inr hgw) (.int .i64 0) (.int .i64 0) (.int .i64 0) (.int .i64 0) (.slice none 0 0)
          unfold put5 at hp hfr
          refine bodyPost_ret (results_ct rfl _ _ gR 32 _ (0, 0) _ rfl hp Try.underlying32 rfl (by kernel_rfl)) rfl ?_
          exact hR.out _ _ ⟨none, 0, rfl, World.ownsRow_nil _ _ _ _, by simp [Value.ownBlock], hfr⟩
theorem ch_make {X : Nat → Prop} {w : World} {c : Nat} {C : Ch} (h : ChAt X w c C) (hG : C.t.Good) (me : Int) (txs : List S52) {At : Option Addr} {ct : Nat} (hT : k52.C w At txs.length txs) :
    Calls Try.prog 50 #[.pointer (some ⟨c, 0, none⟩), .int .i64 me, .slice At txs.length ct] w fun e w' => ChMake w C me txs e w' := by
  obtain ⟨p, v, D, h⟩ := h
  obtain ⟨A, cp, rfl⟩ := Kd.V_slice h.dr
  cases hwn : winsB C.dr C.slot me with
  | false => exact make_lost h hG me txs hT hwn
  | true =>
    by_cases hsl : C.slot ≤ slotN C.t.tip
    · exact make_late h hG me txs hT hwn hsl
    · exact make_won h hG me txs hT hwn (by omega)
end Go.Np.Try
