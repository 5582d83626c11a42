/- A text that the row of LedgerCleans needs. (Pruned by tools/prune.py.) -/
import Derived.Test.YtlllhpnpgcphcaaQLedgerCleansChd
set_option linter.unusedVariables false
set_option linter.unusedSimpArgs false
namespace Go.Np.Try
open Go.RowKit Go.Proofs Go.Proofs.Ytlllhpnpgcphcaa.PX Go.Proofs.YtlllhpnpgcphcaaW.PrintWords
set_option maxHeartbeats 4000000 in
set_option maxRecDepth 100000 in
theorem take_lost {X : Nat → Prop} {w : World} {c p cp : Nat} {A : Option Addr} {C : Ch} {D : Nat → Prop} (h : ChIn X w c C p (.slice A C.dr.length cp) D) (q : BV) (hC : k52.C w q.A q.b.f4.length q.b.f4) (hc : q.b.f4.length ≤ q.c) (hrb : rightB q.b = true) (hsl : q.b.f0 ≤ C.slot) (hwn : winsB C.dr q.b.f0 q.b.f1 = false) :
    Calls Try.prog 42 #[.pointer (some ⟨c, 0, none⟩), .agg #[.int .i64 q.b.f0, .int .i64 q.b.f1, .int .i64 q.b.f2, .int .i64 q.b.f3, .slice q.A q.b.f4.length q.c]] w fun e w' => ChTake X w c C q.b e w' := by
  have hno : C.take q.b = (C, [], 111) := by unfold Ch.take; rw [if_neg (by rintro ⟨_, _, h3⟩; rw [hwn] at h3; cases h3)]
  refine calls_k fun R hR => ?_
  unfold ChTake at hR
  obtain ⟨W1, hW1⟩ : ∃ W1, W1 = w.alloc (.cells #[.int .i64 q.b.f0, .int .i64 q.b.f1, .int .i64 q.b.f2, .int .i64 q.b.f3, .slice q.A q.b.f4.length q.c] 32) := ⟨_, rfl⟩
  obtain ⟨g3, hg3⟩ : ∃ g, g = w.heap.size := ⟨_, rfl⟩
  have hF1 : Fr [] w W1 := by rw [hW1]; exact (Fr.refl _ _).alloc _
  have hB1 : BlkIn W1 g3 q := by rw [hg3]; exact BlkIn.made hW1
  have hs1 : W1.heap.size = g3 + 1 := by rw [hW1, hg3]; simp
  have hgw : w.heap.size ≤ g3 := Nat.le_of_eq hg3.symm
  have HS : Hid (∀ W, Fr [] W1 W → Fr [] W1 W ∧ W.cell? ⟨g3, 0, none⟩ = some (.int .i64 q.b.f0) ∧ W.cell? ⟨g3, 1, none⟩ = some (.int .i64 q.b.f1) ∧ W.cell? ⟨g3, 2, none⟩ = some (.int .i64 q.b.f2) ∧ W.cell? ⟨g3, 3, none⟩ = some (.int .i64 q.b.f3) ∧ W.cell? ⟨g3, 4, none⟩ = some (.slice q.A q.b.f4.length q.c) ∧ W.cell? ⟨c, 1, none⟩ = some (.slice A C.dr.length cp) ∧ W.cell? ⟨c, 3, none⟩ = some (.int .i64 C.slot)) := fun W hW => ⟨hW, (hB1.fr hW).cells.1, (hB1.fr hW).cells.2.1, (hB1.fr hW).cells.2.2.1, (hB1.fr hW).cells.2.2.2.1, (hB1.fr hW).cells.2.2.2.2, ((h.fr hF1).fr hW).cells.2.1, ((h.fr hF1).fr hW).cells.2.2.2.1⟩
  have HRT : Hid (∀ W, Fr [] W1 W → Calls Try.prog 88 #[.agg #[.int .i64 q.b.f0, .int .i64 q.b.f1, .int .i64 q.b.f2, .int .i64 q.b.f3, .slice q.A q.b.f4.length q.c]] W fun e w' => e = .returned (.bool true) ∧ Fr [] W w') := fun W hW => by
    have h1 := right_calls (w := W) q (Kd.C_below hC (hF1.trans hW (by simp)).below) hc
    rw [hrb] at h1; exact h1
  have HWI : Hid (∀ W, Fr [] W1 W → Calls Try.prog 51 #[.slice A C.dr.length cp, .int .i64 q.b.f0, .int .i64 q.b.f1] W fun e w' => e = .returned (.bool false) ∧ Fr [] W w') := fun W hW => by
    have h1 := wins_calls (w := W) ((h.fr hF1).fr hW).dr q.b.f0 q.b.f1
    rw [hwn] at h1; exact h1
  have HF1 := Lib.hid hF1
  have H := Lib.hid h
  rw [hno] at hR
  have hs0 := (HS.out _ (Fr.refl [] W1).drew).2
  have HD0 : Hid (Fr [] W1 W1.drew) := (Fr.refl [] W1).drew
  have hle : ¬ C.slot < q.b.f0 := by omega
  have hlb : decide (C.slot < q.b.f0) = false := decide_eq_false hle
  clear h hC hrb hno hB1 hF1 hs1 hwn
  go_enter Try.func42, Try.ntmps42
  go_upto_region 1 with (fail)
  rw [← hW1, ← hg3]
  clear hW1 hg3
  go_region_held3 (fun W => W.cell? ⟨g3, 0, none⟩ = some (.int .i64 q.b.f0) ∧ W.cell? ⟨g3, 1, none⟩ = some (.int .i64 q.b.f1) ∧ W.cell? ⟨g3, 2, none⟩ = some (.int .i64 q.b.f2) ∧ W.cell? ⟨g3, 3, none⟩ = some (.int .i64 q.b.f3) ∧ W.cell? ⟨g3, 4, none⟩ = some (.slice q.A q.b.f4.length q.c) ∧ W.cell? ⟨c, 1, none⟩ = some (.slice A C.dr.length cp) ∧ W.cell? ⟨c, 3, none⟩ = some (.int .i64 C.slot))
    (assumption)
    (first
      | (go_at_call 88; refine (HRT.out _ HD0.out).mono ?_; rintro e w2 ⟨rfl, hF2⟩; have HD1 := Lib.hid (HD0.out.trans hF2 (by simp)); have hs1 := (HS.out _ HD1.out).2; clear hF2 HRT)
      | (go_at_call 51; refine (HWI.out _ HD1.out).mono ?_; rintro e w3 ⟨rfl, hF3⟩; have HD2 := Lib.hid (HD1.out.trans hF3 (by simp)); have hs2 := (HS.out _ HD2.out).2; clear hF3 HWI))
  all_goals
    go_wp2
    exact hR.out _ _ ⟨_, rfl, OwnI.nil _ _, ⟨p, _, D, H.out.fr (HF1.out.trans HD2.out (by simp))⟩, .of0 (HF1.out.trans HD2.out (by simp))⟩
set_option maxHeartbeats 4000000 in
set_option maxRecDepth 100000 in
theorem take_won {X : Nat → Prop} {w : World} {c p cp : Nat} {A : Option Addr} {C : Ch} {D : Nat → Prop} (h : ChIn X w c C p (.slice A C.dr.length cp) D) (q : BV) (hC : k52.C w q.A q.b.f4.length q.b.f4) (hc : q.b.f4.length ≤ q.c) (hG : C.t.Good) (hXw : ∀ k, X k → k < w.heap.size) (hrb : rightB q.b = true) (hsl : q.b.f0 ≤ C.slot) (hwn : winsB C.dr q.b.f0 q.b.f1 = true) :
    Calls Try.prog 42 #[.pointer (some ⟨c, 0, none⟩), .agg #[.int .i64 q.b.f0, .int .i64 q.b.f1, .int .i64 q.b.f2, .int .i64 q.b.f3, .slice q.A q.b.f4.length q.c]] w fun e w' => ChTake X w c C q.b e w' := by
  have hyes : C.take q.b = (⟨(C.t.add q.b).1, C.dr, C.deep, C.slot⟩, (C.t.add q.b).2.1, if (C.t.add q.b).2.2 = true then 0 else 111) := by unfold Ch.take; rw [if_pos ⟨hrb, hsl, hwn⟩]
  refine calls_k fun R hR => ?_
  unfold ChTake at hR
  obtain ⟨W1, hW1⟩ : ∃ W1, W1 = w.alloc (.cells #[.int .i64 q.b.f0, .int .i64 q.b.f1, .int .i64 q.b.f2, .int .i64 q.b.f3, .slice q.A q.b.f4.length q.c] 32) := ⟨_, rfl⟩
  obtain ⟨g3, hg3⟩ : ∃ g, g = w.heap.size := ⟨_, rfl⟩
  have hF1 : Fr [] w W1 := by rw [hW1]; exact (Fr.refl _ _).alloc _
  have hB1 : BlkIn W1 g3 q := by rw [hg3]; exact BlkIn.made hW1
  have hs1 : W1.heap.size = g3 + 1 := by rw [hW1, hg3]; simp
  have hgw : w.heap.size ≤ g3 := Nat.le_of_eq hg3.symm
  have HS : Hid (∀ W, Fr [] W1 W → Fr [] W1 W ∧ W.cell? ⟨g3, 0, none⟩ = some (.int .i64 q.b.f0) ∧ W.cell? ⟨g3, 1, none⟩ = some (.int .i64 q.b.f1) ∧ W.cell? ⟨g3, 2, none⟩ = some (.int .i64 q.b.f2) ∧ W.cell? ⟨g3, 3, none⟩ = some (.int .i64 q.b.f3) ∧ W.cell? ⟨g3, 4, none⟩ = some (.slice q.A q.b.f4.length q.c) ∧ W.cell? ⟨c, 1, none⟩ = some (.slice A C.dr.length cp) ∧ W.cell? ⟨c, 3, none⟩ = some (.int .i64 C.slot)) := fun W hW => ⟨hW, (hB1.fr hW).cells.1, (hB1.fr hW).cells.2.1, (hB1.fr hW).cells.2.2.1, (hB1.fr hW).cells.2.2.2.1, (hB1.fr hW).cells.2.2.2.2, ((h.fr hF1).fr hW).cells.2.1, ((h.fr hF1).fr hW).cells.2.2.2.1⟩
  have HRT : Hid (∀ W, Fr [] W1 W → Calls Try.prog 88 #[.agg #[.int .i64 q.b.f0, .int .i64 q.b.f1, .int .i64 q.b.f2, .int .i64 q.b.f3, .slice q.A q.b.f4.length q.c]] W fun e w' => e = .returned (.bool true) ∧ Fr [] W w') := fun W hW => by
    have h1 := right_calls (w := W) q (Kd.C_below hC (hF1.trans hW (by simp)).below) hc
    rw [hrb] at h1; exact h1
  have HWI : Hid (∀ W, Fr [] W1 W → Calls Try.prog 51 #[.slice A C.dr.length cp, .int .i64 q.b.f0, .int .i64 q.b.f1] W fun e w' => e = .returned (.bool true) ∧ Fr [] W w') := fun W hW => by
    have h1 := wins_calls (w := W) ((h.fr hF1).fr hW).dr q.b.f0 q.b.f1
    rw [hwn] at h1; exact h1
  have HF1 := Lib.hid hF1
  have H := Lib.hid h
  rw [hyes] at hR
  have hs0 := (HS.out _ (Fr.refl [] W1).drew).2
  have HD0 : Hid (Fr [] W1 W1.drew) := (Fr.refl [] W1).drew
  have hle : ¬ C.slot < q.b.f0 := by omega
  have hlb : decide (C.slot < q.b.f0) = false := decide_eq_false hle
  have HB1 := Lib.hid hB1
  have HG := Lib.hid hG
  have HC := Lib.hid hC
  have HXW := Lib.hid hXw
  clear h hC hrb hyes hB1 hwn hG hF1 hs1 hXw
  go_enter Try.func42, Try.ntmps42
  go_upto_region 1 with (fail)
  rw [← hW1, ← hg3]
  clear hW1 hg3
  go_region_held3 (fun W => W.cell? ⟨g3, 0, none⟩ = some (.int .i64 q.b.f0) ∧ W.cell? ⟨g3, 1, none⟩ = some (.int .i64 q.b.f1) ∧ W.cell? ⟨g3, 2, none⟩ = some (.int .i64 q.b.f2) ∧ W.cell? ⟨g3, 3, none⟩ = some (.int .i64 q.b.f3) ∧ W.cell? ⟨g3, 4, none⟩ = some (.slice q.A q.b.f4.length q.c) ∧ W.cell? ⟨c, 1, none⟩ = some (.slice A C.dr.length cp) ∧ W.cell? ⟨c, 3, none⟩ = some (.int .i64 C.slot))
    (assumption)
    (first
      | (go_at_call 88; refine (HRT.out _ HD0.out).mono ?_; rintro e w2 ⟨rfl, hF2⟩; have HD1 := Lib.hid (HD0.out.trans hF2 (by simp)); have hs1 := (HS.out _ HD1.out).2; clear hF2 HRT)
      | (go_at_call 51; refine (HWI.out _ HD1.out).mono ?_; rintro e w3 ⟨rfl, hF3⟩; have HD2 := Lib.hid (HD1.out.trans hF3 (by simp)); have hs2 := (HS.out _ HD2.out).2; clear hF3 HWI))
  all_goals
    go_upto_region 3 with (fail)
    have hDD := HD2.out.drew
    have hFd := HF1.out.trans hDD (by simp)
    have hId := H.out.fr hFd
    have hTd := H.out.tr.later hFd (by simp)
    have hcl := H.out.lt
    have hbd := (HB1.out.fr hDD)
    have hgd : g3 < w3.drew.heap.size := (Array.getElem?_eq_some_iff.1 hbd).1
    have hsd := hFd.size
    have HP : Hid (Calls Try.prog 28 #[.pointer (some ⟨p, 0, none⟩), .agg #[.int .i64 q.b.f0, .int .i64 q.b.f1, .int .i64 q.b.f2, .int .i64 q.b.f3, .slice q.A q.b.f4.length q.c]] w3.drew fun e w' => (∃ v, e = .returned (.tuple #[v, .bool (C.t.add q.b).2.2]) ∧ OwnI w.heap.size w' v (C.t.add q.b).2.1 ∧ ChIn X w' c ⟨(C.t.add q.b).1, C.dr, C.deep, C.slot⟩ p (.slice A C.dr.length cp) D ∧ FrX X w w') ∧ (w'.cell? ⟨g3, 0, none⟩ = some (.int .i64 q.b.f0) ∧ w'.cell? ⟨g3, 1, none⟩ = some (.int .i64 q.b.f1) ∧ w'.cell? ⟨g3, 2, none⟩ = some (.int .i64 q.b.f2) ∧ w'.cell? ⟨g3, 3, none⟩ = some (.int .i64 q.b.f3) ∧ w'.cell? ⟨g3, 4, none⟩ = some (.slice q.A q.b.f4.length q.c) ∧ w'.cell? ⟨c, 0, none⟩ = some (.pointer (some ⟨p, 0, none⟩)))) := by
      refine (add_calls hTd HG.out q (Kd.C_below HC.out hFd.below) hc (fun k hk => ?_)).mono ?_
      · rcases hk with ((hk | hk) | hk) | hk
        · have := HXW.out k hk; omega
        · omega
        · have := (H.out.d k hk).2.2; omega
        · exact hk.2
      · rintro e w' ⟨v, rfl, h1, h2, h3⟩
        have hb := hbd.frX h3 (.inr ⟨hgw, hgd⟩)
        have hI := hId.tree (h2.grow (fun k hk _ => .inl hk)) (h3.weak (fun k hk => .inl hk))
        exact ⟨⟨v, rfl, ⟨h1.1, fun k hk => Nat.le_trans hsd (h1.2 k hk)⟩, hI, (FrX.of0 hFd).trans (h3.weak (fun k hk => .inl (.inl (.inl hk))))⟩, hb.cells.1, hb.cells.2.1, hb.cells.2.2.1, hb.cells.2.2.2.1, hb.cells.2.2.2.2, hI.cells.1⟩
    have hsA : (fun W : World => W.cell? ⟨g3, 0, none⟩ = some (.int .i64 q.b.f0) ∧ W.cell? ⟨g3, 1, none⟩ = some (.int .i64 q.b.f1) ∧ W.cell? ⟨g3, 2, none⟩ = some (.int .i64 q.b.f2) ∧ W.cell? ⟨g3, 3, none⟩ = some (.int .i64 q.b.f3) ∧ W.cell? ⟨g3, 4, none⟩ = some (.slice q.A q.b.f4.length q.c) ∧ W.cell? ⟨c, 0, none⟩ = some (.pointer (some ⟨p, 0, none⟩))) w3.drew := ⟨hbd.cells.1, hbd.cells.2.1, hbd.cells.2.2.1, hbd.cells.2.2.2.1, hbd.cells.2.2.2.2, hId.cells.1⟩
    simp only [] at hsA
    clear hDD hFd hId hTd hbd hs0 hs1 hs2
    cases hok : (C.t.add q.b).2.2 with
    | true =>
      rw [hok] at HP hR
      clear hok
      go_region_held3 (fun W => W.cell? ⟨g3, 0, none⟩ = some (.int .i64 q.b.f0) ∧ W.cell? ⟨g3, 1, none⟩ = some (.int .i64 q.b.f1) ∧ W.cell? ⟨g3, 2, none⟩ = some (.int .i64 q.b.f2) ∧ W.cell? ⟨g3, 3, none⟩ = some (.int .i64 q.b.f3) ∧ W.cell? ⟨g3, 4, none⟩ = some (.slice q.A q.b.f4.length q.c) ∧ W.cell? ⟨c, 0, none⟩ = some (.pointer (some ⟨p, 0, none⟩)))
        (assumption)
        (first
          | (go_at_call 28; refine HP.out.mono ?_; rintro e w9 ⟨⟨v9, rfl, hA9⟩, hS9⟩; have HA9 := Lib.hid hA9; clear hA9))
      all_goals
        go_wp2
        exact hR.out _ _ ⟨_, rfl, HA9.out.1, ⟨p, _, D, HA9.out.2.1⟩, HA9.out.2.2⟩
    | false =>
      have hn := Tr.add_no hok
      rw [hn] at HP hR
      clear hok hn
      go_region_held3 (fun W => W.cell? ⟨g3, 0, none⟩ = some (.int .i64 q.b.f0) ∧ W.cell? ⟨g3, 1, none⟩ = some (.int .i64 q.b.f1) ∧ W.cell? ⟨g3, 2, none⟩ = some (.int .i64 q.b.f2) ∧ W.cell? ⟨g3, 3, none⟩ = some (.int .i64 q.b.f3) ∧ W.cell? ⟨g3, 4, none⟩ = some (.slice q.A q.b.f4.length q.c) ∧ W.cell? ⟨c, 0, none⟩ = some (.pointer (some ⟨p, 0, none⟩)))
        (assumption)
        (first
          | (go_at_call 28; refine HP.out.mono ?_; rintro e w9 ⟨⟨v9, rfl, hA9⟩, hS9⟩; have HA9 := Lib.hid hA9; clear hA9))
      all_goals
        go_wp2
        exact hR.out _ _ ⟨_, rfl, OwnI.nil _ _, ⟨p, _, D, HA9.out.2.1⟩, HA9.out.2.2⟩
theorem ch_take {X : Nat → Prop} {w : World} {c : Nat} {C : Ch} (h : ChAt X w c C) (hG : C.t.Good) (hXw : ∀ k, X k → k < w.heap.size) (q : BV) (hC : k52.C w q.A q.b.f4.length q.b.f4) (hc : q.b.f4.length ≤ q.c) :
    Calls Try.prog 42 #[.pointer (some ⟨c, 0, none⟩), .agg #[.int .i64 q.b.f0, .int .i64 q.b.f1, .int .i64 q.b.f2, .int .i64 q.b.f3, .slice q.A q.b.f4.length q.c]] w fun e w' => ChTake X w c C q.b e w' := by
  obtain ⟨p, v, D, h⟩ := h
  obtain ⟨A, cp, rfl⟩ := Kd.V_slice h.dr
  cases hrb : rightB q.b with
  | false => exact take_wrong h q hC hc hrb
  | true =>
    by_cases hsl : C.slot < q.b.f0
    · exact take_late h q hC hc hrb hsl
    · cases hwn : winsB C.dr q.b.f0 q.b.f1 with
      | false => exact take_lost h q hC hc hrb (by omega) hwn
      | true => exact take_won h q hC hc hG hXw hrb (by omega) hwn
end Go.Np.Try
