/- A text that the row of LedgerCleans needs. (Pruned by tools/prune.py.) -/
import Derived.Test.YtlllhpnpgcphcaaQLedgerCleansChc
set_option linter.unusedVariables false
set_option linter.unusedSimpArgs false
namespace Go.Np.Try
open Go.RowKit Go.Proofs Go.Proofs.Ytlllhpnpgcphcaa.PX Go.Proofs.YtlllhpnpgcphcaaW.PrintWords
def ChTake (X : Nat → Prop) (w : World) (c : Nat) (C : Ch) (b : Blk) (e : Ending) (w' : World) : Prop :=
  ∃ v, e = .returned (.tuple #[v, .int .i64 (C.take b).2.2]) ∧ OwnI w.heap.size w' v (C.take b).2.1 ∧ ChAt X w' c (C.take b).1 ∧ FrX X w w'
set_option maxHeartbeats 4000000 in
set_option maxRecDepth 100000 in
theorem take_wrong {X : Nat → Prop} {w : World} {c p cp : Nat} {A : Option Addr} {C : Ch} {D : Nat → Prop} (h : ChIn X w c C p (.slice A C.dr.length cp) D) (q : BV) (hC : k52.C w q.A q.b.f4.length q.b.f4) (hc : q.b.f4.length ≤ q.c) (hrb : rightB q.b = false) :
    Calls Try.prog 42 #[.pointer (some ⟨c, 0, none⟩), .agg #[.int .i64 q.b.f0, .int .i64 q.b.f1, .int .i64 q.b.f2, .int .i64 q.b.f3, .slice q.A q.b.f4.length q.c]] w fun e w' => ChTake X w c C q.b e w' := by
  have hno : C.take q.b = (C, [], 111) := by unfold Ch.take; rw [if_neg (by simp [hrb])]
  refine calls_k fun R hR => ?_
  unfold ChTake at hR
  obtain ⟨W1, hW1⟩ : ∃ W1, W1 = w.alloc (.cells #[.int .i64 q.b.f0, .int .i64 q.b.f1, .int .i64 q.b.f2, .int .i64 q.b.f3, .slice q.A q.b.f4.length q.c] 32) := ⟨_, rfl⟩
  obtain ⟨g3, hg3⟩ : ∃ g, g = w.heap.size := ⟨_, rfl⟩
  have hF1 : Fr [] w W1 := by rw [hW1]; exact (Fr.refl _ _).alloc _
  have hB1 : BlkIn W1 g3 q := by rw [hg3]; exact BlkIn.made hW1
  have hs1 : W1.heap.size = g3 + 1 := by rw [hW1, hg3]; simp
  have hgw : w.heap.size ≤ g3 := Nat.le_of_eq hg3.symm
  have HS : Hid (∀ W, Fr [] W1 W → Fr [] W1 W ∧ W.cell? ⟨g3, 0, none⟩ = some (.int .i64 q.b.f0) ∧ W.cell? ⟨g3, 1, none⟩ = some (.int .i64 q.b.f1) ∧ W.cell? ⟨g3, 2, none⟩ = some (.int .i64 q.b.f2) ∧ W.cell? ⟨g3, 3, none⟩ = some (.int .i64 q.b.f3) ∧ W.cell? ⟨g3, 4, none⟩ = some (.slice q.A q.b.f4.length q.c) ∧ W.cell? ⟨c, 1, none⟩ = some (.slice A C.dr.length cp) ∧ W.cell? ⟨c, 3, none⟩ = some (.int .i64 C.slot)) := fun W hW => ⟨hW, (hB1.fr hW).cells.1, (hB1.fr hW).cells.2.1, (hB1.fr hW).cells.2.2.1, (hB1.fr hW).cells.2.2.2.1, (hB1.fr hW).cells.2.2.2.2, ((h.fr hF1).fr hW).cells.2.1, ((h.fr hF1).fr hW).cells.2.2.2.1⟩
  have HRT : Hid (∀ W, Fr [] W1 W → Calls Try.prog 88 #[.agg #[.int .i64 q.b.f0, .int .i64 q.b.f1, .int .i64 q.b.f2, .int .i64 q.b.f3, .slice q.A q.b.f4.length q.c]] W fun e w' => e = .returned (.bool false) ∧ Fr [] W w') := fun W hW => by
    have h1 := right_calls (w := W) q (Kd.C_below hC (hF1.trans hW (by simp)).below) hc
    rw [hrb] at h1; exact h1
  have HF1 := Lib.hid hF1
  have H := Lib.hid h
  rw [hno] at hR
  have hsl : True := trivial
  have HRS : Hid (∀ W, (Fr [] W1 W ∧ W.cell? ⟨g3, 0, none⟩ = some (.int .i64 q.b.f0) ∧ W.cell? ⟨g3, 1, none⟩ = some (.int .i64 q.b.f1) ∧ W.cell? ⟨g3, 2, none⟩ = some (.int .i64 q.b.f2) ∧ W.cell? ⟨g3, 3, none⟩ = some (.int .i64 q.b.f3) ∧ W.cell? ⟨g3, 4, none⟩ = some (.slice q.A q.b.f4.length q.c) ∧ W.cell? ⟨c, 1, none⟩ = some (.slice A C.dr.length cp) ∧ W.cell? ⟨c, 3, none⟩ = some (.int .i64 C.slot)) → Calls Try.prog 88 #[.agg #[.int .i64 q.b.f0, .int .i64 q.b.f1, .int .i64 q.b.f2, .int .i64 q.b.f3, .slice q.A q.b.f4.length q.c]] W fun e w' => e = .returned (.bool false) ∧ (Fr [] W1 w' ∧ w'.cell? ⟨g3, 0, none⟩ = some (.int .i64 q.b.f0) ∧ w'.cell? ⟨g3, 1, none⟩ = some (.int .i64 q.b.f1) ∧ w'.cell? ⟨g3, 2, none⟩ = some (.int .i64 q.b.f2) ∧ w'.cell? ⟨g3, 3, none⟩ = some (.int .i64 q.b.f3) ∧ w'.cell? ⟨g3, 4, none⟩ = some (.slice q.A q.b.f4.length q.c) ∧ w'.cell? ⟨c, 1, none⟩ = some (.slice A C.dr.length cp) ∧ w'.cell? ⟨c, 3, none⟩ = some (.int .i64 C.slot)) ∧ Fr [] W w') := fun W hS => (HRT.out W hS.1).mono (fun e w' h => ⟨h.1, HS.out w' (hS.1.trans h.2 (by simp)), h.2⟩)
  have hs0 := HS.out _ (Fr.refl [] W1).drew
  clear h hC hrb hno hB1 hF1 hs1
  go_enter Try.func42, Try.ntmps42
  go_upto_region 1 with (fail)
  rw [← hW1, ← hg3]
  clear hW1 hg3
  refine wp_region_held_drew (S := fun W => Fr [] W1 W ∧ W.cell? ⟨g3, 0, none⟩ = some (.int .i64 q.b.f0) ∧ W.cell? ⟨g3, 1, none⟩ = some (.int .i64 q.b.f1) ∧ W.cell? ⟨g3, 2, none⟩ = some (.int .i64 q.b.f2) ∧ W.cell? ⟨g3, 3, none⟩ = some (.int .i64 q.b.f3) ∧ W.cell? ⟨g3, 4, none⟩ = some (.slice q.A q.b.f4.length q.c) ∧ W.cell? ⟨c, 1, none⟩ = some (.slice A C.dr.length cp) ∧ W.cell? ⟨c, 3, none⟩ = some (.int .i64 C.slot)) (by kernel_rfl) hs0 (fun hHeld => ?_)
  refine held_take (i := 0) (v := ?_) rfl (by kernel_rfl) (by kernel_rfl) (by kernel_rfl) (fun _ _ _ h => h) (Or.inl ⟨by rfl, ?_⟩) (by assumption) ?_
  rotate_left
  · intro w hSw; obtain ⟨sF, s0, s1, s2, s3, s4, s5, s6⟩ := hSw; (try go_simp); first | done | with_reducible rfl | assumption | skip
  try simp only [Act.put, List.setIfInBounds_toArray, List.set_cons_zero, List.set_cons_succ]
  refine held_one (i := 1) rfl (by kernel_rfl) (by rfl) (fun K2 hK2 => ?_)
  go_simp
  refine (HRS.out _ (by assumption)).mono ?_
  rintro e w21 ⟨rfl, hS21, hF21⟩
  refine hK2.out _ _ hS21 (fun hHeld2 => ?_)
  try simp only [Act.put, List.setIfInBounds_toArray, List.set_cons_zero, List.set_cons_succ]
  clear hK2 K2
  refine held_take (i := 2) (v := ?_) rfl (by kernel_rfl) (by kernel_rfl) (by kernel_rfl) (fun _ _ _ h => h) (Or.inl ⟨by rfl, ?_⟩) (by assumption) ?_
  rotate_left
  · intro w hSw; obtain ⟨sF, s0, s1, s2, s3, s4, s5, s6⟩ := hSw; (try go_simp); first | done | with_reducible rfl | assumption | skip
  try simp only [Act.put, List.setIfInBounds_toArray, List.set_cons_zero, List.set_cons_succ]
  refine held_take (i := 3) (v := ?_) rfl (by kernel_rfl) (by kernel_rfl) (by kernel_rfl) (fun _ _ _ h => h) (Or.inl ⟨by rfl, ?_⟩) (by assumption) ?_
  rotate_left
  · intro w hSw; obtain ⟨sF, s0, s1, s2, s3, s4, s5, s6⟩ := hSw; (try go_simp); first | done | with_reducible rfl | assumption | skip
  try simp only [Act.put, List.setIfInBounds_toArray, List.set_cons_zero, List.set_cons_succ]
  refine held_take (i := 4) (v := undef) rfl (by kernel_rfl) (by kernel_rfl) (by kernel_rfl) (fun _ _ _ h => h) (Or.inr ⟨by rfl, rfl⟩) (by assumption) ?_
  try simp only [Act.put, List.setIfInBounds_toArray, List.set_cons_zero, List.set_cons_succ]
  refine held_take (i := 5) (v := undef) rfl (by kernel_rfl) (by kernel_rfl) (by kernel_rfl) (fun _ _ _ h => h) (Or.inr ⟨by rfl, rfl⟩) (by assumption) ?_
  try simp only [Act.put, List.setIfInBounds_toArray, List.set_cons_zero, List.set_cons_succ]
  refine held_take (i := 6) (v := undef) rfl (by kernel_rfl) (by kernel_rfl) (by kernel_rfl) (fun _ _ _ h => h) (Or.inr ⟨by rfl, rfl⟩) (by assumption) ?_
  try simp only [Act.put, List.setIfInBounds_toArray, List.set_cons_zero, List.set_cons_succ]
  refine held_take (i := 7) (v := undef) rfl (by kernel_rfl) (by kernel_rfl) (by kernel_rfl) (fun _ _ _ h => h) (Or.inr ⟨by rfl, rfl⟩) (by assumption) ?_
  try simp only [Act.put, List.setIfInBounds_toArray, List.set_cons_zero, List.set_cons_succ]
  refine held_take (i := 8) (v := undef) rfl (by kernel_rfl) (by kernel_rfl) (by kernel_rfl) (fun _ _ _ h => h) (Or.inr ⟨by rfl, rfl⟩) (by assumption) ?_
  try simp only [Act.put, List.setIfInBounds_toArray, List.set_cons_zero, List.set_cons_succ]
  refine held_take (i := 9) (v := undef) rfl (by kernel_rfl) (by kernel_rfl) (by kernel_rfl) (fun _ _ _ h => h) (Or.inr ⟨by rfl, rfl⟩) (by assumption) ?_
  try simp only [Act.put, List.setIfInBounds_toArray, List.set_cons_zero, List.set_cons_succ]
  refine held_take (i := 10) (v := undef) rfl (by kernel_rfl) (by kernel_rfl) (by kernel_rfl) (fun _ _ _ h => h) (Or.inr ⟨by rfl, rfl⟩) (by assumption) ?_
  try simp only [Act.put, List.setIfInBounds_toArray, List.set_cons_zero, List.set_cons_succ]
  refine held_take (i := 11) (v := .bool true) rfl (by kernel_rfl) (by kernel_rfl) (by kernel_rfl) (fun _ _ _ h => h) (Or.inl ⟨by rfl, ?_⟩) (by assumption) ?_
  · intro w hSw; obtain ⟨sF, s0, s1, s2, s3, s4, s5, s6⟩ := hSw; (try go_simp); first | done | with_reducible rfl | assumption | skip
  try simp only [Act.put, List.setIfInBounds_toArray, List.set_cons_zero, List.set_cons_succ]
  refine held_take (i := 12) (v := ?_) rfl (by kernel_rfl) (by kernel_rfl) (by kernel_rfl) (fun _ _ _ h => h) (Or.inl ⟨by rfl, ?_⟩) (by assumption) ?_
  rotate_left
  · intro w hSw; obtain ⟨sF, s0, s1, s2, s3, s4, s5, s6⟩ := hSw; (try go_simp); first | done | with_reducible rfl | assumption | skip
  try simp only [Act.put, List.setIfInBounds_toArray, List.set_cons_zero, List.set_cons_succ]
  refine held_take (i := 13) (v := undef) rfl (by kernel_rfl) (by kernel_rfl) (by kernel_rfl) (fun _ _ _ h => h) (Or.inr ⟨by rfl, rfl⟩) (by assumption) ?_
  try simp only [Act.put, List.setIfInBounds_toArray, List.set_cons_zero, List.set_cons_succ]
  refine held_take (i := 14) (v := undef) rfl (by kernel_rfl) (by kernel_rfl) (by kernel_rfl) (fun _ _ _ h => h) (Or.inr ⟨by rfl, rfl⟩) (by assumption) ?_
  try simp only [Act.put, List.setIfInBounds_toArray, List.set_cons_zero, List.set_cons_succ]
  refine held_take (i := 15) (v := undef) rfl (by kernel_rfl) (by kernel_rfl) (by kernel_rfl) (fun _ _ _ h => h) (Or.inr ⟨by rfl, rfl⟩) (by assumption) ?_
  try simp only [Act.put, List.setIfInBounds_toArray, List.set_cons_zero, List.set_cons_succ]
  refine held_take (i := 16) (v := undef) rfl (by kernel_rfl) (by kernel_rfl) (by kernel_rfl) (fun _ _ _ h => h) (Or.inr ⟨by rfl, rfl⟩) (by assumption) ?_
  try simp only [Act.put, List.setIfInBounds_toArray, List.set_cons_zero, List.set_cons_succ]
  refine held_take (i := 17) (v := undef) rfl (by kernel_rfl) (by kernel_rfl) (by kernel_rfl) (fun _ _ _ h => h) (Or.inr ⟨by rfl, rfl⟩) (by assumption) ?_
  try simp only [Act.put, List.setIfInBounds_toArray, List.set_cons_zero, List.set_cons_succ]
  refine held_take (i := 18) (v := undef) rfl (by kernel_rfl) (by kernel_rfl) (by kernel_rfl) (fun _ _ _ h => h) (Or.inr ⟨by rfl, rfl⟩) (by assumption) ?_
  try simp only [Act.put, List.setIfInBounds_toArray, List.set_cons_zero, List.set_cons_succ]
  refine held_take (i := 19) (v := undef) rfl (by kernel_rfl) (by kernel_rfl) (by kernel_rfl) (fun _ _ _ h => h) (Or.inr ⟨by rfl, rfl⟩) (by assumption) ?_
  try simp only [Act.put, List.setIfInBounds_toArray, List.set_cons_zero, List.set_cons_succ]
  refine held_take (i := 20) (v := undef) rfl (by kernel_rfl) (by kernel_rfl) (by kernel_rfl) (fun _ _ _ h => h) (Or.inr ⟨by rfl, rfl⟩) (by assumption) ?_
  try simp only [Act.put, List.setIfInBounds_toArray, List.set_cons_zero, List.set_cons_succ]
  refine held_take (i := 21) (v := undef) rfl (by kernel_rfl) (by kernel_rfl) (by kernel_rfl) (fun _ _ _ h => h) (Or.inr ⟨by rfl, rfl⟩) (by assumption) ?_
  try simp only [Act.put, List.setIfInBounds_toArray, List.set_cons_zero, List.set_cons_succ]
  refine held_take (i := 22) (v := undef) rfl (by kernel_rfl) (by kernel_rfl) (by kernel_rfl) (fun _ _ _ h => h) (Or.inr ⟨by rfl, rfl⟩) (by assumption) ?_
  try simp only [Act.put, List.setIfInBounds_toArray, List.set_cons_zero, List.set_cons_succ]
  refine held_take (i := 23) (v := .bool true) rfl (by kernel_rfl) (by kernel_rfl) (by kernel_rfl) (fun _ _ _ h => h) (Or.inl ⟨by rfl, ?_⟩) (by assumption) ?_
  · intro w hSw; obtain ⟨sF, s0, s1, s2, s3, s4, s5, s6⟩ := hSw; (try go_simp); first | done | with_reducible rfl | assumption | skip
  try simp only [Act.put, List.setIfInBounds_toArray, List.set_cons_zero, List.set_cons_succ]
  refine wpAnyH_done (by kernel_rfl) ?_ _
  go_wp2
  exact hR.out _ _ ⟨_, rfl, OwnI.nil _ _, ⟨p, _, D, H.out.fr (HF1.out.trans hS21.1 (by simp))⟩, .of0 (HF1.out.trans hS21.1 (by simp))⟩
set_option maxHeartbeats 4000000 in
set_option maxRecDepth 100000 in
theorem take_late {X : Nat → Prop} {w : World} {c p cp : Nat} {A : Option Addr} {C : Ch} {D : Nat → Prop} (h : ChIn X w c C p (.slice A C.dr.length cp) D) (q : BV) (hC : k52.C w q.A q.b.f4.length q.b.f4) (hc : q.b.f4.length ≤ q.c) (hrb : rightB q.b = true) (hsl : C.slot < q.b.f0) :
    Calls Try.prog 42 #[.pointer (some ⟨c, 0, none⟩), .agg #[.int .i64 q.b.f0, .int .i64 q.b.f1, .int .i64 q.b.f2, .int .i64 q.b.f3, .slice q.A q.b.f4.length q.c]] w fun e w' => ChTake X w c C q.b e w' := by
  have hno : C.take q.b = (C, [], 111) := by unfold Ch.take; rw [if_neg (by rintro ⟨_, h2, _⟩; omega)]
  refine calls_k fun R hR => ?_
  unfold ChTake at hR
  obtain ⟨W1, hW1⟩ : ∃ W1, W1 = w.alloc (.cells #[.int .i64 q.b.f0, .int .i64 q.b.f1, .int .i64 q.b.f2, .int .i64 q.b.f3, .slice q.A q.b.f4.length q.c] 32) := ⟨_, rfl⟩
  obtain ⟨g3, hg3⟩ : ∃ g, g = w.heap.size := ⟨_, rfl⟩
  have hF1 : Fr [] w W1 := by rw [hW1]; exact (Fr.refl _ _).alloc _
  have hB1 : BlkIn W1 g3 q := by rw [hg3]; exact BlkIn.made hW1
  have hs1 : W1.heap.size = g3 + 1 := by rw [hW1, hg3]; simp
  have hgw : w.heap.size ≤ g3 := Nat.le_of_eq hg3.symm
  have HS : Hid (∀ W, Fr [] W1 W → Fr [] W1 W ∧ W.cell? ⟨g3, 0, none⟩ = some (.int .i64 q.b.f0) ∧ W.cell? ⟨g3, 1, none⟩ = some (.int .i64 q.b.f1) ∧ W.cell? ⟨g3, 2, none⟩ = some (.int .i64 q.b.f2) ∧ W.cell? ⟨g3, 3, none⟩ = some (.int .i64 q.b.f3) ∧ W.cell? ⟨g3, 4, none⟩ = some (.slice q.A q.b.f4.length q.c) ∧ W.cell? ⟨c, 1, none⟩ = some (.slice A C.dr.length cp) ∧ W.cell? ⟨c, 3, none⟩ = some (.int .i64 C.slot)) := fun W hW => ⟨hW, (hB1.fr hW).cells.1, (hB1.fr hW).cells.2.1, (hB1.fr hW).cells.2.2.1, (hB1.fr hW).cells.2.2.2.1, (hB1.fr hW).cells.2.2.2.2, ((h.fr hF1).fr hW).cells.2.1, ((h.fr hF1).fr hW).cells.2.2.2.1⟩
  have HRT : Hid (∀ W, Fr [] W1 W → Calls Try.prog 88 #[.agg #[.int .i64 q.b.f0, .int .i64 q.b.f1, .int .i64 q.b.f2, .int .i64 q.b.f3, .slice q.A q.b.f4.length q.c]] W fun e w' => e = .returned (.bool true) ∧ Fr [] W w') := fun W hW => by
    have h1 := right_calls (w := W) q (Kd.C_below hC (hF1.trans hW (by simp)).below) hc
    rw [hrb] at h1; exact h1
  have HF1 := Lib.hid hF1
  have H := Lib.hid h
  rw [hno] at hR
  have HRS : Hid (∀ W, (Fr [] W1 W ∧ W.cell? ⟨g3, 0, none⟩ = some (.int .i64 q.b.f0) ∧ W.cell? ⟨g3, 1, none⟩ = some (.int .i64 q.b.f1) ∧ W.cell? ⟨g3, 2, none⟩ = some (.int .i64 q.b.f2) ∧ W.cell? ⟨g3, 3, none⟩ = some (.int .i64 q.b.f3) ∧ W.cell? ⟨g3, 4, none⟩ = some (.slice q.A q.b.f4.length q.c) ∧ W.cell? ⟨c, 1, none⟩ = some (.slice A C.dr.length cp) ∧ W.cell? ⟨c, 3, none⟩ = some (.int .i64 C.slot)) → Calls Try.prog 88 #[.agg #[.int .i64 q.b.f0, .int .i64 q.b.f1, .int .i64 q.b.f2, .int .i64 q.b.f3, .slice q.A q.b.f4.length q.c]] W fun e w' => e = .returned (.bool true) ∧ (Fr [] W1 w' ∧ w'.cell? ⟨g3, 0, none⟩ = some (.int .i64 q.b.f0) ∧ w'.cell? ⟨g3, 1, none⟩ = some (.int .i64 q.b.f1) ∧ w'.cell? ⟨g3, 2, none⟩ = some (.int .i64 q.b.f2) ∧ w'.cell? ⟨g3, 3, none⟩ = some (.int .i64 q.b.f3) ∧ w'.cell? ⟨g3, 4, none⟩ = some (.slice q.A q.b.f4.length q.c) ∧ w'.cell? ⟨c, 1, none⟩ = some (.slice A C.dr.length cp) ∧ w'.cell? ⟨c, 3, none⟩ = some (.int .i64 C.slot)) ∧ Fr [] W w') := fun W hS => (HRT.out W hS.1).mono (fun e w' h => ⟨h.1, HS.out w' (hS.1.trans h.2 (by simp)), h.2⟩)
  have hs0 := HS.out _ (Fr.refl [] W1).drew
  have hgt : decide (C.slot < q.b.f0) = true := decide_eq_true hsl
  clear h hC hrb hno hB1 hF1 hs1
  go_enter Try.func42, Try.ntmps42
  go_upto_region 1 with (fail)
  rw [← hW1, ← hg3]
  clear hW1 hg3
  refine wp_region_held_drew (S := fun W => Fr [] W1 W ∧ W.cell? ⟨g3, 0, none⟩ = some (.int .i64 q.b.f0) ∧ W.cell? ⟨g3, 1, none⟩ = some (.int .i64 q.b.f1) ∧ W.cell? ⟨g3, 2, none⟩ = some (.int .i64 q.b.f2) ∧ W.cell? ⟨g3, 3, none⟩ = some (.int .i64 q.b.f3) ∧ W.cell? ⟨g3, 4, none⟩ = some (.slice q.A q.b.f4.length q.c) ∧ W.cell? ⟨c, 1, none⟩ = some (.slice A C.dr.length cp) ∧ W.cell? ⟨c, 3, none⟩ = some (.int .i64 C.slot)) (by kernel_rfl) hs0 (fun hHeld => ?_)
  refine held_take (i := 0) (v := ?_) rfl (by kernel_rfl) (by kernel_rfl) (by kernel_rfl) (fun _ _ _ h => h) (Or.inl ⟨by rfl, ?_⟩) (by assumption) ?_
  rotate_left
  · intro w hSw; obtain ⟨sF, s0, s1, s2, s3, s4, s5, s6⟩ := hSw; (try go_simp); first | done | with_reducible rfl | assumption | skip
  try simp only [Act.put, List.setIfInBounds_toArray, List.set_cons_zero, List.set_cons_succ]
  refine held_one (i := 1) rfl (by kernel_rfl) (by rfl) (fun K2 hK2 => ?_)
  go_simp
  refine (HRS.out _ (by assumption)).mono ?_
  rintro e w21 ⟨rfl, hS21, hF21⟩
  refine hK2.out _ _ hS21 (fun hHeld2 => ?_)
  try simp only [Act.put, List.setIfInBounds_toArray, List.set_cons_zero, List.set_cons_succ]
  clear hK2 K2
  refine held_take (i := 2) (v := ?_) rfl (by kernel_rfl) (by kernel_rfl) (by kernel_rfl) (fun _ _ _ h => h) (Or.inl ⟨by rfl, ?_⟩) (by assumption) ?_
  rotate_left
  · intro w hSw; obtain ⟨sF, s0, s1, s2, s3, s4, s5, s6⟩ := hSw; (try go_simp); first | done | with_reducible rfl | assumption | skip
  try simp only [Act.put, List.setIfInBounds_toArray, List.set_cons_zero, List.set_cons_succ]
  refine held_take (i := 3) (v := ?_) rfl (by kernel_rfl) (by kernel_rfl) (by kernel_rfl) (fun _ _ _ h => h) (Or.inl ⟨by rfl, ?_⟩) (by assumption) ?_
  rotate_left
  · intro w hSw; obtain ⟨sF, s0, s1, s2, s3, s4, s5, s6⟩ := hSw; (try go_simp); first | done | with_reducible rfl | assumption | skip
  try simp only [Act.put, List.setIfInBounds_toArray, List.set_cons_zero, List.set_cons_succ]
  refine held_take (i := 4) (v := ?_) rfl (by kernel_rfl) (by kernel_rfl) (by kernel_rfl) (fun _ _ _ h => h) (Or.inl ⟨by rfl, ?_⟩) (by assumption) ?_
  rotate_left
  · intro w hSw; obtain ⟨sF, s0, s1, s2, s3, s4, s5, s6⟩ := hSw; (try go_simp); first | done | with_reducible rfl | assumption | skip
  try simp only [Act.put, List.setIfInBounds_toArray, List.set_cons_zero, List.set_cons_succ]
  refine held_take (i := 5) (v := ?_) rfl (by kernel_rfl) (by kernel_rfl) (by kernel_rfl) (fun _ _ _ h => h) (Or.inl ⟨by rfl, ?_⟩) (by assumption) ?_
  rotate_left
  · intro w hSw; obtain ⟨sF, s0, s1, s2, s3, s4, s5, s6⟩ := hSw; (try go_simp); first | done | with_reducible rfl | assumption | skip
  try simp only [Act.put, List.setIfInBounds_toArray, List.set_cons_zero, List.set_cons_succ]
  refine held_take (i := 6) (v := ?_) rfl (by kernel_rfl) (by kernel_rfl) (by kernel_rfl) (fun _ _ _ h => h) (Or.inl ⟨by rfl, ?_⟩) (by assumption) ?_
  rotate_left
  · intro w hSw; obtain ⟨sF, s0, s1, s2, s3, s4, s5, s6⟩ := hSw; (try go_simp); first | done | with_reducible rfl | assumption | skip
  try simp only [Act.put, List.setIfInBounds_toArray, List.set_cons_zero, List.set_cons_succ]
  refine held_take (i := 7) (v := ?_) rfl (by kernel_rfl) (by kernel_rfl) (by kernel_rfl) (fun _ _ _ h => h) (Or.inl ⟨by rfl, ?_⟩) (by assumption) ?_
  rotate_left
  · intro w hSw; obtain ⟨sF, s0, s1, s2, s3, s4, s5, s6⟩ := hSw; (try go_simp); first | done | with_reducible rfl | assumption | skip
  try simp only [Act.put, List.setIfInBounds_toArray, List.set_cons_zero, List.set_cons_succ]
  refine held_take (i := 8) (v := ?_) rfl (by kernel_rfl) (by kernel_rfl) (by kernel_rfl) (fun _ _ _ h => h) (Or.inl ⟨by rfl, ?_⟩) (by assumption) ?_
  rotate_left
  · intro w hSw; obtain ⟨sF, s0, s1, s2, s3, s4, s5, s6⟩ := hSw; (try go_simp); first | done | with_reducible rfl | assumption | skip
  try simp only [Act.put, List.setIfInBounds_toArray, List.set_cons_zero, List.set_cons_succ]
  refine held_take (i := 9) (v := ?_) rfl (by kernel_rfl) (by kernel_rfl) (by kernel_rfl) (fun _ _ _ h => h) (Or.inl ⟨by rfl, ?_⟩) (by assumption) ?_
  rotate_left
  · intro w hSw; obtain ⟨sF, s0, s1, s2, s3, s4, s5, s6⟩ := hSw; (try go_simp); first | done | with_reducible rfl | assumption | skip
  try simp only [Act.put, List.setIfInBounds_toArray, List.set_cons_zero, List.set_cons_succ]
  refine held_take (i := 10) (v := ?_) rfl (by kernel_rfl) (by kernel_rfl) (by kernel_rfl) (fun _ _ _ h => h) (Or.inl ⟨by rfl, ?_⟩) (by assumption) ?_
  rotate_left
  · intro w hSw; obtain ⟨sF, s0, s1, s2, s3, s4, s5, s6⟩ := hSw; (try go_simp); first | done | with_reducible rfl | assumption | skip
  try simp only [Act.put, List.setIfInBounds_toArray, List.set_cons_zero, List.set_cons_succ]
  refine held_take (i := 11) (v := .bool true) rfl (by kernel_rfl) (by kernel_rfl) (by kernel_rfl) (fun _ _ _ h => h) (Or.inl ⟨by rfl, ?_⟩) (by assumption) ?_
  · intro w hSw; obtain ⟨sF, s0, s1, s2, s3, s4, s5, s6⟩ := hSw; (try go_simp); first | done | with_reducible rfl | assumption | skip
  try simp only [Act.put, List.setIfInBounds_toArray, List.set_cons_zero, List.set_cons_succ]
  refine held_take (i := 12) (v := ?_) rfl (by kernel_rfl) (by kernel_rfl) (by kernel_rfl) (fun _ _ _ h => h) (Or.inl ⟨by rfl, ?_⟩) (by assumption) ?_
  rotate_left
  · intro w hSw; obtain ⟨sF, s0, s1, s2, s3, s4, s5, s6⟩ := hSw; (try go_simp); first | done | with_reducible rfl | assumption | skip
  try simp only [Act.put, List.setIfInBounds_toArray, List.set_cons_zero, List.set_cons_succ]
  refine held_take (i := 13) (v := undef) rfl (by kernel_rfl) (by kernel_rfl) (by kernel_rfl) (fun _ _ _ h => h) (Or.inr ⟨by rfl, rfl⟩) (by assumption) ?_
  try simp only [Act.put, List.setIfInBounds_toArray, List.set_cons_zero, List.set_cons_succ]
  refine held_take (i := 14) (v := undef) rfl (by kernel_rfl) (by kernel_rfl) (by kernel_rfl) (fun _ _ _ h => h) (Or.inr ⟨by rfl, rfl⟩) (by assumption) ?_
  try simp only [Act.put, List.setIfInBounds_toArray, List.set_cons_zero, List.set_cons_succ]
  refine held_take (i := 15) (v := undef) rfl (by kernel_rfl) (by kernel_rfl) (by kernel_rfl) (fun _ _ _ h => h) (Or.inr ⟨by rfl, rfl⟩) (by assumption) ?_
  try simp only [Act.put, List.setIfInBounds_toArray, List.set_cons_zero, List.set_cons_succ]
  refine held_take (i := 16) (v := undef) rfl (by kernel_rfl) (by kernel_rfl) (by kernel_rfl) (fun _ _ _ h => h) (Or.inr ⟨by rfl, rfl⟩) (by assumption) ?_
  try simp only [Act.put, List.setIfInBounds_toArray, List.set_cons_zero, List.set_cons_succ]
  refine held_take (i := 17) (v := undef) rfl (by kernel_rfl) (by kernel_rfl) (by kernel_rfl) (fun _ _ _ h => h) (Or.inr ⟨by rfl, rfl⟩) (by assumption) ?_
  try simp only [Act.put, List.setIfInBounds_toArray, List.set_cons_zero, List.set_cons_succ]
  refine held_take (i := 18) (v := undef) rfl (by kernel_rfl) (by kernel_rfl) (by kernel_rfl) (fun _ _ _ h => h) (Or.inr ⟨by rfl, rfl⟩) (by assumption) ?_
  try simp only [Act.put, List.setIfInBounds_toArray, List.set_cons_zero, List.set_cons_succ]
  refine held_take (i := 19) (v := undef) rfl (by kernel_rfl) (by kernel_rfl) (by kernel_rfl) (fun _ _ _ h => h) (Or.inr ⟨by rfl, rfl⟩) (by assumption) ?_
  try simp only [Act.put, List.setIfInBounds_toArray, List.set_cons_zero, List.set_cons_succ]
  refine held_take (i := 20) (v := undef) rfl (by kernel_rfl) (by kernel_rfl) (by kernel_rfl) (fun _ _ _ h => h) (Or.inr ⟨by rfl, rfl⟩) (by assumption) ?_
  try simp only [Act.put, List.setIfInBounds_toArray, List.set_cons_zero, List.set_cons_succ]
  refine held_take (i := 21) (v := undef) rfl (by kernel_rfl) (by kernel_rfl) (by kernel_rfl) (fun _ _ _ h => h) (Or.inr ⟨by rfl, rfl⟩) (by assumption) ?_
  try simp only [Act.put, List.setIfInBounds_toArray, List.set_cons_zero, List.set_cons_succ]
  refine held_take (i := 22) (v := undef) rfl (by kernel_rfl) (by kernel_rfl) (by kernel_rfl) (fun _ _ _ h => h) (Or.inr ⟨by rfl, rfl⟩) (by assumption) ?_
  try simp only [Act.put, List.setIfInBounds_toArray, List.set_cons_zero, List.set_cons_succ]
  refine held_take (i := 23) (v := .bool true) rfl (by kernel_rfl) (by kernel_rfl) (by kernel_rfl) (fun _ _ _ h => h) (Or.inl ⟨by rfl, ?_⟩) (by assumption) ?_
  · intro w hSw; obtain ⟨sF, s0, s1, s2, s3, s4, s5, s6⟩ := hSw; (try go_simp); first | done | with_reducible rfl | assumption | skip
  try simp only [Act.put, List.setIfInBounds_toArray, List.set_cons_zero, List.set_cons_succ]
  refine wpAnyH_done (by kernel_rfl) ?_ _
  go_wp2
  exact hR.out _ _ ⟨_, rfl, OwnI.nil _ _, ⟨p, _, D, H.out.fr (HF1.out.trans hS21.1 (by simp))⟩, .of0 (HF1.out.trans hS21.1 (by simp))⟩
end Go.Np.Try
