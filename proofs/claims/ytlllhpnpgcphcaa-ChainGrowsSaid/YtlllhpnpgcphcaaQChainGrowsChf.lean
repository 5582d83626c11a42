/- A text that the row of ChainGrows needs. (Pruned by tools/prune.py.) -/
import Derived.Test.YtlllhpnpgcphcaaQChainGrowsChe
import Derived.Test.YtlllhpnpgcphcaaQChainGrowsDocB
set_option linter.unusedVariables false
set_option linter.unusedSimpArgs false
namespace Go.Np.Try
open Go.RowKit Go.Proofs Go.Proofs.Ytlllhpnpgcphcaa.PX Go.Proofs.YtlllhpnpgcphcaaW.PrintWords
def pickT (old : List Int) (acc : List S52) (t : S52) : List S52 := if acc.length < 3 ∧ t.f0 ∉ old then acc ++ [t] else acc
def Ch.blk (C : Ch) (me : Int) (txs : List S52) : Blk := ⟨C.slot, me, 0, C.t.tip, txs.foldl (pickT (C.txs C.t.tip)) []⟩
def Ch.make (C : Ch) (me : Int) (txs : List S52) : Blk × Bool :=
  if winsB C.dr C.slot me = true ∧ slotN C.t.tip < C.slot ∧ rightB (C.blk me txs) = true then (C.blk me txs, true) else (z32, false)
def ChMake (w : World) (C : Ch) (me : Int) (txs : List S52) (e : Ending) (w' : World) : Prop :=
  ∃ A' c', e = .returned (.tuple #[.agg #[.int .i64 (C.make me txs).1.f0, .int .i64 (C.make me txs).1.f1, .int .i64 (C.make me txs).1.f2, .int .i64 (C.make me txs).1.f3, .slice A' (C.make me txs).1.f4.length c'], .bool (C.make me txs).2]) ∧
    w'.ownsRow 0 52 2 (.slice A' (C.make me txs).1.f4.length c') (C.make me txs).1.f4.length (flatT (C.make me txs).1.f4) ∧ (∀ k ∈ (Value.slice A' (C.make me txs).1.f4.length c').ownBlock.toList, w.heap.size ≤ k) ∧ Fr [] w w'
theorem five_cells {w : World} {b : Nat} {x0 x1 x2 x3 x4 : Value} {t : TypeId} (h : w.heap[b]? = some (.cells #[x0, x1, x2, x3, x4] t (0, 0))) :
    w.cell? ⟨b, 0, none⟩ = some x0 ∧ w.cell? ⟨b, 1, none⟩ = some x1 ∧ w.cell? ⟨b, 2, none⟩ = some x2 ∧ w.cell? ⟨b, 3, none⟩ = some x3 ∧ w.cell? ⟨b, 4, none⟩ = some x4 ∧ w.frozen? ⟨b, 0, none⟩ = false ∧ w.frozen? ⟨b, 1, none⟩ = false ∧ w.frozen? ⟨b, 2, none⟩ = false ∧ w.frozen? ⟨b, 3, none⟩ = false ∧ w.frozen? ⟨b, 4, none⟩ = false := by
  have e0 := cell_of h 0
  have e1 := cell_of h 1
  have e2 := cell_of h 2
  have e3 := cell_of h 3
  have e4 := cell_of h 4
  simp at e0 e1 e2 e3 e4
  exact ⟨e0, e1, e2, e3, e4, froz_of h 0, froz_of h 1, froz_of h 2, froz_of h 3, froz_of h 4⟩
theorem slot_ev (n : Int) : block_Slot.f n = some (slotN n) := by
  unfold block_Slot.f slotN
  rw [named_ev]
  simp only [Option.bind_some]
  by_cases h : namedB n = true
  · rw [if_pos h, if_pos h]
    have h1 := h
    simp only [namedB, Bool.and_eq_true, decide_eq_true_eq] at h1
    rw [Int.tdiv_eq_ediv_of_nonneg (by omega), wr_in _ (by omega)]
  · rw [if_neg h, if_neg h]
theorem slot_calls {w : World} (n : Int) : Calls Try.prog 52 #[.int .i64 n] w fun e w' => e = .returned (.int .i64 (slotN n)) ∧ Fr [] w w' := by
  refine (block_Slot.calls n _ w (slot_ev n)).mono ?_
  rintro e w' ⟨h1, ⟨m, rfl⟩⟩
  exact ⟨h1, (Fr.refl _ _).drewN m⟩
set_option maxHeartbeats 4000000 in
set_option maxRecDepth 100000 in
theorem make_lost {X : Nat → Prop} {w : World} {c p cp : Nat} {A : Option Addr} {C : Ch} {D : Nat → Prop} (h : ChIn X w c C p (.slice A C.dr.length cp) D) (hG : C.t.Good) (me : Int) (txs : List S52) {At : Option Addr} {ct : Nat} (hT : k52.C w At txs.length txs) (hwn : winsB C.dr C.slot me = false) :
    Calls Try.prog 50 #[.pointer (some ⟨c, 0, none⟩), .int .i64 me, .slice At txs.length ct] w fun e w' => ChMake w C me txs e w' := by
  have hno : C.make me txs = (z32, false) := by unfold Ch.make; rw [if_neg (by rintro ⟨h1, _⟩; rw [hwn] at h1; cases h1)]
  refine calls_k fun R hR => ?_
  unfold ChMake at hR
  obtain ⟨W1, hW1⟩ : ∃ W1, W1 = w.alloc (.cells #[.int .i64 0, .int .i64 0, .int .i64 0, .int .i64 0, .slice none 0 0] 32) := ⟨_, rfl⟩
  obtain ⟨gR, hgR⟩ : ∃ g, g = w.heap.size := ⟨_, rfl⟩
  have hF1 : Fr [] w W1 := by rw [hW1]; exact (Fr.refl _ _).alloc _
  have hB1 : W1.heap[gR]? = some (.cells #[.int .i64 0, .int .i64 0, .int .i64 0, .int .i64 0, .slice none 0 0] 32 (0, 0)) := by rw [hW1, hgR]; exact heap_alloc_new _ _
  have hgw : w.heap.size ≤ gR := Nat.le_of_eq hgR.symm
  have HS : Hid (∀ W, Fr [] W1 W → Fr [] W1 W ∧ W.cell? ⟨c, 0, none⟩ = some (.pointer (some ⟨p, 0, none⟩)) ∧ W.cell? ⟨c, 1, none⟩ = some (.slice A C.dr.length cp) ∧ W.cell? ⟨c, 3, none⟩ = some (.int .i64 C.slot)) := fun W hW => ⟨hW, ((h.fr hF1).fr hW).cells.1, ((h.fr hF1).fr hW).cells.2.1, ((h.fr hF1).fr hW).cells.2.2.2.1⟩
  have HTP : Hid (∀ W, Fr [] W1 W → Calls Try.prog 34 #[.pointer (some ⟨p, 0, none⟩)] W fun e w' => e = .returned (.int .i64 C.t.tip) ∧ Fr [] W w') := fun W hW => tip_calls ((h.fr hF1).tr.fr hW) hG.ok
  have HWI : Hid (∀ W, Fr [] W1 W → Calls Try.prog 51 #[.slice A C.dr.length cp, .int .i64 C.slot, .int .i64 me] W fun e w' => e = .returned (.bool false) ∧ Fr [] W w') := fun W hW => by
    have h1 := wins_calls (w := W) ((h.fr hF1).fr hW).dr C.slot me
    rw [hwn] at h1; exact h1
  have HF1 := Lib.hid hF1
  have HB1 := Lib.hid hB1
  have H := Lib.hid h
  have HG := Lib.hid hG
  rw [hno] at hR
  have HWS : Hid (∀ W, (Fr [] W1 W ∧ W.cell? ⟨c, 0, none⟩ = some (.pointer (some ⟨p, 0, none⟩)) ∧ W.cell? ⟨c, 1, none⟩ = some (.slice A C.dr.length cp) ∧ W.cell? ⟨c, 3, none⟩ = some (.int .i64 C.slot)) → Calls Try.prog 51 #[.slice A C.dr.length cp, .int .i64 C.slot, .int .i64 me] W fun e w' => e = .returned (.bool false) ∧ (Fr [] W1 w' ∧ w'.cell? ⟨c, 0, none⟩ = some (.pointer (some ⟨p, 0, none⟩)) ∧ w'.cell? ⟨c, 1, none⟩ = some (.slice A C.dr.length cp) ∧ w'.cell? ⟨c, 3, none⟩ = some (.int .i64 C.slot)) ∧ Fr [] W w') := fun W hS => (HWI.out W hS.1).mono (fun e w' h => ⟨h.1, HS.out w' (hS.1.trans h.2 (by simp)), h.2⟩)
  clear h hG hT hwn hno hF1 hB1
  go_enter Try.func50, Try.ntmps50
  go_upto_region 1 with (fail)
  rw [← hW1, ← hgR]
  clear hW1 hgR
  obtain ⟨_, c0, c1, c3⟩ := HS.out _ (Fr.refl _ _)
  go_upto_region 2 with (first
    | (go_at_call 34; refine (HTP.out _ (Fr.refl _ _)).mono ?_; rintro e w2 ⟨rfl, hF2⟩
       have HF2 := Lib.hid hF2
       clear hF2 HTP c0 c1 c3))
  have hs0 := HS.out _ HF2.out.drew
  refine wp_region_held_drew (S := fun W => Fr [] W1 W ∧ W.cell? ⟨c, 0, none⟩ = some (.pointer (some ⟨p, 0, none⟩)) ∧ W.cell? ⟨c, 1, none⟩ = some (.slice A C.dr.length cp) ∧ W.cell? ⟨c, 3, none⟩ = some (.int .i64 C.slot)) (by kernel_rfl) hs0 (fun hHeld => ?_)
  refine held_take (i := 0) (v := ?_) rfl (by kernel_rfl) (by kernel_rfl) (by kernel_rfl) (fun _ _ _ h => h) (Or.inl ⟨by rfl, ?_⟩) (by assumption) ?_
  rotate_left
  · intro w hSw; obtain ⟨sF, s0, s1, s3⟩ := hSw; (try go_simp); first | done | with_reducible rfl | assumption | skip
  try simp only [Act.put, List.setIfInBounds_toArray, List.set_cons_zero, List.set_cons_succ]
  refine held_take (i := 1) (v := ?_) rfl (by kernel_rfl) (by kernel_rfl) (by kernel_rfl) (fun _ _ _ h => h) (Or.inl ⟨by rfl, ?_⟩) (by assumption) ?_
  rotate_left
  · intro w hSw; obtain ⟨sF, s0, s1, s3⟩ := hSw; (try go_simp); first | done | with_reducible rfl | assumption | skip
  try simp only [Act.put, List.setIfInBounds_toArray, List.set_cons_zero, List.set_cons_succ]
  refine held_take (i := 2) (v := ?_) rfl (by kernel_rfl) (by kernel_rfl) (by kernel_rfl) (fun _ _ _ h => h) (Or.inl ⟨by rfl, ?_⟩) (by assumption) ?_
  rotate_left
  · intro w hSw; obtain ⟨sF, s0, s1, s3⟩ := hSw; (try go_simp); first | done | with_reducible rfl | assumption | skip
  try simp only [Act.put, List.setIfInBounds_toArray, List.set_cons_zero, List.set_cons_succ]
  refine held_take (i := 3) (v := ?_) rfl (by kernel_rfl) (by kernel_rfl) (by kernel_rfl) (fun _ _ _ h => h) (Or.inl ⟨by rfl, ?_⟩) (by assumption) ?_
  rotate_left
  · intro w hSw; obtain ⟨sF, s0, s1, s3⟩ := hSw; (try go_simp); first | done | with_reducible rfl | assumption | skip
  try simp only [Act.put, List.setIfInBounds_toArray, List.set_cons_zero, List.set_cons_succ]
  refine held_take (i := 4) (v := ?_) rfl (by kernel_rfl) (by kernel_rfl) (by kernel_rfl) (fun _ _ _ h => h) (Or.inl ⟨by rfl, ?_⟩) (by assumption) ?_
  rotate_left
  · intro w hSw; obtain ⟨sF, s0, s1, s3⟩ := hSw; (try go_simp); first | done | with_reducible rfl | assumption | skip
  try simp only [Act.put, List.setIfInBounds_toArray, List.set_cons_zero, List.set_cons_succ]
  refine held_take (i := 5) (v := ?_) rfl (by kernel_rfl) (by kernel_rfl) (by kernel_rfl) (fun _ _ _ h => h) (Or.inl ⟨by rfl, ?_⟩) (by assumption) ?_
  rotate_left
  · intro w hSw; obtain ⟨sF, s0, s1, s3⟩ := hSw; (try go_simp); first | done | with_reducible rfl | assumption | skip
  try simp only [Act.put, List.setIfInBounds_toArray, List.set_cons_zero, List.set_cons_succ]
  refine held_take (i := 6) (v := ?_) rfl (by kernel_rfl) (by kernel_rfl) (by kernel_rfl) (fun _ _ _ h => h) (Or.inl ⟨by rfl, ?_⟩) (by assumption) ?_
  rotate_left
  · intro w hSw; obtain ⟨sF, s0, s1, s3⟩ := hSw; (try go_simp); first | done | with_reducible rfl | assumption | skip
  try simp only [Act.put, List.setIfInBounds_toArray, List.set_cons_zero, List.set_cons_succ]
  refine held_take (i := 7) (v := ?_) rfl (by kernel_rfl) (by kernel_rfl) (by kernel_rfl) (fun _ _ _ h => h) (Or.inl ⟨by rfl, ?_⟩) (by assumption) ?_
  rotate_left
  · intro w hSw; obtain ⟨sF, s0, s1, s3⟩ := hSw; (try go_simp); first | done | with_reducible rfl | assumption | skip
  try simp only [Act.put, List.setIfInBounds_toArray, List.set_cons_zero, List.set_cons_succ]
  refine held_take (i := 8) (v := ?_) rfl (by kernel_rfl) (by kernel_rfl) (by kernel_rfl) (fun _ _ _ h => h) (Or.inl ⟨by rfl, ?_⟩) (by assumption) ?_
  rotate_left
  · intro w hSw; obtain ⟨sF, s0, s1, s3⟩ := hSw; (try go_simp); first | done | with_reducible rfl | assumption | skip
  try simp only [Act.put, List.setIfInBounds_toArray, List.set_cons_zero, List.set_cons_succ]
  refine held_one (i := 9) rfl (by kernel_rfl) (by rfl) (fun K2 hK2 => ?_)
  go_simp
  refine (HWS.out _ (by assumption)).mono ?_
  rintro e w21 ⟨rfl, hS21, hF21⟩
  refine hK2.out _ _ hS21 (fun hHeld2 => ?_)
  try simp only [Act.put, List.setIfInBounds_toArray, List.set_cons_zero, List.set_cons_succ]
  clear hK2 K2
  refine held_take (i := 10) (v := ?_) rfl (by kernel_rfl) (by kernel_rfl) (by kernel_rfl) (fun _ _ _ h => h) (Or.inl ⟨by rfl, ?_⟩) (by assumption) ?_
  rotate_left
  · intro w hSw; obtain ⟨sF, s0, s1, s3⟩ := hSw; (try go_simp); first | done | with_reducible rfl | assumption | skip
  try simp only [Act.put, List.setIfInBounds_toArray, List.set_cons_zero, List.set_cons_succ]
  refine held_take (i := 11) (v := ?_) rfl (by kernel_rfl) (by kernel_rfl) (by kernel_rfl) (fun _ _ _ h => h) (Or.inl ⟨by rfl, ?_⟩) (by assumption) ?_
  rotate_left
  · intro w hSw; obtain ⟨sF, s0, s1, s3⟩ := hSw; (try go_simp); first | done | with_reducible rfl | assumption | skip
  try simp only [Act.put, List.setIfInBounds_toArray, List.set_cons_zero, List.set_cons_succ]
  refine held_take (i := 12) (v := undef) rfl (by kernel_rfl) (by kernel_rfl) (by kernel_rfl) (fun _ _ _ h => h) (Or.inr ⟨by rfl, rfl⟩) (by assumption) ?_
  try simp only [Act.put, List.setIfInBounds_toArray, List.set_cons_zero, List.set_cons_succ]
  refine held_take (i := 13) (v := undef) rfl (by kernel_rfl) (by kernel_rfl) (by kernel_rfl) (fun _ _ _ h => h) (Or.inr ⟨by rfl, rfl⟩) (by assumption) ?_
  try simp only [Act.put, List.setIfInBounds_toArray, List.set_cons_zero, List.set_cons_succ]
  refine held_take (i := 14) (v := undef) rfl (by kernel_rfl) (by kernel_rfl) (by kernel_rfl) (fun _ _ _ h => h) (Or.inr ⟨by rfl, rfl⟩) (by assumption) ?_
  try simp only [Act.put, List.setIfInBounds_toArray, List.set_cons_zero, List.set_cons_succ]
  refine held_take (i := 15) (v := undef) rfl (by kernel_rfl) (by kernel_rfl) (by kernel_rfl) (fun _ _ _ h => h) (Or.inr ⟨by rfl, rfl⟩) (by assumption) ?_
  try simp only [Act.put, List.setIfInBounds_toArray, List.set_cons_zero, List.set_cons_succ]
  refine held_take (i := 16) (v := undef) rfl (by kernel_rfl) (by kernel_rfl) (by kernel_rfl) (fun _ _ _ h => h) (Or.inr ⟨by rfl, rfl⟩) (by assumption) ?_
  try simp only [Act.put, List.setIfInBounds_toArray, List.set_cons_zero, List.set_cons_succ]
  refine held_take (i := 17) (v := undef) rfl (by kernel_rfl) (by kernel_rfl) (by kernel_rfl) (fun _ _ _ h => h) (Or.inr ⟨by rfl, rfl⟩) (by assumption) ?_
  try simp only [Act.put, List.setIfInBounds_toArray, List.set_cons_zero, List.set_cons_succ]
  refine held_take (i := 18) (v := undef) rfl (by kernel_rfl) (by kernel_rfl) (by kernel_rfl) (fun _ _ _ h => h) (Or.inr ⟨by rfl, rfl⟩) (by assumption) ?_
  try simp only [Act.put, List.setIfInBounds_toArray, List.set_cons_zero, List.set_cons_succ]
  refine held_take (i := 19) (v := .bool true) rfl (by kernel_rfl) (by kernel_rfl) (by kernel_rfl) (fun _ _ _ h => h) (Or.inl ⟨by rfl, ?_⟩) (by assumption) ?_
  · intro w hSw; obtain ⟨sF, s0, s1, s3⟩ := hSw; (try go_simp); first | done | with_reducible rfl | assumption | skip
  try simp only [Act.put, List.setIfInBounds_toArray, List.set_cons_zero, List.set_cons_succ]
  refine wpAnyH_done (by kernel_rfl) ?_ _
  obtain ⟨y0, y1, y2, y3, y4, z0, z1, z2, z3, z4⟩ := five_cells ((hS21.1.block gR (Array.getElem?_eq_some_iff.1 HB1.out).1 (by simp)).trans HB1.out)
  go_wp2
  have hb := (hS21.1.block gR (Array.getElem?_eq_some_iff.1 HB1.out).1 (by simp)).trans HB1.out
  have hp := put5_heap hb (.int .i64 0) (.int .i64 0) (.int .i64 0) (.int .i64 0) (.slice none 0 0)
  have hfr := put5_fr (b := gR) (HF1.out.trans hS21.1 (by simp)) (.inr hgw) (.int .i64 0) (.int .i64 0) (.int .i64 0) (.int .i64 0) (.slice none 0 0)
  unfold put5 at hp hfr
  refine bodyPost_ret (results_ct rfl _ _ gR 32 _ (0, 0) _ rfl hp Try.underlying32 rfl (by kernel_rfl)) rfl ?_
  exact hR.out _ _ ⟨none, 0, rfl, World.ownsRow_nil _ _ _ _, by simp [Value.ownBlock], hfr⟩
set_option maxHeartbeats 4000000 in
set_option maxRecDepth 100000 in
theorem make_late {X : Nat → Prop} {w : World} {c p cp : Nat} {A : Option Addr} {C : Ch} {D : Nat → Prop} (h : ChIn X w c C p (.slice A C.dr.length cp) D) (hG : C.t.Good) (me : Int) (txs : List S52) {At : Option Addr} {ct : Nat} (hT : k52.C w At txs.length txs) (hwn : winsB C.dr C.slot me = true) (hsl : C.slot ≤ slotN C.t.tip) :
    Calls Try.prog 50 #[.pointer (some ⟨c, 0, none⟩), .int .i64 me, .slice At txs.length ct] w fun e w' => ChMake w C me txs e w' := by
  have hno : C.make me txs = (z32, false) := by unfold Ch.make; rw [if_neg (by rintro ⟨_, h1, _⟩; omega)]
  refine calls_k fun R hR => ?_
  unfold ChMake at hR
  obtain ⟨W1, hW1⟩ : ∃ W1, W1 = w.alloc (.cells #[.int .i64 0, .int .i64 0, .int .i64 0, .int .i64 0, .slice none 0 0] 32) := ⟨_, rfl⟩
  obtain ⟨gR, hgR⟩ : ∃ g, g = w.heap.size := ⟨_, rfl⟩
  have hF1 : Fr [] w W1 := by rw [hW1]; exact (Fr.refl _ _).alloc _
  have hB1 : W1.heap[gR]? = some (.cells #[.int .i64 0, .int .i64 0, .int .i64 0, .int .i64 0, .slice none 0 0] 32 (0, 0)) := by rw [hW1, hgR]; exact heap_alloc_new _ _
  have hgw : w.heap.size ≤ gR := Nat.le_of_eq hgR.symm
  have HS : Hid (∀ W, Fr [] W1 W → Fr [] W1 W ∧ W.cell? ⟨c, 0, none⟩ = some (.pointer (some ⟨p, 0, none⟩)) ∧ W.cell? ⟨c, 1, none⟩ = some (.slice A C.dr.length cp) ∧ W.cell? ⟨c, 3, none⟩ = some (.int .i64 C.slot)) := fun W hW => ⟨hW, ((h.fr hF1).fr hW).cells.1, ((h.fr hF1).fr hW).cells.2.1, ((h.fr hF1).fr hW).cells.2.2.2.1⟩
  have HTP : Hid (∀ W, Fr [] W1 W → Calls Try.prog 34 #[.pointer (some ⟨p, 0, none⟩)] W fun e w' => e = .returned (.int .i64 C.t.tip) ∧ Fr [] W w') := fun W hW => tip_calls ((h.fr hF1).tr.fr hW) hG.ok
  have HWI : Hid (∀ W, Fr [] W1 W → Calls Try.prog 51 #[.slice A C.dr.length cp, .int .i64 C.slot, .int .i64 me] W fun e w' => e = .returned (.bool true) ∧ Fr [] W w') := fun W hW => by
    have h1 := wins_calls (w := W) ((h.fr hF1).fr hW).dr C.slot me
    rw [hwn] at h1; exact h1
  have HF1 := Lib.hid hF1
  have HB1 := Lib.hid hB1
  have H := Lib.hid h
  have HG := Lib.hid hG
  rw [hno] at hR
  clear h hG hT hwn hno hF1 hB1
  go_enter Try.func50, Try.ntmps50
  go_upto_region 1 with (fail)
  rw [← hW1, ← hgR]
  clear hW1 hgR
  obtain ⟨_, c0, c1, c3⟩ := HS.out _ (Fr.refl _ _)
  go_upto_region 2 with (first
    | (go_at_call 34; refine (HTP.out _ (Fr.refl _ _)).mono ?_; rintro e w2 ⟨rfl, hF2⟩
       have HF2 := Lib.hid hF2
       clear hF2 HTP c0 c1 c3))
  have HD0 := Lib.hid HF2.out.drew
  have hs0 := (HS.out _ HD0.out).2
  obtain ⟨sn, hsn⟩ : ∃ sn, sn = slotN C.t.tip := ⟨_, rfl⟩
  have HSL := Lib.hid (fun W => slot_calls (w := W) C.t.tip)
  rw [← hsn] at hsl HSL
  clear hsn
  have hgb : decide (C.slot ≤ sn) = true := decide_eq_true hsl
  go_region_held3 (fun W => W.cell? ⟨c, 0, none⟩ = some (.pointer (some ⟨p, 0, none⟩)) ∧ W.cell? ⟨c, 1, none⟩ = some (.slice A C.dr.length cp) ∧ W.cell? ⟨c, 3, none⟩ = some (.int .i64 C.slot))
    (assumption)
    (first
      | (go_at_call 51; refine (HWI.out _ HD0.out).mono ?_; rintro e w3 ⟨rfl, hF3⟩; have HD1 := Lib.hid (HD0.out.trans hF3 (by simp)); have hs1 := (HS.out _ HD1.out).2; clear hF3 HWI)
      | (go_at_call 52; refine (HSL.out _).mono ?_; rintro e w4 ⟨rfl, hF4⟩; have HD2 := Lib.hid (HD1.out.trans hF4 (by simp)); have hs2 := (HS.out _ HD2.out).2; clear hF4 HSL))
  all_goals
    obtain ⟨y0, y1, y2, y3, y4, z0, z1, z2, z3, z4⟩ := five_cells ((HD2.out.block gR (Array.getElem?_eq_some_iff.1 HB1.out).1 (by simp)).trans HB1.out)
    go_wp2
    have hb := (HD2.out.block gR (Array.getElem?_eq_some_iff.1 HB1.out).1 (by simp)).trans HB1.out
    have hp := put5_heap hb (.int .i64 0) (.int .i64 0) (.int .i64 0) (.int .i64 0) (.slice none 0 0)
    have hfr := put5_fr (b := gR) (HF1.out.trans HD2.out (by simp)) (.inr hgw) (.int .i64 0) (.int .i64 0) (.int .i64 0) (.int .i64 0) (.slice none 0 0)
    unfold put5 at hp hfr
    refine bodyPost_ret (results_ct rfl _ _ gR 32 _ (0, 0) _ rfl hp Try.underlying32 rfl (by kernel_rfl)) rfl ?_
    exact hR.out _ _ ⟨none, 0, rfl, World.ownsRow_nil _ _ _ _, by simp [Value.ownBlock], hfr⟩
end Go.Np.Try
