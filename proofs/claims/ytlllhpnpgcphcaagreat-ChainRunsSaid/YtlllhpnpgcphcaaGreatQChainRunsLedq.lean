/- What ChainRuns needs. -/
import Derived.Test.YtlllhpnpgcphcaaGreatQChainRunsChe
import Derived.Test.YtlllhpnpgcphcaaGreatQChainRunsDocB
import Derived.Test.YtlllhpnpgcphcaaGreatQChainRunsPXx13
import Derived.Test.YtlllhpnpgcphcaaGreatQChainRunsPXx14
import Derived.Test.YtlllhpnpgcphcaaGreatQChainRunsWApart
import Derived.Test.YtlllhpnpgcphcaaGreatQChainRunsWWords
section
set_option linter.unusedVariables false
set_option linter.unusedSimpArgs false
namespace Go.Np.Tryz
open Go.RowKit Go.Proofs Go.Proofs.YtlllhpnpgcphcaaGreat.PX Go.Proofs.YtlllhpnpgcphcaaGreatW.PrintWords
def pickT (old : List Int) (acc : List S67) (t : S67) : List S67 := if acc.length < 3 ∧ t.f0 ∉ old then acc ++ [t] else acc
def Ch.blk (C : Ch) (me : Int) (txs : List S67) : Blk := ⟨C.slot, me, 0, C.t.tip, txs.foldl (pickT (C.txs C.t.tip)) []⟩
def Ch.make (C : Ch) (me : Int) (txs : List S67) : Blk × Bool :=
  if winsB C.dr C.slot me = true ∧ slotN C.t.tip < C.slot ∧ rightB (C.blk me txs) = true then (C.blk me txs, true) else (z35, false)
def ChMake (w : World) (C : Ch) (me : Int) (txs : List S67) (e : Ending) (w' : World) : Prop :=
  ∃ A' c', e = .returned (.tuple #[.agg #[.int .i64 (C.make me txs).1.f0, .int .i64 (C.make me txs).1.f1, .int .i64 (C.make me txs).1.f2, .int .i64 (C.make me txs).1.f3, .slice A' (C.make me txs).1.f4.length c'], .bool (C.make me txs).2]) ∧
    w'.ownsRow 0 67 2 (.slice A' (C.make me txs).1.f4.length c') (C.make me txs).1.f4.length (flatT (C.make me txs).1.f4) ∧ (∀ k ∈ (Value.slice A' (C.make me txs).1.f4.length c').ownBlock.toList, w.heap.size ≤ k) ∧ Fr [] w w'
theorem fvc {w : World} {b : Nat} {x0 x1 x2 x3 x4 : Value} {t : TypeId} (h : w.heap[b]? = some (.cells #[x0, x1, x2, x3, x4] t (0, 0))) :
    w.cell? ⟨b, 0, none⟩ = some x0 ∧ w.cell? ⟨b, 1, none⟩ = some x1 ∧ w.cell? ⟨b, 2, none⟩ = some x2 ∧ w.cell? ⟨b, 3, none⟩ = some x3 ∧ w.cell? ⟨b, 4, none⟩ = some x4 ∧ w.frozen? ⟨b, 0, none⟩ = false ∧ w.frozen? ⟨b, 1, none⟩ = false ∧ w.frozen? ⟨b, 2, none⟩ = false ∧ w.frozen? ⟨b, 3, none⟩ = false ∧ w.frozen? ⟨b, 4, none⟩ = false := by
  have e0 := cell_of h 0
  have e1 := cell_of h 1
  have e2 := cell_of h 2
  have e3 := cell_of h 3
  have e4 := cell_of h 4
  simp at e0 e1 e2 e3 e4
  exact ⟨e0, e1, e2, e3, e4, froz_of h 0, froz_of h 1, froz_of h 2, froz_of h 3, froz_of h 4⟩
theorem slot_ev (n : Int) : block_Slot.f n = some (slotN n) := by
  unfold block_Slot.f slotN
  rw [named_ev]
  simp only [Option.bind_some]
  by_cases h : namedB n = true
  · rw [if_pos h, if_pos h]
    have h1 := h
    simp only [namedB, Bool.and_eq_true, decide_eq_true_eq] at h1
    rw [Int.tdiv_eq_ediv_of_nonneg (by omega), wr_in _ (by omega)]
  · rw [if_neg h, if_neg h]
theorem slot_calls {w : World} (n : Int) : Calls Tryz.prog 38 #[.int .i64 n] w fun e w' => e = .returned (.int .i64 (slotN n)) ∧ Fr [] w w' := by
  refine (block_Slot.calls n _ w (slot_ev n)).mono ?_
  rintro e w' ⟨h1, ⟨m, rfl⟩⟩
  exact ⟨h1, (Fr.refl _ _).drewN m⟩
set_option maxHeartbeats 4000000 in
set_option maxRecDepth 100000 in
theorem make_lost {X : Nat → Prop} {w : World} {c p cp : Nat} {A : Option Addr} {C : Ch} {D : Nat → Prop} (h : ChIn X w c C p (.slice A C.dr.length cp) D) (hG : C.t.Good) (me : Int) (txs : List S67) {At : Option Addr} {ct : Nat} (hT : k67.C w At txs.length txs) (hwn : winsB C.dr C.slot me = false) :
    Calls Tryz.prog 11 #[.pointer (some ⟨c, 0, none⟩), .int .i64 me, .slice At txs.length ct] w fun e w' => ChMake w C me txs e w' := by
  have hno : C.make me txs = (z35, false) := by unfold Ch.make; rw [if_neg (by rintro ⟨h1, _⟩; rw [hwn] at h1; cases h1)]
  refine calls_k fun R hR => ?_
  unfold ChMake at hR
  obtain ⟨W1, hW1⟩ : ∃ W1, W1 = w.alloc (.cells #[.int .i64 0, .int .i64 0, .int .i64 0, .int .i64 0, .slice none 0 0] 35) := ⟨_, rfl⟩
  obtain ⟨gR, hgR⟩ : ∃ g, g = w.heap.size := ⟨_, rfl⟩
  have hF1 : Fr [] w W1 := by rw [hW1]; exact (Fr.refl _ _).alloc _
  have hB1 : W1.heap[gR]? = some (.cells #[.int .i64 0, .int .i64 0, .int .i64 0, .int .i64 0, .slice none 0 0] 35 (0, 0)) := by rw [hW1, hgR]; exact heap_alloc_new _ _
  have hgw : w.heap.size ≤ gR := Nat.le_of_eq hgR.symm
  have HS : Hid (∀ W, Fr [] W1 W → Fr [] W1 W ∧ W.cell? ⟨c, 0, none⟩ = some (.pointer (some ⟨p, 0, none⟩)) ∧ W.cell? ⟨c, 1, none⟩ = some (.slice A C.dr.length cp) ∧ W.cell? ⟨c, 3, none⟩ = some (.int .i64 C.slot)) := fun W hW => ⟨hW, ((h.fr hF1).fr hW).cells.1, ((h.fr hF1).fr hW).cells.2.1, ((h.fr hF1).fr hW).cells.2.2.2.1⟩
  have HTP : Hid (∀ W, Fr [] W1 W → Calls Tryz.prog 21 #[.pointer (some ⟨p, 0, none⟩)] W fun e w' => e = .returned (.int .i64 C.t.tip) ∧ Fr [] W w') := fun W hW => tip_calls ((h.fr hF1).tr.fr hW) hG.ok
  have HWI : Hid (∀ W, Fr [] W1 W → Calls Tryz.prog 37 #[.slice A C.dr.length cp, .int .i64 C.slot, .int .i64 me] W fun e w' => e = .returned (.bool false) ∧ Fr [] W w') := fun W hW => by
    have h1 := wins_calls (w := W) ((h.fr hF1).fr hW).dr C.slot me
    rw [hwn] at h1; exact h1
  have HF1 := Lib.hid hF1
  have HB1 := Lib.hid hB1
  have H := Lib.hid h
  have HG := Lib.hid hG
  rw [hno] at hR
  have HWS : Hid (∀ W, (Fr [] W1 W ∧ W.cell? ⟨c, 0, none⟩ = some (.pointer (some ⟨p, 0, none⟩)) ∧ W.cell? ⟨c, 1, none⟩ = some (.slice A C.dr.length cp) ∧ W.cell? ⟨c, 3, none⟩ = some (.int .i64 C.slot)) → Calls Tryz.prog 37 #[.slice A C.dr.length cp, .int .i64 C.slot, .int .i64 me] W fun e w' => e = .returned (.bool false) ∧ (Fr [] W1 w' ∧ w'.cell? ⟨c, 0, none⟩ = some (.pointer (some ⟨p, 0, none⟩)) ∧ w'.cell? ⟨c, 1, none⟩ = some (.slice A C.dr.length cp) ∧ w'.cell? ⟨c, 3, none⟩ = some (.int .i64 C.slot)) ∧ Fr [] W w') := fun W hS => (HWI.out W hS.1).mono (fun e w' h => ⟨h.1, HS.out w' (hS.1.trans h.2 (by simp)), h.2⟩)
  clear h hG hT hwn hno hF1 hB1
  go_enter Tryz.func11, Tryz.ntmps11
  go_upto_region 1 with (fail)
  rw [← hW1, ← hgR]
  clear hW1 hgR
  obtain ⟨_, c0, c1, c3⟩ := HS.out _ (Fr.refl _ _)
  go_upto_region 2 with (first
    | (go_at_call 21; refine (HTP.out _ (Fr.refl _ _)).mono ?_; rintro e w2 ⟨rfl, hF2⟩
       have HF2 := Lib.hid hF2
       clear hF2 HTP c0 c1 c3))
  have hs0 := HS.out _ HF2.out.drew
  refine wp_region_held_drew (S := fun W => Fr [] W1 W ∧ W.cell? ⟨c, 0, none⟩ = some (.pointer (some ⟨p, 0, none⟩)) ∧ W.cell? ⟨c, 1, none⟩ = some (.slice A C.dr.length cp) ∧ W.cell? ⟨c, 3, none⟩ = some (.int .i64 C.slot)) (by kernel_rfl) hs0 (fun hHeld => ?_)
  refine held_take (i := 0) (v := ?_) rfl (by kernel_rfl) (by kernel_rfl) (by kernel_rfl) (fun _ _ _ h => h) (Or.inl ⟨by rfl, ?_⟩) (by assumption) ?_
  rotate_left
  · intro w hSw; obtain ⟨sF, s0, s1, s3⟩ := hSw; (try go_simp); first | done | with_reducible rfl | assumption | skip
  try simp only [Act.put, List.setIfInBounds_toArray, List.set_cons_zero, List.set_cons_succ]
  refine held_take (i := 1) (v := ?_) rfl (by kernel_rfl) (by kernel_rfl) (by kernel_rfl) (fun _ _ _ h => h) (Or.inl ⟨by rfl, ?_⟩) (by assumption) ?_
  rotate_left
  · intro w hSw; obtain ⟨sF, s0, s1, s3⟩ := hSw; (try go_simp); first | done | with_reducible rfl | assumption | skip
  try simp only [Act.put, List.setIfInBounds_toArray, List.set_cons_zero, List.set_cons_succ]
  refine held_take (i := 2) (v := ?_) rfl (by kernel_rfl) (by kernel_rfl) (by kernel_rfl) (fun _ _ _ h => h) (Or.inl ⟨by rfl, ?_⟩) (by assumption) ?_
  rotate_left
  · intro w hSw; obtain ⟨sF, s0, s1, s3⟩ := hSw; (try go_simp); first | done | with_reducible rfl | assumption | skip
  try simp only [Act.put, List.setIfInBounds_toArray, List.set_cons_zero, List.set_cons_succ]
  refine held_take (i := 3) (v := ?_) rfl (by kernel_rfl) (by kernel_rfl) (by kernel_rfl) (fun _ _ _ h => h) (Or.inl ⟨by rfl, ?_⟩) (by assumption) ?_
  rotate_left
  · intro w hSw; obtain ⟨sF, s0, s1, s3⟩ := hSw; (try go_simp); first | done | with_reducible rfl | assumption | skip
  try simp only [Act.put, List.setIfInBounds_toArray, List.set_cons_zero, List.set_cons_succ]
  refine held_take (i := 4) (v := ?_) rfl (by kernel_rfl) (by kernel_rfl) (by kernel_rfl) (fun _ _ _ h => h) (Or.inl ⟨by rfl, ?_⟩) (by assumption) ?_
  rotate_left
  · intro w hSw; obtain ⟨sF, s0, s1, s3⟩ := hSw; (try go_simp); first | done | with_reducible rfl | assumption | skip
  try simp only [Act.put, List.setIfInBounds_toArray, List.set_cons_zero, List.set_cons_succ]
  refine held_take (i := 5) (v := ?_) rfl (by kernel_rfl) (by kernel_rfl) (by kernel_rfl) (fun _ _ _ h => h) (Or.inl ⟨by rfl, ?_⟩) (by assumption) ?_
  rotate_left
  · intro w hSw; obtain ⟨sF, s0, s1, s3⟩ := hSw; (try go_simp); first | done | with_reducible rfl | assumption | skip
  try simp only [Act.put, List.setIfInBounds_toArray, List.set_cons_zero, List.set_cons_succ]
  refine held_take (i := 6) (v := ?_) rfl (by kernel_rfl) (by kernel_rfl) (by kernel_rfl) (fun _ _ _ h => h) (Or.inl ⟨by rfl, ?_⟩) (by assumption) ?_
  rotate_left
  · intro w hSw; obtain ⟨sF, s0, s1, s3⟩ := hSw; (try go_simp); first | done | with_reducible rfl | assumption | skip
  try simp only [Act.put, List.setIfInBounds_toArray, List.set_cons_zero, List.set_cons_succ]
  refine held_take (i := 7) (v := ?_) rfl (by kernel_rfl) (by kernel_rfl) (by kernel_rfl) (fun _ _ _ h => h) (Or.inl ⟨by rfl, ?_⟩) (by assumption) ?_
  rotate_left
  · intro w hSw; obtain ⟨sF, s0, s1, s3⟩ := hSw; (try go_simp); first | done | with_reducible rfl | assumption | skip
  try simp only [Act.put, List.setIfInBounds_toArray, List.set_cons_zero, List.set_cons_succ]
  refine held_take (i := 8) (v := ?_) rfl (by kernel_rfl) (by kernel_rfl) (by kernel_rfl) (fun _ _ _ h => h) (Or.inl ⟨by rfl, ?_⟩) (by assumption) ?_
  rotate_left
  · intro w hSw; obtain ⟨sF, s0, s1, s3⟩ := hSw; (try go_simp); first | done | with_reducible rfl | assumption | skip
  try simp only [Act.put, List.setIfInBounds_toArray, List.set_cons_zero, List.set_cons_succ]
  refine held_one (i := 9) rfl (by kernel_rfl) (by rfl) (fun K2 hK2 => ?_)
  go_simp
  refine (HWS.out _ (by assumption)).mono ?_
  rintro e w21 ⟨rfl, hS21, hF21⟩
  refine hK2.out _ _ hS21 (fun hHeld2 => ?_)
  try simp only [Act.put, List.setIfInBounds_toArray, List.set_cons_zero, List.set_cons_succ]
  clear hK2 K2
  refine held_take (i := 10) (v := ?_) rfl (by kernel_rfl) (by kernel_rfl) (by kernel_rfl) (fun _ _ _ h => h) (Or.inl ⟨by rfl, ?_⟩) (by assumption) ?_
  rotate_left
  · intro w hSw; obtain ⟨sF, s0, s1, s3⟩ := hSw; (try go_simp); first | done | with_reducible rfl | assumption | skip
  try simp only [Act.put, List.setIfInBounds_toArray, List.set_cons_zero, List.set_cons_succ]
  refine held_take (i := 11) (v := ?_) rfl (by kernel_rfl) (by kernel_rfl) (by kernel_rfl) (fun _ _ _ h => h) (Or.inl ⟨by rfl, ?_⟩) (by assumption) ?_
  rotate_left
  · intro w hSw; obtain ⟨sF, s0, s1, s3⟩ := hSw; (try go_simp); first | done | with_reducible rfl | assumption | skip
  try simp only [Act.put, List.setIfInBounds_toArray, List.set_cons_zero, List.set_cons_succ]
  refine held_take (i := 12) (v := undef) rfl (by kernel_rfl) (by kernel_rfl) (by kernel_rfl) (fun _ _ _ h => h) (Or.inr ⟨by rfl, rfl⟩) (by assumption) ?_
  try simp only [Act.put, List.setIfInBounds_toArray, List.set_cons_zero, List.set_cons_succ]
  refine held_take (i := 13) (v := undef) rfl (by kernel_rfl) (by kernel_rfl) (by kernel_rfl) (fun _ _ _ h => h) (Or.inr ⟨by rfl, rfl⟩) (by assumption) ?_
  try simp only [Act.put, List.setIfInBounds_toArray, List.set_cons_zero, List.set_cons_succ]
  refine held_take (i := 14) (v := undef) rfl (by kernel_rfl) (by kernel_rfl) (by kernel_rfl) (fun _ _ _ h => h) (Or.inr ⟨by rfl, rfl⟩) (by assumption) ?_
  try simp only [Act.put, List.setIfInBounds_toArray, List.set_cons_zero, List.set_cons_succ]
  refine held_take (i := 15) (v := undef) rfl (by kernel_rfl) (by kernel_rfl) (by kernel_rfl) (fun _ _ _ h => h) (Or.inr ⟨by rfl, rfl⟩) (by assumption) ?_
  try simp only [Act.put, List.setIfInBounds_toArray, List.set_cons_zero, List.set_cons_succ]
  refine held_take (i := 16) (v := undef) rfl (by kernel_rfl) (by kernel_rfl) (by kernel_rfl) (fun _ _ _ h => h) (Or.inr ⟨by rfl, rfl⟩) (by assumption) ?_
  try simp only [Act.put, List.setIfInBounds_toArray, List.set_cons_zero, List.set_cons_succ]
  refine held_take (i := 17) (v := undef) rfl (by kernel_rfl) (by kernel_rfl) (by kernel_rfl) (fun _ _ _ h => h) (Or.inr ⟨by rfl, rfl⟩) (by assumption) ?_
  try simp only [Act.put, List.setIfInBounds_toArray, List.set_cons_zero, List.set_cons_succ]
  refine held_take (i := 18) (v := undef) rfl (by kernel_rfl) (by kernel_rfl) (by kernel_rfl) (fun _ _ _ h => h) (Or.inr ⟨by rfl, rfl⟩) (by assumption) ?_
  try simp only [Act.put, List.setIfInBounds_toArray, List.set_cons_zero, List.set_cons_succ]
  refine held_take (i := 19) (v := .bool true) rfl (by kernel_rfl) (by kernel_rfl) (by kernel_rfl) (fun _ _ _ h => h) (Or.inl ⟨by rfl, ?_⟩) (by assumption) ?_
  · intro w hSw; obtain ⟨sF, s0, s1, s3⟩ := hSw; (try go_simp); first | done | with_reducible rfl | assumption | skip
  try simp only [Act.put, List.setIfInBounds_toArray, List.set_cons_zero, List.set_cons_succ]
  refine wpAnyH_done (by kernel_rfl) ?_ _
  obtain ⟨y0, y1, y2, y3, y4, z0, z1, z2, z3, z4⟩ := fvc ((hS21.1.block gR (Array.getElem?_eq_some_iff.1 HB1.out).1 (by simp)).trans HB1.out)
  go_wp2
  have hb := (hS21.1.block gR (Array.getElem?_eq_some_iff.1 HB1.out).1 (by simp)).trans HB1.out
  have hp := put5_heap hb (.int .i64 0) (.int .i64 0) (.int .i64 0) (.int .i64 0) (.slice none 0 0)
  have hfr := put5_fr (b := gR) (HF1.out.trans hS21.1 (by simp)) (.inr hgw) (.int .i64 0) (.int .i64 0) (.int .i64 0) (.int .i64 0) (.slice none 0 0)
  unfold put5 at hp hfr
  refine bodyPost_ret (results_ct rfl _ _ gR 35 _ (0, 0) _ rfl hp Tryz.underlying35 rfl (by kernel_rfl)) rfl ?_
  exact hR.out _ _ ⟨none, 0, rfl, World.ownsRow_nil _ _ _ _, by simp [Value.ownBlock], hfr⟩
set_option maxHeartbeats 4000000 in
set_option maxRecDepth 100000 in
theorem make_late {X : Nat → Prop} {w : World} {c p cp : Nat} {A : Option Addr} {C : Ch} {D : Nat → Prop} (h : ChIn X w c C p (.slice A C.dr.length cp) D) (hG : C.t.Good) (me : Int) (txs : List S67) {At : Option Addr} {ct : Nat} (hT : k67.C w At txs.length txs) (hwn : winsB C.dr C.slot me = true) (hsl : C.slot ≤ slotN C.t.tip) :
    Calls Tryz.prog 11 #[.pointer (some ⟨c, 0, none⟩), .int .i64 me, .slice At txs.length ct] w fun e w' => ChMake w C me txs e w' := by
  have hno : C.make me txs = (z35, false) := by unfold Ch.make; rw [if_neg (by rintro ⟨_, h1, _⟩; omega)]
  refine calls_k fun R hR => ?_
  unfold ChMake at hR
  obtain ⟨W1, hW1⟩ : ∃ W1, W1 = w.alloc (.cells #[.int .i64 0, .int .i64 0, .int .i64 0, .int .i64 0, .slice none 0 0] 35) := ⟨_, rfl⟩
  obtain ⟨gR, hgR⟩ : ∃ g, g = w.heap.size := ⟨_, rfl⟩
  have hF1 : Fr [] w W1 := by rw [hW1]; exact (Fr.refl _ _).alloc _
  have hB1 : W1.heap[gR]? = some (.cells #[.int .i64 0, .int .i64 0, .int .i64 0, .int .i64 0, .slice none 0 0] 35 (0, 0)) := by rw [hW1, hgR]; exact heap_alloc_new _ _
  have hgw : w.heap.size ≤ gR := Nat.le_of_eq hgR.symm
  have HS : Hid (∀ W, Fr [] W1 W → Fr [] W1 W ∧ W.cell? ⟨c, 0, none⟩ = some (.pointer (some ⟨p, 0, none⟩)) ∧ W.cell? ⟨c, 1, none⟩ = some (.slice A C.dr.length cp) ∧ W.cell? ⟨c, 3, none⟩ = some (.int .i64 C.slot)) := fun W hW => ⟨hW, ((h.fr hF1).fr hW).cells.1, ((h.fr hF1).fr hW).cells.2.1, ((h.fr hF1).fr hW).cells.2.2.2.1⟩
  have HTP : Hid (∀ W, Fr [] W1 W → Calls Tryz.prog 21 #[.pointer (some ⟨p, 0, none⟩)] W fun e w' => e = .returned (.int .i64 C.t.tip) ∧ Fr [] W w') := fun W hW => tip_calls ((h.fr hF1).tr.fr hW) hG.ok
  have HWI : Hid (∀ W, Fr [] W1 W → Calls Tryz.prog 37 #[.slice A C.dr.length cp, .int .i64 C.slot, .int .i64 me] W fun e w' => e = .returned (.bool true) ∧ Fr [] W w') := fun W hW => by
    have h1 := wins_calls (w := W) ((h.fr hF1).fr hW).dr C.slot me
    rw [hwn] at h1; exact h1
  have HF1 := Lib.hid hF1
  have HB1 := Lib.hid hB1
  have H := Lib.hid h
  have HG := Lib.hid hG
  rw [hno] at hR
  clear h hG hT hwn hno hF1 hB1
  go_enter Tryz.func11, Tryz.ntmps11
  go_upto_region 1 with (fail)
  rw [← hW1, ← hgR]
  clear hW1 hgR
  obtain ⟨_, c0, c1, c3⟩ := HS.out _ (Fr.refl _ _)
  go_upto_region 2 with (first
    | (go_at_call 21; refine (HTP.out _ (Fr.refl _ _)).mono ?_; rintro e w2 ⟨rfl, hF2⟩
       have HF2 := Lib.hid hF2
       clear hF2 HTP c0 c1 c3))
  have HD0 := Lib.hid HF2.out.drew
  have hs0 := (HS.out _ HD0.out).2
  obtain ⟨sn, hsn⟩ : ∃ sn, sn = slotN C.t.tip := ⟨_, rfl⟩
  have HSL := Lib.hid (fun W => slot_calls (w := W) C.t.tip)
  rw [← hsn] at hsl HSL
  clear hsn
  have hgb : decide (C.slot ≤ sn) = true := decide_eq_true hsl
  go_region_held3 (fun W => W.cell? ⟨c, 0, none⟩ = some (.pointer (some ⟨p, 0, none⟩)) ∧ W.cell? ⟨c, 1, none⟩ = some (.slice A C.dr.length cp) ∧ W.cell? ⟨c, 3, none⟩ = some (.int .i64 C.slot))
    (assumption)
    (first
      | (go_at_call 37; refine (HWI.out _ HD0.out).mono ?_; rintro e w3 ⟨rfl, hF3⟩; have HD1 := Lib.hid (HD0.out.trans hF3 (by simp)); have hs1 := (HS.out _ HD1.out).2; clear hF3 HWI)
      | (go_at_call 38; refine (HSL.out _).mono ?_; rintro e w4 ⟨rfl, hF4⟩; have HD2 := Lib.hid (HD1.out.trans hF4 (by simp)); have hs2 := (HS.out _ HD2.out).2; clear hF4 HSL))
  all_goals
    obtain ⟨y0, y1, y2, y3, y4, z0, z1, z2, z3, z4⟩ := fvc ((HD2.out.block gR (Array.getElem?_eq_some_iff.1 HB1.out).1 (by simp)).trans HB1.out)
    go_wp2
    have hb := (HD2.out.block gR (Array.getElem?_eq_some_iff.1 HB1.out).1 (by simp)).trans HB1.out
    have hp := put5_heap hb (.int .i64 0) (.int .i64 0) (.int .i64 0) (.int .i64 0) (.slice none 0 0)
    have hfr := put5_fr (b := gR) (HF1.out.trans HD2.out (by simp)) (.inr hgw) (.int .i64 0) (.int .i64 0) (.int .i64 0) (.int .i64 0) (.slice none 0 0)
    unfold put5 at hp hfr
    refine bodyPost_ret (results_ct rfl _ _ gR 35 _ (0, 0) _ rfl hp Tryz.underlying35 rfl (by kernel_rfl)) rfl ?_
    exact hR.out _ _ ⟨none, 0, rfl, World.ownsRow_nil _ _ _ _, by simp [Value.ownBlock], hfr⟩
end Go.Np.Tryz
end
section
set_option linter.unusedVariables false
set_option linter.unusedSimpArgs false
namespace Go.Np.Tryz
open Go.RowKit Go.Proofs Go.Proofs.YtlllhpnpgcphcaaGreat.PX Go.Proofs.YtlllhpnpgcphcaaGreatW.PrintWords
theorem flatT_snoc (l : List S67) (t : S67) : flatT (l ++ [t]) = flatT l ++ [.int .i64 t.f0, .int .i64 t.f1] := by simp [flatT, cellsT]
theorem pick_len (old : List Int) : ∀ (l acc : List S67), acc.length ≤ 3 → (l.foldl (pickT old) acc).length ≤ 3
  | [], acc, h => h
  | t :: l, acc, h => by
    rw [List.foldl_cons]
    refine pick_len old l _ ?_
    unfold pickT
    split
    · simp; omega
    · exact h
theorem tx_at {w : World} {A : Option Addr} {n : Nat} {l : List S67} (h : k67.C w A n l) (j : Nat) (t : S67) (ht : l[j]? = some t) (hj : j < n) : ∃ ad, A = some ad ∧ w.cell? (ad.add (j * 2)) = some (.int .i64 t.f0) ∧ w.cell? ⟨(ad.add (j * 2)).block, (ad.add (j * 2)).off + 1, none⟩ = some (.int .i64 t.f1) := by
  obtain ⟨ad, e, h0, h1⟩ := at_T67 h (j : Int) (by omega) (by omega)
  have hb : rd_T67 l (j : Int) = t := by simp [rd_T67, List.getD_eq_getElem?_getD, ht]
  rw [hb] at h0 h1
  exact ⟨ad, e, by simpa using h0, by simpa using h1⟩
structure MkIn (w W : World) (gR g9 : Nat) (b : Blk) (B : Option Addr) (cb : Nat) : Prop where
  res : W.heap[gR]? = some (.cells #[.int .i64 0, .int .i64 0, .int .i64 0, .int .i64 0, .slice none 0 0] 35 (0, 0))
  box : BlkIn W g9 ⟨b, B, cb⟩
  row : W.ownsRow 0 67 2 (.slice B b.f4.length cb) b.f4.length (flatT b.f4)
  own : ∀ k ∈ (Value.slice B b.f4.length cb).ownBlock.toList, w.heap.size ≤ k
  fr : Fr [] w W
theorem MkIn.mv {w W W' : World} {gR g9 : Nat} {b : Blk} {B : Option Addr} {cb : Nat} (h : MkIn w W gR g9 b B cb) (hF : Fr [] W W') : MkIn w W' gR g9 b B cb :=
  ⟨(hF.block gR (Array.getElem?_eq_some_iff.1 h.res).1 (by simp)).trans h.res, h.box.fr hF, row_fr h.row hF (by simp), h.own, h.fr.trans hF (by simp)⟩
theorem MkIn.more {w W W' : World} {gR g9 : Nat} {f0 f1 f2 f3 : Int} {acc : List S67} {B B' : Option Addr} {cb cb' : Nat} (t : S67) (hg : gR ≠ g9) (h9 : w.heap.size ≤ g9) (h : MkIn w W gR g9 ⟨f0, f1, f2, f3, acc⟩ B cb)
    (hr : W'.ownsRow 0 67 2 (.slice B' (acc.length + 1) cb') (acc.length + 1) (flatT acc ++ [.int .i64 t.f0, .int .i64 t.f1])) (hF : Fr (Value.slice B acc.length cb).ownBlock.toList W W') (hU : Fresh (Value.slice B acc.length cb).ownBlock.toList (Value.slice B' (acc.length + 1) cb').ownBlock.toList W) :
    MkIn w (W'.setCell ⟨g9, 4, none⟩ (.slice B' (acc.length + 1) cb')) gR g9 ⟨f0, f1, f2, f3, acc ++ [t]⟩ B' cb' := by
  have hrow : W.ownsRow 0 67 2 (.slice B acc.length cb) acc.length (flatT acc) := h.row
  have n1 : gR ∉ (Value.slice B acc.length cb).ownBlock.toList := row_ne_obj hrow h.res (by decide)
  have n2 : g9 ∉ (Value.slice B acc.length cb).ownBlock.toList := row_ne_obj hrow h.box (by decide)
  have hbx := (hF.block g9 (Array.getElem?_eq_some_iff.1 h.box).1 n2).trans h.box
  have hfin : Fr [] w W' := h.fr.trans hF (fun k hk => .inr (h.own k hk))
  have hl : (acc ++ [t]).length = acc.length + 1 := by simp
  refine ⟨?_, ?_, ?_, ?_, hfin.setCell (.inr h9) _⟩
  · exact (set_far _ (by show gR ≠ g9; exact hg) _).trans ((hF.block gR (Array.getElem?_eq_some_iff.1 h.res).1 n1).trans h.res)
  · show (W'.setCell ⟨g9, 4, none⟩ _).heap[g9]? = _
    have h5 := obj_set hbx 4 (.slice B' (acc.length + 1) cb')
    simpa [hl] using h5
  · show (W'.setCell ⟨g9, 4, none⟩ _).ownsRow 0 _ 2 (.slice B' (acc ++ [t]).length cb') (acc ++ [t]).length (flatT (acc ++ [t]))
    rw [hl, flatT_snoc]
    refine row_move hr (fun k hk => set_far _ ?_ _)
    show k ≠ g9
    intro he
    subst he
    exact row_ne_obj hr hbx (by decide) (by simp [hk])
  · show ∀ k ∈ (Value.slice B' (acc ++ [t]).length cb').ownBlock.toList, _
    rw [hl]
    intro k hk
    rcases hU k hk with h1 | h1
    · exact h.own k h1
    · exact Nat.le_trans h.fr.size h1
set_option maxHeartbeats 4000000 in
set_option maxRecDepth 100000 in
theorem make_won {X : Nat → Prop} {w : World} {c p cp : Nat} {A : Option Addr} {C : Ch} {D : Nat → Prop} (h : ChIn X w c C p (.slice A C.dr.length cp) D) (hG : C.t.Good) (me : Int) (txs : List S67) {At : Option Addr} {ct : Nat} (hT : k67.C w At txs.length txs) (hwn : winsB C.dr C.slot me = true) (hsl : slotN C.t.tip < C.slot) :
    Calls Tryz.prog 11 #[.pointer (some ⟨c, 0, none⟩), .int .i64 me, .slice At txs.length ct] w fun e w' => ChMake w C me txs e w' := by
  have hyes : C.make me txs = if rightB (C.blk me txs) = true then (C.blk me txs, true) else (z35, false) := by
    unfold Ch.make
    by_cases hr : rightB (C.blk me txs) = true
    · rw [if_pos ⟨hwn, hsl, hr⟩, if_pos hr]
    · rw [if_neg (fun h => hr h.2.2), if_neg hr]
  refine calls_k fun R hR => ?_
  unfold ChMake at hR
  obtain ⟨W1, hW1⟩ : ∃ W1, W1 = w.alloc (.cells #[.int .i64 0, .int .i64 0, .int .i64 0, .int .i64 0, .slice none 0 0] 35) := ⟨_, rfl⟩
  obtain ⟨gR, hgR⟩ : ∃ g, g = w.heap.size := ⟨_, rfl⟩
  have hF1 : Fr [] w W1 := by rw [hW1]; exact (Fr.refl _ _).alloc _
  have hB1 : W1.heap[gR]? = some (.cells #[.int .i64 0, .int .i64 0, .int .i64 0, .int .i64 0, .slice none 0 0] 35 (0, 0)) := by rw [hW1, hgR]; exact heap_alloc_new _ _
  have hgw : w.heap.size ≤ gR := Nat.le_of_eq hgR.symm
  have HS : Hid (∀ W, Fr [] W1 W → Fr [] W1 W ∧ W.cell? ⟨c, 0, none⟩ = some (.pointer (some ⟨p, 0, none⟩)) ∧ W.cell? ⟨c, 1, none⟩ = some (.slice A C.dr.length cp) ∧ W.cell? ⟨c, 3, none⟩ = some (.int .i64 C.slot)) := fun W hW => ⟨hW, ((h.fr hF1).fr hW).cells.1, ((h.fr hF1).fr hW).cells.2.1, ((h.fr hF1).fr hW).cells.2.2.2.1⟩
  have HTP : Hid (∀ W, Fr [] W1 W → Calls Tryz.prog 21 #[.pointer (some ⟨p, 0, none⟩)] W fun e w' => e = .returned (.int .i64 C.t.tip) ∧ Fr [] W w') := fun W hW => tip_calls ((h.fr hF1).tr.fr hW) hG.ok
  have HWI : Hid (∀ W, Fr [] W1 W → Calls Tryz.prog 37 #[.slice A C.dr.length cp, .int .i64 C.slot, .int .i64 me] W fun e w' => e = .returned (.bool true) ∧ Fr [] W w') := fun W hW => by
    have h1 := wins_calls (w := W) ((h.fr hF1).fr hW).dr C.slot me
    rw [hwn] at h1; exact h1
  have HF1 := Lib.hid hF1
  have HB1 := Lib.hid hB1
  have H := Lib.hid h
  have HG := Lib.hid hG
  rw [hyes] at hR
  have HTX : Hid (∀ W, Fr [] W1 W → Calls Tryz.prog 24 #[.pointer (some ⟨c, 0, none⟩), .int .i64 C.t.tip] W fun e w' => ∃ v, e = .returned v ∧ OwnI W.heap.size w' v (C.txs C.t.tip) ∧ Fr [] W w') := fun W hW => ch_txs ⟨p, _, D, (h.fr hF1).fr hW⟩ hG C.t.tip
  have HT := Lib.hid (txs_F hT)
  obtain ⟨N, hN⟩ : ∃ N, txs.length = N := ⟨_, rfl⟩
  have hNm : N ≤ 9223372036854775807 := by rw [← hN]; exact hT.2.1
  have hol := txs_len hG C.t.tip
  have HBLK : Hid (C.blk me txs = ⟨C.slot, me, 0, C.t.tip, txs.foldl (pickT (C.txs C.t.tip)) []⟩) := rfl
  clear h hG hT hwn hyes hF1 hB1
  go_enter Tryz.func11, Tryz.ntmps11
  go_upto_region 1 with (fail)
  rw [← hW1, ← hgR]
  clear hW1 hgR
  obtain ⟨_, c0, c1, c3⟩ := HS.out _ (Fr.refl _ _)
  go_upto_region 2 with (first
    | (go_at_call 21; refine (HTP.out _ (Fr.refl _ _)).mono ?_; rintro e w2 ⟨rfl, hF2⟩
       have HF2 := Lib.hid hF2
       clear hF2 HTP c0 c1 c3))
  have HD0 := Lib.hid HF2.out.drew
  have hs0 := (HS.out _ HD0.out).2
  obtain ⟨sn, hsn⟩ : ∃ sn, sn = slotN C.t.tip := ⟨_, rfl⟩
  have HSL := Lib.hid (fun W => slot_calls (w := W) C.t.tip)
  rw [← hsn] at hsl HSL
  clear hsn
  have hgb : decide (C.slot ≤ sn) = false := decide_eq_false (by omega)
  go_region_held3 (fun W => W.cell? ⟨c, 0, none⟩ = some (.pointer (some ⟨p, 0, none⟩)) ∧ W.cell? ⟨c, 1, none⟩ = some (.slice A C.dr.length cp) ∧ W.cell? ⟨c, 3, none⟩ = some (.int .i64 C.slot))
    (assumption)
    (first
      | (go_at_call 37; refine (HWI.out _ HD0.out).mono ?_; rintro e w3 ⟨rfl, hF3⟩; have HD1 := Lib.hid (HD0.out.trans hF3 (by simp)); have hs1 := (HS.out _ HD1.out).2; clear hF3 HWI)
      | (go_at_call 38; refine (HSL.out _).mono ?_; rintro e w4 ⟨rfl, hF4⟩; have HD2 := Lib.hid (HD1.out.trans hF4 (by simp)); have hs2 := (HS.out _ HD2.out).2; clear hF4 HSL))
  all_goals
    obtain ⟨tip, htip⟩ : ∃ tip, tip = C.t.tip := ⟨_, rfl⟩
    obtain ⟨old, hold⟩ : ∃ old, old = C.txs C.t.tip := ⟨_, rfl⟩
    rw [← hold] at HTX HBLK hol
    rw [← htip] at HTX HBLK
    obtain ⟨k0, k1, k3⟩ := hs2
    clear hs0 hs1 hgb
    rw [← htip]
    clear hold htip
    go_upto_region 5 with (fail)
    obtain ⟨W5, hW5⟩ : ∃ W5, W5 = w4.alloc (.cells #[.int .i64 C.slot, .int .i64 me, .int .i64 0, .int .i64 tip, .slice none 0 0] 35) := ⟨_, rfl⟩
    obtain ⟨g9, hg9⟩ : ∃ g, g = w4.heap.size := ⟨_, rfl⟩
    have hF5 : Fr [] w4 W5 := by rw [hW5]; exact (Fr.refl _ _).alloc _
    have hb5 : W5.heap[g9]? = some (.cells #[.int .i64 C.slot, .int .i64 me, .int .i64 0, .int .i64 tip, .slice none 0 0] 35 (0, 0)) := by rw [hW5, hg9]; exact heap_alloc_new _ _
    have hD5 := HD2.out.trans hF5 (by simp)
    have hR4 := (HD2.out.block gR (Array.getElem?_eq_some_iff.1 HB1.out).1 (by simp)).trans HB1.out
    have hlt4 := (Array.getElem?_eq_some_iff.1 hR4).1
    have hg9R : gR ≠ g9 := by omega
    have hg9w : w.heap.size ≤ g9 := by omega
    have hMK : MkIn w W5 gR g9 ⟨C.slot, me, 0, tip, []⟩ none 0 := ⟨(hF5.block gR hlt4 (by simp)).trans hR4, hb5, World.ownsRow_nil _ _ _ _, by simp [Value.ownBlock], HF1.out.trans hD5 (by simp)⟩
    have HMK := Lib.hid hMK
    have HTX5 := Lib.hid (HTX.out _ hD5)
    rw [← hW5, ← hg9]
    clear hW5 hg9 hF5 hb5 hD5 hR4 hlt4 hMK HTX k0 k1 k3 HD1 HD0 HF2
    go_upto_region 7 with (first
      | (go_at_call 24; refine HTX5.out.mono ?_; rintro e w6 ⟨v6, rfl, hO6, hF6⟩
         obtain ⟨A6, d6, rfl⟩ := hO6.form
         have HMK6 := Lib.hid (HMK.out.mv hF6)
         have HO6 := Lib.hid hO6
         have hsz6 := hF6.size
         clear hO6 hF6 HTX5))
    have HST : Hid (MkIn w w6 gR g9 ⟨C.slot, me, 0, tip, (txs.take 0).foldl (pickT old) []⟩ none 0) := HMK6.out
    go_loopg [51] N (fun gn i wr => ∃ (m j : Nat) (acc : List S67) (B : Option Addr) (cb : Nat), m = gn ∧ i = .int .i64 j ∧ m + j = N ∧ Hid (acc = (txs.take j).foldl (pickT old) []) ∧ Hid (MkIn w wr gR g9 ⟨C.slot, me, 0, tip, acc⟩ B cb) ∧ Hid (OwnI W5.heap.size wr (.slice A6 old.length d6) old) ∧ Hid (∀ k ∈ (Value.slice B acc.length cb).ownBlock.toList, w6.heap.size ≤ k) ∧ Hid (w6.heap.size ≤ wr.heap.size))
    case atStart => exact ⟨_, 0, [], none, 0, rfl, rfl, rfl, rfl, HST, HO6, by show ∀ k ∈ _, _; simp [Value.ownBlock], Nat.le_refl _⟩
    case round =>
      obtain ⟨m, j, acc, B, cb, rfl, rfl, hj, HAC, HM, HOL, HOW, HSZ⟩ := hrel
      obtain ⟨wO, rfl⟩ : ∃ wO, wO = wr := ⟨_, rfl⟩
      clear HST HMK HMK6
      have hacc : acc.length ≤ 3 := by rw [HAC.out]; exact pick_len old _ _ (by simp)
      obtain ⟨e0, e1, e2, e3, e4⟩ := HM.out.box.cells
      dsimp only at e0 e1 e2 e3 e4
      by_cases hlt : j < N
      · obtain ⟨t, ht⟩ : ∃ t, txs[j]? = some t := ⟨_, List.getElem?_eq_getElem (by rw [hN]; exact hlt)⟩
        have HNX : Hid (∀ acc', pickT old acc t = acc' → acc' = (txs.take (j + 1)).foldl (pickT old) []) := fun acc' h1 => by
          obtain ⟨hjl, hte⟩ := List.getElem?_eq_some_iff.1 ht
          rw [List.take_succ_eq_append_getElem hjl, hte, List.foldl_append, ← HAC.out, ← h1]
          rfl
        have hFT := Kd.F_now (Kd.F_below HT.out HM.out.fr.below)
        rw [hN] at hFT
        obtain ⟨ad, hAt, t0, t1⟩ := tx_at hFT j t ht hlt
        subst hAt
        have HT0 := Lib.hid ht
        clear ht hFT
        go_upto_region 9 with (fail)
        obtain ⟨W8, hW8⟩ : ∃ W8, W8 = wO.alloc (.cells #[.int .i64 t.f0, .int .i64 t.f1] 67) := ⟨_, rfl⟩
        obtain ⟨g8, hg8⟩ : ∃ g, g = wO.heap.size := ⟨_, rfl⟩
        have hF8 : Fr [] wO W8 := by rw [hW8]; exact (Fr.refl _ _).alloc _
        have hb8 : W8.heap[g8]? = some (.cells #[.int .i64 t.f0, .int .i64 t.f1] 67 (0, 0)) := by rw [hW8, hg8]; exact heap_alloc_new _ _
        have HB8 := Lib.hid hb8
        have HM8 := Lib.hid (HM.out.mv hF8)
        have HOL8 := Lib.hid (HOL.out.fr hF8 (by simp))
        have HSZ8 : Hid (w6.heap.size ≤ W8.heap.size) := Nat.le_trans HSZ.out hF8.size
        have hq0 := cell_of hb8 0
        have hq1 := cell_of hb8 1
        simp at hq0 hq1
        rw [← hW8, ← hg8]
        clear hW8 hg8 hF8 hb8 t0 t1 e0 e1 e2 e3 e4 HM HOL HSZ
        obtain ⟨e0, e1, e2, e3, e4⟩ := HM8.out.box.cells
        dsimp only at e0 e1 e2 e3 e4
        obtain ⟨m', rfl⟩ : ∃ m', m = m' + 1 := ⟨m - 1, by omega⟩
        by_cases hl3 : acc.length < 3
        · have hlb : decide ((acc.length : Int) < 3) = true := decide_eq_true (by omega)
          have hlb2 : decide (acc.length < 3) = true := decide_eq_true hl3
          have HCO := Lib.hid (contains_calls t.f0 HOL8.out.sl (by omega))
          by_cases hin : t.f0 ∈ old
          · rw [decide_eq_true hin] at HCO
            have HPK := Lib.hid (HNX.out acc (by unfold pickT; rw [if_neg (fun h => h.2 hin)]))
            clear hin
            go_wp2_with (first
              | (go_at_call 39; refine HCO.out.mono ?_; rintro e w9 ⟨rfl, hF9⟩
                 have HM9 := Lib.hid (HM8.out.mv hF9)
                 have HOL9 := Lib.hid (HOL8.out.fr hF9 (by simp))
                 have HSZ9 : Hid (w6.heap.size ≤ w9.heap.size) := Nat.le_trans HSZ8.out hF9.size
                 clear hF9 HCO e0 e1 e2 e3 e4 hq0 hq1))
            go_roundg m'
            case rel => exact ⟨m', j + 1, acc, B, cb, rfl, by go_num, by omega, HPK, HM9, HOL9, HOW, HSZ9⟩
            case measure => omega
          · rw [decide_eq_false hin] at HCO
            have HPK := Lib.hid (HNX.out (acc ++ [t]) (by unfold pickT; rw [if_pos ⟨hl3, hin⟩]))
            have hb63 : acc.length < maxLen := by unfold maxLen; omega
            have hb16 : (acc.length + 1) * 16 ≤ 140737488355328 := by omega
            clear hin
            go_upto_region 10 with (first
              | (go_at_call 39; refine HCO.out.mono ?_; rintro e w9 ⟨rfl, hF9⟩
                 have HM9 := Lib.hid (HM8.out.mv hF9)
                 have HOL9 := Lib.hid (HOL8.out.fr hF9 (by simp))
                 have HSZ9 : Hid (w6.heap.size ≤ w9.heap.size) := Nat.le_trans HSZ8.out hF9.size
                 replace hq0 := cellF hF9 hq0
                 replace hq1 := cellF hF9 hq1
                 clear hF9 HCO e0 e1 e2 e3 e4))
            obtain ⟨e0, e1, e2, e3, e4⟩ := HM9.out.box.cells
            dsimp only at e0 e1 e2 e3 e4
            have hrow := HM9.out.row
            have hfz := froz_of HM9.out.box 4
            go_wp2_with (first
              | (at_builtin; refine wp_append1 rfl _ _ 33 67 rfl Tryz.underlying33 info67 rfl (by decide) hrow rfl [.int .i64 t.f0, .int .i64 t.f1] rfl rfl (by simp [Value.oneCell']) hb63 hb16 ?_; intro A10 c10 w10 hr10 hF10 hU10
                 have HM10 := Lib.hid (HM9.out.more t hg9R hg9w hr10 hF10 hU10)
                 have HOL10 : Hid (OwnI W5.heap.size (w10.setCell ⟨g9, 4, none⟩ (.slice A10 (acc.length + 1) c10)) (.slice A6 old.length d6) old) := by
                   have hne := row_ne_obj HOL9.out.1 HM9.out.box (by decide)
                   refine (HOL9.out.fr hF10 (fun k hk hm => ?_)).fr (S := [g9]) ((Fr.refl _ _).setCell (.inl (by simp)) _) (fun k hk hm => ?_)
                   · exact own_ne HOL9.out.1 HM9.out.row (by decide) k hk hm
                   · simp at hm; subst hm; exact hne hk
                 have HOW10 : Hid (∀ k ∈ (Value.slice A10 (acc.length + 1) c10).ownBlock.toList, w6.heap.size ≤ k) := fun k hk => by
                   rcases hU10 k hk with h1 | h1
                   · exact HOW.out k h1
                   · exact Nat.le_trans HSZ9.out h1
                 have HSZ10 : Hid (w6.heap.size ≤ (w10.setCell ⟨g9, 4, none⟩ (.slice A10 (acc.length + 1) c10)).heap.size) := Nat.le_trans HSZ9.out (Nat.le_trans hF10.size (by simp [World.setCell]))
                 have hfz10 := ((hF10.block g9 (Array.getElem?_eq_some_iff.1 HM9.out.box).1 (row_ne_obj HM9.out.row HM9.out.box (by decide))).trans HM9.out.box)
                 replace e4 := (fvc hfz10).2.2.2.2.1
                 dsimp only at e4
                 replace hfz := froz_of hfz10 4
                 clear hr10 hF10 hU10 hrow e0 e1 e2 e3 hfz10 hq0 hq1))
            have hl1 : (acc ++ [t]).length = acc.length + 1 := by simp
            go_roundg m'
            case rel => exact ⟨m', j + 1, acc ++ [t], A10, c10, rfl, by go_num, by omega, HPK, HM10, HOL10, by rw [hl1]; exact HOW10, HSZ10⟩
            case measure => omega
        · have hlb : decide ((acc.length : Int) < 3) = false := decide_eq_false (by omega)
          have hlb2 : decide (acc.length < 3) = false := decide_eq_false hl3
          have HPK := Lib.hid (HNX.out acc (by unfold pickT; rw [if_neg (fun h => hl3 h.1)]))
          go_wp2
          go_roundg m'
          case rel => exact ⟨m', j + 1, acc, B, cb, rfl, by go_num, by omega, HPK, HM8, HOL8, HOW, HSZ8⟩
          case measure => omega
      · obtain rfl : j = N := by omega
        have hfull : C.blk me txs = ⟨C.slot, me, 0, tip, acc⟩ := by rw [HBLK.out, HAC.out, List.take_of_length_le (by omega)]
        rw [hfull] at hR
        obtain ⟨B', cb', hee, hlc, hCC⟩ := flatT_C HM.out.row
        injection hee with hee1 _ hee3
        subst hee1 hee3
        have HRT := Lib.hid (right_calls (w := wO) ⟨⟨C.slot, me, 0, tip, acc⟩, B, cb⟩ hCC hlc)
        clear hfull hCC hlc
        cases hrb : rightB ⟨C.slot, me, 0, tip, acc⟩ with
        | true =>
          rw [hrb, if_pos rfl] at hR
          rw [hrb] at HRT
          clear hrb
          go_upto_region 14 with (first
            | (go_at_call 40; refine HRT.out.mono ?_; rintro e w9 ⟨rfl, hF9⟩
               have HM9 := Lib.hid (HM.out.mv hF9)
               clear hF9 HRT e0 e1 e2 e3 e4))
          obtain ⟨e0, e1, e2, e3, e4⟩ := HM9.out.box.cells
          dsimp only at e0 e1 e2 e3 e4
          obtain ⟨y0, y1, y2, y3, y4, z0, z1, z2, z3, z4⟩ := fvc HM9.out.res
          go_wp2
          have hp := put5_heap HM9.out.res (.int .i64 C.slot) (.int .i64 me) (.int .i64 0) (.int .i64 tip) (.slice B acc.length cb)
          have hfr := put5_fr (b := gR) HM9.out.fr (.inr hgw) (.int .i64 C.slot) (.int .i64 me) (.int .i64 0) (.int .i64 tip) (.slice B acc.length cb)
          have hrw := row_fr HM9.out.row (put5_fr (b := gR) (Fr.refl [gR] w9) (.inl (by simp)) (.int .i64 C.slot) (.int .i64 me) (.int .i64 0) (.int .i64 tip) (.slice B acc.length cb)) (fun k hk hm => by
            simp at hm; subst hm; exact row_ne_obj HM9.out.row HM9.out.res (by decide) hk)
          have hown := HM9.out.own
          unfold put5 at hp hfr hrw
          refine bodyPost_ret (results_ct rfl _ _ gR 35 _ (0, 0) _ rfl hp Tryz.underlying35 rfl (by kernel_rfl)) rfl ?_
          exact hR.out _ _ ⟨B, cb, rfl, hrw, hown, hfr⟩
        | false =>
          rw [hrb, if_neg (by simp)] at hR
          rw [hrb] at HRT
          clear hrb
          go_upto_region 13 with (first
            | (go_at_call 40; refine HRT.out.mono ?_; rintro e w9 ⟨rfl, hF9⟩
               have HM9 := Lib.hid (HM.out.mv hF9)
               clear hF9 HRT e0 e1 e2 e3 e4))
          obtain ⟨y0, y1, y2, y3, y4, z0, z1, z2, z3, z4⟩ := fvc HM9.out.res
          go_wp2
          have hp := put5_heap HM9.out.res (.int .i64 0) (.int .i64 0) (.int .i64 0) (.int .i64 0) (.slice none 0 0)
          have hfr := put5_fr (b := gR) HM9.out.fr (.inr hgw) (.int .i64 0) (.int .i64 0) (.int .i64 0) (.int .i64 0) (.slice none 0 0)
          unfold put5 at hp hfr
          refine bodyPost_ret (results_ct rfl _ _ gR 35 _ (0, 0) _ rfl hp Tryz.underlying35 rfl (by kernel_rfl)) rfl ?_
          exact hR.out _ _ ⟨none, 0, rfl, World.ownsRow_nil _ _ _ _, by simp [Value.ownBlock], hfr⟩
theorem ch_make {X : Nat → Prop} {w : World} {c : Nat} {C : Ch} (h : ChAt X w c C) (hG : C.t.Good) (me : Int) (txs : List S67) {At : Option Addr} {ct : Nat} (hT : k67.C w At txs.length txs) :
    Calls Tryz.prog 11 #[.pointer (some ⟨c, 0, none⟩), .int .i64 me, .slice At txs.length ct] w fun e w' => ChMake w C me txs e w' := by
  obtain ⟨p, v, D, h⟩ := h
  obtain ⟨A, cp, rfl⟩ := Kd.V_slice h.dr
  cases hwn : winsB C.dr C.slot me with
  | false => exact make_lost h hG me txs hT hwn
  | true =>
    by_cases hsl : C.slot ≤ slotN C.t.tip
    · exact make_late h hG me txs hT hwn hsl
    · exact make_won h hG me txs hT hwn (by omega)
end Go.Np.Tryz
end
section
set_option linter.unusedVariables false
set_option linter.unusedSimpArgs false
namespace Go.Np.Tryz
open Go.RowKit Go.Proofs Go.Proofs.YtlllhpnpgcphcaaGreat.PX Go.Proofs.YtlllhpnpgcphcaaGreatW.PrintWords
theorem Ch.take_good {C : Ch} (h : C.t.Good) (b : Blk) : (C.take b).1.t.Good := by
  unfold Ch.take
  split
  · exact Tr.add_good h b
  · exact h
theorem ch_takeC {X : Nat → Prop} {w : World} {c : Nat} {C C' : Ch} {L : List Int} {E : Int} (h : ChAt X w c C) (hG : C.t.Good) (hXw : ∀ k, X k → k < w.heap.size) (b : Blk) {A : Option Addr} {cb : Nat} (hC : k67.C w A b.f4.length b.f4) (hc : b.f4.length ≤ cb) (ht : C.take b = (C', L, E)) :
    Calls Tryz.prog 14 #[.pointer (some ⟨c, 0, none⟩), .agg #[.int .i64 b.f0, .int .i64 b.f1, .int .i64 b.f2, .int .i64 b.f3, .slice A b.f4.length cb]] w fun e w' =>
      ∃ D d, e = .returned (.tuple #[.slice D L.length d, .int .i64 E]) ∧ OwnI w.heap.size w' (.slice D L.length d) L ∧ ChAt X w' c C' ∧ FrX X w w' := by
  refine (ch_take h hG hXw ⟨b, A, cb⟩ hC hc).mono ?_
  rintro e w' h
  unfold ChTake at h
  rw [ht] at h
  obtain ⟨v, rfl, hO, hT, hF⟩ := h
  obtain ⟨A, c, rfl⟩ := hO.formN rfl
  exact ⟨A, c, rfl, hO, hT, hF⟩
theorem ch_makeC {X : Nat → Prop} {w : World} {c : Nat} {C : Ch} {b : Blk} {ok : Bool} (h : ChAt X w c C) (hG : C.t.Good) (me : Int) (txs : List S67) {At : Option Addr} {ct : Nat} (hT : k67.C w At txs.length txs) (hm : C.make me txs = (b, ok)) :
    Calls Tryz.prog 11 #[.pointer (some ⟨c, 0, none⟩), .int .i64 me, .slice At txs.length ct] w fun e w' =>
      ∃ A' c', e = .returned (.tuple #[.agg #[.int .i64 b.f0, .int .i64 b.f1, .int .i64 b.f2, .int .i64 b.f3, .slice A' b.f4.length c'], .bool ok]) ∧ b.f4.length ≤ c' ∧ k67.C w' A' b.f4.length b.f4 ∧ w'.ownsRow 0 67 2 (.slice A' b.f4.length c') b.f4.length (flatT b.f4) ∧ (∀ k ∈ (Value.slice A' b.f4.length c').ownBlock.toList, w.heap.size ≤ k) ∧ Fr [] w w' := by
  refine (ch_make h hG me txs hT).mono ?_
  rintro e w' h
  unfold ChMake at h
  rw [hm] at h
  obtain ⟨A, c, rfl, h1, h2, h3⟩ := h
  obtain ⟨B', cb', hee, hlc, hCC⟩ := flatT_C h1
  injection hee with hee1 _ hee3
  subst hee1 hee3
  exact ⟨_, _, rfl, hlc, hCC, h1, h2, h3⟩
theorem txs_made (w : World) (l : List S67) (hl : l.length ≤ 1000) : k67.C (w.alloc (.cells (flatT l).toArray 67)) (some ⟨w.heap.size, 0, none⟩) l.length l := by
  have h : (w.alloc (.cells (flatT l).toArray 67)).ownsRow 0 67 2 (.slice (some ⟨w.heap.size, 0, none⟩) l.length l.length) l.length (flatT l) := by
    refine ⟨flatT_len l, .inr ⟨w.heap.size, l.length, (flatT l).toArray, rfl, Nat.zero_le _, heap_alloc_new w _, Nat.le_refl _, by unfold maxLen; omega, by simp [flatT_len], ?_⟩⟩
    rw [← flatT_len l]; simp
  obtain ⟨A, c, e, _, h2⟩ := flatT_C h
  injection e with e1 _ _
  rw [e1]; exact h2
def kB1 : Blk := ⟨1, 0, 0, 0, [⟨5, 0⟩]⟩
def kB2 : Blk := ⟨2, 0, 0, 65536, [⟨6, 0⟩]⟩
def kT1 : Tr := ⟨[⟨65536, kB1, [65536]⟩], []⟩
def kT2 : Tr := ⟨[⟨65536, kB1, [65536]⟩, ⟨131072, kB2, [65536, 131072]⟩], []⟩
def kC1 : Ch := ⟨⟨[], []⟩, [1, 1], 1, 2⟩
def kC2 : Ch := ⟨kT1, [1, 1], 1, 2⟩
def kC3 : Ch := ⟨kT2, [1, 1], 1, 2⟩
theorem k_add1 : (⟨[], []⟩ : Tr).add kB1 = (kT1, [65536], true) := by rfl
theorem k_add2 : kT1.add kB2 = (kT2, [131072], true) := by rfl
theorem k_take1 : kC1.take kB1 = (kC2, [65536], 0) := by rfl
theorem k_take2 : kC2.take kB2 = (kC3, [131072], 0) := by rfl
theorem kT1_good : kT1.Good := by
  have := Tr.add_good Tr.empty_good kB1
  rw [k_add1] at this; exact this
theorem kT2_good : kT2.Good := by
  have := Tr.add_good kT1_good kB2
  rw [k_add2] at this; exact this
theorem kT1_tip : kT1.tip = 65536 := by
  have h : kT1.names = [65536] := by
    refine strict_ext _ _ (uniq_strict _) (by simp) (fun x => ?_)
    rw [Tr.names, uniq_mem]
    simp [kT1]
  unfold Tr.tip
  rw [h]
  rfl
theorem kT2_tip : kT2.tip = 131072 := by
  have h : kT2.names = [65536, 131072] := by
    refine strict_ext _ _ (uniq_strict _) (by simp) (fun x => ?_)
    rw [Tr.names, uniq_mem]
    simp [kT2]
  unfold Tr.tip
  rw [h]
  rfl
theorem k_make : kC2.make 0 [⟨5, 0⟩, ⟨6, 0⟩] = (kB2, true) := by
  have h : kC2.blk 0 [⟨5, 0⟩, ⟨6, 0⟩] = kB2 := by
    unfold Ch.blk
    rw [show kC2.t.tip = 65536 from kT1_tip]
    rfl
  unfold Ch.make
  rw [h, show kC2.t.tip = 65536 from kT1_tip]
  rfl
theorem k_conf : kC3.conf = 65536 := by
  unfold Ch.conf
  rw [show kC3.t.tip = 131072 from kT2_tip]
  rfl
set_option maxHeartbeats 4000000 in
set_option maxRecDepth 100000 in
theorem calive_calls {w : World} : Calls Tryz.prog 6 #[] w fun e w' => e = .returned (.bool true) ∧ Fr [] w w' := by
  obtain ⟨W1, hW1⟩ : ∃ W1, W1 = w.alloc (.cells #[.int .i64 1, .int .i64 1] 3) := ⟨_, rfl⟩
  obtain ⟨g1, hg1⟩ : ∃ g, g = w.heap.size := ⟨_, rfl⟩
  have hF1 : Fr [] w W1 := by rw [hW1]; exact (Fr.refl _ _).alloc _
  have hO1 : OwnI w.heap.size W1 (.slice (some ⟨g1, 0, none⟩) 2 2) [1, 1] := by rw [hW1, hg1]; exact OwnI.two _ _ _
  have hC1 : (Kd.int .i64).C W1 (some ⟨g1, 0, none⟩) 2 [1, 1] := by
    obtain ⟨A, c, e, _, h⟩ := hO1.sl
    injection e with e1 _ _
    rw [e1]; exact h
  have HNEW := Lib.hid (ch_new (w := W1) (c := 2) (dr := [1, 1]) hC1 (by simp) 1)
  simp only [List.length_cons, List.length_nil, Nat.zero_add, Nat.reduceAdd] at HNEW
  have HF1 := Lib.hid hF1
  refine calls_k fun R hR => ?_
  clear hF1 hO1 hC1
  go_enter Tryz.func6, Tryz.ntmps6
  go_upto_region 1 with (fail)
  go_upto_region 2 with (first
    | (rw [← hW1, ← hg1]; go_at_call 8; refine HNEW.out.mono ?_; rintro e w2 ⟨c, rfl, hc2, hF2⟩
       have HF2 := Lib.hid (HF1.out.trans hF2 (by simp))
       have hX2 : ChAt (fun k => k < w.heap.size) w2 c ⟨⟨[], []⟩, [1, 1], 1, 0⟩ := hc2.less (fun k hk => Nat.lt_of_lt_of_le hk HF1.out.size)
       have HC2 := Lib.hid hX2
       clear hc2 hX2 hF2 HNEW hW1 hg1))
  obtain ⟨p2, v2, D2, hI2⟩ := HC2.out
  have HTR := Lib.hid (ch_tree hI2)
  clear hI2
  go_upto_region 5 with (first
    | (go_at_call 20; refine HTR.out.mono ?_; rintro e w3 ⟨rfl, hF3⟩
       have HF3 := Lib.hid (HF2.out.trans hF3 (by simp))
       have HNX := Lib.hid (ch_next (HC2.out.fr hF3) 2)
       clear hF3 HTR)
    | (go_at_call 9; refine HNX.out.mono ?_; rintro e w4 ⟨rfl, hc4, hX4⟩
       have HC4 : Hid (ChAt (fun k => k < w.heap.size) w4 c kC1) := hc4
       have HF4 := Lib.hid (FrX.old hX4 HF3.out)
       clear hc4 hX4 HNX))
  obtain ⟨W5, hW5⟩ : ∃ W5, W5 = w4.alloc (.cells #[.int .i64 5, .int .i64 0] 67) := ⟨_, rfl⟩
  obtain ⟨g5, hg5⟩ : ∃ g, g = w4.heap.size := ⟨_, rfl⟩
  have hF5 : Fr [] w4 W5 := by rw [hW5]; exact (Fr.refl _ _).alloc _
  have hC5 : k67.C W5 (some ⟨g5, 0, none⟩) 1 [⟨5, 0⟩] := by rw [hW5, hg5]; exact txs_made w4 [⟨5, 0⟩] (by simp)
  have HF5 := Lib.hid (HF4.out.trans hF5 (by simp))
  have HTK := Lib.hid (ch_takeC (HC4.out.fr hF5) Tr.empty_good (fun k hk => Nat.lt_of_lt_of_le hk HF5.out.size) kB1 (cb := 1) hC5 (Nat.le_refl _) k_take1)
  simp only [kB1, List.length_cons, List.length_nil, Nat.zero_add, Nat.reduceAdd] at HTK
  clear hF5 hC5
  go_upto_region 6 with (first
    | (rw [← hW5, ← hg5]; go_at_call 14; refine HTK.out.mono ?_; rintro e w6 ⟨D6, d6, rfl, hO6, hc6, hX6⟩
       have HC6 := Lib.hid hc6
       have HF6 := Lib.hid (FrX.old hX6 HF5.out)
       clear hO6 hc6 hX6 HTK hW5 hg5))
  obtain ⟨W7, hW7⟩ : ∃ W7, W7 = w6.alloc (.cells #[.int .i64 5, .int .i64 0, .int .i64 6, .int .i64 0] 67) := ⟨_, rfl⟩
  obtain ⟨g7, hg7⟩ : ∃ g, g = w6.heap.size := ⟨_, rfl⟩
  have hF7 : Fr [] w6 W7 := by rw [hW7]; exact (Fr.refl _ _).alloc _
  have hC7 : k67.C W7 (some ⟨g7, 0, none⟩) 2 [⟨5, 0⟩, ⟨6, 0⟩] := by rw [hW7, hg7]; exact txs_made w6 [⟨5, 0⟩, ⟨6, 0⟩] (by simp)
  have HF7 := Lib.hid hF7
  have HMA := Lib.hid (ch_makeC (ct := 2) (HC6.out.fr hF7) kT1_good 0 [⟨5, 0⟩, ⟨6, 0⟩] hC7 k_make)
  simp only [kB2, List.length_cons, List.length_nil, Nat.zero_add, Nat.reduceAdd] at HMA
  clear hF7 hC7
  go_upto_region 7 with (first
    | (rw [← hW7, ← hg7]; go_at_call 11; refine HMA.out.mono ?_; rintro e w8 ⟨A8, d8, rfl, hl8, hC8, _, _, hF8⟩
       have HC8 := Lib.hid hC8
       have HF8 := Lib.hid (HF7.out.trans hF8 (by simp))
       clear hC8 hF8 HMA hW7 hg7))
  obtain ⟨W9, hW9⟩ : ∃ W9, W9 = w8.alloc (.cells #[.int .i64 2, .int .i64 0, .int .i64 0, .int .i64 65536, .slice A8 1 d8] 35) := ⟨_, rfl⟩
  obtain ⟨g9, hg9⟩ : ∃ g, g = w8.heap.size := ⟨_, rfl⟩
  have hF9 : Fr [] w8 W9 := by rw [hW9]; exact (Fr.refl _ _).alloc _
  have hB9 : BlkIn W9 g9 ⟨kB2, A8, d8⟩ := by rw [hW9, hg9]; exact heap_alloc_new _ _
  have hs9 : W9.heap.size = g9 + 1 := by rw [hW9, hg9]; simp
  have hs8 := HF8.out.size
  have hF69 := HF8.out.trans hF9 (by simp)
  have hX9 := HC6.out.later hF69 (by simp)
  have HF9 := Lib.hid (HF6.out.trans hF69 (by simp))
  have HTK2 := Lib.hid (ch_takeC hX9 kT1_good (fun k hk => by
    rcases hk with hk | hk
    · exact Nat.lt_of_lt_of_le hk HF9.out.size
    · exact hk.2) kB2 (cb := d8) (Kd.C_below HC8.out hF9.below) hl8 k_take2)
  simp only [kB2, List.length_cons, List.length_nil, Nat.zero_add, Nat.reduceAdd] at HTK2
  have hgx : w6.heap.size ≤ g9 ∧ g9 < W9.heap.size := ⟨by omega, by omega⟩
  have HB9 := Lib.hid hB9
  have HGX := Lib.hid hgx
  obtain ⟨e0, e1, e2, e3, e4⟩ := hB9.cells
  simp only [kB2, List.length_cons, List.length_nil, Nat.zero_add, Nat.reduceAdd] at e0 e1 e2 e3 e4
  rw [← hW9, ← hg9]
  clear hW9 hg9 hF9 hB9 hs9 hs8 hF69 hX9 hgx hl8
  go_upto_region 8 with (first
    | (go_at_call 14; refine HTK2.out.mono ?_; rintro e w10 ⟨D10, d10, rfl, hO10, hc10, hX10⟩
       have HC10 := Lib.hid hc10
       have HB10 := Lib.hid (HB9.out.frX hX10 (.inr HGX.out))
       have HF10 := Lib.hid (hX10.keep (fun k hk => .inl hk) HF9.out)
       clear hO10 hc10 hX10 HTK2 e0 e1 e2 e3 e4))
  obtain ⟨e0, e1, e2, e3, e4⟩ := HB10.out.cells
  simp only [kB2, List.length_cons, List.length_nil, Nat.zero_add, Nat.reduceAdd] at e0 e1 e2 e3 e4
  have HCF := Lib.hid (ch_conf HC10.out kT2_good)
  rw [k_conf] at HCF
  obtain ⟨p3, v3, D3, hI3⟩ := HC10.out
  have HI3 := Lib.hid hI3
  clear hI3
  go_wp2_with (first
    | (go_at_call 22; refine HCF.out.mono ?_; rintro e w11 ⟨rfl, hF11⟩
       have HF11 := Lib.hid hF11
       have HTR3 := Lib.hid (ch_tree (HI3.out.fr hF11))
       clear hF11 HCF e0 e1 e2 e3 e4)
    | (go_at_call 20; refine HTR3.out.mono ?_; rintro e w12 ⟨rfl, hF12⟩
       have HF12 := Lib.hid (HF11.out.trans hF12 (by simp))
       have HTI := Lib.hid (tip_calls (HI3.out.tr.fr HF12.out) kT2_good.ok)
       rw [show kC3.t.tip = 131072 from kT2_tip] at HTI
       clear hF12 HTR3)
    | (go_at_call 21; refine HTI.out.mono ?_; rintro e w13 ⟨rfl, hF13⟩
       have HF13 := Lib.hid (HF12.out.trans hF13 (by simp))
       clear hF13 HTI))
  exact hR.out _ _ ⟨rfl, HF10.out.trans HF13.out (by simp)⟩
end Go.Np.Tryz
end
section
set_option linter.unusedVariables false
set_option linter.unusedSimpArgs false
namespace Go.Np.Tryz
open Go.RowKit Go.Proofs Go.ChangeShapes Go.WideShapes Go.Proofs.YtlllhpnpgcphcaaGreat.PX Go.Proofs.YtlllhpnpgcphcaaGreatW.PrintWords
structure Ac where
  kind : Int
  n : Int
  blk : Blk
  txs : List S67
  A4 : Option Addr
  c4 : Nat
  At : Option Addr
  ct : Nat
def Ac.cells (a : Ac) : List Value := [.int .i64 a.kind, .int .i64 a.n, .int .i64 a.blk.f0, .int .i64 a.blk.f1, .int .i64 a.blk.f2, .int .i64 a.blk.f3, .slice a.A4 a.blk.f4.length a.c4, .slice a.At a.txs.length a.ct]
structure Ac.Fine (W : World) (a : Ac) : Prop where
  l4 : a.blk.f4.length ≤ a.c4
  C4 : k67.C W a.A4 a.blk.f4.length a.blk.f4
  lt : a.txs.length ≤ a.ct
  Ct : k67.C W a.At a.txs.length a.txs
  rg : rng a.blk
theorem cells_act : Tryz.prog.cellsOf 37 = 8 := by kernel_rfl
def ActsR (W : World) (v : Value) (l : List Ac) : Prop := ∃ A c, v = .slice A l.length c ∧ l.length ≤ maxLen ∧ (∀ (j : Nat) (a : Ac), l[j]? = some a → a.Fine W ∧ a.blk.f4.length ≤ 8796093022208 ∧ ∃ ad, A = some ad ∧ ∀ (i : Nat) (u : Value), a.cells[i]? = some u → W.cell? (ad.add (j * 8 + i)) = some u)
end Go.Np.Tryz
end
section
set_option linter.unusedVariables false
set_option linter.unusedSimpArgs false
namespace Go.Np.Tryz
open Go.RowKit Go.Proofs Go.Proofs.YtlllhpnpgcphcaaGreat.PX Go.Proofs.YtlllhpnpgcphcaaGreatW.PrintWords
theorem ints_F {w : World} {A : Option Addr} {n : Nat} {l : List Int} (h : (Kd.int .i64).C w A n l) : Kd.F (Kd.int .i64) w (fun k => k < w.heap.size) A n l := by
  intro W' hW
  refine ⟨h.1, h.2.1, fun hp => ?_⟩
  obtain ⟨ad, rfl, hj⟩ := h.2.2 hp
  refine ⟨ad, rfl, fun j p hjp => ?_⟩
  obtain ⟨cs, h1, h2, h3⟩ := hj j p hjp
  refine ⟨cs, h1, h2, fun i u hu => ?_⟩
  have h4 := h3 i u hu
  have hlt : (ad.add (j * (Kd.int .i64).sz + i)).block < w.heap.size := by
    rcases Nat.lt_or_ge (ad.add (j * (Kd.int .i64).sz + i)).block w.heap.size with h5 | h5
    · exact h5
    · simp [World.cell?, Array.getElem?_eq_none h5] at h4
  exact (World.cell?_of_block (w := w) (hW _ hlt hlt)).trans h4
section
variable {ops : Array Oper} {rest : List Oper} {o : Oper} {a : Act} {Q : Exit → Act → World → Prop}
theorem wp_copyI {w : World} (hgd : o.guard = none) (s x : Operand)
    (ho : o.op = .call { callee := .builtin .append, args := #[s, x], argTypes := #[22, 22] })
    {l : List Int} {A : Option Addr} {c : Nat} (hs : a.eval s = .slice (some ⟨w.heap.size, 0, none⟩) 0 0) (hx : a.eval x = .slice A l.length c) (HR : (Kd.int .i64).C w A l.length l) (hl : l.length ≤ 1000)
    (h : ∀ A1 c1 w1, l.length ≤ c1 → (Kd.int .i64).C w1 A1 l.length l → Fr [] w w1 → wpList Tryz.prog ops Q rest (a.put o.dst (.slice A1 l.length c1)) w1) :
    wpList Tryz.prog ops Q (o :: rest) a (w.alloc (.cells #[] 3)) := by
  have hA : Fr [] w (w.alloc (.cells #[] 3)) := (Fr.refl _ _).alloc _
  have hs1 : (w.alloc (.cells #[] 3)).heap.size = w.heap.size + 1 := by simp
  have HN : Kd.N (Kd.int .i64) 3 (w.alloc (.cells #[] 3)) 0 (fun _ => True) (.slice (some ⟨w.heap.size, 0, none⟩) 0 0) [] :=
    Kd.R_N ⟨fun k hk => trivial, [], ⟨rfl, .inr ⟨w.heap.size, 0, #[], rfl, Nat.zero_le _, heap_alloc_new _ _, Nat.le_refl _, Nat.zero_le _, by simp, by simp⟩⟩, Reps.none _ _⟩
  refine Kd.N_append_rows (Kd.int .i64) (w0 := w.alloc (.cells #[] 3)) 0 hgd s x 22 3 _ 8 ho Tryz.underlying22 infoI rfl (by decide) (by omega) _ [] l A l.length c (fun _ => True) (fun k => k < w.heap.size) hs hx HN (Kd.F_below (ints_F HR) hA.below)
    (fun k hk => ⟨trivial, fun he => by have h2 : k = w.heap.size := (by simpa [Value.ownBlock] using he); omega⟩) (fun _ _ => trivial) (Below.refl _ _) (Nat.zero_le _) (by simp; omega) ?_
  intro v1 w1 h1 _ h3 h4
  rw [List.nil_append] at h1
  obtain ⟨A1, c1, rfl⟩ := Kd.N_slice h1
  obtain ⟨_, h5, h6⟩ := Kd.N_reads' h1
  exact h A1 c1 w1 h5 h6 (hA.trans (Fr.grown (S := [w.heap.size]) h3 (fun k hk => .inl (by simp [Value.ownBlock] at hk; simp [hk]))) (fun k hk => .inr (by simp at hk; omega)))
end
def minerN (n : Int) : Int := if namedB n = true then n % 65536 / 256 else 0
theorem name_parts {b : Blk} (h : nameB b ≠ 0) : slotN (nameB b) = b.f0 ∧ minerN (nameB b) = b.f1 ∧ namedB (nameB b) = true := by
  obtain ⟨hr, h2, h3, h4, h5⟩ := nameB_pos h
  have h1 := hr
  simp only [rightB, Bool.and_eq_true, decide_eq_true_eq] at h1
  have hn : namedB (nameB b) = true := by
    simp only [namedB, Bool.and_eq_true, decide_eq_true_eq]
    omega
  refine ⟨?_, ?_, hn⟩
  · unfold slotN; rw [if_pos hn]; omega
  · unfold minerN; rw [if_pos hn]; omega
theorem act_cells {w : World} {A : Option Addr} {l : List Ac} (h : ∀ (j : Nat) (a : Ac), l[j]? = some a → a.Fine w ∧ a.blk.f4.length ≤ 8796093022208 ∧ ∃ ad, A = some ad ∧ ∀ (i : Nat) (u : Value), a.cells[i]? = some u → w.cell? (ad.add (j * 8 + i)) = some u) (j : Nat) (a : Ac) (ha : l[j]? = some a) {W : World} (hF : Fr [] w W) :
    a.Fine W ∧ a.blk.f4.length ≤ 8796093022208 ∧ ∃ ad, A = some ad ∧ W.cell? (ad.add (j * 8)) = some (.int .i64 a.kind) ∧ W.cell? ⟨(ad.add (j * 8)).block, (ad.add (j * 8)).off + 1, none⟩ = some (.int .i64 a.n) ∧ W.cell? ⟨(ad.add (j * 8)).block, (ad.add (j * 8)).off + 2, none⟩ = some (.int .i64 a.blk.f0) ∧ W.cell? ⟨(ad.add (j * 8)).block, (ad.add (j * 8)).off + 3, none⟩ = some (.int .i64 a.blk.f1) ∧
      W.cell? ⟨(ad.add (j * 8)).block, (ad.add (j * 8)).off + 4, none⟩ = some (.int .i64 a.blk.f2) ∧ W.cell? ⟨(ad.add (j * 8)).block, (ad.add (j * 8)).off + 5, none⟩ = some (.int .i64 a.blk.f3) ∧ W.cell? ⟨(ad.add (j * 8)).block, (ad.add (j * 8)).off + 6, none⟩ = some (.slice a.A4 a.blk.f4.length a.c4) ∧ W.cell? ⟨(ad.add (j * 8)).block, (ad.add (j * 8)).off + 7, none⟩ = some (.slice a.At a.txs.length a.ct) := by
  obtain ⟨hf, hl, ad, hA, hc⟩ := h j a ha
  have hcell : ∀ (i : Nat) (u : Value), a.cells[i]? = some u → W.cell? (ad.add (j * 8 + i)) = some u := fun i u hu => cellF hF (hc i u hu)
  refine ⟨⟨hf.l4, Kd.C_below hf.C4 hF.below, hf.lt, Kd.C_below hf.Ct hF.below, hf.rg⟩, hl, ad, hA, hcell 0 _ rfl, ?_, ?_, ?_, ?_, ?_, ?_, ?_⟩
  · have := hcell 1 _ rfl; rwa [add_field _ _ 1 (by omega)] at this
  · have := hcell 2 _ rfl; rwa [add_field _ _ 2 (by omega)] at this
  · have := hcell 3 _ rfl; rwa [add_field _ _ 3 (by omega)] at this
  · have := hcell 4 _ rfl; rwa [add_field _ _ 4 (by omega)] at this
  · have := hcell 5 _ rfl; rwa [add_field _ _ 5 (by omega)] at this
  · have := hcell 6 _ rfl; rwa [add_field _ _ 6 (by omega)] at this
  · have := hcell 7 _ rfl; rwa [add_field _ _ 7 (by omega)] at this
end Go.Np.Tryz
end
section
set_option linter.unusedVariables false
set_option linter.unusedSimpArgs false
namespace Go.Np.Tryz
open Go.RowKit Go.Proofs Go.Proofs.YtlllhpnpgcphcaaGreat.PX Go.Proofs.YtlllhpnpgcphcaaGreatW.PrintWords
theorem add_block (a : Addr) (k : Nat) : (a.add k).block = a.block := by
  unfold Addr.add
  split <;> rfl
theorem take_snocI {l : List Int} {k : Nat} (hk : k < l.length) {d : Int} (hd : l.getD k 0 = d) : l.take (k + 1) = l.take k ++ [d] := by
  rw [List.take_succ_eq_append_getElem hk, ← hd]; simp [List.getD_eq_getElem?_getD, hk]
end Go.Np.Tryz
end
section
set_option linter.unusedVariables false
set_option linter.unusedSimpArgs false
namespace Go.Np.Tryz
open Go.RowKit Go.Proofs Go.Proofs.YtlllhpnpgcphcaaGreat.PX Go.Proofs.YtlllhpnpgcphcaaGreatW.PrintWords
theorem N_block2 {w : World} {base : Nat} {ok : Nat → Prop} {v : Value} {xs : List Int} (h : Kd.N (Kd.int .i64) 3 w base ok v xs) :
    (xs = [] ∧ ∃ c, v = .slice none 0 c) ∨ ∃ g c cs, v = .slice (some ⟨g, 0, none⟩) xs.length c ∧ base ≤ g ∧ w.heap[g]? = some (.cells cs 3 (0, 0)) ∧ cs.size = c ∧ c ≤ maxLen ∧ xs.length ≤ c ∧ (∀ i, i < xs.length → cs[i]? = some (.int .i64 (xs.getD i 0))) ∧ (Kd.int .i64).C w (some ⟨g, 0, none⟩) xs.length xs := by
  have h' := h
  obtain ⟨A, c, rfl⟩ := Kd.N_slice h
  obtain ⟨_, hle0, hC⟩ := Kd.N_reads' h
  obtain ⟨h0, rows, hlen, ⟨_, inner, ho, hr⟩, hf⟩ := h
  obtain ⟨hi, ho⟩ := ho
  rcases ho with hnone | ⟨g, cap, cells, e, hb, hh, hle, hmx, hsz, htk⟩
  · left
    have e1 := hnone.1
    injection e1 with e1 e2 e3
    exact ⟨List.eq_nil_of_length_eq_zero e2, c, by rw [e1, e2]⟩
  · right
    injection e with e1 e2 e3
    subst e1
    have h2 : (Kd.raw (Kd.int .i64).sz).sz = 1 := rfl
    rw [h2] at hsz
    refine ⟨g, c, cells, rfl, hb, hh, by omega, by omega, hle0, fun i hi => ?_, hC⟩
    · obtain ⟨ad, ea, hc⟩ := int_at hC i hi
      injection ea with ea
      subst ea
      have h3 : w.cell? ⟨g, i, none⟩ = some (.int .i64 (xs.getD i 0)) := by rw [addr_add _ _ rfl] at hc; simpa using hc
      rw [World.cell?, hh] at h3
      simpa using h3
theorem own_of_cells {W : World} {r c : Nat} {l : List Int} {ds : Array Value} (h1 : W.heap[r]? = some (.cells ds 3 (0, 0))) (h2 : ds.size = c) (hcm : c ≤ maxLen) (hlc : l.length ≤ c) (h3 : ∀ i, i < l.length → ds[i]? = some (.int .i64 (l.getD i 0))) : OwnI 0 W (.slice (some ⟨r, 0, none⟩) l.length c) l := by
  refine ⟨⟨by simp, .inr ⟨r, c, ds, rfl, Nat.zero_le _, h1, hlc, hcm, by omega, ?_⟩⟩, fun k _ => Nat.zero_le _⟩
  rw [Nat.mul_one]
  apply List.ext_getElem?
  intro p
  rw [List.getElem?_take, List.getElem?_map]
  by_cases hp : p < l.length
  · rw [if_pos hp, Array.getElem?_toList, h3 p hp, List.getD_eq_getElem?_getD, List.getElem?_eq_getElem hp]
    simp
  · rw [if_neg hp, List.getElem?_eq_none (by omega)]
    rfl
end Go.Np.Tryz
end
section
set_option linter.unusedVariables false
set_option linter.unusedSimpArgs false
namespace Go.Np.Tryz
open Go.RowKit Go.Proofs Go.Proofs.YtlllhpnpgcphcaaGreat.PX Go.Proofs.YtlllhpnpgcphcaaGreatW.PrintWords
theorem SlI.C {w : World} {A : Option Addr} {n c : Nat} {l : List Int} (h : SlI w (.slice A n c) l) : n = l.length ∧ l.length ≤ c ∧ (Kd.int .i64).C w A l.length l := by
  obtain ⟨A', c', e, hle, hC⟩ := h
  injection e with e1 e2 e3
  subst e1 e3
  exact ⟨e2, hle, hC⟩
end Go.Np.Tryz
end
section
set_option linter.unusedVariables false
set_option linter.unusedSimpArgs false
namespace Go.Np.Tryz
open Go.RowKit Go.Proofs Go.Proofs.YtlllhpnpgcphcaaGreat.PX Go.Proofs.YtlllhpnpgcphcaaGreatW.PrintWords
theorem N_own {w : World} {base : Nat} {ok : Nat → Prop} {v : Value} {xs : List Int} (h : Kd.N (Kd.int .i64) 3 w base ok v xs) : OwnI base w v xs := by
  have h' := h
  obtain ⟨A, c, rfl⟩ := Kd.N_slice h
  obtain ⟨h0, rows, hlen, ⟨_, inner, ho, hr⟩, hf⟩ := h
  obtain ⟨hi, ho⟩ := ho
  rcases ho with hnone | ⟨g, cap, cells, e, hb, hh, hle, hmx, hsz, htk⟩
  · have e1 := hnone.1
    injection e1 with e1 e2 e3
    obtain rfl : xs = [] := List.eq_nil_of_length_eq_zero e2
    subst e1 e3
    exact OwnI.nil _ _
  · rcases N_block2 h' with ⟨rfl, c', e'⟩ | ⟨r, c', cs, e', hbr, hr', hs, hcm, hlc, hcs, hC⟩
    · rw [e] at e'; cases e'
    · injection e' with e1 e2 e3
      subst e1 e3
      exact ⟨(own_of_cells hr' hs hcm hlc hcs).1, fun k hk => by simp [Value.ownBlock] at hk; omega⟩
end Go.Np.Tryz
end
section
set_option linter.unusedVariables false
set_option linter.unusedSimpArgs false
namespace Go.Np.Tryz
open Go.RowKit Go.Proofs Go.Proofs.YtlllhpnpgcphcaaGreat.PX Go.Proofs.YtlllhpnpgcphcaaGreatW.PrintWords
theorem mem_next {F : List Int} {p : Nat} (hp : p < F.length) (x : Int) : decide (x ∈ F.take (p + 1)) = (decide (x ∈ F.take p) || (x == F.getD p 0)) := by
  rw [take_snocI hp rfl, Bool.eq_iff_iff]
  simp
end Go.Np.Tryz
end
section
set_option linter.unusedVariables false
set_option linter.unusedSimpArgs false
namespace Go.Np.Tryz
open Go.RowKit Go.Proofs Go.Proofs.YtlllhpnpgcphcaaGreat.PX Go.Proofs.YtlllhpnpgcphcaaGreatW.PrintWords
def OkDr (dr : List Int) : Prop := ∀ d ∈ dr, 0 ≤ d ∧ d ≤ 127
theorem bit_eq : ∀ d : Fin 128, ∀ m : Fin 7, bitW ((d : Nat) : Int) ((m : Nat) : Int) = (((d : Nat) : Int) / (((2 ^ (m : Nat) : Nat)) : Int) % 2 == 1) := by decide +kernel
theorem wins_bit {dr : List Int} (hd : OkDr dr) {k : Nat} (hk : k < dr.length) {m : Nat} (hm : m < 7) : winsB dr ((k : Int) + 1) (m : Int) = (dr.getD k 0 / ((2 ^ m : Nat) : Int) % 2 == 1) := by
  have hmem : dr.getD k 0 ∈ dr := by rw [List.getD_eq_getElem?_getD, List.getElem?_eq_getElem hk]; exact List.getElem_mem _
  obtain ⟨h0, h1⟩ := hd _ hmem
  have h2 := bit_eq ⟨(dr.getD k 0).toNat, by omega⟩ ⟨m, hm⟩
  simp only at h2
  rw [Int.toNat_of_nonneg h0] at h2
  have hr : rd dr ((k : Int) + 1 - 1) = dr.getD k 0 := by
    rw [show (k : Int) + 1 - 1 = (k : Int) by omega]; simp [rd]
  have e1 : decide ((1 : Int) ≤ (k : Int) + 1) = true := decide_eq_true (by omega)
  have e2 : decide ((k : Int) + 1 ≤ (dr.length : Int)) = true := decide_eq_true (by omega)
  have e3 : decide ((0 : Int) ≤ (m : Int)) = true := decide_eq_true (by omega)
  have e4 : decide ((m : Int) < 7) = true := decide_eq_true (by omega)
  unfold winsB
  rw [hr, h2, e1, e2, e3, e4]
  rfl
theorem wins_out {dr : List Int} {s m : Int} (h : s < 1 ∨ (dr.length : Int) < s ∨ m < 0 ∨ 6 < m) : winsB dr s m = false := by
  unfold winsB
  rcases h with h | h | h | h
  · rw [decide_eq_false (show ¬ 1 ≤ s by omega)]; rfl
  · rw [decide_eq_false (show ¬ s ≤ (dr.length : Int) by omega)]; simp
  · rw [decide_eq_false (show ¬ 0 ≤ m by omega)]; simp
  · rw [decide_eq_false (show ¬ m < 7 by omega)]; simp
theorem ixb0 (w : World) : (Instr.index 105 (.agg #[.int .i64 1, .int .i64 2, .int .i64 4, .int .i64 8, .int .i64 16, .int .i64 32, .int .i64 64]) (.int .i64 0)).run Tryz.prog w = .ok (.int .i64 1) w := by kernel_rfl
theorem ixb1 (w : World) : (Instr.index 105 (.agg #[.int .i64 1, .int .i64 2, .int .i64 4, .int .i64 8, .int .i64 16, .int .i64 32, .int .i64 64]) (.int .i64 1)).run Tryz.prog w = .ok (.int .i64 2) w := by kernel_rfl
theorem ixb2 (w : World) : (Instr.index 105 (.agg #[.int .i64 1, .int .i64 2, .int .i64 4, .int .i64 8, .int .i64 16, .int .i64 32, .int .i64 64]) (.int .i64 2)).run Tryz.prog w = .ok (.int .i64 4) w := by kernel_rfl
theorem ixb3 (w : World) : (Instr.index 105 (.agg #[.int .i64 1, .int .i64 2, .int .i64 4, .int .i64 8, .int .i64 16, .int .i64 32, .int .i64 64]) (.int .i64 3)).run Tryz.prog w = .ok (.int .i64 8) w := by kernel_rfl
theorem ixb4 (w : World) : (Instr.index 105 (.agg #[.int .i64 1, .int .i64 2, .int .i64 4, .int .i64 8, .int .i64 16, .int .i64 32, .int .i64 64]) (.int .i64 4)).run Tryz.prog w = .ok (.int .i64 16) w := by kernel_rfl
theorem ixb5 (w : World) : (Instr.index 105 (.agg #[.int .i64 1, .int .i64 2, .int .i64 4, .int .i64 8, .int .i64 16, .int .i64 32, .int .i64 64]) (.int .i64 5)).run Tryz.prog w = .ok (.int .i64 32) w := by kernel_rfl
theorem ixb6 (w : World) : (Instr.index 105 (.agg #[.int .i64 1, .int .i64 2, .int .i64 4, .int .i64 8, .int .i64 16, .int .i64 32, .int .i64 64]) (.int .i64 6)).run Tryz.prog w = .ok (.int .i64 64) w := by kernel_rfl
set_option maxHeartbeats 4000000 in
set_option maxRecDepth 100000 in
theorem rwins_calls {w : World} {A : Option Addr} {c : Nat} {dr : List Int} (hC : (Kd.int .i64).C w A dr.length dr) (hd : OkDr dr) (s m : Int) :
    Calls Tryz.prog 42 #[.slice A dr.length c, .int .i64 s, .int .i64 m] w fun e w' => e = .returned (.bool (winsB dr s m)) ∧ Fr [] w w' := by
  refine calls_k fun R hR => ?_
  have hmx : dr.length ≤ 9223372036854775807 := hC.2.1
  by_cases h1 : s < 1
  · rw [wins_out (.inl h1)] at hR
    have g1 : decide (s < 1) = true := decide_eq_true h1
    clear hC hd
    go_enter Tryz.func42, Tryz.ntmps42
    go_wp2
    exact hR.out _ _ ⟨rfl, Fr.refl _ _⟩
  have g1 : decide (s < 1) = false := decide_eq_false h1
  by_cases h2 : (dr.length : Int) < s
  · rw [wins_out (.inr (.inl h2))] at hR
    have g2 : decide ((dr.length : Int) < s) = true := decide_eq_true h2
    clear hC hd
    go_enter Tryz.func42, Tryz.ntmps42
    go_wp2
    exact hR.out _ _ ⟨rfl, Fr.refl _ _⟩
  have g2 : decide ((dr.length : Int) < s) = false := decide_eq_false h2
  by_cases h3 : m < 0
  · rw [wins_out (.inr (.inr (.inl h3)))] at hR
    have g3 : decide (m < 0) = true := decide_eq_true h3
    clear hC hd
    go_enter Tryz.func42, Tryz.ntmps42
    go_wp2
    exact hR.out _ _ ⟨rfl, Fr.refl _ _⟩
  have g3 : decide (m < 0) = false := decide_eq_false h3
  by_cases h4 : 6 < m
  · rw [wins_out (.inr (.inr (.inr h4)))] at hR
    have g4 : decide (6 < m) = true := decide_eq_true h4
    clear hC hd
    go_enter Tryz.func42, Tryz.ntmps42
    go_wp2
    exact hR.out _ _ ⟨rfl, Fr.refl _ _⟩
  have g4 : decide (6 < m) = false := decide_eq_false h4
  obtain ⟨k, rfl⟩ : ∃ k : Nat, s = (k : Int) + 1 := ⟨(s - 1).toNat, by omega⟩
  obtain ⟨q, rfl⟩ : ∃ q : Nat, m = (q : Int) := ⟨m.toNat, by omega⟩
  have hk : k < dr.length := by omega
  have hq : q < 7 := by omega
  rw [wins_bit hd hk hq] at hR
  obtain ⟨ad, hA, hcell⟩ := int_at hC k hk
  subst hA
  have hmem : dr.getD k 0 ∈ dr := by rw [List.getD_eq_getElem?_getD, List.getElem?_eq_getElem hk]; exact List.getElem_mem _
  obtain ⟨hd0, hd1⟩ := hd _ hmem
  obtain ⟨d, hdd⟩ : ∃ d, dr.getD k 0 = d := ⟨_, rfl⟩
  rw [hdd] at hR hcell hd0 hd1
  have hsub : wrap64 ((k : Int) + 1 - 1) = (k : Int) := by rw [wr_in _ (by omega)]; omega
  have i0 : ∀ (j : Nat), j < 7 → ∀ w, (Instr.index 105 (.agg #[.int .i64 1, .int .i64 2, .int .i64 4, .int .i64 8, .int .i64 16, .int .i64 32, .int .i64 64]) (.int .i64 j)).run Tryz.prog w = .ok (.int .i64 ((2 ^ j : Nat) : Int)) w := by
    intro j hj w
    have hj' : j = 0 ∨ j = 1 ∨ j = 2 ∨ j = 3 ∨ j = 4 ∨ j = 5 ∨ j = 6 := by omega
    rcases hj' with rfl | rfl | rfl | rfl | rfl | rfl | rfl
    · exact ixb0 w
    · exact ixb1 w
    · exact ixb2 w
    · exact ixb3 w
    · exact ixb4 w
    · exact ixb5 w
    · exact ixb6 w
  have ix := fun w => i0 q hq w
  obtain ⟨bt, hbt⟩ : ∃ bt : Int, ((2 ^ q : Nat) : Int) = bt := ⟨_, rfl⟩
  rw [hbt] at hR
  rw [hbt] at ix
  have hb1 : 1 ≤ bt := by rw [← hbt]; have := Nat.one_le_two_pow (n := q); omega
  have hT : (d / bt).tmod 2 = d / bt % 2 := Int.tmod_eq_emod_of_nonneg (Int.ediv_nonneg hd0 (by omega))
  rw [← hT] at hR
  clear hC hd i0 hdd hmem hbt h1 h2 h3 h4 hsub hT
  go_enter Tryz.func42, Tryz.ntmps42
  go_wp2
  exact hR.out _ _ ⟨rfl, Fr.refl _ _⟩
theorem results_c {P : Program} {fn : Func} {p : Tmp} {ty : TypeId} (h : fn.results = #[.cell p ty]) (tmps : Array Value) (w : World) (g : Nat) (t : TypeId) (cs : Array Value) (fr : Nat × Nat) (d : TypeDesc)
    (hp : tmps.getD p undef = .pointer (some ⟨g, 0, none⟩)) (hg : w.heap[g]? = some (.cells cs t fr))
    (hu : P.underlying ty = some d) (hd : (match d with | .struct _ | .array _ _ => true | _ => false) = true) (hi : (P.info? ty).map (·.size) = some cs.size) :
    (results fn tmps).run P w = .ok (.agg cs) w := by
  have hp' : tmps[p]?.getD undef = .pointer (some ⟨g, 0, none⟩) := by simpa using hp
  simp [results, h, hp', asAddr, run_loadVar_row w g t ty cs fr d hg hu hd hi]
def RChIn (W : World) (g : Nat) (v0 v1 vd : Value) (deep slot : Int) : Prop := W.heap[g]? = some (.cells #[v0, v1, vd, .int .i64 deep, .int .i64 slot] 32 (0, 0))
theorem RChIn.fr {W W' : World} {g : Nat} {v0 v1 vd : Value} {deep slot : Int} (h : RChIn W g v0 v1 vd deep slot) (hF : Fr [] W W') : RChIn W' g v0 v1 vd deep slot := (hF.block g (Array.getElem?_eq_some_iff.1 h).1 (by simp)).trans h
theorem RChIn.lt {W : World} {g : Nat} {v0 v1 vd : Value} {deep slot : Int} (h : RChIn W g v0 v1 vd deep slot) : g < W.heap.size := (Array.getElem?_eq_some_iff.1 h).1
set_option maxHeartbeats 4000000 in
set_option maxRecDepth 100000 in
theorem rnext_calls {w : World} (A0 A1 Ad : Option Addr) (n0 c0 n1 c1 nd cd : Nat) (deep slot s : Int) (hlt : slot < s) :
    Calls Tryz.prog 10 #[.agg #[.slice A0 n0 c0, .slice A1 n1 c1, .slice Ad nd cd, .int .i64 deep, .int .i64 slot], .int .i64 s] w fun e w' => e = .returned (.agg #[.slice A0 n0 c0, .slice A1 n1 c1, .slice Ad nd cd, .int .i64 deep, .int .i64 s]) ∧ Fr [] w w' := by
  refine calls_k fun R hR => ?_
  have g1 : decide (slot < s) = true := decide_eq_true hlt
  clear hlt
  go_enter Tryz.func10, Tryz.ntmps10
  go_wp2
  obtain ⟨W1, hW1⟩ : ∃ W1, W1 = w.alloc (.cells #[.slice A0 n0 c0, .slice A1 n1 c1, .slice Ad nd cd, .int .i64 deep, .int .i64 s] 32) := ⟨_, rfl⟩
  have hs : W1.heap.size = w.heap.size + 1 := by rw [hW1]; simp
  have hF : Fr [] w W1 := by rw [hW1]; exact (Fr.refl _ _).alloc _
  have hb := heap_alloc_new W1 (.cells #[.slice A0 n0 c0, .slice A1 n1 c1, .slice Ad nd cd, .int .i64 deep, .int .i64 s] 32)
  rw [hs] at hb
  rw [← hW1]
  refine bodyPost_ret (results_c rfl _ _ (w.heap.size + 1) 32 _ (0, 0) _ rfl hb Tryz.underlying32 rfl (by kernel_rfl)) rfl ?_
  exact hR.out _ _ ⟨rfl, hF.alloc _⟩
end Go.Np.Tryz
end
section
set_option linter.unusedVariables false
set_option linter.unusedSimpArgs false
namespace Go.Np.Tryz
open Go.RowKit Go.Proofs Go.Proofs.YtlllhpnpgcphcaaGreat.PX Go.Proofs.YtlllhpnpgcphcaaGreatW.PrintWords
theorem rright_calls {w : World} (b : Blk) (A : Option Addr) (c : Nat) (h : Kd.C k67 w A b.f4.length b.f4) (hc : b.f4.length ≤ c) (hr : rng b) :
    Calls Tryz.prog 43 #[.agg #[.int .i64 b.f0, .int .i64 b.f1, .int .i64 b.f2, .int .i64 b.f3, .slice A b.f4.length c]] w fun e w' => e = .returned (.bool (rightB b)) ∧ Fr [] w w' :=
  (neaptideref07_Right.calls 70 b.f0 b.f1 b.f2 b.f3 A c b.f4 (rightB b) w h hc (rright_ev b hr 70 (by omega))).mono (fun e w' h => ⟨h.1, Fr.of_below [] h.2⟩)
def RTakeRes (P : Nat → Prop) (w : World) (C : Ch) (Ad : Option Addr) (cd : Nat) (b : Blk) (e : Ending) (w' : World) : Prop :=
  ∃ B0 d0 B1 d1 D d, e = .returned (.tuple #[.agg #[.slice B0 (C.take b).1.t.ks.length d0, .slice B1 (C.take b).1.t.wait.length d1, .slice Ad C.dr.length cd, .int .i64 C.deep, .int .i64 C.slot], .slice D (C.take b).2.1.length d, .int .i64 (C.take b).2.2]) ∧
    VB w' (fun k => P k ∨ w.heap.size ≤ k) (.slice B0 (C.take b).1.t.ks.length d0) (C.take b).1.t.ks ∧ VB w' (fun k => P k ∨ w.heap.size ≤ k) (.slice B1 (C.take b).1.t.wait.length d1) (C.take b).1.t.wait ∧ OwnI w.heap.size w' (.slice D (C.take b).2.1.length d) (C.take b).2.1 ∧ Fr [] w w'
theorem take_boxes (w : World) (a0 a1 a2 a3 a4 b0 b1 b2 b3 b4 : Value) :
    (((w.alloc (.cells #[a0, a1, a2, a3, a4] 32)).alloc (.cells #[b0, b1, b2, b3, b4] 35)).alloc (.cells #[.slice none 0 0, .slice none 0 0, .slice none 0 0, .int .i64 0, .int .i64 0] 32)).heap[w.heap.size]? = some (.cells #[a0, a1, a2, a3, a4] 32 (0, 0)) ∧
    (((w.alloc (.cells #[a0, a1, a2, a3, a4] 32)).alloc (.cells #[b0, b1, b2, b3, b4] 35)).alloc (.cells #[.slice none 0 0, .slice none 0 0, .slice none 0 0, .int .i64 0, .int .i64 0] 32)).heap[w.heap.size + 1]? = some (.cells #[b0, b1, b2, b3, b4] 35 (0, 0)) ∧
    (((w.alloc (.cells #[a0, a1, a2, a3, a4] 32)).alloc (.cells #[b0, b1, b2, b3, b4] 35)).alloc (.cells #[.slice none 0 0, .slice none 0 0, .slice none 0 0, .int .i64 0, .int .i64 0] 32)).heap[w.heap.size + 1 + 1]? = some (.cells #[.slice none 0 0, .slice none 0 0, .slice none 0 0, .int .i64 0, .int .i64 0] 32 (0, 0)) ∧
    Fr [] w (((w.alloc (.cells #[a0, a1, a2, a3, a4] 32)).alloc (.cells #[b0, b1, b2, b3, b4] 35)).alloc (.cells #[.slice none 0 0, .slice none 0 0, .slice none 0 0, .int .i64 0, .int .i64 0] 32)) := by
  generalize hA : w.alloc (.cells #[a0, a1, a2, a3, a4] 32) = A
  generalize hB : A.alloc (.cells #[b0, b1, b2, b3, b4] 35) = B
  generalize hC : B.alloc (.cells #[.slice none 0 0, .slice none 0 0, .slice none 0 0, .int .i64 0, .int .i64 0] 32) = C
  have hsA : A.heap.size = w.heap.size + 1 := by rw [← hA]; simp
  have hsB : B.heap.size = w.heap.size + 1 + 1 := by rw [← hB]; simp [hsA]
  have fA : Fr [] w A := by rw [← hA]; exact (Fr.refl _ _).alloc _
  have fB : Fr [] A B := by rw [← hB]; exact (Fr.refl _ _).alloc _
  have fC : Fr [] B C := by rw [← hC]; exact (Fr.refl _ _).alloc _
  have e1 := heap_alloc_new w (.cells #[a0, a1, a2, a3, a4] 32)
  have e2 := heap_alloc_new A (.cells #[b0, b1, b2, b3, b4] 35)
  have e3 := heap_alloc_new B (.cells #[.slice none 0 0, .slice none 0 0, .slice none 0 0, .int .i64 0, .int .i64 0] 32)
  rw [hA] at e1
  rw [hB, hsA] at e2
  rw [hC, hsB] at e3
  exact ⟨((fB.trans fC (by simp)).block _ (by omega) (by simp)).trans e1, (fC.block _ (by omega) (by simp)).trans e2, e3, (fA.trans fB (by simp)).trans fC (by simp)⟩
theorem Ch.take_no {C : Ch} {b : Blk} (h : ¬ (rightB b = true ∧ b.f0 ≤ C.slot ∧ winsB C.dr b.f0 b.f1 = true)) : C.take b = (C, [], 111) := by unfold Ch.take; rw [if_neg h]
set_option maxHeartbeats 4000000 in
set_option maxRecDepth 100000 in
theorem rtake_no {P : Nat → Prop} {w : World} {C : Ch} {A0 A1 Ad : Option Addr} {c0 c1 cd : Nat} (hD : OkDr C.dr) (h0 : VB w P (.slice A0 C.t.ks.length c0) C.t.ks) (h1 : VB w P (.slice A1 C.t.wait.length c1) C.t.wait) (hd : (Kd.int .i64).C w Ad C.dr.length C.dr) (q : BV) (hc : q.b.f4.length ≤ q.c) (hF : Kd.F k67 w P q.A q.b.f4.length q.b.f4) (hr : rng q.b) (hno : ¬ (rightB q.b = true ∧ q.b.f0 ≤ C.slot ∧ winsB C.dr q.b.f0 q.b.f1 = true)) :
    Calls Tryz.prog 16 #[.agg #[.slice A0 C.t.ks.length c0, .slice A1 C.t.wait.length c1, .slice Ad C.dr.length cd, .int .i64 C.deep, .int .i64 C.slot], .agg #[.int .i64 q.b.f0, .int .i64 q.b.f1, .int .i64 q.b.f2, .int .i64 q.b.f3, .slice q.A q.b.f4.length q.c]] w fun e w' => RTakeRes P w C Ad cd q.b e w' := by
  refine calls_k fun R hR => ?_
  unfold RTakeRes at hR
  rw [Ch.take_no hno] at hR
  have HRI : Hid (∀ W, Fr [] w W → Calls Tryz.prog 43 #[.agg #[.int .i64 q.b.f0, .int .i64 q.b.f1, .int .i64 q.b.f2, .int .i64 q.b.f3, .slice q.A q.b.f4.length q.c]] W fun e w' => e = .returned (.bool (rightB q.b)) ∧ Fr [] W w') := fun W hW => rright_calls q.b q.A q.c (Kd.C_below (Kd.F_now hF) hW.below) hc hr
  have HWI : Hid (∀ W, Fr [] w W → Calls Tryz.prog 42 #[.slice Ad C.dr.length cd, .int .i64 q.b.f0, .int .i64 q.b.f1] W fun e w' => e = .returned (.bool (winsB C.dr q.b.f0 q.b.f1)) ∧ Fr [] W w') := fun W hW => rwins_calls (Kd.C_below hd hW.below) hD _ _
  have H0 : Hid (∀ W, Fr [] w W → VB W (fun k => P k ∨ w.heap.size ≤ k) (.slice A0 C.t.ks.length c0) C.t.ks) := fun W hW => (h0.fr hW).weak (fun k hk => .inl hk)
  have H1 : Hid (∀ W, Fr [] w W → VB W (fun k => P k ∨ w.heap.size ≤ k) (.slice A1 C.t.wait.length c1) C.t.wait) := fun W hW => (h1.fr hW).weak (fun k hk => .inl hk)
  obtain ⟨b, A, c⟩ := q
  obtain ⟨f0, f1, f2, f3, f4⟩ := b
  dsimp only at *
  obtain ⟨x, hx⟩ : ∃ x, rightB ⟨f0, f1, f2, f3, f4⟩ = x := ⟨_, rfl⟩
  obtain ⟨y, hy⟩ : ∃ y, winsB C.dr f0 f1 = y := ⟨_, rfl⟩
  rw [hx] at HRI hno
  rw [hy] at HWI hno
  obtain ⟨nk, hnk⟩ : ∃ nk, C.t.ks.length = nk := ⟨_, rfl⟩
  obtain ⟨nw, hnw⟩ : ∃ nw, C.t.wait.length = nw := ⟨_, rfl⟩
  obtain ⟨nd, hnd⟩ : ∃ nd, C.dr.length = nd := ⟨_, rfl⟩
  obtain ⟨n4, hn4⟩ : ∃ n4, f4.length = n4 := ⟨_, rfl⟩
  rw [hnk, hnw, hnd] at hR
  rw [hnk] at H0
  rw [hnw] at H1
  rw [hnd] at HWI
  rw [hn4] at HRI
  rw [hnk, hnw, hnd, hn4]
  obtain ⟨dp, hdp⟩ : ∃ dp, C.deep = dp := ⟨_, rfl⟩
  obtain ⟨sl, hsl⟩ : ∃ sl, C.slot = sl := ⟨_, rfl⟩
  rw [hdp, hsl] at hR
  rw [hsl] at hno
  rw [hdp, hsl]
  obtain ⟨W1, hW1⟩ : ∃ W1, W1 = ((w.alloc (.cells #[.slice A0 nk c0, .slice A1 nw c1, .slice Ad nd cd, .int .i64 dp, .int .i64 sl] 32)).alloc (.cells #[.int .i64 f0, .int .i64 f1, .int .i64 f2, .int .i64 f3, .slice A n4 c] 35)).alloc (.cells #[.slice none 0 0, .slice none 0 0, .slice none 0 0, .int .i64 0, .int .i64 0] 32) := ⟨_, rfl⟩
  have HNO := Lib.hid hno
  clear hD h0 h1 hd hc hF hr hx hy hnk hnw hnd hn4 hdp hsl
  go_enter Tryz.func16, Tryz.ntmps16
  go_upto_region 1 with (fail)
  obtain ⟨g2, hg2⟩ : ∃ g, g = w.heap.size := ⟨_, rfl⟩
  obtain ⟨g3, hg3⟩ : ∃ g, g = w.heap.size + 1 := ⟨_, rfl⟩
  obtain ⟨g4, hg4⟩ : ∃ g, g = w.heap.size + 1 + 1 := ⟨_, rfl⟩
  obtain ⟨hbb2, hbb3, hbb4, hff1⟩ := take_boxes w (.slice A0 nk c0) (.slice A1 nw c1) (.slice Ad nd cd) (.int .i64 dp) (.int .i64 sl) (.int .i64 f0) (.int .i64 f1) (.int .i64 f2) (.int .i64 f3) (.slice A n4 c)
  rw [← hW1] at hbb2 hbb3 hbb4 hff1
  rw [← hg2] at hbb2
  rw [← hg3] at hbb3
  rw [← hg4] at hbb4
  have HF1 := Lib.hid hff1
  have HG4 : Hid (w.heap.size ≤ g4) := by show _ ≤ _; omega
  have HB2 : Hid (∀ W, Fr [] W1 W → W.heap[g2]? = some (.cells #[.slice A0 nk c0, .slice A1 nw c1, .slice Ad nd cd, .int .i64 dp, .int .i64 sl] 32 (0, 0))) := fun W hW => (hW.block g2 (Array.getElem?_eq_some_iff.1 hbb2).1 (by simp)).trans hbb2
  have HB3 : Hid (∀ W, Fr [] W1 W → W.heap[g3]? = some (.cells #[.int .i64 f0, .int .i64 f1, .int .i64 f2, .int .i64 f3, .slice A n4 c] 35 (0, 0))) := fun W hW => (hW.block g3 (Array.getElem?_eq_some_iff.1 hbb3).1 (by simp)).trans hbb3
  have HB4 : Hid (∀ W, Fr [] W1 W → W.heap[g4]? = some (.cells #[.slice none 0 0, .slice none 0 0, .slice none 0 0, .int .i64 0, .int .i64 0] 32 (0, 0))) := fun W hW => (hW.block g4 (Array.getElem?_eq_some_iff.1 hbb4).1 (by simp)).trans hbb4
  rw [← hW1, ← hg4, ← hg3, ← hg2]
  have HNE4 : Hid (g2 ≠ g4) := by show _ ≠ _; omega
  clear hW1 hg2 hg3 hg4 hbb2 hbb3 hbb4 hff1
  obtain ⟨a0, a1, a2, a3, a4, _, _, _, _, _⟩ := fvc (HB2.out _ (Fr.refl _ _))
  obtain ⟨b0, b1, b2, b3, b4, _, _, _, _, _⟩ := fvc (HB3.out _ (Fr.refl _ _))
  cases x with
  | false =>
    clear hno
    go_upto_region 2 with (first
      | (go_at_call 43; refine (HRI.out _ HF1.out).mono ?_; rintro e w2 ⟨rfl, hF2⟩
         have HF2 := Lib.hid hF2
         clear a0 a1 a2 a3 a4 b0 b1 b2 b3 b4
         obtain ⟨a0, a1, a2, a3, a4, _, _, _, _, _⟩ := fvc (HB2.out _ HF2.out)
         obtain ⟨b0, b1, b2, b3, b4, _, _, _, _, _⟩ := fvc (HB3.out _ HF2.out)
         clear hF2 HRI))
    obtain ⟨y0, y1, y2, y3, y4, z0, z1, z2, z3, z4⟩ := fvc (HB4.out _ HF2.out)
    go_wp2
    have hp := put5_heap (HB4.out _ HF2.out) (.slice A0 nk c0) (.slice A1 nw c1) (.slice Ad nd cd) (.int .i64 dp) (.int .i64 sl)
    have hfr := put5_fr (b := g4) (HF1.out.trans HF2.out (by simp)) (.inr HG4.out) (.slice A0 nk c0) (.slice A1 nw c1) (.slice Ad nd cd) (.int .i64 dp) (.int .i64 sl)
    have hv := H0.out _ hfr
    have hv1 := H1.out _ hfr
    unfold put5 at hp hfr hv hv1
    refine bodyPost_ret (results_ctt rfl _ _ g4 32 _ (0, 0) _ rfl hp Tryz.underlying32 rfl (by kernel_rfl)) rfl ?_
    exact hR.out _ _ ⟨_, _, _, _, none, 0, rfl, hv, hv1, OwnI.nil _ _, hfr⟩
  | true =>
    by_cases hlt : sl < f0
    · have hb1 : decide (sl < f0) = true := decide_eq_true hlt
      clear hno
      go_upto_region 2 with (first
        | (go_at_call 43; refine (HRI.out _ HF1.out).mono ?_; rintro e w2 ⟨rfl, hF2⟩
           have HF2 := Lib.hid hF2
           clear a0 a1 a2 a3 a4 b0 b1 b2 b3 b4
           obtain ⟨a0, a1, a2, a3, a4, _, _, _, _, _⟩ := fvc (HB2.out _ HF2.out)
           obtain ⟨b0, b1, b2, b3, b4, _, _, _, _, _⟩ := fvc (HB3.out _ HF2.out)
           clear hF2 HRI))
      obtain ⟨y0, y1, y2, y3, y4, z0, z1, z2, z3, z4⟩ := fvc (HB4.out _ HF2.out)
      go_wp2
      have hp := put5_heap (HB4.out _ HF2.out) (.slice A0 nk c0) (.slice A1 nw c1) (.slice Ad nd cd) (.int .i64 dp) (.int .i64 sl)
      have hfr := put5_fr (b := g4) (HF1.out.trans HF2.out (by simp)) (.inr HG4.out) (.slice A0 nk c0) (.slice A1 nw c1) (.slice Ad nd cd) (.int .i64 dp) (.int .i64 sl)
      have hv := H0.out _ hfr
      have hv1 := H1.out _ hfr
      unfold put5 at hp hfr hv hv1
      refine bodyPost_ret (results_ctt rfl _ _ g4 32 _ (0, 0) _ rfl hp Tryz.underlying32 rfl (by kernel_rfl)) rfl ?_
      exact hR.out _ _ ⟨_, _, _, _, none, 0, rfl, hv, hv1, OwnI.nil _ _, hfr⟩
    · have hb1 : decide (sl < f0) = false := decide_eq_false hlt
      obtain rfl : y = false := by
        cases y with
        | false => rfl
        | true => exact absurd ⟨rfl, by omega, rfl⟩ hno
      clear hno
      go_upto_region 2 with (first
        | (go_at_call 43; refine (HRI.out _ HF1.out).mono ?_; rintro e w2 ⟨rfl, hF2⟩
           have HF2 := Lib.hid hF2
           clear a0 a1 a2 a3 a4 b0 b1 b2 b3 b4
           obtain ⟨a0, a1, a2, a3, a4, _, _, _, _, _⟩ := fvc (HB2.out _ HF2.out)
           obtain ⟨b0, b1, b2, b3, b4, _, _, _, _, _⟩ := fvc (HB3.out _ HF2.out)
           clear hF2 HRI)
        | (go_at_call 42; refine (HWI.out _ (HF1.out.trans HF2.out (by simp))).mono ?_; rintro e w3 ⟨rfl, hF3⟩
           have HF3 := Lib.hid (HF2.out.trans hF3 (by simp))
           clear a0 a1 a2 a3 a4 b0 b1 b2 b3 b4
           obtain ⟨a0, a1, a2, a3, a4, _, _, _, _, _⟩ := fvc (HB2.out _ HF3.out)
           obtain ⟨b0, b1, b2, b3, b4, _, _, _, _, _⟩ := fvc (HB3.out _ HF3.out)
           clear hF3 HWI))
      obtain ⟨y0, y1, y2, y3, y4, z0, z1, z2, z3, z4⟩ := fvc (HB4.out _ HF3.out)
      go_wp2
      have hp := put5_heap (HB4.out _ HF3.out) (.slice A0 nk c0) (.slice A1 nw c1) (.slice Ad nd cd) (.int .i64 dp) (.int .i64 sl)
      have hfr := put5_fr (b := g4) (HF1.out.trans HF3.out (by simp)) (.inr HG4.out) (.slice A0 nk c0) (.slice A1 nw c1) (.slice Ad nd cd) (.int .i64 dp) (.int .i64 sl)
      have hv := H0.out _ hfr
      have hv1 := H1.out _ hfr
      unfold put5 at hp hfr hv hv1
      refine bodyPost_ret (results_ctt rfl _ _ g4 32 _ (0, 0) _ rfl hp Tryz.underlying32 rfl (by kernel_rfl)) rfl ?_
      exact hR.out _ _ ⟨_, _, _, _, none, 0, rfl, hv, hv1, OwnI.nil _ _, hfr⟩
end Go.Np.Tryz
end
section
set_option linter.unusedVariables false
set_option linter.unusedSimpArgs false
namespace Go.Np.Tryz
open Go.RowKit Go.Proofs Go.Proofs.YtlllhpnpgcphcaaGreat.PX Go.Proofs.YtlllhpnpgcphcaaGreatW.PrintWords
theorem five_two {w : World} {b : Nat} {x0 x1 x2 x3 x4 : Value} {t : TypeId} (h : w.heap[b]? = some (.cells #[x0, x1, x2, x3, x4] t (0, 0))) (u0 u1 : Value) :
    ((w.setCell ⟨b, 0, none⟩ u0).setCell ⟨b, 1, none⟩ u1).heap[b]? = some (.cells #[u0, u1, x2, x3, x4] t (0, 0)) := by
  have h1 := obj_set (obj_set h 0 u0) 1 u1
  simpa using h1
set_option maxHeartbeats 8000000 in
set_option maxRecDepth 100000 in
theorem rtake_yes {P : Nat → Prop} {w : World} {C : Ch} {A0 A1 Ad : Option Addr} {c0 c1 cd : Nat} (hG : C.t.Good) (hRg : C.t.Rng) (hD : OkDr C.dr) (h0 : VB w P (.slice A0 C.t.ks.length c0) C.t.ks) (h1 : VB w P (.slice A1 C.t.wait.length c1) C.t.wait) (hd : (Kd.int .i64).C w Ad C.dr.length C.dr) (q : BV) (hc : q.b.f4.length ≤ q.c) (hF : Kd.F k67 w P q.A q.b.f4.length q.b.f4) (hr : rng q.b) (hyes : rightB q.b = true ∧ q.b.f0 ≤ C.slot ∧ winsB C.dr q.b.f0 q.b.f1 = true) :
    Calls Tryz.prog 16 #[.agg #[.slice A0 C.t.ks.length c0, .slice A1 C.t.wait.length c1, .slice Ad C.dr.length cd, .int .i64 C.deep, .int .i64 C.slot], .agg #[.int .i64 q.b.f0, .int .i64 q.b.f1, .int .i64 q.b.f2, .int .i64 q.b.f3, .slice q.A q.b.f4.length q.c]] w fun e w' => RTakeRes P w C Ad cd q.b e w' := by
  refine calls_k fun R hR => ?_
  unfold RTakeRes at hR
  have htk : C.take q.b = (⟨(C.t.add q.b).1, C.dr, C.deep, C.slot⟩, (C.t.add q.b).2.1, if (C.t.add q.b).2.2 = true then 0 else 111) := by unfold Ch.take; rw [if_pos hyes]
  rw [htk] at hR
  have HRI : Hid (∀ W, Fr [] w W → Calls Tryz.prog 43 #[.agg #[.int .i64 q.b.f0, .int .i64 q.b.f1, .int .i64 q.b.f2, .int .i64 q.b.f3, .slice q.A q.b.f4.length q.c]] W fun e w' => e = .returned (.bool true) ∧ Fr [] W w') := fun W hW => by
    have h := rright_calls q.b q.A q.c (Kd.C_below (Kd.F_now hF) hW.below) hc hr
    rw [hyes.1] at h; exact h
  have HWI : Hid (∀ W, Fr [] w W → Calls Tryz.prog 42 #[.slice Ad C.dr.length cd, .int .i64 q.b.f0, .int .i64 q.b.f1] W fun e w' => e = .returned (.bool true) ∧ Fr [] W w') := fun W hW => by
    have h := rwins_calls (c := cd) (Kd.C_below hd hW.below) hD q.b.f0 q.b.f1
    rw [hyes.2.2] at h; exact h
  have HAD : Hid (∀ W, Fr [] w W → Calls Tryz.prog 47 #[.agg #[.slice A0 C.t.ks.length c0, .slice A1 C.t.wait.length c1], .agg #[.int .i64 q.b.f0, .int .i64 q.b.f1, .int .i64 q.b.f2, .int .i64 q.b.f3, .slice q.A q.b.f4.length q.c]] W fun e w' =>
      ∃ B0 d0 B1 d1 D d, e = .returned (.tuple #[.agg #[.slice B0 (C.t.add q.b).1.ks.length d0, .slice B1 (C.t.add q.b).1.wait.length d1], .slice D (C.t.add q.b).2.1.length d, .bool (C.t.add q.b).2.2]) ∧
        VB w' (fun k => (P k ∧ k < w.heap.size) ∨ W.heap.size ≤ k) (.slice B0 (C.t.add q.b).1.ks.length d0) (C.t.add q.b).1.ks ∧ VB w' (fun k => (P k ∧ k < w.heap.size) ∨ W.heap.size ≤ k) (.slice B1 (C.t.add q.b).1.wait.length d1) (C.t.add q.b).1.wait ∧ OwnI W.heap.size w' (.slice D (C.t.add q.b).2.1.length d) (C.t.add q.b).2.1 ∧ Fr [] W w') := fun W hW => by
    have h := radd_calls' (c0 := c0) (c1 := c1) hG hRg (h0.bound.fr hW) (h1.bound.fr hW) q hc (Kd.F_below (Kd.F_bound hF) hW.below) hr
    refine h.mono ?_
    rintro e w' ⟨B0, d0, B1, d1, D, d, rfl, g0, g1, g2, g3⟩
    exact ⟨B0, d0, B1, d1, D, d, rfl, g0, g1, g2, g3⟩
  have H0 : Hid (∀ W, Fr [] w W → VB W (fun k => P k ∨ w.heap.size ≤ k) (.slice A0 C.t.ks.length c0) C.t.ks) := fun W hW => (h0.fr hW).weak (fun k hk => .inl hk)
  have H1 : Hid (∀ W, Fr [] w W → VB W (fun k => P k ∨ w.heap.size ≤ k) (.slice A1 C.t.wait.length c1) C.t.wait) := fun W hW => (h1.fr hW).weak (fun k hk => .inl hk)
  have hadd : (C.t.add q.b).2.2 = false → C.t.add q.b = (C.t, [], false) := Tr.add_no
  obtain ⟨T, hT⟩ : ∃ T, (C.t.add q.b).1 = T := ⟨_, rfl⟩
  obtain ⟨L, hL⟩ : ∃ L, (C.t.add q.b).2.1 = L := ⟨_, rfl⟩
  obtain ⟨ok, hok⟩ : ∃ ok, (C.t.add q.b).2.2 = ok := ⟨_, rfl⟩
  have hno : ok = false → T = C.t ∧ L = [] := fun h => by
    rw [h] at hok
    have := hadd hok
    rw [this] at hT hL
    exact ⟨hT.symm, hL.symm⟩
  rw [hT, hL, hok] at hR HAD
  have hlt0 : q.b.f0 ≤ C.slot := hyes.2.1
  obtain ⟨b, A, c⟩ := q
  obtain ⟨f0, f1, f2, f3, f4⟩ := b
  dsimp only at *
  obtain ⟨nk, hnk⟩ : ∃ nk, C.t.ks.length = nk := ⟨_, rfl⟩
  obtain ⟨nw, hnw⟩ : ∃ nw, C.t.wait.length = nw := ⟨_, rfl⟩
  obtain ⟨nd, hnd⟩ : ∃ nd, C.dr.length = nd := ⟨_, rfl⟩
  obtain ⟨n4, hn4⟩ : ∃ n4, f4.length = n4 := ⟨_, rfl⟩
  obtain ⟨mk, hmk⟩ : ∃ mk, T.ks.length = mk := ⟨_, rfl⟩
  obtain ⟨mw, hmw⟩ : ∃ mw, T.wait.length = mw := ⟨_, rfl⟩
  obtain ⟨nl, hnl⟩ : ∃ nl, L.length = nl := ⟨_, rfl⟩
  rw [hnd, hmk, hmw, hnl] at hR
  rw [hnk] at H0
  rw [hnw] at H1
  rw [hnd] at HWI
  rw [hn4] at HRI
  rw [hnk, hnw, hn4, hmk, hmw, hnl] at HAD
  rw [hnk, hnw, hnd, hn4]
  obtain ⟨dp, hdp⟩ : ∃ dp, C.deep = dp := ⟨_, rfl⟩
  obtain ⟨sl, hsl⟩ : ∃ sl, C.slot = sl := ⟨_, rfl⟩
  rw [hdp, hsl] at hR
  rw [hsl] at hlt0
  rw [hdp, hsl]
  have HNO : Hid (ok = false → T = C.t ∧ mk = nk ∧ mw = nw ∧ L = [] ∧ nl = 0) := fun h => by
    obtain ⟨h1, h2⟩ := hno h
    exact ⟨h1, by rw [← hmk, h1, hnk], by rw [← hmw, h1, hnw], h2, by rw [← hnl, h2]; rfl⟩
  have hb1 : decide (sl < f0) = false := decide_eq_false (by omega)
  obtain ⟨W1, hW1⟩ : ∃ W1, W1 = ((w.alloc (.cells #[.slice A0 nk c0, .slice A1 nw c1, .slice Ad nd cd, .int .i64 dp, .int .i64 sl] 32)).alloc (.cells #[.int .i64 f0, .int .i64 f1, .int .i64 f2, .int .i64 f3, .slice A n4 c] 35)).alloc (.cells #[.slice none 0 0, .slice none 0 0, .slice none 0 0, .int .i64 0, .int .i64 0] 32) := ⟨_, rfl⟩
  clear hG hRg hD h0 h1 hd hc hF hr hyes htk hadd hno hT hL hok hnk hnw hnd hn4 hdp hsl hmk hmw hnl hlt0
  go_enter Tryz.func16, Tryz.ntmps16
  go_upto_region 1 with (fail)
  obtain ⟨g2, hg2⟩ : ∃ g, g = w.heap.size := ⟨_, rfl⟩
  obtain ⟨g3, hg3⟩ : ∃ g, g = w.heap.size + 1 := ⟨_, rfl⟩
  obtain ⟨g4, hg4⟩ : ∃ g, g = w.heap.size + 1 + 1 := ⟨_, rfl⟩
  obtain ⟨hbb2, hbb3, hbb4, hff1⟩ := take_boxes w (.slice A0 nk c0) (.slice A1 nw c1) (.slice Ad nd cd) (.int .i64 dp) (.int .i64 sl) (.int .i64 f0) (.int .i64 f1) (.int .i64 f2) (.int .i64 f3) (.slice A n4 c)
  rw [← hW1] at hbb2 hbb3 hbb4 hff1
  rw [← hg2] at hbb2
  rw [← hg3] at hbb3
  rw [← hg4] at hbb4
  have HF1 := Lib.hid hff1
  have HG4 : Hid (w.heap.size ≤ g4) := by show _ ≤ _; omega
  have HB2 : Hid (∀ W, Fr [] W1 W → W.heap[g2]? = some (.cells #[.slice A0 nk c0, .slice A1 nw c1, .slice Ad nd cd, .int .i64 dp, .int .i64 sl] 32 (0, 0))) := fun W hW => (hW.block g2 (Array.getElem?_eq_some_iff.1 hbb2).1 (by simp)).trans hbb2
  have HB3 : Hid (∀ W, Fr [] W1 W → W.heap[g3]? = some (.cells #[.int .i64 f0, .int .i64 f1, .int .i64 f2, .int .i64 f3, .slice A n4 c] 35 (0, 0))) := fun W hW => (hW.block g3 (Array.getElem?_eq_some_iff.1 hbb3).1 (by simp)).trans hbb3
  have HB4 : Hid (∀ W, Fr [] W1 W → W.heap[g4]? = some (.cells #[.slice none 0 0, .slice none 0 0, .slice none 0 0, .int .i64 0, .int .i64 0] 32 (0, 0))) := fun W hW => (hW.block g4 (Array.getElem?_eq_some_iff.1 hbb4).1 (by simp)).trans hbb4
  rw [← hW1, ← hg4, ← hg3, ← hg2]
  have HE2 : Hid (w.heap.size ≤ g2 ∧ g2 < W1.heap.size) := ⟨by omega, (Array.getElem?_eq_some_iff.1 hbb2).1⟩
  have HE4 : Hid (w.heap.size ≤ g4 ∧ g4 < W1.heap.size) := ⟨by omega, (Array.getElem?_eq_some_iff.1 hbb4).1⟩
  have HNE4 : Hid (g2 ≠ g4) := by show _ ≠ _; omega
  clear hW1 hg2 hg3 hg4 hbb2 hbb3 hbb4 hff1
  obtain ⟨a0, a1, a2, a3, a4, _, _, _, _, _⟩ := fvc (HB2.out _ (Fr.refl _ _))
  obtain ⟨b0, b1, b2, b3, b4, _, _, _, _, _⟩ := fvc (HB3.out _ (Fr.refl _ _))
  go_upto_region 3 with (first
    | (go_at_call 43; refine (HRI.out _ HF1.out).mono ?_; rintro e w2 ⟨rfl, hF2⟩
       have HF2 := Lib.hid hF2
       clear a0 a1 a2 a3 a4 b0 b1 b2 b3 b4
       obtain ⟨a0, a1, a2, a3, a4, _, _, _, _, _⟩ := fvc (HB2.out _ HF2.out)
       obtain ⟨b0, b1, b2, b3, b4, _, _, _, _, _⟩ := fvc (HB3.out _ HF2.out)
       clear hF2 HRI)
    | (go_at_call 42; refine (HWI.out _ (HF1.out.trans HF2.out (by simp))).mono ?_; rintro e w3 ⟨rfl, hF3⟩
       have HF3 := Lib.hid (HF2.out.trans hF3 (by simp))
       clear a0 a1 a2 a3 a4 b0 b1 b2 b3 b4
       obtain ⟨a0, a1, a2, a3, a4, _, _, _, _, _⟩ := fvc (HB2.out _ HF3.out)
       obtain ⟨b0, b1, b2, b3, b4, _, _, _, _, _⟩ := fvc (HB3.out _ HF3.out)
       clear hF3 HWI))
  go_upto_region 4 with (first
    | (go_at_call 47; refine (HAD.out _ (HF1.out.trans HF3.out (by simp))).mono ?_; rintro e w4 ⟨B0, d0, B1, d1, D, d, rfl, g0, g1, gs, hF4⟩
       have hs3 := HF3.out.size
       have HFZ : Hid (∀ Wx, Fr [g2, g4] w4 Wx → VB Wx (fun k => P k ∨ w.heap.size ≤ k) (.slice B0 mk d0) T.ks ∧ VB Wx (fun k => P k ∨ w.heap.size ≤ k) (.slice B1 mw d1) T.wait ∧ OwnI w.heap.size Wx (.slice D nl d) L) := by
         intro Wx hx
         have hk : ∀ k, (P k ∧ k < w.heap.size) ∨ w3.heap.size ≤ k → k < w4.heap.size → Wx.heap[k]? = w4.heap[k]? := fun k hk hl => hx.block k hl (by
           intro hm
           have e2 := HE2.out
           have e4 := HE4.out
           simp at hm
           rcases hk with hk | hk <;> rcases hm with rfl | rfl <;> omega)
         have hw : ∀ k, (P k ∧ k < w.heap.size) ∨ w3.heap.size ≤ k → P k ∨ w.heap.size ≤ k := fun k hk => by
           have e5 := HF1.out.size
           rcases hk with hk | hk
           · exact .inl hk.1
           · exact .inr (by omega)
         have hgs0 := (gs.fr hx (fun k hk hm => by
           have e2 := HE2.out
           have e4 := HE4.out
           have e3 := gs.2 k hk
           simp at hm
           rcases hm with rfl | rfl <;> omega))
         have hgs : OwnI w.heap.size Wx (.slice D nl d) L := ⟨hgs0.1, fun k hk => by have h1 := hgs0.2 k hk; have h2 := HF1.out.size; omega⟩
         exact ⟨VB.weak (Kd.V_step g0 hk) hw, VB.weak (Kd.V_step g1 hk) hw, hgs⟩
       have HF4 := Lib.hid (HF3.out.trans hF4 (by simp))
       clear a0 a1 a2 a3 a4 b0 b1 b2 b3 b4
       clear hF4 HAD g0 g1 gs hs3))
  obtain ⟨W5, hW5⟩ : ∃ W5, W5 = w4.alloc (.cells #[.slice B0 mk d0, .slice B1 mw d1] 30) := ⟨_, rfl⟩
  obtain ⟨g7, hg7⟩ : ∃ g, g = w4.heap.size := ⟨_, rfl⟩
  have hF5 : Fr [] w4 W5 := by rw [hW5]; exact (Fr.refl _ _).alloc _
  have HF45 := Lib.hid hF5
  have HF5 := Lib.hid (HF4.out.trans hF5 (by simp))
  have hb7 := heap_alloc_new w4 (.cells #[.slice B0 mk d0, .slice B1 mw d1] 30)
  rw [← hW5, ← hg7] at hb7
  rw [← hW5, ← hg7]
  have HB7 : Hid (TreeIn W5 g7 (.slice B0 mk d0) (.slice B1 mw d1)) := hb7
  clear hW5 hg7 hF5 hb7
  cases ok with
  | false =>
    obtain ⟨rfl, rfl, rfl, rfl, rfl⟩ := HNO.out rfl
    obtain ⟨a0, a1, a2, a3, a4, _, _, _, _, _⟩ := fvc (HB2.out _ HF5.out)
    obtain ⟨y0, y1, y2, y3, y4, z0, z1, z2, z3, z4⟩ := fvc (HB4.out _ HF5.out)
    go_wp2
    have hp := put5_heap (HB4.out _ HF5.out) (.slice A0 mk c0) (.slice A1 mw c1) (.slice Ad nd cd) (.int .i64 dp) (.int .i64 sl)
    have hfr := put5_fr (b := g4) (HF1.out.trans HF5.out (by simp)) (.inr HG4.out) (.slice A0 mk c0) (.slice A1 mw c1) (.slice Ad nd cd) (.int .i64 dp) (.int .i64 sl)
    have hv := H0.out _ hfr
    have hv1 := H1.out _ hfr
    unfold put5 at hp hfr hv hv1
    refine bodyPost_ret (results_ctt rfl _ _ g4 32 _ (0, 0) _ rfl hp Tryz.underlying32 rfl (by kernel_rfl)) rfl ?_
    exact hR.out _ _ ⟨_, _, _, _, none, 0, rfl, hv, hv1, OwnI.nil _ _, hfr⟩
  | true =>
    obtain ⟨t0, t1, _, _⟩ := HB7.out.cells
    obtain ⟨a0, a1, a2, a3, a4, f0, f1, f2, f3, f4⟩ := fvc (HB2.out _ HF5.out)
    go_upto_region 7 with (fail)
    obtain ⟨W6, hW6⟩ : ∃ W6, W6 = (W5.setCell ⟨g2, 0, none⟩ (.slice B0 mk d0)).setCell ⟨g2, 1, none⟩ (.slice B1 mw d1) := ⟨_, rfl⟩
    rw [← hW6]
    have hb6 := five_two (HB2.out _ HF5.out) (.slice B0 mk d0) (.slice B1 mw d1)
    rw [← hW6] at hb6
    have hF6 : Fr [g2] W5 W6 := by rw [hW6]; exact ((Fr.refl _ _).setCell (.inl (by simp)) _).setCell (.inl (by simp)) _
    have hb4 : W6.heap[g4]? = some (.cells #[.slice none 0 0, .slice none 0 0, .slice none 0 0, .int .i64 0, .int .i64 0] 32 (0, 0)) := (hF6.block g4 (Array.getElem?_eq_some_iff.1 (HB4.out _ HF5.out)).1 (by simp; exact fun e => HNE4.out e.symm)).trans (HB4.out _ HF5.out)
    have HB46 := Lib.hid hb4
    have HF6 := Lib.hid hF6
    have HB26 := Lib.hid hb6
    clear hW6 hb6 hF6 hb4 a0 a1 a2 a3 a4 f0 f1 f2 f3 f4 t0 t1
    obtain ⟨a0, a1, a2, a3, a4, _, _, _, _, _⟩ := fvc HB26.out
    obtain ⟨y0, y1, y2, y3, y4, z0, z1, z2, z3, z4⟩ := fvc HB46.out
    go_wp2
    have hp := put5_heap HB46.out (.slice B0 mk d0) (.slice B1 mw d1) (.slice Ad nd cd) (.int .i64 dp) (.int .i64 sl)
    have hfr6 : Fr [] w W6 := (HF1.out.trans HF5.out (by simp)).trans HF6.out (fun k hk => .inr (by simp at hk; subst hk; exact HE2.out.1))
    have hfr := put5_fr (b := g4) hfr6 (.inr HG4.out) (.slice B0 mk d0) (.slice B1 mw d1) (.slice Ad nd cd) (.int .i64 dp) (.int .i64 sl)
    have h46 : Fr [g2, g4] w4 W6 := (HF45.out.mono (by simp)).trans HF6.out (fun k hk => .inl (by simp at hk; simp [hk]))
    have hfr4 := put5_fr (b := g4) h46 (.inl (by simp)) (.slice B0 mk d0) (.slice B1 mw d1) (.slice Ad nd cd) (.int .i64 dp) (.int .i64 sl)
    obtain ⟨hv, hv1, hsl⟩ := HFZ.out _ hfr4
    unfold put5 at hp hfr hv hv1 hsl
    refine bodyPost_ret (results_ctt rfl _ _ g4 32 _ (0, 0) _ rfl hp Tryz.underlying32 rfl (by kernel_rfl)) rfl ?_
    exact hR.out _ _ ⟨_, _, _, _, D, d, rfl, hv, hv1, hsl, hfr⟩
theorem rtake_calls {P : Nat → Prop} {w : World} {C : Ch} {A0 A1 Ad : Option Addr} {c0 c1 cd : Nat} (hG : C.t.Good) (hRg : C.t.Rng) (hD : OkDr C.dr) (h0 : VB w P (.slice A0 C.t.ks.length c0) C.t.ks) (h1 : VB w P (.slice A1 C.t.wait.length c1) C.t.wait) (hd : (Kd.int .i64).C w Ad C.dr.length C.dr) (q : BV) (hc : q.b.f4.length ≤ q.c) (hF : Kd.F k67 w P q.A q.b.f4.length q.b.f4) (hr : rng q.b) :
    Calls Tryz.prog 16 #[.agg #[.slice A0 C.t.ks.length c0, .slice A1 C.t.wait.length c1, .slice Ad C.dr.length cd, .int .i64 C.deep, .int .i64 C.slot], .agg #[.int .i64 q.b.f0, .int .i64 q.b.f1, .int .i64 q.b.f2, .int .i64 q.b.f3, .slice q.A q.b.f4.length q.c]] w fun e w' => RTakeRes P w C Ad cd q.b e w' := by
  by_cases h : rightB q.b = true ∧ q.b.f0 ≤ C.slot ∧ winsB C.dr q.b.f0 q.b.f1 = true
  · exact rtake_yes hG hRg hD h0 h1 hd q hc hF hr h
  · exact rtake_no hD h0 h1 hd q hc hF hr h
end Go.Np.Tryz
end
