/- slices.Clone of transactions and of blocks; block.Copy. -/
import Derived.Test.YtdfoalbkfdnmcaaTreeB
import Derived.Lib.SliceRun
set_option linter.unusedVariables false
set_option linter.unusedSimpArgs false
namespace Go.Np
open Go.RowKit
theorem lt_cell {w : World} {a : Addr} {v : Value} (h : w.cell? a = some v) : a.block < w.heap.size := by
  unfold World.cell? at h
  cases hb : w.heap[a.block]? with
  | none => rw [hb] at h; cases h
  | some o => exact (Array.getElem?_eq_some_iff.1 hb).1
theorem cellF {w w' : World} (hF : Fr [] w w') {a : Addr} {v : Value} (h : w.cell? a = some v) : w'.cell? a = some v := (hF.cell (lt_cell h) (by simp)).trans h
theorem results_ct {P : Program} {fn : Func} {p u : Tmp} {ty : TypeId} (h : fn.results = #[.cell p ty, .tmp u]) (tmps : Array Value) (w : World) (g : Nat) (t : TypeId) (cs : Array Value) (fr : Nat × Nat) (d : TypeDesc)
    (hp : tmps.getD p undef = .pointer (some ⟨g, 0, none⟩)) (hg : w.heap[g]? = some (.cells cs t fr))
    (hu : P.underlying ty = some d) (hd : (match d with | .struct _ | .array _ _ => true | _ => false) = true) (hi : (P.info? ty).map (·.size) = some cs.size) :
    (results fn tmps).run P w = .ok (.tuple #[.agg cs, tmps.getD u undef]) w := by
  have hp' : tmps[p]?.getD undef = .pointer (some ⟨g, 0, none⟩) := by simpa using hp
  simp [results, h, hp', asAddr, run_loadVar_row w g t ty cs fr d hg hu hd hi]
theorem five_put {w : World} {b : Nat} {x0 x1 x2 x3 x4 : Value} {t : TypeId} (h : w.heap[b]? = some (.cells #[x0, x1, x2, x3, x4] t (0, 0))) (u0 u1 u2 u3 u4 : Value) :
    (((((w.setCell ⟨b, 0, none⟩ u0).setCell ⟨b, 1, none⟩ u1).setCell ⟨b, 2, none⟩ u2).setCell ⟨b, 3, none⟩ u3).setCell ⟨b, 4, none⟩ u4).heap[b]? = some (.cells #[u0, u1, u2, u3, u4] t (0, 0)) := by
  have h1 := obj_set h 0 u0
  have h2 := obj_set h1 1 u1
  have h3 := obj_set h2 2 u2
  have h4 := obj_set h3 3 u3
  have h5 := obj_set h4 4 u4
  simpa using h5
end Go.Np
namespace Go.Np.Try
open Go.RowKit Go.Proofs Go.Proofs.Ytdfoalbkfdnmcaa.PX Go.Proofs.YtdfoalbkfdnmcaaW.PrintWords
set_option maxHeartbeats 2000000 in
set_option maxRecDepth 100000 in
theorem clone_tx {w : World} (q : BV) (h : k59.C w q.A q.b.f4.length q.b.f4) (hl : q.b.f4.length ≤ 1099511627776) :
    Calls Try.prog 51 #[.slice q.A q.b.f4.length q.c] w fun e w' => ∃ A' c', e = .returned (.slice A' q.b.f4.length c') ∧ w'.ownsRow 0 59 2 (.slice A' q.b.f4.length c') q.b.f4.length (flatT q.b.f4) ∧
      (∀ k ∈ (Value.slice A' q.b.f4.length c').ownBlock.toList, w.heap.size ≤ k) ∧ Fr [] w w' := by
  obtain ⟨⟨f0, f1, f2, f3, l⟩, A, c⟩ := q
  simp only at h hl ⊢
  refine calls_k fun R hR => ?_
  cases A with
  | none =>
    have hl0 : l = [] := by
      cases l with
      | nil => rfl
      | cons x l => obtain ⟨ad, e, _⟩ := h.2.2 (by simp); cases e
    subst hl0
    clear h hl
    have hq : ∀ (w : World) (a : Option Addr) (n c n' c' : Nat), (binOp .eql 26 (.slice a n c) (.slice none n' c')).run Try.prog w = .ok (.bool a.isNone) w := fun w a n c n' c' => Lib.run_eql_slice_nil w _ _ a n c n' c' Try.underlying26
    go_enter Try.func51, Try.ntmps51
    go_wp2
    exact hR.out _ _ ⟨none, 0, rfl, World.ownsRow_nil _ _ _ _, by simp [Value.ownBlock], Fr.refl _ _⟩
  | some ad =>
    have HC := Lib.hid (flatT_cells (Kd.C_below h (((Fr.refl [] w).alloc (.cells #[] 59)).below)))
    have hown5 : (w.alloc (.cells #[] 59)).ownsRow 0 59 2 (.slice (some ⟨w.heap.size, 0, none⟩) 0 0) 0 [] := World.ownsRow_made w #[] 0 (Nat.zero_le _) (by unfold maxLen; omega) rfl
    have HO5 := Lib.hid hown5
    have hb1 : 0 + l.length ≤ maxLen := by unfold maxLen; omega
    have hb2 : (0 + l.length) * 16 ≤ 140737488355328 := by omega
    clear h hown5 hl
    have hq : ∀ (w : World) (a : Option Addr) (n c n' c' : Nat), (binOp .eql 26 (.slice a n c) (.slice none n' c')).run Try.prog w = .ok (.bool a.isNone) w := fun w a n c n' c' => Lib.run_eql_slice_nil w _ _ a n c n' c' Try.underlying26
    go_enter Try.func51, Try.ntmps51
    go_wp2_with (at_builtin; refine wp_appendS rfl _ _ 26 59 rfl Try.underlying26 info59 rfl (by decide) HO5.out rfl ad l.length c (flatT l) rfl (flatT_len l) HC.out (flatT_one l) hb1 hb2 ?_; intro A5 c5 w6 hr6 hF6 hN6; simp only [Nat.zero_add, List.nil_append] at hr6 hN6 ⊢)
    refine hR.out _ _ ⟨A5, c5, rfl, hr6, fun k hk => ?_, ?_⟩
    · rcases hN6 k hk with h1 | h1
      · simp [Value.ownBlock] at h1; omega
      · simp at h1; omega
    · exact ((Fr.refl [] w).alloc _).trans hF6 (fun k hk => .inr (by simp [Value.ownBlock] at hk; omega))
set_option maxHeartbeats 2000000 in
set_option maxRecDepth 100000 in
theorem clone_blk {w : World} {A : Option Addr} {c : Nat} (l : List BV) (h : RowAt w 28 5 (.slice A l.length c) l.length (flatB l)) (hl : l.length ≤ 100000) :
    Calls Try.prog 67 #[.slice A l.length c] w fun e w' => ∃ A' c', e = .returned (.slice A' l.length c') ∧ w'.ownsRow 0 28 5 (.slice A' l.length c') l.length (flatB l) ∧
      (∀ k ∈ (Value.slice A' l.length c').ownBlock.toList, w.heap.size ≤ k) ∧ Fr [] w w' := by
  refine calls_k fun R hR => ?_
  cases A with
  | none =>
    have hl0 : l = [] := by
      cases l with
      | nil => rfl
      | cons x l => obtain ⟨ad, e, _⟩ := Go.Np.Try.RowAt.blk h 0 x rfl; cases e
    subst hl0
    clear h hl
    have hq : ∀ (w : World) (a : Option Addr) (n c n' c' : Nat), (binOp .eql 22 (.slice a n c) (.slice none n' c')).run Try.prog w = .ok (.bool a.isNone) w := fun w a n c n' c' => Lib.run_eql_slice_nil w _ _ a n c n' c' Try.underlying22
    go_enter Try.func67, Try.ntmps67
    go_wp2
    exact hR.out _ _ ⟨none, 0, rfl, World.ownsRow_nil _ _ _ _, by simp [Value.ownBlock], Fr.refl _ _⟩
  | some ad =>
    have hcs : ∀ j u, (flatB l)[j]? = some u → (w.alloc (.cells #[] 28)).cell? (ad.add j) = some u := fun j u hu => by
      obtain ⟨ad', e, _, hc⟩ := Go.Np.RowAt.cell h j u hu
      injection e with e
      subst e
      exact cellF ((Fr.refl [] w).alloc _) hc
    have HC := Lib.hid hcs
    have hown5 : (w.alloc (.cells #[] 28)).ownsRow 0 28 5 (.slice (some ⟨w.heap.size, 0, none⟩) 0 0) 0 [] := World.ownsRow_made w #[] 0 (Nat.zero_le _) (by unfold maxLen; omega) rfl
    have HO5 := Lib.hid hown5
    have hb1 : 0 + l.length ≤ maxLen := by unfold maxLen; omega
    have hb2 : (0 + l.length) * 56 ≤ 140737488355328 := by omega
    clear h hown5 hl hcs
    have hq : ∀ (w : World) (a : Option Addr) (n c n' c' : Nat), (binOp .eql 22 (.slice a n c) (.slice none n' c')).run Try.prog w = .ok (.bool a.isNone) w := fun w a n c n' c' => Lib.run_eql_slice_nil w _ _ a n c n' c' Try.underlying22
    go_enter Try.func67, Try.ntmps67
    go_wp2_with (at_builtin; refine wp_appendS rfl _ _ 22 28 rfl Try.underlying22 info28 rfl (by decide) HO5.out rfl ad l.length c (flatB l) rfl (flatB_len l) HC.out (flatB_one l) hb1 hb2 ?_; intro A5 c5 w6 hr6 hF6 hN6; simp only [Nat.zero_add, List.nil_append] at hr6 hN6 ⊢)
    refine hR.out _ _ ⟨A5, c5, rfl, hr6, fun k hk => ?_, ?_⟩
    · rcases hN6 k hk with h1 | h1
      · simp [Value.ownBlock] at h1; omega
      · simp at h1; omega
    · exact ((Fr.refl [] w).alloc _).trans hF6 (fun k hk => .inr (by simp [Value.ownBlock] at hk; omega))
/-- A copy: the same block, its transactions in a block of their own. -/
def Copied (w w' : World) (b : Blk) (e : Ending) : Prop := ∃ A' c', e = .returned (blkV b A' c') ∧ w'.ownsRow 0 59 2 (.slice A' b.f4.length c') b.f4.length (flatT b.f4) ∧
      (∀ k ∈ (Value.slice A' b.f4.length c').ownBlock.toList, w.heap.size ≤ k) ∧ Fr [] w w'
set_option maxHeartbeats 2000000 in
set_option maxRecDepth 100000 in
theorem copy_calls {w : World} (q : BV) (h : k59.C w q.A q.b.f4.length q.b.f4) (hl : q.b.f4.length ≤ 1099511627776) :
    Calls Try.prog 17 #[blkV q.b q.A q.c] w fun e w' => Copied w w' q.b e := by
  unfold Copied blkV
  refine calls_k fun R hR => ?_
  obtain ⟨W, hW⟩ : ∃ W, W = (w.alloc (.cells #[.int .i64 q.b.f0, .int .i64 q.b.f1, .int .i64 q.b.f2, .int .i64 q.b.f3, .slice q.A q.b.f4.length q.c] 28)).alloc (.cells #[.int .i64 0, .int .i64 0, .int .i64 0, .int .i64 0, .slice none 0 0] 28) := ⟨_, rfl⟩
  obtain ⟨g, hg⟩ : ∃ g, g = w.heap.size := ⟨_, rfl⟩
  have hF : Fr [] w W := by rw [hW]; exact ((Fr.refl _ _).alloc _).alloc _
  have hb1 : W.heap[g]? = some (.cells #[.int .i64 q.b.f0, .int .i64 q.b.f1, .int .i64 q.b.f2, .int .i64 q.b.f3, .slice q.A q.b.f4.length q.c] 28 (0, 0)) := by rw [hW, hg, Below.heap_alloc _ _ _ (by simp)]; exact heap_alloc_new _ _
  have hb2 : W.heap[g + 1]? = some (.cells #[.int .i64 0, .int .i64 0, .int .i64 0, .int .i64 0, .slice none 0 0] 28 (0, 0)) := by
    rw [hW, hg]
    have := heap_alloc_new (w.alloc (.cells #[.int .i64 q.b.f0, .int .i64 q.b.f1, .int .i64 q.b.f2, .int .i64 q.b.f3, .slice q.A q.b.f4.length q.c] 28)) (.cells #[.int .i64 0, .int .i64 0, .int .i64 0, .int .i64 0, .slice none 0 0] 28)
    simpa using this
  have HC := Lib.hid (clone_tx q (Kd.C_below h hF.below) hl)
  have c4 := cell_of hb1 4
  simp at c4
  have HF := Lib.hid hF
  have HB1 := Lib.hid hb1
  have HB2 := Lib.hid hb2
  have hgw : w.heap.size ≤ g := Nat.le_of_eq hg.symm
  clear h hl hF hb1 hb2
  go_enter Try.func17, Try.ntmps17
  go_upto_region 1 with (fail)
  rw [← hW, ← hg]
  clear hW hg
  go_wp2_with (go_at_call 51; refine HC.out.mono ?_; rintro e w1 ⟨A', c', rfl, h1, h2, h3⟩; have hb1 := (h3.block _ (Array.getElem?_eq_some_iff.1 HB1.out).1 (by simp)).trans HB1.out; have d0 := cell_of hb1 0; have d1 := cell_of hb1 1; have d2 := cell_of hb1 2; have d3 := cell_of hb1 3; have d4 := cell_of hb1 4; simp at d0 d1 d2 d3 d4; have hb2 := (h3.block _ (Array.getElem?_eq_some_iff.1 HB2.out).1 (by simp)).trans HB2.out; have f0 := cell_of hb2 0; have f1 := cell_of hb2 1; have f2 := cell_of hb2 2; have f3 := cell_of hb2 3; have f4 := cell_of hb2 4; simp at f0 f1 f2 f3 f4; have y4 := froz_of hb1 4; have z0 := froz_of hb2 0; have z1 := froz_of hb2 1; have z2 := froz_of hb2 2; have z3 := froz_of hb2 3; have z4 := froz_of hb2 4; have H1 := Lib.hid h1; have H2 := Lib.hid h2; have H3 := Lib.hid h3; have HB2' := Lib.hid hb2; clear h1 h2 h3 hb1 hb2 c4)
  have hb3 := five_put (((set_far w1 (a := ⟨g, 4, none⟩) (by show g + 1 ≠ g; omega) (.slice A' q.b.f4.length c'))).trans HB2'.out) (.int .i64 q.b.f0) (.int .i64 q.b.f1) (.int .i64 q.b.f2) (.int .i64 q.b.f3) (.slice A' q.b.f4.length c')
  have hs : Fr [] w ((((((w1.setCell ⟨g, 4, none⟩ (.slice A' q.b.f4.length c')).setCell ⟨g + 1, 0, none⟩ (.int .i64 q.b.f0)).setCell ⟨g + 1, 1, none⟩ (.int .i64 q.b.f1)).setCell ⟨g + 1, 2, none⟩ (.int .i64 q.b.f2)).setCell ⟨g + 1, 3, none⟩ (.int .i64 q.b.f3)).setCell ⟨g + 1, 4, none⟩ (.slice A' q.b.f4.length c')) :=
    ((((((HF.out.trans H3.out (by simp)).setCell (.inr (by simpa using hgw)) _).setCell (.inr (by show w.heap.size ≤ g + 1; omega)) _).setCell (.inr (by show w.heap.size ≤ g + 1; omega)) _).setCell (.inr (by show w.heap.size ≤ g + 1; omega)) _).setCell (.inr (by show w.heap.size ≤ g + 1; omega)) _).setCell (.inr (by show w.heap.size ≤ g + 1; omega)) _
  refine bodyPost_ret (results_cell_row rfl _ _ (g + 1) 28 _ (0, 0) _ rfl hb3 Try.underlying28 rfl (by kernel_rfl)) rfl ?_
  refine hR.out _ _ ⟨A', c', rfl, ?_, fun k hk => Nat.le_trans HF.out.size (H2.out k hk), hs⟩
  refine row_fr H1.out (S := [g, g + 1]) (Fr.setCell (Fr.setCell (Fr.setCell (Fr.setCell (Fr.setCell (Fr.setCell (Fr.refl _ w1) (.inl (by simp)) _) (.inl (by simp)) _) (.inl (by simp)) _) (.inl (by simp)) _) (.inl (by simp)) _) (.inl (by simp)) _) (fun k hk hm => ?_)
  have h5 := H2.out k hk
  have h6 := (Array.getElem?_eq_some_iff.1 HB1.out).1
  have h7 := (Array.getElem?_eq_some_iff.1 HB2.out).1
  simp at hm
  omega
end Go.Np.Try
