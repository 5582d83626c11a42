/- What CheckTold needs. -/
import Derived.Test.YtgfiglcmhlbjjaaGreatQCheckToldCkR
set_option linter.unusedVariables false
set_option linter.unusedSimpArgs false
namespace Go.Np.Tryz
open Go.RowKit Go.Proofs Go.Proofs.YtgfiglcmhlbjjaaGreat.PX Go.Proofs.YtgfiglcmhlbjjaaGreatW.PrintWords
theorem key_int : KeyOk Tryz.prog 3 keyE := keyOk_int Tryz.underlying3
theorem zeroC (w : World) : (zeroValue 74).run Tryz.prog w = .ok (.agg #[.int .i64 0, .int .i64 0]) w := by kernel_rfl
theorem fr_scg {w0 w : World} {g i : Nat} {u : Value} (h : Fr [g] w0 w) : Fr [g] w0 (w.setCell ⟨g, i, none⟩ u) := h.setCell (.inl (by simp)) u
section
variable {X : Nat → Prop} {w w' w1 : World} {p : Nat} {c c' : Co} {a a' : Pl}
theorem CoIn.look (h : CoIn X w p c a) (v : Int) (b : Bool) : (Instr.lookup 71 (.map (some a.bp)) (.int .i64 v) b).run Tryz.prog w = .ok (if b then .tuple #[.agg #[.int .i64 ((alook c.props v).getD (0, 0)).1, .int .i64 ((alook c.props v).getD (0, 0)).2], .bool (alook c.props v).isSome] else .agg #[.int .i64 ((alook c.props v).getD (0, 0)).1, .int .i64 ((alook c.props v).getD (0, 0)).2]) w := by
  have := h.prs.run_lookup key_int Tryz.underlying71 (zeroC w) v b
  rw [alook_map propE (fun x => .agg #[.int .i64 x.1, .int .i64 x.2]) (fun q => rfl)] at this
  rw [this]
  cases alook c.props v <;> cases b <;> rfl
set_option maxHeartbeats 4000000 in
set_option maxRecDepth 100000 in
theorem c_proposal (h : CoIn X w p c a) : Calls Tryz.prog 46 #[.pointer (some ⟨p, 0, none⟩)] w fun e w' => e = .returned c.offer.msg ∧ Fr [] w w' := by
  obtain ⟨W, hW⟩ : ∃ W, W = w.alloc (.cells #[.int .i64 0, .int .i64 0, .int .i64 0, .int .i64 0, .int .i64 0, .int .i64 0, .int .i64 0, .int .i64 0, .int .i64 0, .int .i64 0, .int .i64 0, .int .i64 0, .slice none 0 0] 32) := ⟨_, rfl⟩
  obtain ⟨g, hg⟩ : ∃ g, g = w.heap.size := ⟨_, rfl⟩
  have hF : Fr [] w W := by rw [hW]; exact (Fr.refl _ _).alloc _
  have hbl : W.heap[g]? = some (.cells #[.int .i64 0, .int .i64 0, .int .i64 0, .int .i64 0, .int .i64 0, .int .i64 0, .int .i64 0, .int .i64 0, .int .i64 0, .int .i64 0, .int .i64 0, .int .i64 0, .slice none 0 0] 32 (0, 0)) := by rw [hW, hg]; exact heap_alloc_new _ _
  have h1 := h.fr hF
  have HS : Hid (∀ W', Fr [] w W' → W'.cell? ⟨p, 10, none⟩ = some (.map (some a.bp)) ∧ W'.cell? ⟨p, 5, none⟩ = some (.int .i64 c.view)) := fun W' hW => ⟨(h.fr hW).cells 10, (h.fr hW).cells 5⟩
  have HT : Hid (∀ W', Fr [] w W' → W'.cell? ⟨p, 0, none⟩ = some (.int .i64 c.me) ∧ W'.cell? ⟨p, 5, none⟩ = some (.int .i64 c.view)) := fun W' hW => ⟨(h.fr hW).cells 0, (h.fr hW).cells 5⟩
  have HI := Lib.hid (fun W' (hW : Fr [] w W') => c_index (h.fr hW))
  have HB := Lib.hid hbl
  have HFW := Lib.hid hF
  have hF0 : Fr [] w W.drew := hF.drew
  have hS0 := HS.out _ hF0
  have hge : w.heap.size ≤ g := Nat.le_of_eq hg.symm
  have hlt : g < W.heap.size := (Array.getElem?_eq_some_iff.1 hbl).1
  obtain ⟨x1, hx1⟩ : ∃ x, ((alook c.props c.view).getD (0, 0)).1 = x := ⟨_, rfl⟩
  obtain ⟨x2, hx2⟩ : ∃ x, ((alook c.props c.view).getD (0, 0)).2 = x := ⟨_, rfl⟩
  have hl0 := (h.fr hF0).look c.view false
  have hF1 : Fr [] w (World.drew (World.alloc W (.cells #[.int .i64 0, .int .i64 0] 74))) := (hF.alloc _).drew
  have HFA := Lib.hid (hF.alloc (.cells #[.int .i64 0, .int .i64 0] 74))
  have hl1 := (h.fr hF1).look c.view false
  simp only [hx1, hx2] at hl0 hl1
  have he : c.offer = ⟨-1, 3, c.me, c.idx, c.view, x1, x2⟩ := by unfold Co.offer; rw [hx1, hx2]
  rw [he]
  have HZ := Lib.hid (heap_alloc_new W (.cells #[.int .i64 0, .int .i64 0] 74))
  have z0' : (World.drew (World.alloc W (.cells #[.int .i64 0, .int .i64 0] 74))).cell? ⟨W.heap.size, 0, none⟩ = some (.int .i64 0) := cell_of HZ.out 0
  have z1' : (World.drew (World.alloc W (.cells #[.int .i64 0, .int .i64 0] 74))).cell? ⟨W.heap.size, 1, none⟩ = some (.int .i64 0) := cell_of HZ.out 1
  have y0' : (World.drew (World.alloc W (.cells #[.int .i64 0, .int .i64 0] 74))).frozen? ⟨W.heap.size, 0, none⟩ = false := froz_of HZ.out 0
  have y1' : (World.drew (World.alloc W (.cells #[.int .i64 0, .int .i64 0] 74))).frozen? ⟨W.heap.size, 1, none⟩ = false := froz_of HZ.out 1
  have hge2 : w.heap.size ≤ W.heap.size := hF.size
  refine calls_k fun R hR => ?_
  clear h h1 hbl hF hx1 hx2 he
  go_enter Tryz.func46, Tryz.ntmps46
  go_upto_region 1 with (fail)
  rw [← hW, ← hg]
  clear hW hg
  go_region_held3 (fun W => W.cell? ⟨p, 10, none⟩ = some (.map (some a.bp)) ∧ W.cell? ⟨p, 5, none⟩ = some (.int .i64 c.view)) (first | (with_reducible assumption) | (refine HS.out _ ?_; (try with_reducible refine Fr.drew ?_); (repeat with_reducible refine fr_sc ?_ hge2); with_reducible first | exact Fr.alloc HFW.out _ | exact HFW.out | exact hF1 | exact hF0)) (fail)
  all_goals
    obtain ⟨V, hV⟩ : ∃ V, V = (W.alloc (.cells #[.int .i64 x1, .int .i64 x2] 74)).drew := ⟨_, rfl⟩
    obtain ⟨gc, hgc⟩ : ∃ gc, gc = W.heap.size := ⟨_, rfl⟩
    have hFV : Fr [] W V := by rw [hV]; exact ((Fr.refl _ _).alloc _).drew
    have hbc : V.heap[gc]? = some (.cells #[.int .i64 x1, .int .i64 x2] 74 (0, 0)) := by rw [hV, hgc]; exact heap_alloc_new W _
    have hbv : V.heap[g]? = some (.cells #[.int .i64 0, .int .i64 0, .int .i64 0, .int .i64 0, .int .i64 0, .int .i64 0, .int .i64 0, .int .i64 0, .int .i64 0, .int .i64 0, .int .i64 0, .int .i64 0, .slice none 0 0] 32 (0, 0)) := (hFV.block g hlt (by simp)).trans HB.out
    have hne : gc ≠ g := by omega
    have hFwV : Fr [] w V := HFW.out.trans hFV (by simp)
    have hFwg : Hid (∀ W', Fr [g] V W' → Fr [] w W') := fun W' hW => hFwV.trans hW (fun x hx => .inr (by simp at hx; subst hx; exact hge))
    have HT2 : Hid (∀ W', Fr [g] V W' → W'.cell? ⟨p, 0, none⟩ = some (.int .i64 c.me) ∧ W'.cell? ⟨p, 5, none⟩ = some (.int .i64 c.view) ∧ W'.cell? ⟨gc, 0, none⟩ = some (.int .i64 x1) ∧ W'.cell? ⟨gc, 1, none⟩ = some (.int .i64 x2)) := fun W' hW => by
      have h2 := HT.out W' (hFwg.out W' hW)
      have h3 : W'.heap[gc]? = some (.cells #[.int .i64 x1, .int .i64 x2] 74 (0, 0)) := (hW.block gc (Array.getElem?_eq_some_iff.1 hbc).1 (by simpa using hne)).trans hbc
      exact ⟨h2.1, h2.2, cell_of h3 0, cell_of h3 1⟩
    have HG0 : Hid (Fr [g] V V) := Fr.refl _ _
    have hS2 := HT2.out _ (show Fr [g] V V.drew from (Fr.refl _ _).drew)
    have hwV := hFwV.drew
    have z0 : V.cell? ⟨g, 0, none⟩ = some (.int .i64 0) := cell_of hbv 0
    have y0 := froz_of hbv 0
    have z1 : V.cell? ⟨g, 1, none⟩ = some (.int .i64 0) := cell_of hbv 1
    have y1 := froz_of hbv 1
    have z2 : V.cell? ⟨g, 2, none⟩ = some (.int .i64 0) := cell_of hbv 2
    have y2 := froz_of hbv 2
    have z3 : V.cell? ⟨g, 3, none⟩ = some (.int .i64 0) := cell_of hbv 3
    have y3 := froz_of hbv 3
    have z4 : V.cell? ⟨g, 4, none⟩ = some (.int .i64 0) := cell_of hbv 4
    have y4 := froz_of hbv 4
    have z5 : V.cell? ⟨g, 5, none⟩ = some (.int .i64 0) := cell_of hbv 5
    have y5 := froz_of hbv 5
    have z6 : V.cell? ⟨g, 6, none⟩ = some (.int .i64 0) := cell_of hbv 6
    have y6 := froz_of hbv 6
    have z7 : V.cell? ⟨g, 7, none⟩ = some (.int .i64 0) := cell_of hbv 7
    have y7 := froz_of hbv 7
    have z8 : V.cell? ⟨g, 8, none⟩ = some (.int .i64 0) := cell_of hbv 8
    have y8 := froz_of hbv 8
    have z9 : V.cell? ⟨g, 9, none⟩ = some (.int .i64 0) := cell_of hbv 9
    have y9 := froz_of hbv 9
    have z10 : V.cell? ⟨g, 10, none⟩ = some (.int .i64 0) := cell_of hbv 10
    have y10 := froz_of hbv 10
    have z11 : V.cell? ⟨g, 11, none⟩ = some (.int .i64 0) := cell_of hbv 11
    have y11 := froz_of hbv 11
    have z12 : V.cell? ⟨g, 12, none⟩ = some (.slice none 0 0) := cell_of hbv 12
    have y12 := froz_of hbv 12
    rw [← hV, ← hgc]
    clear hV hgc hFV hbc hFwV z0' z1' y0' y1'
    clear hS0 hF0 hF1 hl0 hl1
    have HBV := Lib.hid hbv
    clear hbv
    go_upto_region 2 with (fail)
    go_region_held3 (fun W => W.cell? ⟨p, 0, none⟩ = some (.int .i64 c.me) ∧ W.cell? ⟨p, 5, none⟩ = some (.int .i64 c.view) ∧ W.cell? ⟨gc, 0, none⟩ = some (.int .i64 x1) ∧ W.cell? ⟨gc, 1, none⟩ = some (.int .i64 x2)) (first | (with_reducible assumption) | (refine HT2.out _ ?_; (try with_reducible refine Fr.drew ?_); (repeat with_reducible refine fr_scg ?_); with_reducible exact HG0.out))
      (first
        | (go_at_call 18; refine (HI.out _ hwV).mono ?_; rintro e y ⟨rfl, rfl⟩))
    all_goals
      obtain ⟨Wp, hWp⟩ : ∃ Wp, Wp = putL V g 0 [.int .i64 3, .int .i64 c.me, .int .i64 c.idx, .int .i64 c.view, .int .i64 x1, .int .i64 x2, .int .i64 0, .int .i64 0, .int .i64 0, .int .i64 0, .int .i64 0, .int .i64 0, .slice none 0 0] := ⟨_, rfl⟩
      have hFp : Fr [g] V Wp := by rw [hWp]; exact putL_fr g _ V 0 HG0.out (.inl (by simp))
      have hbp : Wp.heap[g]? = some (.cells #[.int .i64 3, .int .i64 c.me, .int .i64 c.idx, .int .i64 c.view, .int .i64 x1, .int .i64 x2, .int .i64 0, .int .i64 0, .int .i64 0, .int .i64 0, .int .i64 0, .int .i64 0, .slice none 0 0] 32 (0, 0)) := by rw [hWp]; exact putL_msg _ _ _ _ _ _ _ _ _ _ _ _ _ HBV.out
      simp only [putL] at hWp
      rw [← hWp]
      clear hWp z0 y0 z1 y1 z2 y2 z3 y3 z4 y4 z5 y5 z6 y6 z7 y7 z8 y8 z9 y9 z10 y10 z11 y11 z12 y12
      have hF2 : Fr [] w Wp.drew := (hFwg.out _ hFp).drew
      have hb2 : Wp.drew.heap[g]? = some (.cells #[.int .i64 3, .int .i64 c.me, .int .i64 c.idx, .int .i64 c.view, .int .i64 x1, .int .i64 x2, .int .i64 0, .int .i64 0, .int .i64 0, .int .i64 0, .int .i64 0, .int .i64 0, .slice none 0 0] 32 (0, 0)) := hbp
      go_wp2
      refine bodyPost_ret (results_cell_row rfl _ _ g 32 _ (0, 0) _ rfl hb2 Tryz.underlying32 rfl (by kernel_rfl)) rfl ?_
      exact hR.out _ _ ⟨rfl, hF2⟩
end
end Go.Np.Tryz
