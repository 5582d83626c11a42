/- What CheckNames needs. -/
import Derived.Test.YtgfiglcmhlbjjaaQCheckNamesCkL
set_option linter.unusedVariables false
set_option linter.unusedSimpArgs false
namespace Go.Np.Try
open Go.RowKit Go.Proofs Go.Proofs.Ytgfiglcmhlbjjaa.PX Go.Proofs.YtgfiglcmhlbjjaaW.PrintWords
def putL (w : World) (g : Nat) : Nat → List Value → World
  | _, [] => w
  | i, u :: l => putL (w.setCell ⟨g, i, none⟩ u) g (i + 1) l
def setL (cs : Array Value) : Nat → List Value → Array Value
  | _, [] => cs
  | i, u :: l => setL (cs.setIfInBounds i u) (i + 1) l
theorem putL_heap {t : TypeId} (g : Nat) : ∀ (l : List Value) (w : World) (i : Nat) (cs : Array Value), w.heap[g]? = some (.cells cs t (0, 0)) → (putL w g i l).heap[g]? = some (.cells (setL cs i l) t (0, 0)) := by
  intro l
  induction l with
  | nil => intro w i cs h; exact h
  | cons u l ih => intro w i cs h; exact ih _ _ _ (obj_set h i u)
theorem putL_fr {S : List Nat} {w0 : World} (g : Nat) : ∀ (l : List Value) (w : World) (i : Nat), Fr S w0 w → (g ∈ S ∨ w0.heap.size ≤ g) → Fr S w0 (putL w g i l) := by
  intro l
  induction l with
  | nil => intro w i h _; exact h
  | cons u l ih => intro w i h hg; exact ih _ _ (h.setCell hg u) hg
theorem setL_msg (x0 x1 x2 x3 x4 x5 x6 x7 x8 x9 x10 x11 x12 u0 u1 u2 u3 u4 u5 u6 u7 u8 u9 u10 u11 u12 : Value) : setL #[x0, x1, x2, x3, x4, x5, x6, x7, x8, x9, x10, x11, x12] 0 [u0, u1, u2, u3, u4, u5, u6, u7, u8, u9, u10, u11, u12] = #[u0, u1, u2, u3, u4, u5, u6, u7, u8, u9, u10, u11, u12] := by
  simp only [setL, List.setIfInBounds_toArray, List.set_cons_zero, List.set_cons_succ]
theorem putL_msg {t : TypeId} {g : Nat} {w : World} {x0 x1 x2 x3 x4 x5 x6 x7 x8 x9 x10 x11 x12 : Value} (u0 u1 u2 u3 u4 u5 u6 u7 u8 u9 u10 u11 u12 : Value) (h : w.heap[g]? = some (.cells #[x0, x1, x2, x3, x4, x5, x6, x7, x8, x9, x10, x11, x12] t (0, 0))) : (putL w g 0 [u0, u1, u2, u3, u4, u5, u6, u7, u8, u9, u10, u11, u12]).heap[g]? = some (.cells #[u0, u1, u2, u3, u4, u5, u6, u7, u8, u9, u10, u11, u12] t (0, 0)) := by
  rw [← setL_msg x0 x1 x2 x3 x4 x5 x6 x7 x8 x9 x10 x11 x12 u0 u1 u2 u3 u4 u5 u6 u7 u8 u9 u10 u11 u12]
  exact putL_heap g _ w 0 _ h
theorem fr_sc {w0 w : World} {g i : Nat} {u : Value} (h : Fr [] w0 w) (hg : w0.heap.size ≤ g) : Fr [] w0 (w.setCell ⟨g, i, none⟩ u) := h.setCell (.inr hg) u
section
variable {X : Nat → Prop} {w w' w1 : World} {p : Nat} {c c' : Co} {a a' : Pl}
set_option maxHeartbeats 4000000 in
set_option maxRecDepth 100000 in
theorem c_vote (h : CoIn X w p c a) (k x : Int) : Calls Try.prog 36 #[.pointer (some ⟨p, 0, none⟩), .int .i64 k, .int .i64 x] w fun e w' => e = .returned (c.voteM k x).msg ∧ Fr [] w w' := by
  obtain ⟨W, hW⟩ : ∃ W, W = w.alloc (.cells #[.int .i64 0, .int .i64 0, .int .i64 0, .int .i64 0, .int .i64 0, .int .i64 0, .int .i64 0, .int .i64 0, .int .i64 0, .int .i64 0, .int .i64 0, .int .i64 0, .slice none 0 0] 49) := ⟨_, rfl⟩
  obtain ⟨g, hg⟩ : ∃ g, g = w.heap.size := ⟨_, rfl⟩
  have hF : Fr [] w W := by rw [hW]; exact (Fr.refl _ _).alloc _
  have hbl : W.heap[g]? = some (.cells #[.int .i64 0, .int .i64 0, .int .i64 0, .int .i64 0, .int .i64 0, .int .i64 0, .int .i64 0, .int .i64 0, .int .i64 0, .int .i64 0, .int .i64 0, .int .i64 0, .slice none 0 0] 49 (0, 0)) := by rw [hW, hg]; exact heap_alloc_new _ _
  have h1 := h.fr hF
  have HFW := Lib.hid hF
  have HS : Hid (∀ W', Fr [] w W' → W'.cell? ⟨p, 0, none⟩ = some (.int .i64 c.me) ∧ W'.cell? ⟨p, 5, none⟩ = some (.int .i64 c.view)) := fun W' hW => ⟨(h.fr hW).cells 0, (h.fr hW).cells 5⟩
  have HI := Lib.hid (fun W' (hW : Fr [] w W') => c_index (h.fr hW))
  have HB := Lib.hid hbl
  have hF0 : Fr [] w W.drew := hF.drew
  have hS0 := HS.out _ hF0
  have hge : w.heap.size ≤ g := Nat.le_of_eq hg.symm
  have HF0 := Lib.hid hF0
  have z0 : W.cell? ⟨g, 0, none⟩ = some (.int .i64 0) := cell_of hbl 0
  have z1 : W.cell? ⟨g, 1, none⟩ = some (.int .i64 0) := cell_of hbl 1
  have z2 : W.cell? ⟨g, 2, none⟩ = some (.int .i64 0) := cell_of hbl 2
  have z3 : W.cell? ⟨g, 3, none⟩ = some (.int .i64 0) := cell_of hbl 3
  have z4 : W.cell? ⟨g, 4, none⟩ = some (.int .i64 0) := cell_of hbl 4
  have z5 : W.cell? ⟨g, 5, none⟩ = some (.int .i64 0) := cell_of hbl 5
  have z6 : W.cell? ⟨g, 6, none⟩ = some (.int .i64 0) := cell_of hbl 6
  have z7 : W.cell? ⟨g, 7, none⟩ = some (.int .i64 0) := cell_of hbl 7
  have z8 : W.cell? ⟨g, 8, none⟩ = some (.int .i64 0) := cell_of hbl 8
  have z9 : W.cell? ⟨g, 9, none⟩ = some (.int .i64 0) := cell_of hbl 9
  have z10 : W.cell? ⟨g, 10, none⟩ = some (.int .i64 0) := cell_of hbl 10
  have z11 : W.cell? ⟨g, 11, none⟩ = some (.int .i64 0) := cell_of hbl 11
  have z12 : W.cell? ⟨g, 12, none⟩ = some (.slice none 0 0) := cell_of hbl 12
  have y0 := froz_of hbl 0
  have y1 := froz_of hbl 1
  have y2 := froz_of hbl 2
  have y3 := froz_of hbl 3
  have y4 := froz_of hbl 4
  have y5 := froz_of hbl 5
  have y6 := froz_of hbl 6
  have y7 := froz_of hbl 7
  have y8 := froz_of hbl 8
  have y9 := froz_of hbl 9
  have y10 := froz_of hbl 10
  have y11 := froz_of hbl 11
  have y12 := froz_of hbl 12
  refine calls_k fun R hR => ?_
  clear h h1 hbl hF
  go_enter Try.func36, Try.ntmps36
  go_upto_region 1 with (fail)
  rw [← hW, ← hg]
  clear hW hg
  go_region_held3 (fun W => W.cell? ⟨p, 0, none⟩ = some (.int .i64 c.me) ∧ W.cell? ⟨p, 5, none⟩ = some (.int .i64 c.view)) (first | (with_reducible assumption) | (refine HS.out _ ?_; (try with_reducible refine Fr.drew ?_); (repeat with_reducible refine fr_sc ?_ hge); with_reducible first | exact HFW.out | exact hF0))
    (first
      | (go_at_call 7; refine (HI.out _ hF0).mono ?_; rintro e y ⟨rfl, rfl⟩))
  all_goals
    obtain ⟨Wp, hWp⟩ : ∃ Wp, Wp = putL W g 0 [.int .i64 k, .int .i64 c.me, .int .i64 c.idx, .int .i64 c.view, .int .i64 x, .int .i64 0, .int .i64 0, .int .i64 0, .int .i64 0, .int .i64 0, .int .i64 0, .int .i64 0, .slice none 0 0] := ⟨_, rfl⟩
    have hFp : Fr [] w Wp := by rw [hWp]; exact putL_fr g _ W 0 HFW.out (.inr hge)
    have hbp : Wp.heap[g]? = some (.cells #[.int .i64 k, .int .i64 c.me, .int .i64 c.idx, .int .i64 c.view, .int .i64 x, .int .i64 0, .int .i64 0, .int .i64 0, .int .i64 0, .int .i64 0, .int .i64 0, .int .i64 0, .slice none 0 0] 49 (0, 0)) := by rw [hWp]; exact putL_msg _ _ _ _ _ _ _ _ _ _ _ _ _ HB.out
    simp only [putL] at hWp
    rw [← hWp]
    clear hWp z0 z1 z2 z3 z4 z5 z6 z7 z8 z9 z10 z11 z12 y0 y1 y2 y3 y4 y5 y6 y7 y8 y9 y10 y11 y12
    have hF2 : Fr [] w Wp.drew := hFp.drew
    have hb2 : Wp.drew.heap[g]? = some (.cells #[.int .i64 k, .int .i64 c.me, .int .i64 c.idx, .int .i64 c.view, .int .i64 x, .int .i64 0, .int .i64 0, .int .i64 0, .int .i64 0, .int .i64 0, .int .i64 0, .int .i64 0, .slice none 0 0] 49 (0, 0)) := hbp
    go_wp2
    refine bodyPost_ret (results_cell_row rfl _ _ g 49 _ (0, 0) _ rfl hb2 Try.underlying49 rfl (by kernel_rfl)) rfl ?_
    exact hR.out _ _ ⟨rfl, hF2⟩
end
end Go.Np.Try
