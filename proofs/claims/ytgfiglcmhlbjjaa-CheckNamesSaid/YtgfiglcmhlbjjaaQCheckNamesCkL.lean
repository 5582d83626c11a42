/- What CheckNames needs. -/
import Derived.Test.YtgfiglcmhlbjjaaQCheckNamesCkK
import Derived.Deep.RegionHeld3
import Derived.Deep.RegionLaw
set_option linter.unusedVariables false
set_option linter.unusedSimpArgs false
namespace Go.Np.Try
open Go.RowKit Go.Proofs Go.Proofs.Ytgfiglcmhlbjjaa.PX Go.Proofs.YtgfiglcmhlbjjaaW.PrintWords
section
variable {X : Nat → Prop} {w w' w1 : World} {p : Nat} {c c' : Co} {a a' : Pl}
theorem infoA : (Try.prog.info? 51).map (fun i => (i.zero, i.size, i.bytes)) = some (some (.agg #[.int .i64 0, .int .i64 0, .int .i64 0, .int .i64 0, .int .i64 0, .int .i64 0, .int .i64 0, .int .i64 0, .int .i64 0, .int .i64 0, .int .i64 0, .int .i64 0, .int .i64 0, .slice none 0 0]), 14, 128) := by kernel_rfl
theorem cells_one (m : Am) : ∀ u ∈ m.cells, u.oneCell' = true := by unfold Am.cells; simp [Value.oneCell']
set_option maxHeartbeats 4000000 in
set_option maxRecDepth 100000 in
theorem c_send (h : CoIn X w p c a) (hX : ∀ k, X k → k < w.heap.size) (m : Am) (hm : m.too = -1) (hl : c.out.length ≤ 100000000) : Calls Try.prog 26 #[.pointer (some ⟨p, 0, none⟩), m.msg] w fun e w' => e = .returned (.tuple #[]) ∧ ∃ ov, CoIn X w' p (c.send m) { a with ov := ov } ∧ FrX X w w' := by
  unfold Am.msg
  obtain ⟨W, hW⟩ : ∃ W, W = w.alloc (.cells #[.int .i64 m.kd, .int .i64 m.fr, .int .i64 m.ix, .int .i64 m.vw, .int .i64 m.vl, .int .i64 m.pr, .int .i64 0, .int .i64 0, .int .i64 0, .int .i64 0, .int .i64 0, .int .i64 0, .slice none 0 0] 49) := ⟨_, rfl⟩
  obtain ⟨g, hg⟩ : ∃ g, g = w.heap.size := ⟨_, rfl⟩
  have hF : Fr [] w W := by rw [hW]; exact (Fr.refl _ _).alloc _
  have hbl : W.heap[g]? = some (.cells #[.int .i64 m.kd, .int .i64 m.fr, .int .i64 m.ix, .int .i64 m.vw, .int .i64 m.vl, .int .i64 m.pr, .int .i64 0, .int .i64 0, .int .i64 0, .int .i64 0, .int .i64 0, .int .i64 0, .slice none 0 0] 49 (0, 0)) := by rw [hW, hg]; exact heap_alloc_new _ _
  have hgs : g < W.heap.size := (Array.getElem?_eq_some_iff.1 hbl).1
  have h1 := h.fr hF
  obtain ⟨Ao, co, hov⟩ := slice_form h1.out
  have c16 : W.cell? ⟨p, 16, none⟩ = some (.slice Ao c.out.length co) := by rw [h1.cells 16, ← hov]; rfl
  have e0 : W.cell? ⟨g, 0, none⟩ = some (.int .i64 m.kd) := cell_of hbl 0
  have e1 : W.cell? ⟨g, 1, none⟩ = some (.int .i64 m.fr) := cell_of hbl 1
  have e2 : W.cell? ⟨g, 2, none⟩ = some (.int .i64 m.ix) := cell_of hbl 2
  have e3 : W.cell? ⟨g, 3, none⟩ = some (.int .i64 m.vw) := cell_of hbl 3
  have e4 : W.cell? ⟨g, 4, none⟩ = some (.int .i64 m.vl) := cell_of hbl 4
  have e5 : W.cell? ⟨g, 5, none⟩ = some (.int .i64 m.pr) := cell_of hbl 5
  have e6 : W.cell? ⟨g, 6, none⟩ = some (.int .i64 0) := cell_of hbl 6
  have e7 : W.cell? ⟨g, 7, none⟩ = some (.int .i64 0) := cell_of hbl 7
  have e8 : W.cell? ⟨g, 8, none⟩ = some (.int .i64 0) := cell_of hbl 8
  have e9 : W.cell? ⟨g, 9, none⟩ = some (.int .i64 0) := cell_of hbl 9
  have e10 : W.cell? ⟨g, 10, none⟩ = some (.int .i64 0) := cell_of hbl 10
  have e11 : W.cell? ⟨g, 11, none⟩ = some (.int .i64 0) := cell_of hbl 11
  have e12 : W.cell? ⟨g, 12, none⟩ = some (.slice none 0 0) := cell_of hbl 12
  have hFn : Fr [] W (W.alloc (.cells #[.int .i64 (-1), .int .i64 m.kd, .int .i64 m.fr, .int .i64 m.ix, .int .i64 m.vw, .int .i64 m.vl, .int .i64 m.pr, .int .i64 0, .int .i64 0, .int .i64 0, .int .i64 0, .int .i64 0, .int .i64 0, .slice none 0 0] 51)).drew := ((Fr.refl _ _).alloc _).drew
  have h2 := h1.fr hFn
  have ho := h2.out
  rw [hov] at ho
  have HRW := Lib.hid ho
  have HZ := Lib.hid (froz_of h2.box 16)
  have H2 := Lib.hid h2
  have HF2 := Lib.hid (hF.trans hFn (by simp))
  have HOV := Lib.hid hov
  have hcn : Hid (∀ j u, m.cells[j]? = some u → (W.alloc (.cells #[.int .i64 (-1), .int .i64 m.kd, .int .i64 m.fr, .int .i64 m.ix, .int .i64 m.vw, .int .i64 m.vl, .int .i64 m.pr, .int .i64 0, .int .i64 0, .int .i64 0, .int .i64 0, .int .i64 0, .int .i64 0, .slice none 0 0] 51)).drew.cell? ((⟨W.heap.size, 0, none⟩ : Addr).add j) = some u) := by
    intro j u hu
    have hn := heap_alloc_new W (.cells #[.int .i64 (-1), .int .i64 m.kd, .int .i64 m.fr, .int .i64 m.ix, .int .i64 m.vw, .int .i64 m.vl, .int .i64 m.pr, .int .i64 0, .int .i64 0, .int .i64 0, .int .i64 0, .int .i64 0, .int .i64 0, .slice none 0 0] 51)
    have e : (⟨W.heap.size, 0, none⟩ : Addr).add j = ⟨W.heap.size, j, none⟩ := by unfold Addr.add; split <;> simp_all
    rw [e]
    have := cell_of (p := W.heap.size) hn j
    refine Eq.trans (show _ = _ from this) ?_
    unfold Am.cells at hu
    rw [hm] at hu
    simpa using hu
  have h63 : c.out.length + 1 ≤ maxLen := by unfold maxLen; omega
  have hbb : (c.out.length + 1) * 128 ≤ 140737488355328 := by omega
  have hsz : w.heap.size ≤ (W.alloc (.cells #[.int .i64 (-1), .int .i64 m.kd, .int .i64 m.fr, .int .i64 m.ix, .int .i64 m.vw, .int .i64 m.vl, .int .i64 m.pr, .int .i64 0, .int .i64 0, .int .i64 0, .int .i64 0, .int .i64 0, .int .i64 0, .slice none 0 0] 51)).drew.heap.size := (hF.trans hFn (by simp)).size
  have hca : (W.alloc (.cells #[.int .i64 (-1), .int .i64 m.kd, .int .i64 m.fr, .int .i64 m.ix, .int .i64 m.vw, .int .i64 m.vl, .int .i64 m.pr, .int .i64 0, .int .i64 0, .int .i64 0, .int .i64 0, .int .i64 0, .int .i64 0, .slice none 0 0] 51)).drew.cell? ⟨p, 16, none⟩ = some (.slice Ao c.out.length co) := cellF hFn c16
  obtain ⟨N, hN⟩ : ∃ N, c.out.length = N := ⟨_, rfl⟩
  rw [hN] at hca c16 h63 hbb HRW HOV
  refine calls_k fun R hR => ?_
  clear h h1 h2 ho hov hbl hF hFn hl
  go_enter Try.func26, Try.ntmps26
  go_upto_region 1 with (fail)
  rw [← hW, ← hg]
  clear hW hg
  go_region_law (first
    | (refine st_appendS rfl (.tmp 8) (.tmp 11) 39 51 rfl Try.underlying39 infoA rfl (by decide) HRW.out (by simp [Act.eval, Act.put]) ⟨W.heap.size, 0, none⟩ 1 1 m.cells (by simp [Act.eval, Act.put]) rfl hcn.out (cells_one m) h63 hbb ?_; intro A6 c6 w6 hr6 hF6 hN6
       have hc6 : CoIn X (w6.setCell ⟨p, 16, none⟩ (.slice A6 (N + 1) c6)) p (c.send m) { a with ov := .slice A6 (N + 1) c6 } := H2.out.sent (fun k hk => by have := hX k hk; omega) m (by rw [HOV.out]; exact hF6) (by rw [flatA_add, List.length_append, hN]; simpa [flatA] using hr6) (by rw [HOV.out]; exact hN6)
       have hp6 : FrX X w (w6.setCell ⟨p, 16, none⟩ (.slice A6 (N + 1) c6)) := (FrX.of0 HF2.out).trans ⟨p :: (Value.slice Ao N co).ownBlock.toList, (hF6.mono (fun x hx => .inl (List.mem_cons_of_mem _ hx))).setCell (.inl (by simp)) _, fun k hk => by
         rcases List.mem_cons.1 hk with rfl | hk
         · exact H2.out.pX
         · exact H2.out.nX k (by unfold Pl.own; rw [HOV.out]; simp only [List.mem_cons, List.mem_append]; exact .inr (.inr (.inr (.inr (.inr (.inr (.inr (.inr hk)))))))) ⟩
       have hb6 : w6.heap[p]? = some (.cells (coreV c a) 41 (0, 0)) := (hF6.block p (H2.out.lt p (by simp [Pl.own])) (fun hm => row_ne_obj HRW.out H2.out.box (by decide) hm)).trans H2.out.box
       have hz6 := froz_of hb6 16
       have hd6 : w6.cell? ⟨p, 16, none⟩ = some a.ov := cell_of hb6 16
       have HC6 := Lib.hid hc6
       have HP6 := Lib.hid hp6
       clear hr6 hF6 hN6 hc6 hp6 hb6))
  all_goals
    go_wp2
    go_end0
    exact hR.out _ _ ⟨rfl, _, HC6.out, HP6.out⟩
end
end Go.Np.Try
