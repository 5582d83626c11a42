/- What CheckTold needs. -/
import Derived.Test.YtgfiglcmhlbjjaaGreatQCheckToldCkNm
import Derived.Deep.Cut
import Derived.WalkMore
set_option linter.unusedVariables false
set_option linter.unusedSimpArgs false
namespace Go.Np.Tryz
open Go.RowKit Go.Proofs Go.Proofs.YtgfiglcmhlbjjaaGreat.PX Go.Proofs.YtgfiglcmhlbjjaaGreatW.PrintWords
theorem Mg.Fine.fr {W W' : World} {m : Mg} (h : m.Fine W) (hf : Fr [] W W') : m.Fine W' := ⟨h.l, Kd.C_below h.C hf.below, h.wf⟩
theorem wf_rng {x : Int} (h : wf64 x) : -9223372036854775808 ≤ x ∧ x ≤ 9223372036854775807 := by
  have : (Lit.int .i64 x).wf = true := h
  simp [Lit.wf, IntKind.min, IntKind.max, IntKind.signed, IntKind.bits] at this
  omega
def Mg.rightB (m : Mg) : Bool := rightM m.kd m.fr m.ix m.vw m.vl m.pr (decide (m.t0 = 0) && decide (m.t1 = 0)) (decide (m.b0 = 0) && decide (m.b1 = 0) && decide (m.b2 = 0) && decide (m.b3 = 0) && decide (m.txs = [])) (okTx ⟨m.t0, m.t1⟩) (Go.Np.Tryz.rightB ⟨m.b0, m.b1, m.b2, m.b3, m.txs⟩)
theorem mright_calls {w : World} {m : Mg} (h : m.Fine w) : Calls Tryz.prog 8 #[.agg #[.int .i64 m.kd, .int .i64 m.fr, .int .i64 m.ix, .int .i64 m.vw, .int .i64 m.vl, .int .i64 m.pr, .int .i64 m.t0, .int .i64 m.t1, .int .i64 m.b0, .int .i64 m.b1, .int .i64 m.b2, .int .i64 m.b3, .slice m.A m.txs.length m.c]] w fun e w' => e = .returned (.bool m.rightB) ∧ Fr [] w w' :=
  r12_calls m.kd m.fr m.ix m.vw m.vl m.pr m.t0 m.t1 m.b0 m.b1 m.b2 m.b3 m.A m.c m.txs h.C h.l (wf_rng h.wf.2.2.2.2.2.2) (wf_rng h.wf.2.2.2.2.1)
theorem Mg.right3 {m : Mg} (h : m.rightB = true) : m.txs.length ≤ 3 := right_txs (t0 := 0) (t1 := 0) h
theorem Mg.rightN {m : Mg} (h : m.rightB = true) : 0 ≤ m.fr ∧ m.fr ≤ 6 ∧ (3 ≤ m.kd → 0 ≤ m.ix ∧ m.ix ≤ 1000) := right_bounds h
set_option maxHeartbeats 16000000 in
set_option maxRecDepth 100000 in
theorem CheckTold_walk (w : World) (v0 : Value) (g : Cg) (o0 : v0 = .agg g.cells.toArray ∧ g.Fine w) (v1 : Value) (l : List Ac) (o1 : ActsR w v1 l) (v2 : Value) (m : Mg) (o2 : v2 = .agg m.cells.toArray ∧ m.Fine w) :
    Calls Tryz.prog 3 #[v0, v1, v2] w fun e w' => e = .returned (.bool true) ∧ Fr [] w w' := by
  obtain ⟨rfl, hg⟩ := o0
  obtain ⟨A1, c1, rfl, hlm, hac⟩ := o1
  obtain ⟨rfl, hm⟩ := o2
  show Calls _ _ #[.agg #[.int .i64 g.me, .int .i64 g.base, .int .i64 g.most, .slice g.A g.st.length g.c], .slice A1 l.length c1, .agg #[.int .i64 m.kd, .int .i64 m.fr, .int .i64 m.ix, .int .i64 m.vw, .int .i64 m.vl, .int .i64 m.pr, .int .i64 m.t0, .int .i64 m.t1, .int .i64 m.b0, .int .i64 m.b1, .int .i64 m.b2, .int .i64 m.b3, .slice m.A m.txs.length m.c]] _ _
  obtain ⟨gA, hgA⟩ : ∃ x, g.A = x := ⟨_, rfl⟩
  obtain ⟨gc, hgc⟩ : ∃ x, g.c = x := ⟨_, rfl⟩
  obtain ⟨NS, hNS⟩ : ∃ x, g.st.length = x := ⟨_, rfl⟩
  obtain ⟨N, hN⟩ : ∃ x, l.length = x := ⟨_, rfl⟩
  obtain ⟨W1, hW1⟩ : ∃ W, W = w.alloc (.cells #[.int .i64 g.me, .int .i64 g.base, .int .i64 g.most, .slice gA NS gc] 24) := ⟨_, rfl⟩
  obtain ⟨W2, hW2⟩ : ∃ W, W = W1.alloc (.cells #[.int .i64 m.kd, .int .i64 m.fr, .int .i64 m.ix, .int .i64 m.vw, .int .i64 m.vl, .int .i64 m.pr, .int .i64 m.t0, .int .i64 m.t1, .int .i64 m.b0, .int .i64 m.b1, .int .i64 m.b2, .int .i64 m.b3, .slice m.A m.txs.length m.c] 32) := ⟨_, rfl⟩
  obtain ⟨gb, hgb⟩ : ∃ x, x = w.heap.size := ⟨_, rfl⟩
  have hs1 : W1.heap.size = w.heap.size + 1 := by rw [hW1]; simp
  obtain ⟨mb, hmb⟩ : ∃ x, x = w.heap.size + 1 := ⟨_, rfl⟩
  have hF1 : Fr [] w W1 := by rw [hW1]; exact (Fr.refl _ _).alloc _
  have hF2 : Fr [] W1 W2 := by rw [hW2]; exact (Fr.refl _ _).alloc _
  have hbg1 : W1.heap[gb]? = some (.cells #[.int .i64 g.me, .int .i64 g.base, .int .i64 g.most, .slice gA NS gc] 24 (0, 0)) := by rw [hW1, hgb]; exact heap_alloc_new _ _
  have hbg : W2.heap[gb]? = some (.cells #[.int .i64 g.me, .int .i64 g.base, .int .i64 g.most, .slice gA NS gc] 24 (0, 0)) := (hF2.block gb (Array.getElem?_eq_some_iff.1 hbg1).1 (by simp)).trans hbg1
  have hbm : W2.heap[mb]? = some (.cells #[.int .i64 m.kd, .int .i64 m.fr, .int .i64 m.ix, .int .i64 m.vw, .int .i64 m.vl, .int .i64 m.pr, .int .i64 m.t0, .int .i64 m.t1, .int .i64 m.b0, .int .i64 m.b1, .int .i64 m.b2, .int .i64 m.b3, .slice m.A m.txs.length m.c] 32 (0, 0)) := by rw [hW2, hmb, ← hs1]; exact heap_alloc_new _ _
  have HFW : Hid (Fr [] w W2) := hF1.trans hF2 (by simp)
  have HBG := Lib.hid hbg
  have HBM := Lib.hid hbm
  have HAL := Lib.hid (c_alive W2)
  have HG := Lib.hid hg
  have HM := Lib.hid hm
  have HAC := Lib.hid hac
  have HN := Lib.hid hN
  have HNS := Lib.hid hNS
  have HRG : Hid (∀ W, Fr [] w W → Calls Tryz.prog 7 #[.agg #[.int .i64 g.me, .int .i64 g.base, .int .i64 g.most, .slice gA NS gc]] W fun e w' => e = .returned (.bool (rightG g)) ∧ Fr [] W w') := fun W hW => by
    have := right_calls (w := W) (g := g) ⟨hg.l, Kd.C_below hg.C hW.below, hg.wf⟩
    rw [hgA, hgc, hNS] at this
    exact this
  have HRM : Hid (∀ W, Fr [] w W → Calls Tryz.prog 8 #[.agg #[.int .i64 m.kd, .int .i64 m.fr, .int .i64 m.ix, .int .i64 m.vw, .int .i64 m.vl, .int .i64 m.pr, .int .i64 m.t0, .int .i64 m.t1, .int .i64 m.b0, .int .i64 m.b1, .int .i64 m.b2, .int .i64 m.b3, .slice m.A m.txs.length m.c]] W fun e w' => e = .returned (.bool m.rightB) ∧ Fr [] W w') := fun W hW => mright_calls (hm.fr hW)
  obtain ⟨rg, hrg⟩ : ∃ x, rightG g = x := ⟨_, rfl⟩
  obtain ⟨rm, hrm⟩ : ∃ x, m.rightB = x := ⟨_, rfl⟩
  have HRGE := Lib.hid hrg
  have HRME := Lib.hid hrm
  rw [hrg] at HRG
  rw [hrm] at HRM
  rw [hgA, hgc, hNS, hN]
  have HGA := Lib.hid hgA
  have HGC := Lib.hid hgc
  have HCG : Hid (∀ W, Fr [] W2 W → W.cell? ⟨gb, 0, none⟩ = some (.int .i64 g.me) ∧ W.cell? ⟨gb, 1, none⟩ = some (.int .i64 g.base) ∧ W.cell? ⟨gb, 2, none⟩ = some (.int .i64 g.most) ∧ W.cell? ⟨gb, 3, none⟩ = some (.slice gA NS gc)) := fun W hW => by
    have h := (hW.block gb (Array.getElem?_eq_some_iff.1 hbg).1 (by simp)).trans hbg
    exact ⟨cell_of h 0, cell_of h 1, cell_of h 2, cell_of h 3⟩
  have HBMW : Hid (∀ W, Fr [] W2 W → W.heap[mb]? = some (.cells #[.int .i64 m.kd, .int .i64 m.fr, .int .i64 m.ix, .int .i64 m.vw, .int .i64 m.vl, .int .i64 m.pr, .int .i64 m.t0, .int .i64 m.t1, .int .i64 m.b0, .int .i64 m.b1, .int .i64 m.b2, .int .i64 m.b3, .slice m.A m.txs.length m.c] 32 (0, 0))) := fun W hW => (hW.block mb (Array.getElem?_eq_some_iff.1 hbm).1 (by simp)).trans hbm
  refine calls_k fun R hR => ?_
  have HTRUE : Hid (∀ W, Fr [] w W → R (.returned (.bool true)) W) := fun W hW => hR.out _ _ ⟨rfl, hW⟩
  clear hg hlm hac hm hF1 hF2 hbg1 hbg hbm hs1 hrg hrm hgA hgc hNS hN hR
  go_enter Tryz.func3, Tryz.ntmps3
  go_upto_region 1 with (fail)
  rw [← hW1, ← hW2, ← hmb, ← hgb]
  clear hW1 hW2 hgb hmb
  go_upto_region 3 with (first | (go_at_call 6; refine HAL.out.mono ?_; rintro e w1 ⟨rfl, hf1⟩; have HF1 : Hid (Fr [] W2 w1) := hf1; clear hf1 HAL))
  have HRG1 := Lib.hid (HRG.out w1 (HFW.out.trans HF1.out (by simp)))
  obtain ⟨k0, k1, k2, k3⟩ := HCG.out w1 HF1.out
  have hMLs : ∀ W, Fr [] W2 W → True := fun _ _ => trivial
  clear hMLs
  cases rg with
  | false =>
    go_wp2_with (go_at_call 7; refine HRG1.out.mono ?_; rintro e w2 ⟨rfl, hf2⟩; have HF2 : Hid (Fr [] w w2) := (HFW.out.trans HF1.out (by simp)).trans hf2 (by simp); clear hf2 HRG1)
    exact HTRUE.out _ HF2.out
  | true =>
    by_cases hN6 : (60 : Int) < N
    · have d6 : decide ((60 : Int) < N) = true := decide_eq_true hN6
      clear hN6
      go_wp2_with (go_at_call 7; refine HRG1.out.mono ?_; rintro e w2 ⟨rfl, hf2⟩; have HF2 : Hid (Fr [] w w2) := (HFW.out.trans HF1.out (by simp)).trans hf2 (by simp); clear hf2 HRG1)
      exact HTRUE.out _ HF2.out
    · have d6 : decide ((60 : Int) < N) = false := decide_eq_false hN6
      have hN60 : N ≤ 60 := by omega
      clear hN6
      cases rm with
      | false =>
        go_wp2_with (first
          | (go_at_call 7; refine HRG1.out.mono ?_; rintro e w2 ⟨rfl, hf2⟩; have HF2 : Hid (Fr [] w w2) := (HFW.out.trans HF1.out (by simp)).trans hf2 (by simp); have HR2 := Lib.hid (HRM.out _ HF2.out)
             have hb2 := HBMW.out w2 (HF1.out.trans hf2 (by simp))
             have f0 : w2.cell? ⟨mb, 0, none⟩ = some (.int .i64 m.kd) := cell_of hb2 0
             have f1 : w2.cell? ⟨mb, 1, none⟩ = some (.int .i64 m.fr) := cell_of hb2 1
             have f2 : w2.cell? ⟨mb, 2, none⟩ = some (.int .i64 m.ix) := cell_of hb2 2
             have f3 : w2.cell? ⟨mb, 3, none⟩ = some (.int .i64 m.vw) := cell_of hb2 3
             have f4 : w2.cell? ⟨mb, 4, none⟩ = some (.int .i64 m.vl) := cell_of hb2 4
             have f5 : w2.cell? ⟨mb, 5, none⟩ = some (.int .i64 m.pr) := cell_of hb2 5
             have f6 : w2.cell? ⟨mb, 6, none⟩ = some (.int .i64 m.t0) := cell_of hb2 6
             have f7 : w2.cell? ⟨mb, 7, none⟩ = some (.int .i64 m.t1) := cell_of hb2 7
             have f8 : w2.cell? ⟨mb, 8, none⟩ = some (.int .i64 m.b0) := cell_of hb2 8
             have f9 : w2.cell? ⟨mb, 9, none⟩ = some (.int .i64 m.b1) := cell_of hb2 9
             have f10 : w2.cell? ⟨mb, 10, none⟩ = some (.int .i64 m.b2) := cell_of hb2 10
             have f11 : w2.cell? ⟨mb, 11, none⟩ = some (.int .i64 m.b3) := cell_of hb2 11
             have f12 : w2.cell? ⟨mb, 12, none⟩ = some (.slice m.A m.txs.length m.c) := cell_of hb2 12
             clear hf2 HRG1 hb2)
          | (go_at_call 8; refine HR2.out.mono ?_; rintro e w3 ⟨rfl, hf3⟩; have HF3 : Hid (Fr [] w w3) := HF2.out.trans hf3 (by simp); clear hf3 HR2))
        exact HTRUE.out _ HF3.out
      | true =>
        go_upto_region 6 with (first
          | (go_at_call 7; refine HRG1.out.mono ?_; rintro e w2 ⟨rfl, hf2⟩; have HF2 : Hid (Fr [] W2 w2) := HF1.out.trans hf2 (by simp); have HR2 := Lib.hid (HRM.out _ (HFW.out.trans HF2.out (by simp)))
             have hb2 := HBMW.out w2 HF2.out
             have f0 : w2.cell? ⟨mb, 0, none⟩ = some (.int .i64 m.kd) := cell_of hb2 0
             have f1 : w2.cell? ⟨mb, 1, none⟩ = some (.int .i64 m.fr) := cell_of hb2 1
             have f2 : w2.cell? ⟨mb, 2, none⟩ = some (.int .i64 m.ix) := cell_of hb2 2
             have f3 : w2.cell? ⟨mb, 3, none⟩ = some (.int .i64 m.vw) := cell_of hb2 3
             have f4 : w2.cell? ⟨mb, 4, none⟩ = some (.int .i64 m.vl) := cell_of hb2 4
             have f5 : w2.cell? ⟨mb, 5, none⟩ = some (.int .i64 m.pr) := cell_of hb2 5
             have f6 : w2.cell? ⟨mb, 6, none⟩ = some (.int .i64 m.t0) := cell_of hb2 6
             have f7 : w2.cell? ⟨mb, 7, none⟩ = some (.int .i64 m.t1) := cell_of hb2 7
             have f8 : w2.cell? ⟨mb, 8, none⟩ = some (.int .i64 m.b0) := cell_of hb2 8
             have f9 : w2.cell? ⟨mb, 9, none⟩ = some (.int .i64 m.b1) := cell_of hb2 9
             have f10 : w2.cell? ⟨mb, 10, none⟩ = some (.int .i64 m.b2) := cell_of hb2 10
             have f11 : w2.cell? ⟨mb, 11, none⟩ = some (.int .i64 m.b3) := cell_of hb2 11
             have f12 : w2.cell? ⟨mb, 12, none⟩ = some (.slice m.A m.txs.length m.c) := cell_of hb2 12
             clear hf2 HRG1 hb2)
          | (go_at_call 8; refine HR2.out.mono ?_; rintro e w3 ⟨rfl, hf3⟩; have HF3 : Hid (Fr [] W2 w3) := HF2.out.trans hf3 (by simp); clear hf3 HR2 f0 f1 f2 f3 f4 f5 f6 f7 f8 f9 f10 f11 f12))
        clear k0 k1 k2 k3 d6
        obtain ⟨W5, hW5⟩ : ∃ W, W = w3.alloc (.cells #[.int .i64 65536, .int .i64 131072] 3) := ⟨_, rfl⟩
        obtain ⟨kb, hkb⟩ : ∃ x, x = w3.heap.size := ⟨_, rfl⟩
        have hF5 : Fr [] w3 W5 := by rw [hW5]; exact (Fr.refl _ _).alloc _
        have hbk : W5.heap[kb]? = some (.cells ((([65536, 131072] : List Int).map (Value.int .i64)).toArray) 3 (0, 0)) := by rw [hW5, hkb]; exact heap_alloc_new _ _
        have HF5 : Hid (Fr [] W2 W5) := HF3.out.trans hF5 (by simp)
        have HFw5 : Hid (Fr [] w W5) := HFW.out.trans HF5.out (by simp)
        rw [← hW5, ← hkb]
        obtain ⟨X, hX⟩ : ∃ X : Nat → Prop, X = fun k => k < W5.heap.size := ⟨_, rfl⟩
        have HXS : Hid (∀ k, X k ↔ k < W5.heap.size) := fun k => by rw [hX]
        have HXF : Hid (∀ W, FrX X W5 W → Fr [] W5 W) := fun W hW => by rw [hX] at hW; exact hW.own
        have HKC : Hid (∀ W, Fr [] W5 W → (Kd.int .i64).C W (some ⟨kb, 0, none⟩) 2 [65536, 131072]) := fun W hW => C_block (l := [65536, 131072]) ((hW.block kb (Array.getElem?_eq_some_iff.1 hbk).1 (by simp)).trans hbk) (by decide) (by simp)
        have HOK := Lib.hid (rightG_ok HRGE.out)
        have hNS7 : NS ≤ 7 := by have := HOK.out.1.2.1; rw [HNS.out] at this; exact this
        have hgs : ∃ ad, gA = some ad := by
          obtain ⟨ad, e, _⟩ := int_at (HG.out.C) 0 (by have := HOK.out.1.1; omega)
          rw [HGA.out] at e
          exact ⟨ad, e⟩
        obtain ⟨ad, rfl⟩ := hgs
        have HSC : Hid (∀ W, Fr [] W5 W → (Kd.int .i64).C W (some ad) g.st.length g.st) := fun W hW => by
          have := Kd.C_below HG.out.C (HFw5.out.trans hW (by simp)).below
          rw [HGA.out] at this
          exact this
        have HCG5 : Hid (∀ W, Fr [] W5 W → W.cell? ⟨gb, 0, none⟩ = some (.int .i64 g.me) ∧ W.cell? ⟨gb, 1, none⟩ = some (.int .i64 g.base) ∧ W.cell? ⟨gb, 2, none⟩ = some (.int .i64 g.most) ∧ W.cell? ⟨gb, 3, none⟩ = some (.slice (some ad) NS gc)) := fun W hW => HCG.out W (HF5.out.trans hW (by simp))
        have HBM5 : Hid (∀ W, Fr [] W5 W → W.heap[mb]? = some (.cells #[.int .i64 m.kd, .int .i64 m.fr, .int .i64 m.ix, .int .i64 m.vw, .int .i64 m.vl, .int .i64 m.pr, .int .i64 m.t0, .int .i64 m.t1, .int .i64 m.b0, .int .i64 m.b1, .int .i64 m.b2, .int .i64 m.b3, .slice m.A m.txs.length m.c] 32 (0, 0))) := fun W hW => HBMW.out W (HF5.out.trans hW (by simp))
        clear hX hW5 hkb hF5 hbk HCG HBMW HRG HRM HBG HBM HF1 HF2 HF3
        have hS5 := HCG5.out _ ((Fr.refl [] W5).drew)
        go_cut [8] (fun v wc => ∃ p, v = .pointer (some ⟨p, 0, none⟩) ∧ Hid (CoAt X wc p (Co.new g.me g.st g.base g.most)) ∧ Hid (FrX X W5 wc))
        case first =>
          go_region_held3 (fun W => W.cell? ⟨gb, 0, none⟩ = some (.int .i64 g.me) ∧ W.cell? ⟨gb, 1, none⟩ = some (.int .i64 g.base) ∧ W.cell? ⟨gb, 2, none⟩ = some (.int .i64 g.most) ∧ W.cell? ⟨gb, 3, none⟩ = some (.slice (some ad) NS gc)) (first | (with_reducible assumption) | exact HCG5.out _ (by repeat (first | assumption | exact Fr.refl _ _ | apply Fr.drew | apply Fr.alloc)))
            (first
              | (refine st_copyO (w0 := W5) (by rfl) _ _ (by rfl) HNS.out (by rfl) (by rfl) ?_ ?_ ?_ (HSC.out _ (Fr.refl _ _)) (by omega) ?_; (· repeat (first | assumption | exact Fr.refl _ _ | apply Fr.drew | apply Fr.alloc)); (· exact Nat.le_refl _); (· exact heap_alloc_new _ _); intro A6 c6 w6 hr6 hb6 hf6
                 have HF6 := Lib.hid hf6
                 have hS6 := HCG5.out _ hf6
                 have HNW : Hid (Calls Tryz.prog 9 #[.int .i64 g.me, .slice A6 NS c6, .int .i64 g.base, .int .i64 g.most] w6 fun e w' => ∃ p, e = .returned (.pointer (some ⟨p, 0, none⟩)) ∧ CoAt (fun k => k < w6.heap.size) w' p (Co.new g.me g.st g.base g.most) ∧ Fr [] w6 w' ∧ w6.heap.size ≤ p) := by
                   have := c_new (c0 := c6) (row_C hr6 HNS.out) (by rw [HNS.out]; exact hNS7) g.me g.base g.most
                   rw [HNS.out] at this
                   exact this
                 clear hr6 hb6 hf6)
              | (go_at_call 9; refine HNW.out.mono ?_; rintro e w7 ⟨p, rfl, ⟨b7, h7⟩, hf7, _⟩
                 have hS7 := HCG5.out _ (HF6.out.trans hf7 (by simp))
                 have H7 := Lib.hid h7
                 have HF7 := Lib.hid (HF6.out.trans hf7 (by simp))
                 clear h7 hf7 HNW))
          all_goals
            go_wp2
            go_meet
            exact ⟨p, rfl, ⟨b7, H7.out.x (fun k _ hk => Nat.lt_of_lt_of_le ((HXS.out k).1 hk) HF6.out.size)⟩, FrX.of0 HF7.out⟩
        case rest =>
          obtain ⟨p, rfl, HC7, HX7⟩ := hcut
          go_upto_region 8 with (fail)
          obtain ⟨W7, rfl⟩ : ∃ W7, W7 = wc := ⟨_, rfl⟩
          have HFw7 : Hid (∀ W, FrX X W5 W → Fr [] w W) := fun W hW => HFw5.out.trans (HXF.out W hW) (by simp)
          have HXL : Hid (∀ W, FrX X W5 W → ∀ k, X k → k < W.heap.size) := fun W hW k hk => Nat.lt_of_lt_of_le ((HXS.out k).1 hk) hW.size
          clear hS5
          go_loopg [45] N (fun gn i wr => ∃ (k : Nat) (cc : Co), gn = N - k ∧ i = .int .i64 (k : Int) ∧ k ≤ N ∧ Hid (CoAt X wr p cc) ∧ Hid (Co.Calm k cc) ∧ Hid (cc.me = g.me ∧ cc.st = g.st ∧ cc.decs.length ≤ 1001) ∧ Hid (FrX X W5 wr))
          case atStart => exact ⟨0, _, rfl, rfl, Nat.zero_le _, HC7, Co.Calm.new HOK.out.1 HOK.out.2 g.base g.most, ⟨rfl, rfl, by simp [Co.new]⟩, HX7⟩
          case round =>
            obtain ⟨k, cc, rfl, rfl, hk, HC, HCA, HID, HX⟩ := hrel
            obtain ⟨wo, rfl⟩ : ∃ wo, wo = wr := ⟨_, rfl⟩
            by_cases hlt : k < N
            · obtain ⟨a, ha⟩ : ∃ a, l[k]? = some a := ⟨_, List.getElem?_eq_getElem (by rw [HN.out]; exact hlt)⟩
              obtain ⟨hfm, _, ad1, hA1, hcl⟩ := HAC.out k a ha
              have hsp : ad1.spot = none := by
                obtain ⟨a0, ha0⟩ : ∃ a, l[0]? = some a := ⟨_, List.getElem?_eq_getElem (by rw [HN.out]; omega)⟩
                obtain ⟨_, _, ad2, hA2, hcl0⟩ := HAC.out 0 a0 ha0
                rw [hA1] at hA2
                injection hA2 with hA2
                subst hA2
                have h0 := hcl0 0 _ rfl
                rw [show ad1.add (0 * 15 + 0) = ad1 from by simp [Addr.add]] at h0
                exact cell_spot h0
              obtain ⟨ab1, ao1, as1⟩ := ad1
              simp only at hsp
              subst hsp
              subst hA1
              have hcl2 : ∀ (i : Nat) (u : Value), a.cells[i]? = some u → wo.cell? ⟨ab1, ao1 + k * 15 + i, none⟩ = some u := fun i u hu => by
                have h1 := hcl i u hu
                rw [addr_add _ _ rfl] at h1
                rw [Nat.add_assoc]
                exact ((HFw7.out _ HX.out).cell (lt_cell h1) (by simp)).trans h1
              have a0 : wo.cell? ⟨ab1, ao1 + k * 15, none⟩ = some (.int .i64 a.kind) := hcl2 0 _ rfl
              have a1 : wo.cell? ⟨ab1, ao1 + k * 15 + 1, none⟩ = some (.int .i64 a.n) := hcl2 1 _ rfl
              have a2 : wo.cell? ⟨ab1, ao1 + k * 15 + 2, none⟩ = some (.int .i64 a.m.kd) := hcl2 2 _ rfl
              have a3 : wo.cell? ⟨ab1, ao1 + k * 15 + 3, none⟩ = some (.int .i64 a.m.fr) := hcl2 3 _ rfl
              have a4 : wo.cell? ⟨ab1, ao1 + k * 15 + 4, none⟩ = some (.int .i64 a.m.ix) := hcl2 4 _ rfl
              have a5 : wo.cell? ⟨ab1, ao1 + k * 15 + 5, none⟩ = some (.int .i64 a.m.vw) := hcl2 5 _ rfl
              have a6 : wo.cell? ⟨ab1, ao1 + k * 15 + 6, none⟩ = some (.int .i64 a.m.vl) := hcl2 6 _ rfl
              have a7 : wo.cell? ⟨ab1, ao1 + k * 15 + 7, none⟩ = some (.int .i64 a.m.pr) := hcl2 7 _ rfl
              have a8 : wo.cell? ⟨ab1, ao1 + k * 15 + 8, none⟩ = some (.int .i64 a.m.t0) := hcl2 8 _ rfl
              have a9 : wo.cell? ⟨ab1, ao1 + k * 15 + 9, none⟩ = some (.int .i64 a.m.t1) := hcl2 9 _ rfl
              have a10 : wo.cell? ⟨ab1, ao1 + k * 15 + 10, none⟩ = some (.int .i64 a.m.b0) := hcl2 10 _ rfl
              have a11 : wo.cell? ⟨ab1, ao1 + k * 15 + 11, none⟩ = some (.int .i64 a.m.b1) := hcl2 11 _ rfl
              have a12 : wo.cell? ⟨ab1, ao1 + k * 15 + 12, none⟩ = some (.int .i64 a.m.b2) := hcl2 12 _ rfl
              have a13 : wo.cell? ⟨ab1, ao1 + k * 15 + 13, none⟩ = some (.int .i64 a.m.b3) := hcl2 13 _ rfl
              have a14 : wo.cell? ⟨ab1, ao1 + k * 15 + 14, none⟩ = some (.slice a.m.A a.m.txs.length a.m.c) := hcl2 14 _ rfl
              have HFM := Lib.hid hfm
              clear ha hfm hcl hcl2
              go_upto_region 10 with (fail)
              obtain ⟨W9, hW9⟩ : ∃ W, W = wo.alloc (.cells #[.int .i64 a.kind, .int .i64 a.n, .int .i64 a.m.kd, .int .i64 a.m.fr, .int .i64 a.m.ix, .int .i64 a.m.vw, .int .i64 a.m.vl, .int .i64 a.m.pr, .int .i64 a.m.t0, .int .i64 a.m.t1, .int .i64 a.m.b0, .int .i64 a.m.b1, .int .i64 a.m.b2, .int .i64 a.m.b3, .slice a.m.A a.m.txs.length a.m.c] 39) := ⟨_, rfl⟩
              obtain ⟨ab, hab⟩ : ∃ x, x = wo.heap.size := ⟨_, rfl⟩
              have hF9 : Fr [] wo W9 := by rw [hW9]; exact (Fr.refl _ _).alloc _
              have hb9 : W9.heap[ab]? = some (.cells #[.int .i64 a.kind, .int .i64 a.n, .int .i64 a.m.kd, .int .i64 a.m.fr, .int .i64 a.m.ix, .int .i64 a.m.vw, .int .i64 a.m.vl, .int .i64 a.m.pr, .int .i64 a.m.t0, .int .i64 a.m.t1, .int .i64 a.m.b0, .int .i64 a.m.b1, .int .i64 a.m.b2, .int .i64 a.m.b3, .slice a.m.A a.m.txs.length a.m.c] 39 (0, 0)) := by rw [hW9, hab]; exact heap_alloc_new _ _
              rw [← hW9, ← hab]
              have HX9 : Hid (FrX X W5 W9) := HX.out.trans (FrX.of0 hF9)
              have HC9 : Hid (CoAt X W9 p cc) := HC.out.fr hF9
              have HB9 : Hid (∀ W, Fr [] W9 W → W.heap[ab]? = some (.cells #[.int .i64 a.kind, .int .i64 a.n, .int .i64 a.m.kd, .int .i64 a.m.fr, .int .i64 a.m.ix, .int .i64 a.m.vw, .int .i64 a.m.vl, .int .i64 a.m.pr, .int .i64 a.m.t0, .int .i64 a.m.t1, .int .i64 a.m.b0, .int .i64 a.m.b1, .int .i64 a.m.b2, .int .i64 a.m.b3, .slice a.m.A a.m.txs.length a.m.c] 39 (0, 0))) := fun W hW => (hW.block ab (Array.getElem?_eq_some_iff.1 hb9).1 (by simp)).trans hb9
              have HMS : Hid (N - (k + 1) < N - k) := by show _ < _; omega
              have c0 : W9.cell? ⟨ab, 0, none⟩ = some (.int .i64 a.kind) := cell_of hb9 0
              clear hW9 hab hF9 hb9 a0 a1 a2 a3 a4 a5 a6 a7 a8 a9 a10 a11 a12 a13 a14
              by_cases hk1 : a.kind = 1
              · have e1 : (a.kind == 1) = true := by simpa using hk1
                clear hk1
                go_wp2_with (first
                  | (at_builtin; refine wp_copyO rfl _ _ rfl rfl rfl rfl (HKC.out _ (HXF.out _ HX9.out)) (by decide) ?_; intro A3 c3 w4 hr4 hb4 hf4
                     have HTK : Hid (Calls Tryz.prog 10 #[.pointer (some ⟨p, 0, none⟩), .slice A3 2 c3, .int .i64 65536] w4 fun e w' => ∃ c' l B d, e = .returned (.slice B l.length d) ∧ Co.Ticks [65536, 131072] 65536 cc c' l ∧ CoAt X w' p c' ∧ w'.ownsRow 0 48 14 (.slice B l.length d) l.length (flatA l) ∧ FrX X W9 w') := by
                       obtain ⟨b9, h9⟩ := HC9.out
                       exact tick_at h9 (HXL.out _ HX9.out) HCA.out hf4 hr4 hb4 rfl 65536
                     clear hr4 hb4 hf4)
                  | (go_at_call 10; refine HTK.out.mono ?_; rintro e w5 ⟨c', lt, B5, d5, rfl, ht, hc5, _, hx5⟩; have HT5 := Lib.hid ht; have HC5 := Lib.hid hc5; have HX5 : Hid (FrX X W5 w5) := HX9.out.trans hx5; clear ht hc5 hx5 HTK))
                go_roundg (N - (k + 1))
                case measure => exact HMS.out
                case rel =>
                  obtain ⟨q1, q2, q3⟩ := HCA.out.tick HT5.out
                  exact ⟨k + 1, c', rfl, by go_num, by omega, HC5, q1.more (Nat.le_succ _), ⟨q2.trans HID.out.1, q3.trans HID.out.2.1, HT5.out.decs HID.out.2.2⟩, HX5⟩
              · have e1 : (a.kind == 1) = false := by simpa using hk1
                clear hk1
                obtain ⟨rb, hrb⟩ : ∃ x, a.m.rightB = x := ⟨_, rfl⟩
                have HRB := Lib.hid hrb
                have HRA : Hid (Calls Tryz.prog 8 #[.agg #[.int .i64 a.m.kd, .int .i64 a.m.fr, .int .i64 a.m.ix, .int .i64 a.m.vw, .int .i64 a.m.vl, .int .i64 a.m.pr, .int .i64 a.m.t0, .int .i64 a.m.t1, .int .i64 a.m.b0, .int .i64 a.m.b1, .int .i64 a.m.b2, .int .i64 a.m.b3, .slice a.m.A a.m.txs.length a.m.c]] W9 fun e w' => e = .returned (.bool rb) ∧ Fr [] W9 w') := by
                  have := mright_calls (HFM.out.fr (HFw7.out _ HX9.out))
                  rw [hrb] at this
                  exact this
                have hb9 := HB9.out _ (Fr.refl _ _)
                have g0 : W9.cell? ⟨ab, 2, none⟩ = some (.int .i64 a.m.kd) := cell_of hb9 2
                have g1 : W9.cell? ⟨ab, 3, none⟩ = some (.int .i64 a.m.fr) := cell_of hb9 3
                have g2 : W9.cell? ⟨ab, 4, none⟩ = some (.int .i64 a.m.ix) := cell_of hb9 4
                have g3 : W9.cell? ⟨ab, 5, none⟩ = some (.int .i64 a.m.vw) := cell_of hb9 5
                have g4 : W9.cell? ⟨ab, 6, none⟩ = some (.int .i64 a.m.vl) := cell_of hb9 6
                have g5 : W9.cell? ⟨ab, 7, none⟩ = some (.int .i64 a.m.pr) := cell_of hb9 7
                have g6 : W9.cell? ⟨ab, 8, none⟩ = some (.int .i64 a.m.t0) := cell_of hb9 8
                have g7 : W9.cell? ⟨ab, 9, none⟩ = some (.int .i64 a.m.t1) := cell_of hb9 9
                have g8 : W9.cell? ⟨ab, 10, none⟩ = some (.int .i64 a.m.b0) := cell_of hb9 10
                have g9 : W9.cell? ⟨ab, 11, none⟩ = some (.int .i64 a.m.b1) := cell_of hb9 11
                have g10 : W9.cell? ⟨ab, 12, none⟩ = some (.int .i64 a.m.b2) := cell_of hb9 12
                have g11 : W9.cell? ⟨ab, 13, none⟩ = some (.int .i64 a.m.b3) := cell_of hb9 13
                have g12 : W9.cell? ⟨ab, 14, none⟩ = some (.slice a.m.A a.m.txs.length a.m.c) := cell_of hb9 14
                clear hb9 hrb
                cases rb with
                | false =>
                  go_wp2_with (go_at_call 8; refine HRA.out.mono ?_; rintro e w4 ⟨rfl, hf4⟩; have HF4 := Lib.hid hf4; clear hf4 HRA)
                  go_roundg (N - (k + 1))
                  case measure => exact HMS.out
                  case rel => exact ⟨k + 1, cc, rfl, by go_num, by omega, HC9.out.fr HF4.out, HCA.out.more (Nat.le_succ _), HID, HX9.out.trans (FrX.of0 HF4.out)⟩
                | true =>
                  go_wp2_with (first
                    | (go_at_call 8; refine HRA.out.mono ?_; rintro e w4 ⟨rfl, hf4⟩; have HF4 := Lib.hid hf4
                       have HCP := Lib.hid (copy_calls (HFM.out.fr (HFw7.out _ (HX9.out.trans (FrX.of0 hf4)))) (Mg.right3 HRB.out))
                       have hb4 := HB9.out _ hf4
                       clear g0 g1 g2 g3 g4 g5 g6 g7 g8 g9 g10 g11 g12
                       have g0 : w4.cell? ⟨ab, 2, none⟩ = some (.int .i64 a.m.kd) := cell_of hb4 2
                       have g1 : w4.cell? ⟨ab, 3, none⟩ = some (.int .i64 a.m.fr) := cell_of hb4 3
                       have g2 : w4.cell? ⟨ab, 4, none⟩ = some (.int .i64 a.m.ix) := cell_of hb4 4
                       have g3 : w4.cell? ⟨ab, 5, none⟩ = some (.int .i64 a.m.vw) := cell_of hb4 5
                       have g4 : w4.cell? ⟨ab, 6, none⟩ = some (.int .i64 a.m.vl) := cell_of hb4 6
                       have g5 : w4.cell? ⟨ab, 7, none⟩ = some (.int .i64 a.m.pr) := cell_of hb4 7
                       have g6 : w4.cell? ⟨ab, 8, none⟩ = some (.int .i64 a.m.t0) := cell_of hb4 8
                       have g7 : w4.cell? ⟨ab, 9, none⟩ = some (.int .i64 a.m.t1) := cell_of hb4 9
                       have g8 : w4.cell? ⟨ab, 10, none⟩ = some (.int .i64 a.m.b0) := cell_of hb4 10
                       have g9 : w4.cell? ⟨ab, 11, none⟩ = some (.int .i64 a.m.b1) := cell_of hb4 11
                       have g10 : w4.cell? ⟨ab, 12, none⟩ = some (.int .i64 a.m.b2) := cell_of hb4 12
                       have g11 : w4.cell? ⟨ab, 13, none⟩ = some (.int .i64 a.m.b3) := cell_of hb4 13
                       have g12 : w4.cell? ⟨ab, 14, none⟩ = some (.slice a.m.A a.m.txs.length a.m.c) := cell_of hb4 14
                       clear hf4 hb4 HRA)
                    | (go_at_call 12; refine HCP.out.mono ?_; rintro e w10 ⟨Ay, cy, rfl, hf10⟩; have HF10 : Hid (Fr [] W9 w10) := HF4.out.trans hf10 (by simp); clear hf10 HCP)
                    | (at_builtin; refine wp_copyO rfl _ _ rfl rfl rfl rfl (HKC.out _ (HXF.out _ (HX9.out.trans (FrX.of0 HF10.out)))) (by decide) ?_; intro A3 c3 w11 hr4 hb4 hf4
                       have HHA : Hid (Calls Tryz.prog 11 #[.pointer (some ⟨p, 0, none⟩), .agg #[.int .i64 a.m.kd, .int .i64 a.m.fr, .int .i64 a.m.ix, .int .i64 a.m.vw, .int .i64 a.m.vl, .int .i64 a.m.pr, .int .i64 a.m.t0, .int .i64 a.m.t1, .int .i64 a.m.b0, .int .i64 a.m.b1, .int .i64 a.m.b2, .int .i64 a.m.b3, .slice Ay a.m.txs.length cy], .slice A3 2 c3] w11 fun e w' => ∃ c' l B d, e = .returned (.slice B l.length d) ∧ Co.Handles [65536, 131072] cc ⟨0, a.m.kd, a.m.fr, a.m.ix, a.m.vw, a.m.vl, a.m.pr⟩ c' l ∧ CoAt X w' p c' ∧ w'.ownsRow 0 48 14 (.slice B l.length d) l.length (flatA l) ∧ FrX X w10 w') := by
                         obtain ⟨b9, h9⟩ := HC9.out.fr HF10.out
                         have hw := HFM.out.wf
                         exact handle_at h9 (HXL.out _ (HX9.out.trans (FrX.of0 HF10.out))) HCA.out (by omega) hf4 hr4 hb4 rfl 0 a.m ⟨hw.1, hw.2.1, hw.2.2.1, hw.2.2.2.1, hw.2.2.2.2.2.1⟩ Ay cy
                       clear hr4 hb4 hf4)
                    | (go_at_call 11; refine HHA.out.mono ?_; rintro e w5 ⟨c', lt, B5, d5, rfl, ht, hc5, _, hx5⟩; have HT5 := Lib.hid ht; have HC5 := Lib.hid hc5; have HX5 : Hid (FrX X W5 w5) := (HX9.out.trans (FrX.of0 HF10.out)).trans hx5; clear ht hc5 hx5 HHA))
                  go_roundg (N - (k + 1))
                  case measure => exact HMS.out
                  case rel =>
                    obtain ⟨q1, q2, q3⟩ := HCA.out.handle (by omega) (a := ⟨0, a.m.kd, a.m.fr, a.m.ix, a.m.vw, a.m.vl, a.m.pr⟩) HFM.out.wf.2.2.2.2.2.1 HT5.out
                    exact ⟨k + 1, c', rfl, by go_num, by omega, HC5, q1, ⟨q2.trans HID.out.1, q3.trans HID.out.2.1, HT5.out.decs HID.out.2.2⟩, HX5⟩
            · obtain rfl : k = N := by omega
              obtain ⟨bc, hcin⟩ := HC.out
              have HCI := Lib.hid hcin
              obtain ⟨nd, hnd⟩ : ∃ n, cc.decs.length = n := ⟨_, rfl⟩
              have hnd1 : nd ≤ 1001 := by rw [← hnd]; exact HID.out.2.2
              obtain ⟨vv, hvv⟩ : ∃ x, cc.view = x := ⟨_, rfl⟩
              obtain ⟨ss, hss⟩ : ∃ x, cc.step = x := ⟨_, rfl⟩
              have HFE : Hid (Fr [] W5 wo) := HXF.out _ HX.out
              have HDEC : Hid (∀ Y W b, CoIn Y W p cc b → Calls Tryz.prog 13 #[.pointer (some ⟨p, 0, none⟩)] W fun e w' => ∃ A d, e = .returned (.slice A nd d) ∧ OwnI W.heap.size w' (.slice A nd d) cc.decs ∧ Fr [] W w') := fun Y W b h => by
                have := c_decisions h (by omega)
                rw [hnd] at this
                exact this
              have HVW : Hid (∀ Y W b, CoIn Y W p cc b → Calls Tryz.prog 14 #[.pointer (some ⟨p, 0, none⟩)] W fun e w' => e = .returned (.int .i64 vv) ∧ ∃ n, w' = W.drewN n) := fun Y W b h => by
                have := c_view h
                rw [hvv] at this
                exact this
              have HSP : Hid (∀ Y W b, CoIn Y W p cc b → Calls Tryz.prog 15 #[.pointer (some ⟨p, 0, none⟩)] W fun e w' => e = .returned (.int .i64 ss) ∧ ∃ n, w' = W.drewN n) := fun Y W b h => by
                have := c_step h
                rw [hss] at this
                exact this
              have HDC0 := Lib.hid (HDEC.out _ _ _ hcin)
              have HND := Lib.hid hnd
              clear hnd hvv hss hcin hlt hk
              go_upto_region 17 with (first
                | (go_at_call 13; refine HDC0.out.mono ?_; rintro e w16 ⟨Ad, dd, rfl, ho, hf⟩; have HO := Lib.hid ho; have HF16 := Lib.hid hf; have HV16 := Lib.hid (HVW.out _ _ _ (HCI.out.fr hf)); clear ho hf HDC0)
                | (go_at_call 14; refine HV16.out.mono ?_; rintro e y ⟨rfl, n1, rfl⟩; have HS16 := Lib.hid (HSP.out _ _ _ (HCI.out.fr (HF16.out.drewN n1))); clear HV16)
                | (go_at_call 15; refine HS16.out.mono ?_; rintro e y ⟨rfl, n2, rfl⟩; clear HS16))
              obtain ⟨V, hV⟩ : ∃ V, V = w16.drewN (n1 + n2) := ⟨_, rfl⟩
              have HFV : Hid (Fr [] w16 V) := by show Fr _ _ _; rw [hV]; exact (Fr.refl _ _).drewN _
              rw [← hV]
              clear hV
              have HFoV : Hid (Fr [] wo V) := HF16.out.trans HFV.out (by simp)
              have HF5V : Hid (Fr [] W5 V) := HFE.out.trans HFoV.out (by simp)
              have HFwV : Hid (Fr [] w V) := HFw5.out.trans HF5V.out (by simp)
              have HOV : Hid (OwnI wo.heap.size V (.slice Ad nd dd) cc.decs) := HO.out.fr HFV.out (by simp)
              have hbv := HBM5.out _ HF5V.out
              have f0 : V.cell? ⟨mb, 0, none⟩ = some (.int .i64 m.kd) := cell_of hbv 0
              have f1 : V.cell? ⟨mb, 1, none⟩ = some (.int .i64 m.fr) := cell_of hbv 1
              have f2 : V.cell? ⟨mb, 2, none⟩ = some (.int .i64 m.ix) := cell_of hbv 2
              have f3 : V.cell? ⟨mb, 3, none⟩ = some (.int .i64 m.vw) := cell_of hbv 3
              have f4 : V.cell? ⟨mb, 4, none⟩ = some (.int .i64 m.vl) := cell_of hbv 4
              have f5 : V.cell? ⟨mb, 5, none⟩ = some (.int .i64 m.pr) := cell_of hbv 5
              have f6 : V.cell? ⟨mb, 6, none⟩ = some (.int .i64 m.t0) := cell_of hbv 6
              have f7 : V.cell? ⟨mb, 7, none⟩ = some (.int .i64 m.t1) := cell_of hbv 7
              have f8 : V.cell? ⟨mb, 8, none⟩ = some (.int .i64 m.b0) := cell_of hbv 8
              have f9 : V.cell? ⟨mb, 9, none⟩ = some (.int .i64 m.b1) := cell_of hbv 9
              have f10 : V.cell? ⟨mb, 10, none⟩ = some (.int .i64 m.b2) := cell_of hbv 10
              have f11 : V.cell? ⟨mb, 11, none⟩ = some (.int .i64 m.b3) := cell_of hbv 11
              have f12 : V.cell? ⟨mb, 12, none⟩ = some (.slice m.A m.txs.length m.c) := cell_of hbv 12
              clear hbv
              by_cases n7 : m.ix = (nd : Int)
              · have e7 : (m.ix == (nd : Int)) = true := by simpa using n7
                clear n7
                go_wp2
                exact HTRUE.out _ HFwV.out
              · have e7 : (m.ix == (nd : Int)) = false := by simpa using n7
                have N7 := Lib.hid n7
                clear n7
                by_cases n3 : m.kd < 3
                · have d3 : decide (m.kd < 3) = true := decide_eq_true n3
                  clear n3
                  go_wp2
                  exact HTRUE.out _ HFwV.out
                · have d3 : decide (m.kd < 3) = false := decide_eq_false n3
                  have HRN := Lib.hid (Mg.rightN HRME.out)
                  have HN3 : Hid (3 ≤ m.kd) := by show _ ≤ _; omega
                  clear n3
                  obtain ⟨X', h1, h2, h3, h4⟩ := HCI.out.grow (HXL.out _ HX.out) HFoV.out
                  have HC' := Lib.hid h1
                  have HX' := Lib.hid h2
                  have HX3 := Lib.hid h3
                  have HX4 := Lib.hid h4
                  clear h1 h2 h3 h4
                  have HCV := Lib.hid (copy_calls (HM.out.fr HFwV.out) (Mg.right3 HRME.out))
                  have HIDL : Hid (∀ c' lt, Co.Handles [65536, 131072] cc ⟨0, m.kd, m.fr, m.ix, m.vw, m.vl, m.pr⟩ c' lt → c' = cc ∧ lt = if (nd : Int) < m.ix ∨ (NS : Int) ≤ m.fr ∨ m.kd = 6 then [] else [⟨m.fr, 6, g.me, m.ix, 0, cc.decs.getD m.ix.toNat 0, 0⟩]) := fun c' lt h => by
                    have e1 : cc.idx = (nd : Int) := by unfold Co.idx; rw [HND.out]
                    have e2 : (cc.st.length : Int) = NS := by rw [HID.out.2.1, HNS.out]
                    have e3 := HN3.out
                    have e4 := HRN.out
                    have e5 := N7.out
                    have e6 := e4.2.2 e3
                    unfold Co.Handles Co.idle at h
                    simp only [e1, e2] at h
                    by_cases q : (nd : Int) < m.ix ∨ (NS : Int) ≤ m.fr
                    · rw [if_pos (by omega)] at h
                      rw [if_pos (by omega)]
                      exact h
                    · rw [if_neg (by omega), if_pos (by omega)] at h
                      by_cases q6 : m.kd = 6
                      · rw [if_pos q6] at h
                        rw [if_pos (by omega)]
                        exact h
                      · rw [if_neg q6, HID.out.1] at h
                        rw [if_neg (by omega)]
                        exact h
                  by_cases n8 : (nd : Int) < m.ix
                  · have d8 : decide ((nd : Int) < m.ix) = true := decide_eq_true n8
                    have HQ : Hid ((if (nd : Int) < m.ix ∨ (NS : Int) ≤ m.fr ∨ m.kd = 6 then ([] : List Am) else [⟨m.fr, 6, g.me, m.ix, 0, cc.decs.getD m.ix.toNat 0, 0⟩]) = []) := if_pos (.inl n8)
                    clear n8
                    have HHV : Hid (∀ w19 w20 A3 c3 Ay cy, Fr [] V w19 → Fr [] w19 w20 → w20.ownsRow 0 3 1 (.slice A3 2 c3) 2 (([65536, 131072] : List Int).map (Value.int .i64)) → (∀ k ∈ (Value.slice A3 2 c3).ownBlock.toList, w19.heap.size ≤ k) → Calls Tryz.prog 11 #[.pointer (some ⟨p, 0, none⟩), .agg #[.int .i64 m.kd, .int .i64 m.fr, .int .i64 m.ix, .int .i64 m.vw, .int .i64 m.vl, .int .i64 m.pr, .int .i64 m.t0, .int .i64 m.t1, .int .i64 m.b0, .int .i64 m.b1, .int .i64 m.b2, .int .i64 m.b3, .slice Ay m.txs.length cy], .slice A3 2 c3] w20 fun e w' => ∃ B d, e = .returned (.slice B 0 d) ∧ CoAt X' w' p cc ∧ w'.ownsRow 0 48 14 (.slice B 0 d) 0 (flatA ([])) ∧ FrX X' V w') := fun w19 w20 A3 c3 Ay cy hf1 hf2 hr hb => by
                      have hw := HM.out.wf
                      refine (handle_at (HC'.out.fr hf1) (fun k hk => Nat.lt_of_lt_of_le (HX'.out k hk) hf1.size) HCA.out (by omega) hf2 hr hb rfl 0 m ⟨hw.1, hw.2.1, hw.2.2.1, hw.2.2.2.1, hw.2.2.2.2.2.1⟩ Ay cy).mono ?_
                      rintro e w' ⟨c', lt, B, d, rfl, ht, hc, hr', hx⟩
                      obtain ⟨rfl, rfl⟩ := HIDL.out _ _ ht
                      rw [HQ.out] at hr' ⊢
                      exact ⟨B, d, rfl, hc, hr', (FrX.of0 hf1).trans hx⟩
                    go_upto_region 22 with (first
                      | (go_at_call 12; refine HCV.out.mono ?_; rintro e w19 ⟨Ay, cy, rfl, hf19⟩; have HF19 := Lib.hid hf19; clear hf19 HCV)
                      | (at_builtin; refine wp_copyO rfl _ _ rfl rfl rfl rfl (HKC.out _ (HF5V.out.trans HF19.out (by simp))) (by decide) ?_; intro A3 c3 w20 hr4 hb4 hf4
                         have HH := Lib.hid (HHV.out _ _ _ _ Ay cy HF19.out hf4 hr4 hb4)
                         clear hr4 hb4 hf4)
                      | (go_at_call 11; refine HH.out.mono ?_; rintro e w21 ⟨B, dB, rfl, ⟨b21, h21⟩, hr21, hx21⟩; have H21 := Lib.hid h21; have HR21 := Lib.hid hr21; have HX21 := Lib.hid hx21; have HD21 := Lib.hid (HDEC.out _ _ _ h21); clear h21 hr21 hx21 HH)
                      | (go_at_call 13; refine HD21.out.mono ?_; rintro e w22 ⟨Ae, de, rfl, ho, hf⟩
                         have HF22 := Lib.hid hf
                         have hrow : OwnI wo.heap.size w21 (.slice Ad nd dd) cc.decs := ⟨row_move HOV.out.1 (fun k e => HX21.out.block (row_lt HOV.out.1 k (by simp [e])) (HX4.out k (HOV.out.2 k (by simp [e])) (row_lt HOV.out.1 k (by simp [e])))), HOV.out.2⟩
                         have HR22 := Lib.hid (hrow.fr hf (by simp))
                         have hsm := same_calls (c0 := de) (c1 := dd) (w := w22) (row_C (by have := ho.1; rw [HND.out] at this; exact this) HND.out) (row_C (by have := HR22.out.1; rw [HND.out] at this; exact this) HND.out)
                         rw [HND.out, show decide (cc.decs = cc.decs) = true from by simp] at hsm
                         have HSM := Lib.hid hsm
                         have HV22 : Hid (∀ W, Fr [] w22 W → Calls Tryz.prog 14 #[.pointer (some ⟨p, 0, none⟩)] W fun e w' => e = .returned (.int .i64 vv) ∧ ∃ k, w' = W.drewN k) := fun W hW => HVW.out _ _ _ (H21.out.fr (hf.trans hW (by simp)))
                         have HS22 : Hid (∀ W, Fr [] w22 W → Calls Tryz.prog 15 #[.pointer (some ⟨p, 0, none⟩)] W fun e w' => e = .returned (.int .i64 ss) ∧ ∃ k, w' = W.drewN k) := fun W hW => HSP.out _ _ _ (H21.out.fr (hf.trans hW (by simp)))
                         clear ho hf hrow hsm HD21)
                      | (go_at_call 16; refine HSM.out.mono ?_; rintro e y ⟨rfl, n3, rfl⟩; clear HSM)
                      | (go_at_call 14; refine (HV22.out _ (by first | exact (Fr.refl _ _).drewN _ | exact ((Fr.refl _ _).drewN _).drewN _)).mono ?_; rintro e y ⟨rfl, n4, rfl⟩; clear HV22)
                      | (go_at_call 15; refine (HS22.out _ (by first | exact (Fr.refl _ _).drewN _ | exact ((Fr.refl _ _).drewN _).drewN _)).mono ?_; rintro e y ⟨rfl, n5, rfl⟩; clear HS22))
                    obtain ⟨Vb, hVb⟩ : ∃ V, V = w22.drewN (n3 + n4 + n5) := ⟨_, rfl⟩
                    have HFb : Hid (Fr [] w22 Vb) := by show Fr _ _ _; rw [hVb]; exact (Fr.refl _ _).drewN _
                    rw [← hVb]
                    clear hVb f0 f1 f2 f3 f4 f5 f6 f7 f8 f9 f10 f11 f12
                    have HF21 : Hid (Fr [] w21 Vb) := HF22.out.trans HFb.out (by simp)
                    have HFX21 : Hid (Fr [] W5 w21) := HXF.out _ ((FrX.of0 HF5V.out).trans (HX21.out.weak HX3.out))
                    have HF5b : Hid (Fr [] W5 Vb) := HFX21.out.trans HF21.out (by simp)
                    have HFwb : Hid (Fr [] w Vb) := HFw5.out.trans HF5b.out (by simp)
                    have hbb := HBM5.out _ HF5b.out
                    have p0 : Vb.cell? ⟨mb, 0, none⟩ = some (.int .i64 m.kd) := cell_of hbb 0
                    have p1 : Vb.cell? ⟨mb, 1, none⟩ = some (.int .i64 m.fr) := cell_of hbb 1
                    have p2 : Vb.cell? ⟨mb, 2, none⟩ = some (.int .i64 m.ix) := cell_of hbb 2
                    obtain ⟨r0, r1, r2, r3⟩ := HCG5.out _ HF5b.out
                    clear hbb
                    go_wp2
                    exact HTRUE.out _ HFwb.out
                  · have d8 : decide ((nd : Int) < m.ix) = false := decide_eq_false n8
                    by_cases n9 : (NS : Int) ≤ m.fr
                    · have d9 : decide ((NS : Int) ≤ m.fr) = true := decide_eq_true n9
                      have HQ : Hid ((if (nd : Int) < m.ix ∨ (NS : Int) ≤ m.fr ∨ m.kd = 6 then ([] : List Am) else [⟨m.fr, 6, g.me, m.ix, 0, cc.decs.getD m.ix.toNat 0, 0⟩]) = []) := if_pos (.inr (.inl n9))
                      clear n8 n9
                      have HHV : Hid (∀ w19 w20 A3 c3 Ay cy, Fr [] V w19 → Fr [] w19 w20 → w20.ownsRow 0 3 1 (.slice A3 2 c3) 2 (([65536, 131072] : List Int).map (Value.int .i64)) → (∀ k ∈ (Value.slice A3 2 c3).ownBlock.toList, w19.heap.size ≤ k) → Calls Tryz.prog 11 #[.pointer (some ⟨p, 0, none⟩), .agg #[.int .i64 m.kd, .int .i64 m.fr, .int .i64 m.ix, .int .i64 m.vw, .int .i64 m.vl, .int .i64 m.pr, .int .i64 m.t0, .int .i64 m.t1, .int .i64 m.b0, .int .i64 m.b1, .int .i64 m.b2, .int .i64 m.b3, .slice Ay m.txs.length cy], .slice A3 2 c3] w20 fun e w' => ∃ B d, e = .returned (.slice B 0 d) ∧ CoAt X' w' p cc ∧ w'.ownsRow 0 48 14 (.slice B 0 d) 0 (flatA ([])) ∧ FrX X' V w') := fun w19 w20 A3 c3 Ay cy hf1 hf2 hr hb => by
                        have hw := HM.out.wf
                        refine (handle_at (HC'.out.fr hf1) (fun k hk => Nat.lt_of_lt_of_le (HX'.out k hk) hf1.size) HCA.out (by omega) hf2 hr hb rfl 0 m ⟨hw.1, hw.2.1, hw.2.2.1, hw.2.2.2.1, hw.2.2.2.2.2.1⟩ Ay cy).mono ?_
                        rintro e w' ⟨c', lt, B, d, rfl, ht, hc, hr', hx⟩
                        obtain ⟨rfl, rfl⟩ := HIDL.out _ _ ht
                        rw [HQ.out] at hr' ⊢
                        exact ⟨B, d, rfl, hc, hr', (FrX.of0 hf1).trans hx⟩
                      go_upto_region 22 with (first
                        | (go_at_call 12; refine HCV.out.mono ?_; rintro e w19 ⟨Ay, cy, rfl, hf19⟩; have HF19 := Lib.hid hf19; clear hf19 HCV)
                        | (at_builtin; refine wp_copyO rfl _ _ rfl rfl rfl rfl (HKC.out _ (HF5V.out.trans HF19.out (by simp))) (by decide) ?_; intro A3 c3 w20 hr4 hb4 hf4
                           have HH := Lib.hid (HHV.out _ _ _ _ Ay cy HF19.out hf4 hr4 hb4)
                           clear hr4 hb4 hf4)
                        | (go_at_call 11; refine HH.out.mono ?_; rintro e w21 ⟨B, dB, rfl, ⟨b21, h21⟩, hr21, hx21⟩; have H21 := Lib.hid h21; have HR21 := Lib.hid hr21; have HX21 := Lib.hid hx21; have HD21 := Lib.hid (HDEC.out _ _ _ h21); clear h21 hr21 hx21 HH)
                        | (go_at_call 13; refine HD21.out.mono ?_; rintro e w22 ⟨Ae, de, rfl, ho, hf⟩
                           have HF22 := Lib.hid hf
                           have hrow : OwnI wo.heap.size w21 (.slice Ad nd dd) cc.decs := ⟨row_move HOV.out.1 (fun k e => HX21.out.block (row_lt HOV.out.1 k (by simp [e])) (HX4.out k (HOV.out.2 k (by simp [e])) (row_lt HOV.out.1 k (by simp [e])))), HOV.out.2⟩
                           have HR22 := Lib.hid (hrow.fr hf (by simp))
                           have hsm := same_calls (c0 := de) (c1 := dd) (w := w22) (row_C (by have := ho.1; rw [HND.out] at this; exact this) HND.out) (row_C (by have := HR22.out.1; rw [HND.out] at this; exact this) HND.out)
                           rw [HND.out, show decide (cc.decs = cc.decs) = true from by simp] at hsm
                           have HSM := Lib.hid hsm
                           have HV22 : Hid (∀ W, Fr [] w22 W → Calls Tryz.prog 14 #[.pointer (some ⟨p, 0, none⟩)] W fun e w' => e = .returned (.int .i64 vv) ∧ ∃ k, w' = W.drewN k) := fun W hW => HVW.out _ _ _ (H21.out.fr (hf.trans hW (by simp)))
                           have HS22 : Hid (∀ W, Fr [] w22 W → Calls Tryz.prog 15 #[.pointer (some ⟨p, 0, none⟩)] W fun e w' => e = .returned (.int .i64 ss) ∧ ∃ k, w' = W.drewN k) := fun W hW => HSP.out _ _ _ (H21.out.fr (hf.trans hW (by simp)))
                           clear ho hf hrow hsm HD21)
                        | (go_at_call 16; refine HSM.out.mono ?_; rintro e y ⟨rfl, n3, rfl⟩; clear HSM)
                        | (go_at_call 14; refine (HV22.out _ (by first | exact (Fr.refl _ _).drewN _ | exact ((Fr.refl _ _).drewN _).drewN _)).mono ?_; rintro e y ⟨rfl, n4, rfl⟩; clear HV22)
                        | (go_at_call 15; refine (HS22.out _ (by first | exact (Fr.refl _ _).drewN _ | exact ((Fr.refl _ _).drewN _).drewN _)).mono ?_; rintro e y ⟨rfl, n5, rfl⟩; clear HS22))
                      obtain ⟨Vb, hVb⟩ : ∃ V, V = w22.drewN (n3 + n4 + n5) := ⟨_, rfl⟩
                      have HFb : Hid (Fr [] w22 Vb) := by show Fr _ _ _; rw [hVb]; exact (Fr.refl _ _).drewN _
                      rw [← hVb]
                      clear hVb f0 f1 f2 f3 f4 f5 f6 f7 f8 f9 f10 f11 f12
                      have HF21 : Hid (Fr [] w21 Vb) := HF22.out.trans HFb.out (by simp)
                      have HFX21 : Hid (Fr [] W5 w21) := HXF.out _ ((FrX.of0 HF5V.out).trans (HX21.out.weak HX3.out))
                      have HF5b : Hid (Fr [] W5 Vb) := HFX21.out.trans HF21.out (by simp)
                      have HFwb : Hid (Fr [] w Vb) := HFw5.out.trans HF5b.out (by simp)
                      have hbb := HBM5.out _ HF5b.out
                      have p0 : Vb.cell? ⟨mb, 0, none⟩ = some (.int .i64 m.kd) := cell_of hbb 0
                      have p1 : Vb.cell? ⟨mb, 1, none⟩ = some (.int .i64 m.fr) := cell_of hbb 1
                      have p2 : Vb.cell? ⟨mb, 2, none⟩ = some (.int .i64 m.ix) := cell_of hbb 2
                      obtain ⟨r0, r1, r2, r3⟩ := HCG5.out _ HF5b.out
                      clear hbb
                      go_wp2
                      exact HTRUE.out _ HFwb.out
                    · have d9 : decide ((NS : Int) ≤ m.fr) = false := decide_eq_false n9
                      by_cases n6 : m.kd = 6
                      · have d6 : (m.kd == 6) = true := by simpa using n6
                        have HQ : Hid ((if (nd : Int) < m.ix ∨ (NS : Int) ≤ m.fr ∨ m.kd = 6 then ([] : List Am) else [⟨m.fr, 6, g.me, m.ix, 0, cc.decs.getD m.ix.toNat 0, 0⟩]) = []) := if_pos (.inr (.inr n6))
                        clear n8 n9 n6
                        have HHV : Hid (∀ w19 w20 A3 c3 Ay cy, Fr [] V w19 → Fr [] w19 w20 → w20.ownsRow 0 3 1 (.slice A3 2 c3) 2 (([65536, 131072] : List Int).map (Value.int .i64)) → (∀ k ∈ (Value.slice A3 2 c3).ownBlock.toList, w19.heap.size ≤ k) → Calls Tryz.prog 11 #[.pointer (some ⟨p, 0, none⟩), .agg #[.int .i64 m.kd, .int .i64 m.fr, .int .i64 m.ix, .int .i64 m.vw, .int .i64 m.vl, .int .i64 m.pr, .int .i64 m.t0, .int .i64 m.t1, .int .i64 m.b0, .int .i64 m.b1, .int .i64 m.b2, .int .i64 m.b3, .slice Ay m.txs.length cy], .slice A3 2 c3] w20 fun e w' => ∃ B d, e = .returned (.slice B 0 d) ∧ CoAt X' w' p cc ∧ w'.ownsRow 0 48 14 (.slice B 0 d) 0 (flatA ([])) ∧ FrX X' V w') := fun w19 w20 A3 c3 Ay cy hf1 hf2 hr hb => by
                          have hw := HM.out.wf
                          refine (handle_at (HC'.out.fr hf1) (fun k hk => Nat.lt_of_lt_of_le (HX'.out k hk) hf1.size) HCA.out (by omega) hf2 hr hb rfl 0 m ⟨hw.1, hw.2.1, hw.2.2.1, hw.2.2.2.1, hw.2.2.2.2.2.1⟩ Ay cy).mono ?_
                          rintro e w' ⟨c', lt, B, d, rfl, ht, hc, hr', hx⟩
                          obtain ⟨rfl, rfl⟩ := HIDL.out _ _ ht
                          rw [HQ.out] at hr' ⊢
                          exact ⟨B, d, rfl, hc, hr', (FrX.of0 hf1).trans hx⟩
                        go_upto_region 22 with (first
                          | (go_at_call 12; refine HCV.out.mono ?_; rintro e w19 ⟨Ay, cy, rfl, hf19⟩; have HF19 := Lib.hid hf19; clear hf19 HCV)
                          | (at_builtin; refine wp_copyO rfl _ _ rfl rfl rfl rfl (HKC.out _ (HF5V.out.trans HF19.out (by simp))) (by decide) ?_; intro A3 c3 w20 hr4 hb4 hf4
                             have HH := Lib.hid (HHV.out _ _ _ _ Ay cy HF19.out hf4 hr4 hb4)
                             clear hr4 hb4 hf4)
                          | (go_at_call 11; refine HH.out.mono ?_; rintro e w21 ⟨B, dB, rfl, ⟨b21, h21⟩, hr21, hx21⟩; have H21 := Lib.hid h21; have HR21 := Lib.hid hr21; have HX21 := Lib.hid hx21; have HD21 := Lib.hid (HDEC.out _ _ _ h21); clear h21 hr21 hx21 HH)
                          | (go_at_call 13; refine HD21.out.mono ?_; rintro e w22 ⟨Ae, de, rfl, ho, hf⟩
                             have HF22 := Lib.hid hf
                             have hrow : OwnI wo.heap.size w21 (.slice Ad nd dd) cc.decs := ⟨row_move HOV.out.1 (fun k e => HX21.out.block (row_lt HOV.out.1 k (by simp [e])) (HX4.out k (HOV.out.2 k (by simp [e])) (row_lt HOV.out.1 k (by simp [e])))), HOV.out.2⟩
                             have HR22 := Lib.hid (hrow.fr hf (by simp))
                             have hsm := same_calls (c0 := de) (c1 := dd) (w := w22) (row_C (by have := ho.1; rw [HND.out] at this; exact this) HND.out) (row_C (by have := HR22.out.1; rw [HND.out] at this; exact this) HND.out)
                             rw [HND.out, show decide (cc.decs = cc.decs) = true from by simp] at hsm
                             have HSM := Lib.hid hsm
                             have HV22 : Hid (∀ W, Fr [] w22 W → Calls Tryz.prog 14 #[.pointer (some ⟨p, 0, none⟩)] W fun e w' => e = .returned (.int .i64 vv) ∧ ∃ k, w' = W.drewN k) := fun W hW => HVW.out _ _ _ (H21.out.fr (hf.trans hW (by simp)))
                             have HS22 : Hid (∀ W, Fr [] w22 W → Calls Tryz.prog 15 #[.pointer (some ⟨p, 0, none⟩)] W fun e w' => e = .returned (.int .i64 ss) ∧ ∃ k, w' = W.drewN k) := fun W hW => HSP.out _ _ _ (H21.out.fr (hf.trans hW (by simp)))
                             clear ho hf hrow hsm HD21)
                          | (go_at_call 16; refine HSM.out.mono ?_; rintro e y ⟨rfl, n3, rfl⟩; clear HSM)
                          | (go_at_call 14; refine (HV22.out _ (by first | exact (Fr.refl _ _).drewN _ | exact ((Fr.refl _ _).drewN _).drewN _)).mono ?_; rintro e y ⟨rfl, n4, rfl⟩; clear HV22)
                          | (go_at_call 15; refine (HS22.out _ (by first | exact (Fr.refl _ _).drewN _ | exact ((Fr.refl _ _).drewN _).drewN _)).mono ?_; rintro e y ⟨rfl, n5, rfl⟩; clear HS22))
                        obtain ⟨Vb, hVb⟩ : ∃ V, V = w22.drewN (n3 + n4 + n5) := ⟨_, rfl⟩
                        have HFb : Hid (Fr [] w22 Vb) := by show Fr _ _ _; rw [hVb]; exact (Fr.refl _ _).drewN _
                        rw [← hVb]
                        clear hVb f0 f1 f2 f3 f4 f5 f6 f7 f8 f9 f10 f11 f12
                        have HF21 : Hid (Fr [] w21 Vb) := HF22.out.trans HFb.out (by simp)
                        have HFX21 : Hid (Fr [] W5 w21) := HXF.out _ ((FrX.of0 HF5V.out).trans (HX21.out.weak HX3.out))
                        have HF5b : Hid (Fr [] W5 Vb) := HFX21.out.trans HF21.out (by simp)
                        have HFwb : Hid (Fr [] w Vb) := HFw5.out.trans HF5b.out (by simp)
                        have hbb := HBM5.out _ HF5b.out
                        have p0 : Vb.cell? ⟨mb, 0, none⟩ = some (.int .i64 m.kd) := cell_of hbb 0
                        have p1 : Vb.cell? ⟨mb, 1, none⟩ = some (.int .i64 m.fr) := cell_of hbb 1
                        have p2 : Vb.cell? ⟨mb, 2, none⟩ = some (.int .i64 m.ix) := cell_of hbb 2
                        obtain ⟨r0, r1, r2, r3⟩ := HCG5.out _ HF5b.out
                        clear hbb
                        go_wp2
                        exact HTRUE.out _ HFwb.out
                      · have d6 : (m.kd == 6) = false := by simpa using n6
                        obtain ⟨dv, hdv⟩ : ∃ x, cc.decs.getD m.ix.toNat 0 = x := ⟨_, rfl⟩
                        rw [hdv] at HIDL
                        obtain ⟨ki, hki⟩ : ∃ k : Nat, m.ix = (k : Int) := ⟨m.ix.toNat, by have := (HRN.out.2.2 HN3.out).1; omega⟩
                        have hkn : ki < nd := by have := N7.out; omega
                        have HDVE : Hid (dv = cc.decs.getD ki 0) := by show _ = _; rw [← hdv, hki]; rfl
                        have HKI := Lib.hid hki
                        have HQ : Hid ((if (nd : Int) < m.ix ∨ (NS : Int) ≤ m.fr ∨ m.kd = 6 then ([] : List Am) else [⟨m.fr, 6, g.me, m.ix, 0, dv, 0⟩]) = [⟨m.fr, 6, g.me, m.ix, 0, dv, 0⟩]) := if_neg (by omega)
                        clear hdv hki n8 n9 n6
                        have HHV : Hid (∀ w19 w20 A3 c3 Ay cy, Fr [] V w19 → Fr [] w19 w20 → w20.ownsRow 0 3 1 (.slice A3 2 c3) 2 (([65536, 131072] : List Int).map (Value.int .i64)) → (∀ k ∈ (Value.slice A3 2 c3).ownBlock.toList, w19.heap.size ≤ k) → Calls Tryz.prog 11 #[.pointer (some ⟨p, 0, none⟩), .agg #[.int .i64 m.kd, .int .i64 m.fr, .int .i64 m.ix, .int .i64 m.vw, .int .i64 m.vl, .int .i64 m.pr, .int .i64 m.t0, .int .i64 m.t1, .int .i64 m.b0, .int .i64 m.b1, .int .i64 m.b2, .int .i64 m.b3, .slice Ay m.txs.length cy], .slice A3 2 c3] w20 fun e w' => ∃ B d, e = .returned (.slice B 1 d) ∧ CoAt X' w' p cc ∧ w'.ownsRow 0 48 14 (.slice B 1 d) 1 (flatA ([⟨m.fr, 6, g.me, m.ix, 0, dv, 0⟩])) ∧ FrX X' V w') := fun w19 w20 A3 c3 Ay cy hf1 hf2 hr hb => by
                          have hw := HM.out.wf
                          refine (handle_at (HC'.out.fr hf1) (fun k hk => Nat.lt_of_lt_of_le (HX'.out k hk) hf1.size) HCA.out (by omega) hf2 hr hb rfl 0 m ⟨hw.1, hw.2.1, hw.2.2.1, hw.2.2.2.1, hw.2.2.2.2.2.1⟩ Ay cy).mono ?_
                          rintro e w' ⟨c', lt, B, d, rfl, ht, hc, hr', hx⟩
                          obtain ⟨rfl, rfl⟩ := HIDL.out _ _ ht
                          rw [HQ.out] at hr' ⊢
                          exact ⟨B, d, rfl, hc, hr', (FrX.of0 hf1).trans hx⟩
                        go_upto_region 22 with (first
                          | (go_at_call 12; refine HCV.out.mono ?_; rintro e w19 ⟨Ay, cy, rfl, hf19⟩; have HF19 := Lib.hid hf19; clear hf19 HCV)
                          | (at_builtin; refine wp_copyO rfl _ _ rfl rfl rfl rfl (HKC.out _ (HF5V.out.trans HF19.out (by simp))) (by decide) ?_; intro A3 c3 w20 hr4 hb4 hf4
                             have HH := Lib.hid (HHV.out _ _ _ _ Ay cy HF19.out hf4 hr4 hb4)
                             clear hr4 hb4 hf4)
                          | (go_at_call 11; refine HH.out.mono ?_; rintro e w21 ⟨B, dB, rfl, ⟨b21, h21⟩, hr21, hx21⟩; have H21 := Lib.hid h21; have HR21 := Lib.hid hr21; have HX21 := Lib.hid hx21; have HD21 := Lib.hid (HDEC.out _ _ _ h21); clear h21 hr21 hx21 HH)
                          | (go_at_call 13; refine HD21.out.mono ?_; rintro e w22 ⟨Ae, de, rfl, ho, hf⟩
                             have HF22 := Lib.hid hf
                             have hrow : OwnI wo.heap.size w21 (.slice Ad nd dd) cc.decs := ⟨row_move HOV.out.1 (fun k e => HX21.out.block (row_lt HOV.out.1 k (by simp [e])) (HX4.out k (HOV.out.2 k (by simp [e])) (row_lt HOV.out.1 k (by simp [e])))), HOV.out.2⟩
                             have HR22 := Lib.hid (hrow.fr hf (by simp))
                             have hsm := same_calls (c0 := de) (c1 := dd) (w := w22) (row_C (by have := ho.1; rw [HND.out] at this; exact this) HND.out) (row_C (by have := HR22.out.1; rw [HND.out] at this; exact this) HND.out)
                             rw [HND.out, show decide (cc.decs = cc.decs) = true from by simp] at hsm
                             have HSM := Lib.hid hsm
                             have HV22 : Hid (∀ W, Fr [] w22 W → Calls Tryz.prog 14 #[.pointer (some ⟨p, 0, none⟩)] W fun e w' => e = .returned (.int .i64 vv) ∧ ∃ k, w' = W.drewN k) := fun W hW => HVW.out _ _ _ (H21.out.fr (hf.trans hW (by simp)))
                             have HS22 : Hid (∀ W, Fr [] w22 W → Calls Tryz.prog 15 #[.pointer (some ⟨p, 0, none⟩)] W fun e w' => e = .returned (.int .i64 ss) ∧ ∃ k, w' = W.drewN k) := fun W hW => HSP.out _ _ _ (H21.out.fr (hf.trans hW (by simp)))
                             clear ho hf hrow hsm HD21)
                          | (go_at_call 16; refine HSM.out.mono ?_; rintro e y ⟨rfl, n3, rfl⟩; clear HSM)
                          | (go_at_call 14; refine (HV22.out _ (by first | exact (Fr.refl _ _).drewN _ | exact ((Fr.refl _ _).drewN _).drewN _)).mono ?_; rintro e y ⟨rfl, n4, rfl⟩; clear HV22)
                          | (go_at_call 15; refine (HS22.out _ (by first | exact (Fr.refl _ _).drewN _ | exact ((Fr.refl _ _).drewN _).drewN _)).mono ?_; rintro e y ⟨rfl, n5, rfl⟩; clear HS22))
                        obtain ⟨Vb, hVb⟩ : ∃ V, V = w22.drewN (n3 + n4 + n5) := ⟨_, rfl⟩
                        have HFb : Hid (Fr [] w22 Vb) := by show Fr _ _ _; rw [hVb]; exact (Fr.refl _ _).drewN _
                        rw [← hVb]
                        clear hVb f0 f1 f2 f3 f4 f5 f6 f7 f8 f9 f10 f11 f12
                        have HF21 : Hid (Fr [] w21 Vb) := HF22.out.trans HFb.out (by simp)
                        have HFX21 : Hid (Fr [] W5 w21) := HXF.out _ ((FrX.of0 HF5V.out).trans (HX21.out.weak HX3.out))
                        have HF5b : Hid (Fr [] W5 Vb) := HFX21.out.trans HF21.out (by simp)
                        have HFwb : Hid (Fr [] w Vb) := HFw5.out.trans HF5b.out (by simp)
                        have hbb := HBM5.out _ HF5b.out
                        have p0 : Vb.cell? ⟨mb, 0, none⟩ = some (.int .i64 m.kd) := cell_of hbb 0
                        have p1 : Vb.cell? ⟨mb, 1, none⟩ = some (.int .i64 m.fr) := cell_of hbb 1
                        have p2 : Vb.cell? ⟨mb, 2, none⟩ = some (.int .i64 m.ix) := cell_of hbb 2
                        obtain ⟨r0, r1, r2, r3⟩ := HCG5.out _ HF5b.out
                        clear hbb
                        obtain ⟨gB, hgB, x0⟩ := row_atN HR21.out 0 (.int .i64 m.fr) rfl
                        subst hgB
                        have hrc : ∀ (j : Nat) (u : Value), (flatA [⟨m.fr, 6, g.me, m.ix, 0, dv, 0⟩])[j]? = some u → Vb.cell? ⟨gB, j, none⟩ = some u := fun j u hu => by
                          obtain ⟨g', e, hc⟩ := row_atN HR21.out j u hu
                          injection e with e
                          injection e with e
                          subst e
                          exact (HF21.out.cell (lt_cell hc) (by simp)).trans hc
                        have x0 : Vb.cell? ⟨gB, 0, none⟩ = some (.int .i64 m.fr) := hrc 0 _ rfl
                        have x1 : Vb.cell? ⟨gB, 1, none⟩ = some (.int .i64 6) := hrc 1 _ rfl
                        have x2 : Vb.cell? ⟨gB, 2, none⟩ = some (.int .i64 g.me) := hrc 2 _ rfl
                        have x3 : Vb.cell? ⟨gB, 3, none⟩ = some (.int .i64 m.ix) := hrc 3 _ rfl
                        have x4 : Vb.cell? ⟨gB, 4, none⟩ = some (.int .i64 0) := hrc 4 _ rfl
                        have x5 : Vb.cell? ⟨gB, 5, none⟩ = some (.int .i64 dv) := hrc 5 _ rfl
                        have x6 : Vb.cell? ⟨gB, 6, none⟩ = some (.int .i64 0) := hrc 6 _ rfl
                        have x7 : Vb.cell? ⟨gB, 7, none⟩ = some (.int .i64 0) := hrc 7 _ rfl
                        have x8 : Vb.cell? ⟨gB, 8, none⟩ = some (.int .i64 0) := hrc 8 _ rfl
                        have x9 : Vb.cell? ⟨gB, 9, none⟩ = some (.int .i64 0) := hrc 9 _ rfl
                        have x10 : Vb.cell? ⟨gB, 10, none⟩ = some (.int .i64 0) := hrc 10 _ rfl
                        have x11 : Vb.cell? ⟨gB, 11, none⟩ = some (.int .i64 0) := hrc 11 _ rfl
                        have x12 : Vb.cell? ⟨gB, 12, none⟩ = some (.int .i64 0) := hrc 12 _ rfl
                        have x13 : Vb.cell? ⟨gB, 13, none⟩ = some (.slice none 0 0) := hrc 13 _ rfl
                        clear hrc
                        go_upto_region 27 with (fail)
                        obtain ⟨Wx, hWx⟩ : ∃ W, W = Vb.alloc (.cells #[.int .i64 6, .int .i64 g.me, .int .i64 m.ix, .int .i64 0, .int .i64 dv, .int .i64 0, .int .i64 0, .int .i64 0, .int .i64 0, .int .i64 0, .int .i64 0, .int .i64 0, .slice none 0 0] 32) := ⟨_, rfl⟩
                        obtain ⟨xb, hxb⟩ : ∃ x, x = Vb.heap.size := ⟨_, rfl⟩
                        have hFx : Fr [] Vb Wx := by rw [hWx]; exact (Fr.refl _ _).alloc _
                        have hbx : Wx.heap[xb]? = some (.cells #[.int .i64 6, .int .i64 g.me, .int .i64 m.ix, .int .i64 0, .int .i64 dv, .int .i64 0, .int .i64 0, .int .i64 0, .int .i64 0, .int .i64 0, .int .i64 0, .int .i64 0, .slice none 0 0] 32 (0, 0)) := by rw [hWx, hxb]; exact heap_alloc_new _ _
                        rw [← hWx, ← hxb]
                        clear hWx hxb
                        have y0 : Wx.cell? ⟨gB, 0, none⟩ = some (.int .i64 m.fr) := cellF hFx x0
                        have y1 : Wx.cell? ⟨mb, 1, none⟩ = some (.int .i64 m.fr) := cellF hFx p1
                        have y2 : Wx.cell? ⟨mb, 2, none⟩ = some (.int .i64 m.ix) := cellF hFx p2
                        have y3 : Wx.cell? ⟨gb, 0, none⟩ = some (.int .i64 g.me) := cellF hFx r0
                        have z0 : Wx.cell? ⟨xb, 0, none⟩ = some (.int .i64 6) := cell_of hbx 0
                        have z1 : Wx.cell? ⟨xb, 1, none⟩ = some (.int .i64 g.me) := cell_of hbx 1
                        have z2 : Wx.cell? ⟨xb, 2, none⟩ = some (.int .i64 m.ix) := cell_of hbx 2
                        have z4 : Wx.cell? ⟨xb, 4, none⟩ = some (.int .i64 dv) := cell_of hbx 4
                        have hOx := (HR22.out.fr HFb.out (by simp)).fr hFx (by simp)
                        rw [← HND.out] at hOx
                        obtain ⟨gd, hgd, hcx⟩ := hOx.at ki (by rw [HND.out]; exact hkn)
                        subst hgd
                        have z5 : Wx.cell? ⟨gd, ki, none⟩ = some (.int .i64 dv) := by rw [hcx, ← HDVE.out]
                        have HFwx : Hid (Fr [] w Wx) := HFwb.out.trans hFx (by simp)
                        clear hFx hbx hOx hcx p0 p1 p2 r0 r1 r2 r3 x0 x1 x2 x3 x4 x5 x6 x7 x8 x9 x10 x11 x12 x13
                        have hki := HKI.out
                        go_quiet (fail)
                        go_wp2
                        exact HTRUE.out _ (HFwx.out.drewN _)
end Go.Np.Tryz
