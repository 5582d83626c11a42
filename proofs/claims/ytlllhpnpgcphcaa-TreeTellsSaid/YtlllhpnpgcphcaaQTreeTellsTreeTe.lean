/- A text that the row of TreeTells needs. (Pruned by tools/prune.py.) -/
import Derived.Test.YtlllhpnpgcphcaaQTreeTellsDocB
set_option linter.unusedVariables false
set_option linter.unusedSimpArgs false
namespace Go.Np.Try
open Go.RowKit Go.Proofs Go.Proofs.Ytlllhpnpgcphcaa.PX Go.Proofs.YtlllhpnpgcphcaaW.PrintWords
set_option maxHeartbeats 8000000 in
set_option maxRecDepth 100000 in
theorem TreeTells_walk (w : World) (v : Value) (l : List Blk) (hv : BlocksR w v l) (v2 : Value) (x2 : Int × Int) (h2 : v2 = .agg #[.int .i64 x2.1, .int .i64 x2.2] ∧ (Lit.int .i64 x2.1).wf = true ∧ (Lit.int .i64 x2.2).wf = true) (s : Int) (_ws : (Lit.int .i64 s).wf = true) : Calls Try.prog 3 #[v, v2, .int .i64 s] w fun e w' => e = .returned (.bool true) ∧ Fr [] w w' := by
  obtain ⟨⟨A, c, rfl, hC, hSZ⟩, hRB⟩ := hv
  obtain ⟨a, b⟩ := x2
  obtain ⟨rfl, _, _⟩ := h2
  show Calls Try.prog 3 #[_, .agg #[.int .i64 a, .int .i64 b], .int .i64 s] w _
  obtain ⟨W1, hW1⟩ : ∃ W1, W1 = w.alloc (.cells #[.int .i64 a, .int .i64 b] 23) := ⟨_, rfl⟩
  obtain ⟨g4, hg4⟩ : ∃ g4, g4 = w.heap.size := ⟨_, rfl⟩
  have hF1 : Fr [] w W1 := by rw [hW1]; exact (Fr.refl _ _).alloc _
  have hA4 : W1.heap[g4]? = some (.cells #[.int .i64 a, .int .i64 b] 23 (0, 0)) := by rw [hW1, hg4]; exact heap_alloc_new _ _
  have HA4 := Lib.hid hA4
  have HF1 := Lib.hid hF1
  have HSZ := Lib.hid hSZ
  have HRB := Lib.hid hRB
  obtain ⟨N, hN⟩ : ∃ N, l.length = N := ⟨_, rfl⟩
  rw [hN] at hC ⊢
  have HC := Lib.hid hC
  have HAL := Lib.hid (alive_calls (w := W1))
  refine calls_k fun R hR => ?_
  clear hC hN hSZ hRB hF1 hA4
  by_cases hbig : (60 : Int) < (N : Int)
  · go_enter Try.func3, Try.ntmps3
    go_upto_region 1 with (fail)
    rw [← hW1, ← hg4]
    clear hW1 hg4
    go_wp2_with (go_at_call 13; refine HAL.out.mono ?_; rintro e w1 ⟨rfl, hFn⟩)
    exact hR.out _ _ ⟨rfl, HF1.out.trans hFn (by simp)⟩
  go_enter Try.func3, Try.ntmps3
  go_upto_region 1 with (fail)
  rw [← hW1, ← hg4]
  clear hW1 hg4
  go_upto_region 6 with (first
    | (go_at_call 13; refine HAL.out.mono ?_; rintro e w1 ⟨rfl, hFn⟩
       have HF2 := Lib.hid (HF1.out.trans hFn (by simp))
       have HA2 := Lib.hid ((hFn.block g4 (Array.getElem?_eq_some_iff.1 HA4.out).1 (by simp)).trans HA4.out)
       have HGC := Lib.hid (grown_calls (w := w1) (A := A) (c := c) (Kd.C_below HC.out HF2.out.below) HSZ.out HRB.out)
       clear hFn HAL)
    | (go_at_call 14; refine HGC.out.mono ?_; rintro e w2 ⟨p, T, B0, d0, B1, d1, rfl, hG, hRG, hT, hV0, hV1, hFn⟩
       have HF3 := Lib.hid (HF2.out.trans hFn (by simp))
       have HA3 := Lib.hid ((hFn.block g4 (Array.getElem?_eq_some_iff.1 HA2.out).1 (by simp)).trans HA2.out)
       have HG := Lib.hid hG
       have HRG := Lib.hid hRG
       have HT3 := Lib.hid hT
       have HV03 := Lib.hid hV0
       have HV13 := Lib.hid hV1
       clear hG hRG hT hV0 hV1 hFn HGC))
  obtain ⟨W2, hW2⟩ : ∃ W2, W2 = w2.alloc (.cells #[.slice B0 T.ks.length d0, .slice B1 T.wait.length d1] 27) := ⟨_, rfl⟩
  obtain ⟨gt, hgt⟩ : ∃ gt, gt = w2.heap.size := ⟨_, rfl⟩
  have hF4 : Fr [] w2 W2 := by rw [hW2]; exact (Fr.refl _ _).alloc _
  have hB4 : TreeIn W2 gt (.slice B0 T.ks.length d0) (.slice B1 T.wait.length d1) := by rw [hW2, hgt]; exact heap_alloc_new _ _
  have hA5 := (hF4.block g4 (Array.getElem?_eq_some_iff.1 HA3.out).1 (by simp)).trans HA3.out
  have HT := Lib.hid (HT3.out.fr hF4)
  have HV0 := Lib.hid (HV03.out.fr hF4)
  have HV1 := Lib.hid (HV13.out.fr hF4)
  have HFW := Lib.hid (HF3.out.trans hF4 (by simp))
  have HSF : Hid (∀ W, Fr [] W2 W → W.cell? ⟨gt, 0, none⟩ = some (.slice B0 T.ks.length d0) ∧ W.cell? ⟨gt, 1, none⟩ = some (.slice B1 T.wait.length d1)) := fun W hW => ⟨(hB4.fr hW).cells.1, (hB4.fr hW).cells.2.1⟩
  have HSA : Hid (∀ W, Fr [] W2 W → W.cell? ⟨g4, 0, none⟩ = some (.int .i64 a) ∧ W.cell? ⟨g4, 1, none⟩ = some (.int .i64 b)) := fun W hW => by
    have h := (hW.block g4 (Array.getElem?_eq_some_iff.1 hA5).1 (by simp)).trans hA5
    have e0 := cell_of h 0
    have e1 := cell_of h 1
    simp at e0 e1
    exact ⟨e0, e1⟩
  have HSP : Hid (∀ W, Fr [] W2 W → (W.cell? ⟨gt, 0, none⟩ = some (.slice B0 T.ks.length d0) ∧ W.cell? ⟨gt, 1, none⟩ = some (.slice B1 T.wait.length d1)) ∧ W.cell? ⟨g4, 0, none⟩ = some (.int .i64 a) ∧ W.cell? ⟨g4, 1, none⟩ = some (.int .i64 b)) := fun W hW => ⟨HSF.out W hW, HSA.out W hW⟩
  rw [← hW2, ← hgt]
  clear hW2 hgt hF4 hB4 hA5 HT3 HV03 HV13 HF3 HA3 HF2 HA2 HA4 HF1 HC HSZ HRB
  obtain ⟨a20, a21⟩ := HSA.out _ (Fr.refl _ _)
  go_upto_region 7 with (fail)
  clear a20 a21
  have ix0 : ∀ W : World, (Instr.index 23 (.agg #[.int .i64 a, .int .i64 b]) (.int .i64 0)).run Try.prog W = .ok (.int .i64 a) W := fun _ => by kernel_rfl
  have ix1 : ∀ W : World, (Instr.index 23 (.agg #[.int .i64 a, .int .i64 b]) (.int .i64 1)).run Try.prog W = .ok (.int .i64 b) W := fun _ => by kernel_rfl
  go_loopg [24] 2 (fun gn i wr => ∃ (m : Nat) (z : Int), m = gn ∧ i = .int .i64 z ∧ (z = 0 ∧ m = 2 ∨ z = 1 ∧ m = 1 ∨ z = 2 ∧ m = 0) ∧ Hid (Fr [] W2 wr))
  case atStart => exact ⟨_, 0, rfl, rfl, .inl ⟨rfl, rfl⟩, Fr.refl _ _⟩
  case round =>
    obtain ⟨m, z, rfl, rfl, hz, HFx⟩ := hrel
    obtain ⟨wO, rfl⟩ : ∃ wO, wO = wr := ⟨_, rfl⟩
    obtain ⟨x20, x21⟩ := HSF.out _ HFx.out
    rcases hz with ⟨rfl, rfl⟩ | ⟨rfl, rfl⟩ | ⟨rfl, rfl⟩
    · cases hh : T.has a with
      | false =>
        have HGE := Lib.hid (rget_calls HG.out HRG.out (HV0.out.fr HFx.out) (HV1.out.fr HFx.out) a)
        rw [hh] at HGE
        have HHA : Hid (∀ W, Fr [] W2 W → Calls Try.prog 16 #[.pointer (some ⟨p, 0, none⟩), .int .i64 a] W fun e w' => e = .returned (.bool false) ∧ Fr [] W w') := fun W hW => by rw [← hh]; exact has_calls (HT.out.fr hW) a
        clear hh
        go_upto_region 10 with (first
          | (go_at_call 15; refine HGE.out.mono ?_; rintro e w6 ⟨A6, d6, rfl, hd6, hF6, hFn⟩
             have HF6 := Lib.hid (HFx.out.trans hFn (by simp))
             clear hd6 hF6 hFn HGE x20 x21))
        obtain ⟨W7, hW7⟩ : ∃ W7, W7 = w6.alloc (.cells #[.int .i64 (T.get a).f0, .int .i64 (T.get a).f1, .int .i64 (T.get a).f2, .int .i64 (T.get a).f3, .slice A6 (T.get a).f4.length d6] 32) := ⟨_, rfl⟩
        have hF7 : Fr [] W2 W7 := by rw [hW7]; exact HF6.out.alloc _
        have HFc := Lib.hid hF7.drew
        rw [← hW7]
        clear hF7 hW7
        have hS0 := HSF.out _ HFc.out
        have HH1 : Hid (∀ W, Fr [] W2 W → Calls Try.prog 17 #[.pointer (some ⟨p, 0, none⟩), .int .i64 a] W fun e w' => e = .returned (.int .i64 (T.high a)) ∧ Fr [] W w') := fun W hW => height_calls (HT.out.fr hW) a
        have HH2 : Hid (∀ W, Fr [] W2 W → Calls Try.prog 18 #[.agg #[.slice B0 T.ks.length d0, .slice B1 T.wait.length d1], .int .i64 a] W fun e w' => e = .returned (.int .i64 (T.high a)) ∧ Fr [] W w') := fun W hW => rheight_calls HG.out HRG.out (HV0.out.fr hW) (HV1.out.fr hW) a
        have HP1 : Hid (∀ W, Fr [] W2 W → Calls Try.prog 20 #[.pointer (some ⟨p, 0, none⟩), .int .i64 a] W fun e w' => ∃ v, e = .returned v ∧ OwnI W.heap.size w' v (T.path a) ∧ Fr [] W w') := fun W hW => path_calls (HT.out.fr hW) HG.out a
        have HP2 : Hid (∀ W, Fr [] W2 W → Calls Try.prog 21 #[.agg #[.slice B0 T.ks.length d0, .slice B1 T.wait.length d1], .int .i64 a] W fun e w' => ∃ v, e = .returned v ∧ SlI w' v (T.path a) ∧ Fr [] W w') := fun W hW => rpath_calls HG.out HRG.out (HV0.out.fr hW) (HV1.out.fr hW) a
        have HB1 : Hid (∀ W, Fr [] W2 W → Calls Try.prog 22 #[.pointer (some ⟨p, 0, none⟩), .int .i64 a, .int .i64 s] W fun e w' => e = .returned (.int .i64 (T.back a s)) ∧ Fr [] W w') := fun W hW => back_calls (HT.out.fr hW) HG.out a s
        have HB2 : Hid (∀ W, Fr [] W2 W → Calls Try.prog 23 #[.agg #[.slice B0 T.ks.length d0, .slice B1 T.wait.length d1], .int .i64 a, .int .i64 s] W fun e w' => e = .returned (.int .i64 (T.back a s)) ∧ Fr [] W w') := fun W hW => rback_calls HG.out HRG.out (HV0.out.fr hW) (HV1.out.fr hW) a s
        go_region_held3 (fun W => W.cell? ⟨gt, 0, none⟩ = some (.slice B0 T.ks.length d0) ∧ W.cell? ⟨gt, 1, none⟩ = some (.slice B1 T.wait.length d1))
          (assumption)
          (first
            | (go_at_call 16; refine (HHA.out _ HFc.out).mono ?_; rintro e z1 ⟨rfl, hF1⟩; have HD1 := Lib.hid (HFc.out.trans hF1 (by simp)); have hS1 := HSF.out _ HD1.out; clear hF1 HHA)
            | (go_at_call 17; refine (HH1.out _ HD1.out).mono ?_; rintro e z2 ⟨rfl, hF1⟩; have HD2 := Lib.hid (HD1.out.trans hF1 (by simp)); have hS2 := HSF.out _ HD2.out; clear hF1 HH1)
            | (go_at_call 18; refine (HH2.out _ HD2.out).mono ?_; rintro e z3 ⟨rfl, hF1⟩; have HD3 := Lib.hid (HD2.out.trans hF1 (by simp)); have hS3 := HSF.out _ HD3.out; clear hF1 HH2)
            | (go_at_call 20; refine (HP1.out _ HD3.out).mono ?_; rintro e z4 ⟨v4, rfl, hO, hF1⟩; have HO4 := Lib.hid hO.sl; have HD4 := Lib.hid (HD3.out.trans hF1 (by simp)); have hS4 := HSF.out _ HD4.out; clear hF1 HP1 hO)
            | (go_at_call 21; refine (HP2.out _ HD4.out).mono ?_; rintro e z5 ⟨v5, rfl, hO, hF1⟩; have HSM := Lib.hid (same_sl (HO4.out.fr hF1) hO); have HD5 := Lib.hid (HD4.out.trans hF1 (by simp)); have hS5 := HSF.out _ HD5.out; simp only [decide_true] at HSM; clear hF1 HP2 hO HO4)
            | (go_at_call 19; refine HSM.out.mono ?_; rintro e z6 ⟨rfl, hF1⟩; have HD6 := Lib.hid (HD5.out.trans hF1 (by simp)); have hS6 := HSF.out _ HD6.out; clear hF1 HSM)
            | (go_at_call 22; refine (HB1.out _ HD6.out).mono ?_; rintro e z7 ⟨rfl, hF1⟩; have HD7 := Lib.hid (HD6.out.trans hF1 (by simp)); have hS7 := HSF.out _ HD7.out; clear hF1 HB1)
            | (go_at_call 23; refine (HB2.out _ HD7.out).mono ?_; rintro e z8 ⟨rfl, hF1⟩; have HD8 := Lib.hid (HD7.out.trans hF1 (by simp)); have hS8 := HSF.out _ HD8.out; clear hF1 HB2))
        all_goals
          go_wp2
          go_roundg 1
          case rel => exact ⟨1, 1, rfl, by first | rfl | go_num, by decide, HD8⟩
          case measure => omega
      | true =>
        have HGE := Lib.hid (rget_calls HG.out HRG.out (HV0.out.fr HFx.out) (HV1.out.fr HFx.out) a)
        rw [hh] at HGE
        have HHA : Hid (∀ W, Fr [] W2 W → Calls Try.prog 16 #[.pointer (some ⟨p, 0, none⟩), .int .i64 a] W fun e w' => e = .returned (.bool true) ∧ Fr [] W w') := fun W hW => by rw [← hh]; exact has_calls (HT.out.fr hW) a
        clear hh
        go_upto_region 10 with (first
          | (go_at_call 15; refine HGE.out.mono ?_; rintro e w6 ⟨A6, d6, rfl, hd6, hF6, hFn⟩
             have HF6 := Lib.hid (HFx.out.trans hFn (by simp))
             clear hd6 hF6 hFn HGE x20 x21))
        obtain ⟨W7, hW7⟩ : ∃ W7, W7 = w6.alloc (.cells #[.int .i64 (T.get a).f0, .int .i64 (T.get a).f1, .int .i64 (T.get a).f2, .int .i64 (T.get a).f3, .slice A6 (T.get a).f4.length d6] 32) := ⟨_, rfl⟩
        have hF7 : Fr [] W2 W7 := by rw [hW7]; exact HF6.out.alloc _
        have HFc := Lib.hid hF7.drew
        rw [← hW7]
        clear hF7 hW7
        have hS0 := HSF.out _ HFc.out
        have HH1 : Hid (∀ W, Fr [] W2 W → Calls Try.prog 17 #[.pointer (some ⟨p, 0, none⟩), .int .i64 a] W fun e w' => e = .returned (.int .i64 (T.high a)) ∧ Fr [] W w') := fun W hW => height_calls (HT.out.fr hW) a
        have HH2 : Hid (∀ W, Fr [] W2 W → Calls Try.prog 18 #[.agg #[.slice B0 T.ks.length d0, .slice B1 T.wait.length d1], .int .i64 a] W fun e w' => e = .returned (.int .i64 (T.high a)) ∧ Fr [] W w') := fun W hW => rheight_calls HG.out HRG.out (HV0.out.fr hW) (HV1.out.fr hW) a
        have HP1 : Hid (∀ W, Fr [] W2 W → Calls Try.prog 20 #[.pointer (some ⟨p, 0, none⟩), .int .i64 a] W fun e w' => ∃ v, e = .returned v ∧ OwnI W.heap.size w' v (T.path a) ∧ Fr [] W w') := fun W hW => path_calls (HT.out.fr hW) HG.out a
        have HP2 : Hid (∀ W, Fr [] W2 W → Calls Try.prog 21 #[.agg #[.slice B0 T.ks.length d0, .slice B1 T.wait.length d1], .int .i64 a] W fun e w' => ∃ v, e = .returned v ∧ SlI w' v (T.path a) ∧ Fr [] W w') := fun W hW => rpath_calls HG.out HRG.out (HV0.out.fr hW) (HV1.out.fr hW) a
        have HB1 : Hid (∀ W, Fr [] W2 W → Calls Try.prog 22 #[.pointer (some ⟨p, 0, none⟩), .int .i64 a, .int .i64 s] W fun e w' => e = .returned (.int .i64 (T.back a s)) ∧ Fr [] W w') := fun W hW => back_calls (HT.out.fr hW) HG.out a s
        have HB2 : Hid (∀ W, Fr [] W2 W → Calls Try.prog 23 #[.agg #[.slice B0 T.ks.length d0, .slice B1 T.wait.length d1], .int .i64 a, .int .i64 s] W fun e w' => e = .returned (.int .i64 (T.back a s)) ∧ Fr [] W w') := fun W hW => rback_calls HG.out HRG.out (HV0.out.fr hW) (HV1.out.fr hW) a s
        go_region_held3 (fun W => W.cell? ⟨gt, 0, none⟩ = some (.slice B0 T.ks.length d0) ∧ W.cell? ⟨gt, 1, none⟩ = some (.slice B1 T.wait.length d1))
          (assumption)
          (first
            | (go_at_call 16; refine (HHA.out _ HFc.out).mono ?_; rintro e z1 ⟨rfl, hF1⟩; have HD1 := Lib.hid (HFc.out.trans hF1 (by simp)); have hS1 := HSF.out _ HD1.out; clear hF1 HHA)
            | (go_at_call 17; refine (HH1.out _ HD1.out).mono ?_; rintro e z2 ⟨rfl, hF1⟩; have HD2 := Lib.hid (HD1.out.trans hF1 (by simp)); have hS2 := HSF.out _ HD2.out; clear hF1 HH1)
            | (go_at_call 18; refine (HH2.out _ HD2.out).mono ?_; rintro e z3 ⟨rfl, hF1⟩; have HD3 := Lib.hid (HD2.out.trans hF1 (by simp)); have hS3 := HSF.out _ HD3.out; clear hF1 HH2)
            | (go_at_call 20; refine (HP1.out _ HD3.out).mono ?_; rintro e z4 ⟨v4, rfl, hO, hF1⟩; have HO4 := Lib.hid hO.sl; have HD4 := Lib.hid (HD3.out.trans hF1 (by simp)); have hS4 := HSF.out _ HD4.out; clear hF1 HP1 hO)
            | (go_at_call 21; refine (HP2.out _ HD4.out).mono ?_; rintro e z5 ⟨v5, rfl, hO, hF1⟩; have HSM := Lib.hid (same_sl (HO4.out.fr hF1) hO); have HD5 := Lib.hid (HD4.out.trans hF1 (by simp)); have hS5 := HSF.out _ HD5.out; simp only [decide_true] at HSM; clear hF1 HP2 hO HO4)
            | (go_at_call 19; refine HSM.out.mono ?_; rintro e z6 ⟨rfl, hF1⟩; have HD6 := Lib.hid (HD5.out.trans hF1 (by simp)); have hS6 := HSF.out _ HD6.out; clear hF1 HSM)
            | (go_at_call 22; refine (HB1.out _ HD6.out).mono ?_; rintro e z7 ⟨rfl, hF1⟩; have HD7 := Lib.hid (HD6.out.trans hF1 (by simp)); have hS7 := HSF.out _ HD7.out; clear hF1 HB1)
            | (go_at_call 23; refine (HB2.out _ HD7.out).mono ?_; rintro e z8 ⟨rfl, hF1⟩; have HD8 := Lib.hid (HD7.out.trans hF1 (by simp)); have hS8 := HSF.out _ HD8.out; clear hF1 HB2))
        all_goals
          go_wp2
          go_roundg 1
          case rel => exact ⟨1, 1, rfl, by first | rfl | go_num, by decide, HD8⟩
          case measure => omega
    · cases hh : T.has b with
      | false =>
        have HGE := Lib.hid (rget_calls HG.out HRG.out (HV0.out.fr HFx.out) (HV1.out.fr HFx.out) b)
        rw [hh] at HGE
        have HHA : Hid (∀ W, Fr [] W2 W → Calls Try.prog 16 #[.pointer (some ⟨p, 0, none⟩), .int .i64 b] W fun e w' => e = .returned (.bool false) ∧ Fr [] W w') := fun W hW => by rw [← hh]; exact has_calls (HT.out.fr hW) b
        clear hh
        go_upto_region 10 with (first
          | (go_at_call 15; refine HGE.out.mono ?_; rintro e w6 ⟨A6, d6, rfl, hd6, hF6, hFn⟩
             have HF6 := Lib.hid (HFx.out.trans hFn (by simp))
             clear hd6 hF6 hFn HGE x20 x21))
        obtain ⟨W7, hW7⟩ : ∃ W7, W7 = w6.alloc (.cells #[.int .i64 (T.get b).f0, .int .i64 (T.get b).f1, .int .i64 (T.get b).f2, .int .i64 (T.get b).f3, .slice A6 (T.get b).f4.length d6] 32) := ⟨_, rfl⟩
        have hF7 : Fr [] W2 W7 := by rw [hW7]; exact HF6.out.alloc _
        have HFc := Lib.hid hF7.drew
        rw [← hW7]
        clear hF7 hW7
        have hS0 := HSF.out _ HFc.out
        have HH1 : Hid (∀ W, Fr [] W2 W → Calls Try.prog 17 #[.pointer (some ⟨p, 0, none⟩), .int .i64 b] W fun e w' => e = .returned (.int .i64 (T.high b)) ∧ Fr [] W w') := fun W hW => height_calls (HT.out.fr hW) b
        have HH2 : Hid (∀ W, Fr [] W2 W → Calls Try.prog 18 #[.agg #[.slice B0 T.ks.length d0, .slice B1 T.wait.length d1], .int .i64 b] W fun e w' => e = .returned (.int .i64 (T.high b)) ∧ Fr [] W w') := fun W hW => rheight_calls HG.out HRG.out (HV0.out.fr hW) (HV1.out.fr hW) b
        have HP1 : Hid (∀ W, Fr [] W2 W → Calls Try.prog 20 #[.pointer (some ⟨p, 0, none⟩), .int .i64 b] W fun e w' => ∃ v, e = .returned v ∧ OwnI W.heap.size w' v (T.path b) ∧ Fr [] W w') := fun W hW => path_calls (HT.out.fr hW) HG.out b
        have HP2 : Hid (∀ W, Fr [] W2 W → Calls Try.prog 21 #[.agg #[.slice B0 T.ks.length d0, .slice B1 T.wait.length d1], .int .i64 b] W fun e w' => ∃ v, e = .returned v ∧ SlI w' v (T.path b) ∧ Fr [] W w') := fun W hW => rpath_calls HG.out HRG.out (HV0.out.fr hW) (HV1.out.fr hW) b
        have HB1 : Hid (∀ W, Fr [] W2 W → Calls Try.prog 22 #[.pointer (some ⟨p, 0, none⟩), .int .i64 b, .int .i64 s] W fun e w' => e = .returned (.int .i64 (T.back b s)) ∧ Fr [] W w') := fun W hW => back_calls (HT.out.fr hW) HG.out b s
        have HB2 : Hid (∀ W, Fr [] W2 W → Calls Try.prog 23 #[.agg #[.slice B0 T.ks.length d0, .slice B1 T.wait.length d1], .int .i64 b, .int .i64 s] W fun e w' => e = .returned (.int .i64 (T.back b s)) ∧ Fr [] W w') := fun W hW => rback_calls HG.out HRG.out (HV0.out.fr hW) (HV1.out.fr hW) b s
        go_region_held3 (fun W => W.cell? ⟨gt, 0, none⟩ = some (.slice B0 T.ks.length d0) ∧ W.cell? ⟨gt, 1, none⟩ = some (.slice B1 T.wait.length d1))
          (assumption)
          (first
            | (go_at_call 16; refine (HHA.out _ HFc.out).mono ?_; rintro e z1 ⟨rfl, hF1⟩; have HD1 := Lib.hid (HFc.out.trans hF1 (by simp)); have hS1 := HSF.out _ HD1.out; clear hF1 HHA)
            | (go_at_call 17; refine (HH1.out _ HD1.out).mono ?_; rintro e z2 ⟨rfl, hF1⟩; have HD2 := Lib.hid (HD1.out.trans hF1 (by simp)); have hS2 := HSF.out _ HD2.out; clear hF1 HH1)
            | (go_at_call 18; refine (HH2.out _ HD2.out).mono ?_; rintro e z3 ⟨rfl, hF1⟩; have HD3 := Lib.hid (HD2.out.trans hF1 (by simp)); have hS3 := HSF.out _ HD3.out; clear hF1 HH2)
            | (go_at_call 20; refine (HP1.out _ HD3.out).mono ?_; rintro e z4 ⟨v4, rfl, hO, hF1⟩; have HO4 := Lib.hid hO.sl; have HD4 := Lib.hid (HD3.out.trans hF1 (by simp)); have hS4 := HSF.out _ HD4.out; clear hF1 HP1 hO)
            | (go_at_call 21; refine (HP2.out _ HD4.out).mono ?_; rintro e z5 ⟨v5, rfl, hO, hF1⟩; have HSM := Lib.hid (same_sl (HO4.out.fr hF1) hO); have HD5 := Lib.hid (HD4.out.trans hF1 (by simp)); have hS5 := HSF.out _ HD5.out; simp only [decide_true] at HSM; clear hF1 HP2 hO HO4)
            | (go_at_call 19; refine HSM.out.mono ?_; rintro e z6 ⟨rfl, hF1⟩; have HD6 := Lib.hid (HD5.out.trans hF1 (by simp)); have hS6 := HSF.out _ HD6.out; clear hF1 HSM)
            | (go_at_call 22; refine (HB1.out _ HD6.out).mono ?_; rintro e z7 ⟨rfl, hF1⟩; have HD7 := Lib.hid (HD6.out.trans hF1 (by simp)); have hS7 := HSF.out _ HD7.out; clear hF1 HB1)
            | (go_at_call 23; refine (HB2.out _ HD7.out).mono ?_; rintro e z8 ⟨rfl, hF1⟩; have HD8 := Lib.hid (HD7.out.trans hF1 (by simp)); have hS8 := HSF.out _ HD8.out; clear hF1 HB2))
        all_goals
          go_wp2
          go_roundg 0
          case rel => exact ⟨0, 2, rfl, by first | rfl | go_num, by decide, HD8⟩
          case measure => omega
      | true =>
        have HGE := Lib.hid (rget_calls HG.out HRG.out (HV0.out.fr HFx.out) (HV1.out.fr HFx.out) b)
        rw [hh] at HGE
        have HHA : Hid (∀ W, Fr [] W2 W → Calls Try.prog 16 #[.pointer (some ⟨p, 0, none⟩), .int .i64 b] W fun e w' => e = .returned (.bool true) ∧ Fr [] W w') := fun W hW => by rw [← hh]; exact has_calls (HT.out.fr hW) b
        clear hh
        go_upto_region 10 with (first
          | (go_at_call 15; refine HGE.out.mono ?_; rintro e w6 ⟨A6, d6, rfl, hd6, hF6, hFn⟩
             have HF6 := Lib.hid (HFx.out.trans hFn (by simp))
             clear hd6 hF6 hFn HGE x20 x21))
        obtain ⟨W7, hW7⟩ : ∃ W7, W7 = w6.alloc (.cells #[.int .i64 (T.get b).f0, .int .i64 (T.get b).f1, .int .i64 (T.get b).f2, .int .i64 (T.get b).f3, .slice A6 (T.get b).f4.length d6] 32) := ⟨_, rfl⟩
        have hF7 : Fr [] W2 W7 := by rw [hW7]; exact HF6.out.alloc _
        have HFc := Lib.hid hF7.drew
        rw [← hW7]
        clear hF7 hW7
        have hS0 := HSF.out _ HFc.out
        have HH1 : Hid (∀ W, Fr [] W2 W → Calls Try.prog 17 #[.pointer (some ⟨p, 0, none⟩), .int .i64 b] W fun e w' => e = .returned (.int .i64 (T.high b)) ∧ Fr [] W w') := fun W hW => height_calls (HT.out.fr hW) b
        have HH2 : Hid (∀ W, Fr [] W2 W → Calls Try.prog 18 #[.agg #[.slice B0 T.ks.length d0, .slice B1 T.wait.length d1], .int .i64 b] W fun e w' => e = .returned (.int .i64 (T.high b)) ∧ Fr [] W w') := fun W hW => rheight_calls HG.out HRG.out (HV0.out.fr hW) (HV1.out.fr hW) b
        have HP1 : Hid (∀ W, Fr [] W2 W → Calls Try.prog 20 #[.pointer (some ⟨p, 0, none⟩), .int .i64 b] W fun e w' => ∃ v, e = .returned v ∧ OwnI W.heap.size w' v (T.path b) ∧ Fr [] W w') := fun W hW => path_calls (HT.out.fr hW) HG.out b
        have HP2 : Hid (∀ W, Fr [] W2 W → Calls Try.prog 21 #[.agg #[.slice B0 T.ks.length d0, .slice B1 T.wait.length d1], .int .i64 b] W fun e w' => ∃ v, e = .returned v ∧ SlI w' v (T.path b) ∧ Fr [] W w') := fun W hW => rpath_calls HG.out HRG.out (HV0.out.fr hW) (HV1.out.fr hW) b
        have HB1 : Hid (∀ W, Fr [] W2 W → Calls Try.prog 22 #[.pointer (some ⟨p, 0, none⟩), .int .i64 b, .int .i64 s] W fun e w' => e = .returned (.int .i64 (T.back b s)) ∧ Fr [] W w') := fun W hW => back_calls (HT.out.fr hW) HG.out b s
        have HB2 : Hid (∀ W, Fr [] W2 W → Calls Try.prog 23 #[.agg #[.slice B0 T.ks.length d0, .slice B1 T.wait.length d1], .int .i64 b, .int .i64 s] W fun e w' => e = .returned (.int .i64 (T.back b s)) ∧ Fr [] W w') := fun W hW => rback_calls HG.out HRG.out (HV0.out.fr hW) (HV1.out.fr hW) b s
        go_region_held3 (fun W => W.cell? ⟨gt, 0, none⟩ = some (.slice B0 T.ks.length d0) ∧ W.cell? ⟨gt, 1, none⟩ = some (.slice B1 T.wait.length d1))
          (assumption)
          (first
            | (go_at_call 16; refine (HHA.out _ HFc.out).mono ?_; rintro e z1 ⟨rfl, hF1⟩; have HD1 := Lib.hid (HFc.out.trans hF1 (by simp)); have hS1 := HSF.out _ HD1.out; clear hF1 HHA)
            | (go_at_call 17; refine (HH1.out _ HD1.out).mono ?_; rintro e z2 ⟨rfl, hF1⟩; have HD2 := Lib.hid (HD1.out.trans hF1 (by simp)); have hS2 := HSF.out _ HD2.out; clear hF1 HH1)
            | (go_at_call 18; refine (HH2.out _ HD2.out).mono ?_; rintro e z3 ⟨rfl, hF1⟩; have HD3 := Lib.hid (HD2.out.trans hF1 (by simp)); have hS3 := HSF.out _ HD3.out; clear hF1 HH2)
            | (go_at_call 20; refine (HP1.out _ HD3.out).mono ?_; rintro e z4 ⟨v4, rfl, hO, hF1⟩; have HO4 := Lib.hid hO.sl; have HD4 := Lib.hid (HD3.out.trans hF1 (by simp)); have hS4 := HSF.out _ HD4.out; clear hF1 HP1 hO)
            | (go_at_call 21; refine (HP2.out _ HD4.out).mono ?_; rintro e z5 ⟨v5, rfl, hO, hF1⟩; have HSM := Lib.hid (same_sl (HO4.out.fr hF1) hO); have HD5 := Lib.hid (HD4.out.trans hF1 (by simp)); have hS5 := HSF.out _ HD5.out; simp only [decide_true] at HSM; clear hF1 HP2 hO HO4)
            | (go_at_call 19; refine HSM.out.mono ?_; rintro e z6 ⟨rfl, hF1⟩; have HD6 := Lib.hid (HD5.out.trans hF1 (by simp)); have hS6 := HSF.out _ HD6.out; clear hF1 HSM)
            | (go_at_call 22; refine (HB1.out _ HD6.out).mono ?_; rintro e z7 ⟨rfl, hF1⟩; have HD7 := Lib.hid (HD6.out.trans hF1 (by simp)); have hS7 := HSF.out _ HD7.out; clear hF1 HB1)
            | (go_at_call 23; refine (HB2.out _ HD7.out).mono ?_; rintro e z8 ⟨rfl, hF1⟩; have HD8 := Lib.hid (HD7.out.trans hF1 (by simp)); have hS8 := HSF.out _ HD8.out; clear hF1 HB2))
        all_goals
          go_wp2
          go_roundg 0
          case rel => exact ⟨0, 2, rfl, by first | rfl | go_num, by decide, HD8⟩
          case measure => omega
    · obtain ⟨a20, a21⟩ := HSA.out _ HFx.out
      have HFd := Lib.hid HFx.out.drew
      have hS0 := HSP.out _ HFd.out
      have HC1 : Hid (∀ W, Fr [] W2 W → Calls Try.prog 24 #[.pointer (some ⟨p, 0, none⟩), .int .i64 a, .int .i64 b] W fun e w' => e = .returned (.int .i64 (T.common a b)) ∧ Fr [] W w') := fun W hW => common_calls (HT.out.fr hW) HG.out a b
      have HC2 : Hid (∀ W, Fr [] W2 W → Calls Try.prog 25 #[.agg #[.slice B0 T.ks.length d0, .slice B1 T.wait.length d1], .int .i64 a, .int .i64 b] W fun e w' => e = .returned (.int .i64 (T.common a b)) ∧ Fr [] W w') := fun W hW => rcommon_calls HG.out HRG.out (HV0.out.fr hW) (HV1.out.fr hW) a b
      go_upto_region 13 with (fail)
      go_region_held3 (fun W => (W.cell? ⟨gt, 0, none⟩ = some (.slice B0 T.ks.length d0) ∧ W.cell? ⟨gt, 1, none⟩ = some (.slice B1 T.wait.length d1)) ∧ W.cell? ⟨g4, 0, none⟩ = some (.int .i64 a) ∧ W.cell? ⟨g4, 1, none⟩ = some (.int .i64 b))
        (assumption)
        (first
          | (go_at_call 24; refine (HC1.out _ HFd.out).mono ?_; rintro e z1 ⟨rfl, hF1⟩; have HD1 := Lib.hid (HFd.out.trans hF1 (by simp)); have hS1 := HSP.out _ HD1.out; clear hF1 HC1)
          | (go_at_call 25; refine (HC2.out _ HD1.out).mono ?_; rintro e z2 ⟨rfl, hF1⟩; have HD2 := Lib.hid (HD1.out.trans hF1 (by simp)); have hS2 := HSP.out _ HD2.out; clear hF1 HC2))
      all_goals
        go_wp2
        exact hR.out _ _ ⟨by simp, HFW.out.trans HD2.out (by simp)⟩
end Go.Np.Try
