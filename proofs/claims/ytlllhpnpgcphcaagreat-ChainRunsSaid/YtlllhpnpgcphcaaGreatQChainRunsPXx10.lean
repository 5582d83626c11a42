/- What ChainRuns needs. -/
import Derived.Test.YtlllhpnpgcphcaaGreatQChainRunsPXx0
import Derived.Test.YtlllhpnpgcphcaaGreatQChainRunsPXx9
namespace Go.Proofs.YtlllhpnpgcphcaaGreat.PX
open Go.RowKit Go.Proofs.YtlllhpnpgcphcaaGreatW.PrintWords Go.Proofs.YtlllhpnpgcphcaaGreatW.PrintLast Go.Proofs.YtlllhpnpgcphcaaGreatW.PrintMore
attribute [local go_sem] max2_int min2_int max_two min_two max_three min_three max_four min_four   -- for this text's walks alone
set_option linter.unusedVariables false
set_option linter.unusedSimpArgs false
def neaptideref01_Num.l0 : Nat → Int → List Int → Option (List Int)
  | 0, _, _ => none
  | k + 1, x0, x3 => if (IntKind.u64.wrap (Int.tdiv x0 128)) = 0 then (if x3.length < 140737488355328 then (some (x3 ++ [(Int.tmod x0 128) % 256])) else (none)) else (if x3.length < 140737488355328 then (neaptideref01_Num.l0 k (IntKind.u64.wrap (Int.tdiv x0 128)) (x3 ++ [(((Int.tmod x0 128) % 256) + 128) % 256])) else (none))
def neaptideref01_Num.f (k : Nat) (a0 : Int) : Option (List Int) := neaptideref01_Num.l0 k a0 (([] : List Int))
set_option maxHeartbeats 8000000 in
set_option maxRecDepth 100000 in
theorem neaptideref01_Num.calls (k : Nat) (a0 : Int) (r : List Int) (w : World) (h : neaptideref01_Num.f k a0 = some r) :
    Calls Tryz.prog 105 #[.int .u64 a0] w fun e w' => ∃ v0_ : Value, e = .returned (v0_) ∧ Kd.R (Kd.int .u8) 5 w' w.heap.size (fun _ => True) v0_ r ∧ Below w.heap.size w w' := by
  have HB := As0.mk (Below.refl w.heap.size w)
  have H : (neaptideref01_Num.l0 k a0 (([] : List Int))) = some r := h
  clear h
  obtain ⟨y295, hy295⟩ : ∃ y_ : List Int, y_ = (([] : List Int)) := ⟨_, rfl⟩
  replace H : (neaptideref01_Num.l0 k a0 y295) = some r := by first | (rw [hy295]; with_reducible exact H) | (have H2_ := (Option.bind_some _ _).symm.trans H; rw [hy295]; with_reducible exact H2_) | (have H2_ := (Option.bind_some _ _).symm.trans H; with_reducible exact H2_) | with_reducible exact H | (rw [hy295]; exact H) | exact H
  have Ny295 := As0.mk hy295
  clear hy295
  have H' := As0.mk H
  clear H
  go_enter Tryz.func105, Tryz.ntmps105
  go_wp2_with (first | ((with_reducible refine gate_dst (N := 5) rfl ?_); refine Kd.R_lit (Kd.int .u8) _ 5 ?hg (N := 5) ?hd (xs := ([] : List Int)) (inner := []) (ok := fun _ => True) (okp := fun _ => True) ?hr ?hp (fun _ hk => hk) trivial (Below.refl _ _) (Nat.le_refl _) (by simp) ?_; (case hd => rfl); (case hg => rfl); (case hr => first | (go_simp; done) | (go_simp; rfl)); (case hp => exact (Reps.none _ _)); intro v296 w2 ho3 hb hg_ hnew_; clear hg_ hnew_; (first | rw [← Ny295.out] at ho3 | (simp only [Int.reduceToNat] at ho3; rw [← Ny295.out] at ho3)); have n0_ := As0.mk (Kd.R_lower ho3 (bwz (by repeat (first | (with_reducible first | exact HB.out | apply bwa | apply pbN | apply bd1) | exact HB.out)))); have n1_ := As0.mk (bwp (by repeat (first | (with_reducible first | exact HB.out | apply bwa | apply pbN | apply bd1) | exact HB.out)) hb); clear HB; have HO297 := n0_; have HB := n1_; clear n0_ n1_; clear hb ho3))
  go_loopg [0, 3] k (fun kq v0 v3 w' => ∃ (x0_1 : Int) (x3_1 : List Int), v0 = .int .u64 x0_1 ∧ As0 (neaptideref01_Num.l0 kq x0_1 x3_1 = some r) ∧ As0 (kq ≤ k) ∧ As0 (Kd.R (Kd.int .u8) 5 w' w.heap.size (fun _ => True) v3 x3_1) ∧ As0 (Below w.heap.size w w'))
  case atStart => exact ⟨(a0), (y295), (by first | rfl | (simp; done) | (simp [*]; done)), H', ⟨Nat.le_refl _⟩, ⟨by (with_reducible repeat (first | apply Kd.R_alloc | apply Kd.R_drewN | apply Kd.R_drew)); exact HO297.out⟩, ⟨by repeat (first | (with_reducible first | exact HB.out | apply bwa | apply pbN | apply bd1) | exact HB.out)⟩⟩
  case round =>
    clear H'
    try clear c1
    try clear p2
    obtain ⟨x0_1, x3_1, rfl, HA, HK1, HO_3, HB⟩ := hrel
    cases gk with
    | zero => exact absurd HA.out (by simp [neaptideref01_Num.l0])
    | succ k1 =>
      have H := HA.out
      clear HA
      simp only [neaptideref01_Num.l0] at H
      by_cases c4 : (IntKind.u64.wrap (Int.tdiv x0_1 128)) = 0
      · rw [if_pos c4] at H
        have c4b0 : ((IntKind.u64.wrap (Int.tdiv x0_1 128)) == 0) = true := beq_iff_eq.mpr c4
        have c4b1 : ((IntKind.u64.wrap (Int.tdiv x0_1 128)) != 0) = false := bne_eq_false_iff_eq.mpr c4
        clear c4
        by_cases c5 : x3_1.length < 140737488355328
        · rw [if_pos c5] at H
          have LMc5 := As0.mk c5
          clear c5
          obtain ⟨y298, hy298⟩ : ∃ y_ : List Int, y_ = (x3_1 ++ [(Int.tmod x0_1 128) % 256]) := ⟨_, rfl⟩
          replace H : (some y298) = some r := by first | (rw [hy298]; with_reducible exact H) | (have H2_ := (Option.bind_some _ _).symm.trans H; rw [hy298]; with_reducible exact H2_) | (have H2_ := (Option.bind_some _ _).symm.trans H; with_reducible exact H2_) | with_reducible exact H | (rw [hy298]; exact H) | exact H
          have Ny298 := As0.mk hy298
          clear hy298
          obtain rfl := Option.some.inj H
          go_wp2_with (first | ((with_reducible refine gate_builtin (b := .append) (xs := #[.tmp 13, .tmp 15]) rfl ?_); at_builtin; refine Kd.R_append (Kd.int .u8) (w0 := w) w.heap.size rfl (.tmp 13) (.tmp 15) 102 5 (.int .u8 0) 1 rfl Tryz.underlying102 info5 rfl (by decide) (by omega) u3 x3_1 ((Int.tmod x0_1 128) % 256) [.int .u8 ((Int.tmod x0_1 128) % 256)] (fun _ => True) (fun _ => False) rfl rfl ?aP (fun _ hk => hk.elim) ?aF ?aO ?aB ?aS ?aL ?_; (case aP => exact rfl); (case aB => exact (by repeat (first | (with_reducible first | exact HB.out | apply bwa | apply pbN | apply bd1) | exact HB.out))); (case aF => exact (fun _ _ => trivial)); (case aO => exact (by (with_reducible repeat (first | apply Kd.R_alloc | apply Kd.R_drewN | apply Kd.R_drew)); exact HO_3.out)); (case aS => exact (bwz (by repeat (first | (with_reducible first | exact HB.out | apply bwa | apply pbN | apply bd1) | exact HB.out)))); (case aL => have := LMc5.out; omega); intro v299 w6 ho hb hg hat; rw [← Ny298.out] at ho; have n0_ := As0.mk (hb); have n1_ := As0.mk (ho); clear HB; clear HO_3; have HB := n0_; have HO300 := n1_; clear n0_ n1_; clear ho hb hg hat))
          go_ret
          exact ⟨_, by first | rfl | (simp [eWn, eWs] <;> rfl) | (simp [*, eWn, eWs] <;> rfl), by (with_reducible repeat (first | apply Kd.R_alloc | apply Kd.R_drewN | apply Kd.R_drew)); exact HO300.out, by repeat (first | (with_reducible first | exact HB.out | apply bwa | apply pbN | apply bd1) | exact HB.out)⟩
        · rw [if_neg c5] at H
          exact absurd H (by simp)
      · rw [if_neg c4] at H
        have c4b0 : ((IntKind.u64.wrap (Int.tdiv x0_1 128)) == 0) = false := beq_eq_false_iff_ne.mpr c4
        have c4b1 : ((IntKind.u64.wrap (Int.tdiv x0_1 128)) != 0) = true := bne_iff_ne.mpr c4
        by_cases c7 : x3_1.length < 140737488355328
        · rw [if_pos c7] at H
          have LMc7 := As0.mk c7
          clear c7
          obtain ⟨y301, hy301⟩ : ∃ y_ : List Int, y_ = (x3_1 ++ [(((Int.tmod x0_1 128) % 256) + 128) % 256]) := ⟨_, rfl⟩
          replace H : (neaptideref01_Num.l0 k1 (IntKind.u64.wrap (Int.tdiv x0_1 128)) y301) = some r := by first | (rw [hy301]; with_reducible exact H) | (have H2_ := (Option.bind_some _ _).symm.trans H; rw [hy301]; with_reducible exact H2_) | (have H2_ := (Option.bind_some _ _).symm.trans H; with_reducible exact H2_) | with_reducible exact H | (rw [hy301]; exact H) | exact H
          have Ny301 := As0.mk hy301
          clear hy301
          have H' := As0.mk H
          clear H
          replace Ny301 : As0 (y301 = x3_1 ++ [(Int.tmod x0_1 128 + 128) % 256]) := ⟨by rw [Ny301.out, Int.emod_add_emod]⟩
          go_wp2_with (first | ((with_reducible refine gate_builtin (b := .append) (xs := #[.tmp 17, .tmp 20]) rfl ?_); at_builtin; refine Kd.R_append (Kd.int .u8) (w0 := w) w.heap.size rfl (.tmp 17) (.tmp 20) 102 5 (.int .u8 0) 1 rfl Tryz.underlying102 info5 rfl (by decide) (by omega) u3 x3_1 ((Int.tmod x0_1 128 + 128) % 256) [.int .u8 ((Int.tmod x0_1 128 + 128) % 256)] (fun _ => True) (fun _ => False) rfl rfl ?aP (fun _ hk => hk.elim) ?aF ?aO ?aB ?aS ?aL ?_; (case aP => exact rfl); (case aB => exact (by repeat (first | (with_reducible first | exact HB.out | apply bwa | apply pbN | apply bd1) | exact HB.out))); (case aF => exact (fun _ _ => trivial)); (case aO => exact (by (with_reducible repeat (first | apply Kd.R_alloc | apply Kd.R_drewN | apply Kd.R_drew)); exact HO_3.out)); (case aS => exact (bwz (by repeat (first | (with_reducible first | exact HB.out | apply bwa | apply pbN | apply bd1) | exact HB.out)))); (case aL => have := LMc7.out; omega); intro v302 w8 ho hb hg hat; rw [← Ny301.out] at ho; have n0_ := As0.mk (hb); have n1_ := As0.mk (ho); clear HB; clear HO_3; have HB := n0_; have HO303 := n1_; clear n0_ n1_; clear ho hb hg hat))
          go_roundg k1
          case measure => have := HK1.out; omega
          case rel => exact ⟨(IntKind.u64.wrap (Int.tdiv x0_1 128)), (y301), (by first | rfl | (simp; done) | (simp [*]; done)), H', ⟨by have := HK1.out; omega⟩, ⟨by (with_reducible repeat (first | apply Kd.R_alloc | apply Kd.R_drewN | apply Kd.R_drew)); exact HO303.out⟩, ⟨by repeat (first | (with_reducible first | exact HB.out | apply bwa | apply pbN | apply bd1) | exact HB.out)⟩⟩
        · rw [if_neg c7] at H
          exact absurd H (by simp)
def neaptideref01_Nums.l0 : Nat → List Int → List Int → Int → Int → Option (List Int × Int)
  | 0, _, _, _, _ => none
  | k + 1, x4, x11, x12, x13 => if x13 < x12 then (if 0 ≤ x13 then (if x13 < (x11.length : Int) then (if (rd x11 x13) < (-1) then (some (([] : List Int), 11)) else ((neaptideref01_Num.f k (IntKind.u64.wrap ((IntKind.u64.wrap (rd x11 x13)) + 1))).bind fun t308 => (if x4.length + t308.length < 140737488355328 then (neaptideref01_Nums.l0 k (x4 ++ t308) x11 x12 (wrap64 (x13 + 1))) else (none)))) else (none)) else (none)) else (some (x4, 0))
def neaptideref01_Nums.f (k : Nat) (l0 : List Int) : Option (List Int × Int) := if (l0.length : Int) > 64 then (some (([] : List Int), 11)) else (neaptideref01_Nums.l0 k (([] : List Int)) l0 (l0.length : Int) 0)
set_option maxHeartbeats 8000000 in
set_option maxRecDepth 100000 in
theorem neaptideref01_Nums.calls (k : Nat) (A0 : Option Addr) (c0 : Nat) (l0 : List Int) (r1 : List Int) (r2 : Int) (w : World) (hr0 : Kd.C (Kd.int .i64) w A0 l0.length l0) (hc0 : l0.length ≤ c0) (h : neaptideref01_Nums.f k l0 = some (r1, r2)) :
    Calls Tryz.prog 94 #[.slice A0 l0.length c0] w fun e w' => ∃ v0_ : Value, e = .returned (.tuple #[v0_, .int .i64 r2]) ∧ Kd.R (Kd.int .u8) 5 w' w.heap.size (fun _ => True) v0_ r1 ∧ Below w.heap.size w w' := by
  have HR0 := As0.mk hr0
  have HC0 := As0.mk hc0
  clear hr0 hc0
  have HB := As0.mk (Below.refl w.heap.size w)
  have H : (if (l0.length : Int) > 64 then (some (([] : List Int), 11)) else (neaptideref01_Nums.l0 k (([] : List Int)) l0 (l0.length : Int) 0)) = some (r1, r2) := h
  clear h
  by_cases c2 : (l0.length : Int) > 64
  · rw [if_pos c2] at H
    have c2b0 : decide (64 < (l0.length : Int)) = true := decide_eq_true c2
    have c2b1 : decide (64 < l0.length) = true := decide_eq_true (by omega)
    clear c2
    simp only [Option.some.injEq, Prod.mk.injEq] at H
    obtain ⟨rfl, rfl⟩ := H
    go_enter Tryz.func94, Tryz.ntmps94
    go_wp2
    go_ret2
    exact ⟨_, by first | rfl | (simp [eWn, eWs] <;> rfl) | (simp [*, eWn, eWs] <;> rfl), by first | exact Kd.R_nil _ _ _ _ _ | exact Kd.N_nil _ _ _ _ _ | exact Kd.V_nil _ _ _ _ _ | exact Kd.Q_nil _ _ _ _ _ | exact Kd.S_nil _ _ _ _ _, by repeat (first | (with_reducible first | exact HB.out | apply bwa | apply pbN | apply bd1) | exact HB.out)⟩
  · rw [if_neg c2] at H
    have c2b0 : decide (64 < (l0.length : Int)) = false := decide_eq_false c2
    have c2b1 : decide (64 < l0.length) = false := decide_eq_false (by omega)
    clear c2
    obtain ⟨y304, hy304⟩ : ∃ y_ : List Int, y_ = (([] : List Int)) := ⟨_, rfl⟩
    replace H : (neaptideref01_Nums.l0 k y304 l0 (l0.length : Int) 0) = some (r1, r2) := by first | (rw [hy304]; with_reducible exact H) | (have H2_ := (Option.bind_some _ _).symm.trans H; rw [hy304]; with_reducible exact H2_) | (have H2_ := (Option.bind_some _ _).symm.trans H; with_reducible exact H2_) | with_reducible exact H | (rw [hy304]; exact H) | exact H
    have Ny304 := As0.mk hy304
    clear hy304
    have H' := As0.mk H
    clear H
    go_enter Tryz.func94, Tryz.ntmps94
    go_wp2_with (first | ((with_reducible refine gate_dst (N := 10) rfl ?_); refine Kd.R_lit (Kd.int .u8) _ 5 ?hg (N := 10) ?hd (xs := ([] : List Int)) (inner := []) (ok := fun _ => True) (okp := fun _ => True) ?hr ?hp (fun _ hk => hk) trivial (Below.refl _ _) (Nat.le_refl _) (by simp) ?_; (case hd => rfl); (case hg => rfl); (case hr => first | (go_simp; done) | (go_simp; rfl)); (case hp => exact (Reps.none _ _)); intro v305 w3 ho4 hb hg_ hnew_; clear hg_ hnew_; (first | rw [← Ny304.out] at ho4 | (simp only [Int.reduceToNat] at ho4; rw [← Ny304.out] at ho4)); have n0_ := As0.mk (Kd.R_lower ho4 (bwz (by repeat (first | (with_reducible first | exact HB.out | apply bwa | apply pbN | apply bd1) | exact HB.out)))); have n1_ := As0.mk (bwp (by repeat (first | (with_reducible first | exact HB.out | apply bwa | apply pbN | apply bd1) | exact HB.out)) hb); clear HB; have HO306 := n0_; have HB := n1_; clear n0_ n1_; clear hb ho4))
    go_loopg [4, 13] k (fun kq v4 v13 w' => ∃ (x4_1 : List Int) (x13_1 : Int), v13 = .int .i64 x13_1 ∧ As0 (neaptideref01_Nums.l0 kq x4_1 l0 (l0.length : Int) x13_1 = some (r1, r2)) ∧ As0 (kq ≤ k) ∧ As0 (Kd.R (Kd.int .u8) 5 w' w.heap.size (fun _ => True) v4 x4_1) ∧ As0 (Below w.heap.size w w'))
    case atStart => exact ⟨(y304), (0), (by first | rfl | (simp; done) | (simp [*]; done)), H', ⟨Nat.le_refl _⟩, ⟨by (with_reducible repeat (first | apply Kd.R_alloc | apply Kd.R_drewN | apply Kd.R_drew)); exact HO306.out⟩, ⟨by repeat (first | (with_reducible first | exact HB.out | apply bwa | apply pbN | apply bd1) | exact HB.out)⟩⟩
    case round =>
      clear H'
      try clear c2
      try clear c2b0
      try clear c2b1
      try clear p2
      obtain ⟨x4_1, x13_1, rfl, HA, HK1, HO_4, HB⟩ := hrel
      cases gk with
      | zero => exact absurd HA.out (by simp [neaptideref01_Nums.l0])
      | succ k1 =>
        have H := HA.out
        clear HA
        simp only [neaptideref01_Nums.l0] at H
        by_cases c5 : x13_1 < (l0.length : Int)
        · rw [if_pos c5] at H
          have c5b0 : decide (x13_1 < (l0.length : Int)) = true := decide_eq_true c5
          clear c5
          by_cases c6 : 0 ≤ x13_1
          · rw [if_pos c6] at H
            have c6b0 : decide (0 ≤ x13_1) = true := decide_eq_true c6
            clear c6
            by_cases c7 : x13_1 < (l0.length : Int)
            · rw [if_pos c7] at H
              have c7b0 : decide (x13_1 < (l0.length : Int)) = true := decide_eq_true c7
              clear c7
              by_cases c8 : (rd l0 x13_1) < (-1)
              · rw [if_pos c8] at H
                have c8b0 : decide ((rd l0 x13_1) < (-1)) = true := decide_eq_true c8
                clear c8
                simp only [Option.some.injEq, Prod.mk.injEq] at H
                obtain ⟨rfl, rfl⟩ := H
                have p307 : 0 ≤ (x13_1 : Int) := of_decide_eq_true (by first | (with_reducible assumption) | assumption)
                have q307 : x13_1 < (l0.length : Int) := of_decide_eq_true (by first | (with_reducible assumption) | assumption)
                obtain ⟨ad307, e307, hx307_0⟩ := Kd.at_int HR0.out x13_1 p307 q307
                cases e307
                replace hx307_0 := (HB.out.cell (World.block_lt_of_cell? w _ hx307_0)).trans hx307_0
                replace p307 := eq_true p307
                replace q307 := eq_true q307
                go_wp2
                go_ret2
                exact ⟨_, by first | rfl | (simp [eWn, eWs] <;> rfl) | (simp [*, eWn, eWs] <;> rfl), by first | exact Kd.R_nil _ _ _ _ _ | exact Kd.N_nil _ _ _ _ _ | exact Kd.V_nil _ _ _ _ _ | exact Kd.Q_nil _ _ _ _ _ | exact Kd.S_nil _ _ _ _ _, by repeat (first | (with_reducible first | exact HB.out | apply bwa | apply pbN | apply bd1) | exact HB.out)⟩
              · rw [if_neg c8] at H
                have c8b0 : decide ((rd l0 x13_1) < (-1)) = false := decide_eq_false c8
                clear c8
                replace H := Option.bind_eq_some_iff.mp H
                obtain ⟨t308, A90, H⟩ := H
                replace H : (if x4_1.length + t308.length < 140737488355328 then (neaptideref01_Nums.l0 k1 (x4_1 ++ t308) l0 (l0.length : Int) (wrap64 (x13_1 + 1))) else (none)) = some (r1, r2) := H
                have A9 := As0.mk A90
                clear A90
                by_cases c10 : x4_1.length + t308.length < 140737488355328
                · rw [if_pos c10] at H
                  have LMc10 := As0.mk c10
                  clear c10
                  obtain ⟨y311, hy311⟩ : ∃ y_ : List Int, y_ = (x4_1 ++ t308) := ⟨_, rfl⟩
                  replace H : (neaptideref01_Nums.l0 k1 y311 l0 (l0.length : Int) (wrap64 (x13_1 + 1))) = some (r1, r2) := by first | (rw [hy311]; with_reducible exact H) | (have H2_ := (Option.bind_some _ _).symm.trans H; rw [hy311]; with_reducible exact H2_) | (have H2_ := (Option.bind_some _ _).symm.trans H; with_reducible exact H2_) | with_reducible exact H | (rw [hy311]; exact H) | exact H
                  have Ny311 := As0.mk hy311
                  clear hy311
                  have H' := As0.mk H
                  clear H
                  have p307 : 0 ≤ (x13_1 : Int) := of_decide_eq_true (by first | (with_reducible assumption) | assumption)
                  have q307 : x13_1 < (l0.length : Int) := of_decide_eq_true (by first | (with_reducible assumption) | assumption)
                  obtain ⟨ad307, e307, hx307_0⟩ := Kd.at_int HR0.out x13_1 p307 q307
                  cases e307
                  replace hx307_0 := (HB.out.cell (World.block_lt_of_cell? w _ hx307_0)).trans hx307_0
                  replace p307 := eq_true p307
                  replace q307 := eq_true q307
                  go_wp2_with (first | ((with_reducible refine gtc (f := 105) rfl ?_); refine goesL_ (some 23) rfl rfl Tryz.func105 (by kernel_rfl) rfl #[.int .u64 (IntKind.u64.wrap ((IntKind.u64.wrap (rd l0 x13_1)) + 1))] rfl (by (try simp only [List.map_toArray, List.map_cons, List.map_nil]); first | done | rfl | (simp only [List.length_drop, List.length_take]; rfl)) ?_; (with_reducible refine (neaptideref01_Num.calls k1 (IntKind.u64.wrap ((IntKind.u64.wrap (rd l0 x13_1)) + 1)) t308 _ A9.out).mono ?_); rintro e w11 ⟨v309, rfl, ho0, hb⟩; refine ⟨_, rfl, ?_⟩; have n0_ := As0.mk (Kd.R_elder' (by (with_reducible repeat (first | apply Kd.R_alloc | apply Kd.R_drewN | apply Kd.R_drew)); exact HO_4.out) (Kd.R_base ho0) hb); have n1_ := As0.mk (Kd.R_lower (Kd.R_new' ho0 (Kd.R_lt (by (with_reducible repeat (first | apply Kd.R_alloc | apply Kd.R_drewN | apply Kd.R_drew)); exact HO_4.out))) (bwz (by repeat (first | (with_reducible first | exact HB.out | apply bwa | apply pbN | apply bd1) | exact HB.out)))); have n2_ := As0.mk (bwp (by repeat (first | (with_reducible first | exact HB.out | apply bwa | apply pbN | apply bd1) | exact HB.out)) hb); clear HO_4; clear HB; have HO_4 := n0_; have HO310 := n1_; have HB := n2_; clear n0_ n1_ n2_; (try clear hb); (try clear hb2); (try clear hk); (try clear hi); (try clear ho0); obtain ⟨Ao13, co13, eo13⟩ := Kd.R_slice HO310.out; subst eo13) | ((with_reducible refine gate_builtin (b := .append) (xs := #[.tmp 19, .tmp 23]) rfl ?_); at_builtin; refine Kd.R_append_rows (Kd.int .u8) (w0 := w) w.heap.size rfl (.tmp 19) (.tmp 23) 102 5 (.int .u8 0) 1 rfl Tryz.underlying102 info5 rfl (by decide) (by omega) u4 x4_1 t308 _ _ _ (fun k_ => some k_ ≠ (.slice Ao13 t308.length co13 : Value).ownBlock) (fun _ => False) rfl rfl ?aO ?aR (fun _ _ h => h) (fun _ h => h.elim) ?aF ?aB ?aS ?aL ?_; (case aR => repeat (first | exact (Kd.R_reads' HO310.out).2.2 | (with_reducible refine Kd.C_alloc ?_ _) | (with_reducible refine Kd.C_drewN ?_ _) | (with_reducible refine Kd.C_drew ?_))); (case aB => exact (by repeat (first | (with_reducible first | exact HB.out | apply bwa | apply pbN | apply bd1) | exact HB.out))); (case aF => exact (fun k_ hk => Kd.fresh' (Kd.R_lt (by (with_reducible repeat (first | apply Kd.R_alloc | apply Kd.R_drewN | apply Kd.R_drew)); exact HO310.out)) k_ hk)); (case aO => exact (by (with_reducible repeat (first | apply Kd.R_alloc | apply Kd.R_drewN | apply Kd.R_drew)); exact Kd.R_mono HO_4.out (fun _ hk => hk.2))); (case aS => exact (bwz (by repeat (first | (with_reducible first | exact HB.out | apply bwa | apply pbN | apply bd1) | exact HB.out)))); (case aL => have := LMc10.out; omega); intro v312 w12 ho hb hg hat; rw [← Ny311.out] at ho; have n0_ := As0.mk (Kd.R_after (ok := (fun _ => True)) (by (with_reducible repeat (first | apply Kd.R_alloc | apply Kd.R_drewN | apply Kd.R_drew)); exact HO310.out) hg hat); have n1_ := As0.mk (hb); have n2_ := As0.mk (ho); clear HO310; clear HB; clear HO_4; have HO310 := n0_; have HB := n1_; have HO313 := n2_; clear n0_ n1_ n2_; clear ho hb hg hat))
                  go_roundg k1
                  case measure => have := HK1.out; omega
                  case rel => exact ⟨(y311), (wrap64 (x13_1 + 1)), (by first | rfl | (simp; done) | (simp [*]; done)), H', ⟨by have := HK1.out; omega⟩, ⟨by (with_reducible repeat (first | apply Kd.R_alloc | apply Kd.R_drewN | apply Kd.R_drew)); exact Kd.R_mono HO313.out (fun _ hk => trivial)⟩, ⟨by repeat (first | (with_reducible first | exact HB.out | apply bwa | apply pbN | apply bd1) | exact HB.out)⟩⟩
                · rw [if_neg c10] at H
                  exact absurd H (by simp)
            · rw [if_neg c7] at H
              exact absurd H (by simp)
          · rw [if_neg c6] at H
            exact absurd H (by simp)
        · rw [if_neg c5] at H
          have c5b0 : decide (x13_1 < (l0.length : Int)) = false := decide_eq_false c5
          clear c5
          simp only [Option.some.injEq, Prod.mk.injEq] at H
          obtain ⟨rfl, rfl⟩ := H
          go_wp2
          go_ret2
          exact ⟨_, by first | rfl | (simp [eWn, eWs] <;> rfl) | (simp [*, eWn, eWs] <;> rfl), by (with_reducible repeat (first | apply Kd.R_alloc | apply Kd.R_drewN | apply Kd.R_drew)); exact HO_4.out, by repeat (first | (with_reducible first | exact HB.out | apply bwa | apply pbN | apply bd1) | exact HB.out)⟩
mutual
def neaptideref06_List.l0 : Nat → List (S67) → List Int → List (S67) → Int → Int → Option (List Int × Int)
  | 0, _, _, _, _, _ => none
  | k + 1, x0, x4, x15, x16, x17 => if x17 < x16 then (if 0 ≤ x17 then (if x17 < (x15.length : Int) then ((neaptideref06_Right.f ((rd_T67 x15 x17).f0) ((rd_T67 x15 x17).f1)).bind fun t323 => (if t323 = true then (if x17 ≤ (x0.length : Int) then ((some (x0.take (x17 : Int).toNat : List (S67))).bind fun y324 => (neaptideref06_List.l1 k x0 x4 x15 x16 x17 y324 (y324.length : Int) 0 ((rd_T67 x15 x17).f0) ((rd_T67 x15 x17).f1))) else (none)) else (some (([] : List Int), 61)))) else (none)) else (none)) else ((neaptideref01_Nums.f k x4).bind fun bt317 => (some (bt317.1, bt317.2)))
def neaptideref06_List.l1 : Nat → List (S67) → List Int → List (S67) → Int → Int → List (S67) → Int → Int → Int → Int → Option (List Int × Int)
  | 0, _, _, _, _, _, _, _, _, _, _ => none
  | k + 1, x0, x4, x15, x16, x17, x27, x28, x29, x323000, x323001 => if x29 < x28 then (if 0 ≤ x29 then (if x29 < (x27.length : Int) then (if ((rd_T67 x27 x29).f0) = x323000 then (some (([] : List Int), 61)) else (neaptideref06_List.l1 k x0 x4 x15 x16 x17 x27 x28 (wrap64 (x29 + 1)) x323000 x323001)) else (none)) else (none)) else ((some (([x323000, x323001] : List Int) : List Int)).bind fun y330 => (if x4.length + y330.length < 17592186044416 then (neaptideref06_List.l0 k x0 (x4 ++ y330) x15 x16 (wrap64 (x17 + 1))) else (none)))
end
def neaptideref06_List.f (k : Nat) (l0 : List (S67)) : Option (List Int × Int) := if (l0.length : Int) > 3 then (some (([] : List Int), 61)) else (neaptideref06_List.l0 k l0 (([(l0.length : Int)] : List Int)) l0 (l0.length : Int) 0)
set_option maxHeartbeats 8000000 in
set_option maxRecDepth 100000 in
theorem neaptideref06_List.calls (k : Nat) (A0 : Option Addr) (c0 : Nat) (l0 : List (S67)) (r1 : List Int) (r2 : Int) (w : World) (hr0 : Kd.C k67 w A0 l0.length l0) (hc0 : l0.length ≤ c0) (h : neaptideref06_List.f k l0 = some (r1, r2)) :
    Calls Tryz.prog 68 #[.slice A0 l0.length c0] w fun e w' => ∃ v0_ : Value, e = .returned (.tuple #[v0_, .int .i64 r2]) ∧ Kd.R (Kd.int .u8) 5 w' w.heap.size (fun _ => True) v0_ r1 ∧ Below w.heap.size w w' := by
  have hu67 := Tryz.underlying67
  have HR0 := As0.mk hr0
  have HC0 := As0.mk hc0
  clear hr0 hc0
  have HB := As0.mk (Below.refl w.heap.size w)
  have H : (if (l0.length : Int) > 3 then (some (([] : List Int), 61)) else (neaptideref06_List.l0 k l0 (([(l0.length : Int)] : List Int)) l0 (l0.length : Int) 0)) = some (r1, r2) := h
  clear h
  by_cases c2 : (l0.length : Int) > 3
  · rw [if_pos c2] at H
    have c2b0 : decide (3 < (l0.length : Int)) = true := decide_eq_true c2
    have c2b1 : decide (3 < l0.length) = true := decide_eq_true (by omega)
    clear c2
    simp only [Option.some.injEq, Prod.mk.injEq] at H
    obtain ⟨rfl, rfl⟩ := H
    go_enter Tryz.func68, Tryz.ntmps68
    go_wp2
    go_ret2
    exact ⟨_, by first | rfl | (simp [eWn, eWs] <;> rfl) | (simp [*, eWn, eWs] <;> rfl), by first | exact Kd.R_nil _ _ _ _ _ | exact Kd.N_nil _ _ _ _ _ | exact Kd.V_nil _ _ _ _ _ | exact Kd.Q_nil _ _ _ _ _ | exact Kd.S_nil _ _ _ _ _, by repeat (first | (with_reducible first | exact HB.out | apply bwa | apply pbN | apply bd1) | exact HB.out)⟩
  · rw [if_neg c2] at H
    have c2b0 : decide (3 < (l0.length : Int)) = false := decide_eq_false c2
    have c2b1 : decide (3 < l0.length) = false := decide_eq_false (by omega)
    clear c2
    obtain ⟨y314, hy314⟩ : ∃ y_ : List Int, y_ = (([(l0.length : Int)] : List Int)) := ⟨_, rfl⟩
    replace H : (neaptideref06_List.l0 k l0 y314 l0 (l0.length : Int) 0) = some (r1, r2) := by first | (rw [hy314]; with_reducible exact H) | (have H2_ := (Option.bind_some _ _).symm.trans H; rw [hy314]; with_reducible exact H2_) | (have H2_ := (Option.bind_some _ _).symm.trans H; with_reducible exact H2_) | with_reducible exact H | (rw [hy314]; exact H) | exact H
    have Ny314 := As0.mk hy314
    clear hy314
    have H' := As0.mk H
    clear H
    go_enter Tryz.func68, Tryz.ntmps68
    go_wp2_with (first | ((with_reducible refine gate_dst (N := 14) rfl ?_); refine Kd.R_lit (Kd.int .i64) _ 3 ?hg (N := 14) ?hd (xs := ([(l0.length : Int)] : List Int)) (inner := [.int .i64 (l0.length : Int)]) (ok := fun _ => True) (okp := fun _ => True) ?hr ?hp (fun _ hk => hk) trivial (Below.refl _ _) (Nat.le_refl _) (by simp) ?_; (case hd => rfl); (case hg => rfl); (case hr => first | (go_simp; done) | (go_simp; rfl)); (case hp => exact (Reps.one (show Kd.M (Kd.int .i64) _ _ _ (l0.length : Int) [.int .i64 (l0.length : Int)] from rfl) (Reps.none _ _))); intro v315 w3 ho4 hb hg_ hnew_; clear hg_ hnew_; (first | rw [← Ny314.out] at ho4 | (simp only [Int.reduceToNat] at ho4; rw [← Ny314.out] at ho4)); have n0_ := As0.mk (Kd.R_lower ho4 (bwz (by repeat (first | (with_reducible first | exact HB.out | apply bwa | apply pbN | apply bd1) | exact HB.out)))); have n1_ := As0.mk (bwp (by repeat (first | (with_reducible first | exact HB.out | apply bwa | apply pbN | apply bd1) | exact HB.out)) hb); clear HB; have HO316 := n0_; have HB := n1_; clear n0_ n1_; clear hb ho4))
    go_loopg [4, 17] k (fun kq v4 v17 w' => ∃ (x4_1 : List Int) (x17_1 : Int), v17 = .int .i64 x17_1 ∧ As0 (neaptideref06_List.l0 kq l0 x4_1 l0 (l0.length : Int) x17_1 = some (r1, r2)) ∧ As0 (kq ≤ k) ∧ As0 (Kd.R (Kd.int .i64) 3 w' w.heap.size (fun _ => True) v4 x4_1) ∧ As0 (Below w.heap.size w w'))
    case atStart => exact ⟨(y314), (0), (by first | rfl | (simp; done) | (simp [*]; done)), H', ⟨Nat.le_refl _⟩, ⟨by (with_reducible repeat (first | apply Kd.R_alloc | apply Kd.R_drewN | apply Kd.R_drew)); exact HO316.out⟩, ⟨by repeat (first | (with_reducible first | exact HB.out | apply bwa | apply pbN | apply bd1) | exact HB.out)⟩⟩
    case round =>
      clear H'
      try clear c2
      try clear c2b0
      try clear c2b1
      try clear p2
      obtain ⟨x4_1, x17_1, rfl, HA, HK1, HO_4, HB⟩ := hrel
      cases gk with
      | zero => exact absurd HA.out (by simp [neaptideref06_List.l0])
      | succ k1 =>
        have H := HA.out
        clear HA
        simp only [neaptideref06_List.l0] at H
        by_cases c5 : x17_1 < (l0.length : Int)
        · rw [if_pos c5] at H
          have c5b0 : decide (x17_1 < (l0.length : Int)) = true := decide_eq_true c5
          clear c5
          by_cases c6 : 0 ≤ x17_1
          · rw [if_pos c6] at H
            have c6b0 : decide (0 ≤ x17_1) = true := decide_eq_true c6
            clear c6
            by_cases c7 : x17_1 < (l0.length : Int)
            · rw [if_pos c7] at H
              have c7b0 : decide (x17_1 < (l0.length : Int)) = true := decide_eq_true c7
              clear c7
              replace H := Option.bind_eq_some_iff.mp H
              obtain ⟨t323, A80, H⟩ := H
              replace H : (if t323 = true then (if x17_1 ≤ (l0.length : Int) then ((some (l0.take (x17_1 : Int).toNat : List (S67))).bind fun y324 => (neaptideref06_List.l1 k1 l0 x4_1 l0 (l0.length : Int) x17_1 y324 (y324.length : Int) 0 ((rd_T67 l0 x17_1).f0) ((rd_T67 l0 x17_1).f1))) else (none)) else (some (([] : List Int), 61))) = some (r1, r2) := H
              have A8 := As0.mk A80
              clear A80
              by_cases c9 : t323 = true
              · subst c9
                have H1 : (if x17_1 ≤ (l0.length : Int) then ((some (l0.take (x17_1 : Int).toNat : List (S67))).bind fun y324 => (neaptideref06_List.l1 k1 l0 x4_1 l0 (l0.length : Int) x17_1 y324 (y324.length : Int) 0 ((rd_T67 l0 x17_1).f0) ((rd_T67 l0 x17_1).f1))) else (none)) = some (r1, r2) := by rw [if_pos rfl] at H; exact H
                clear H
                have H := H1
                clear H1
                have c10b0 := eq_true (of_decide_eq_true (by first | (with_reducible assumption) | assumption) : 0 ≤ x17_1)
                by_cases c11 : x17_1 ≤ (l0.length : Int)
                · rw [if_pos c11] at H
                  have c11b0 := eq_true c11
                  have c11b1 : decide (x17_1 ≤ (l0.length : Int)) = true := decide_eq_true c11
                  clear c11
                  obtain ⟨y324, hy324⟩ : ∃ y_ : List (S67), y_ = (l0.take (x17_1 : Int).toNat) := ⟨_, rfl⟩
                  replace H : (neaptideref06_List.l1 k1 l0 x4_1 l0 (l0.length : Int) x17_1 y324 (y324.length : Int) 0 ((rd_T67 l0 x17_1).f0) ((rd_T67 l0 x17_1).f1)) = some (r1, r2) := by first | (rw [hy324]; with_reducible exact H) | (have H2_ := (Option.bind_some _ _).symm.trans H; rw [hy324]; with_reducible exact H2_) | (have H2_ := (Option.bind_some _ _).symm.trans H; with_reducible exact H2_) | with_reducible exact H | (rw [hy324]; exact H) | exact H
                  have Ny324 := As0.mk hy324
                  clear hy324
                  have H' := As0.mk H
                  clear H
                  have p321 : 0 ≤ (x17_1 : Int) := of_decide_eq_true (by first | (with_reducible assumption) | assumption)
                  have q321 : x17_1 < (l0.length : Int) := of_decide_eq_true (by first | (with_reducible assumption) | assumption)
                  obtain ⟨ad321, e321, hx321_0, hx321_1⟩ := at_T67 HR0.out x17_1 p321 q321
                  cases e321
                  replace hx321_0 := (HB.out.cell (World.block_lt_of_cell? w _ hx321_0)).trans hx321_0
                  replace hx321_1 := (HB.out.cell (World.block_lt_of_cell? w _ hx321_1)).trans hx321_1
                  replace p321 := eq_true p321
                  replace q321 := eq_true q321
                  go_wp2_with (first | ((with_reducible refine gate_dst (N := 6) rfl ?_); refine bxe ?hg (N := 6) ?hd (cs := #[.int .i64 0, .int .i64 0]) (t := 67) ?hr ?_; (case hd => rfl); (case hg => rfl); (case hr => first | (go_simp; done) | (go_simp; rfl)); intro gb322 hg w12 hbox hb; have n0_ := As0.mk (Kd.R_below (by (with_reducible repeat (first | apply Kd.R_alloc | apply Kd.R_drewN | apply Kd.R_drew)); exact HO_4.out) hb); have n1_ := As0.mk (bwp (by repeat (first | (with_reducible first | exact HB.out | apply bwa | apply pbN | apply bd1) | exact HB.out)) hb); have n2_ := As0.mk (hbox); have n3_ := As0.mk ((by rw [hg]; exact (bwz (by repeat (first | (with_reducible first | exact HB.out | apply bwa | apply pbN | apply bd1) | exact HB.out))) : w.heap.size ≤ gb322)); have n4_ := As0.mk ((by rw [hg]; exact (bwz (by repeat (first | (with_reducible first | exact HB.out | apply bwa | apply pbN | apply bd1) | exact HB.out))) : w.heap.size ≤ gb322)); clear HO_4; clear HB; have HO_4 := n0_; have HB := n1_; have BK322 := n2_; have GW322 := n3_; have GE322 := n4_; clear n0_ n1_ n2_ n3_ n4_; clear hb hbox hg; have hcz13_0 : w12.cell? ⟨gb322, 0, none⟩ = some (.int .i64 0) := (bkc BK322.out 0).trans rfl; have hcz13_1 : w12.cell? ⟨gb322, 1, none⟩ = some (.int .i64 0) := (bkc BK322.out 1).trans rfl; have hfz13_0 := bkf BK322.out 0; have hfz13_1 := bkf BK322.out 1) | ((with_reducible refine gtc (f := 93) rfl ?_); refine goesL_ (some 23) rfl rfl Tryz.func93 (by kernel_rfl) rfl #[.agg #[.int .i64 ((rd_T67 l0 x17_1).f0), .int .i64 ((rd_T67 l0 x17_1).f1)]] rfl (by (try simp only [List.map_toArray, List.map_cons, List.map_nil]); first | done | rfl | (simp only [List.length_drop, List.length_take]; rfl)) ?_; (with_reducible refine (neaptideref06_Right.calls ((rd_T67 l0 x17_1).f0) ((rd_T67 l0 x17_1).f1) true _ A8.out).mono ?_); rintro e w14 ⟨rfl, hb⟩; refine ⟨_, rfl, ?_⟩; have n0_ := As0.mk (Kd.R_below (by (with_reducible repeat (first | apply Kd.R_alloc | apply Kd.R_drewN | apply Kd.R_drew)); exact (Kd.R_mono (Kd.R_far (p := ⟨gb322, 1, none⟩) (Kd.R_far (p := ⟨gb322, 0, none⟩) (Kd.R_types HO_4.out BK322.out (by decide)) (fun _ hk => hk.2) (.int .i64 ((rd_T67 l0 x17_1).f0))) (fun _ hk => hk.2) (.int .i64 ((rd_T67 l0 x17_1).f1))) (fun _ h_ => h_.1))) hb); have n1_ := As0.mk (blk_below (g := gb322) (o := .cells #[.int .i64 ((rd_T67 l0 x17_1).f0), .int .i64 ((rd_T67 l0 x17_1).f1)] 67 (0, 0)) (by (with_reducible repeat (first | refine bkN ?_ _ | refine bkd ?_ | refine bka ?_ _)); refine blk_put (cs := #[.int .i64 ((rd_T67 l0 x17_1).f0), .int .i64 0]) ?_ 1 _ rfl; (with_reducible repeat (first | refine bkN ?_ _ | refine bkd ?_ | refine bka ?_ _)); refine blk_put (cs := #[.int .i64 0, .int .i64 0]) ?_ 0 _ rfl; (with_reducible repeat (first | refine bkN ?_ _ | refine bkd ?_ | refine bka ?_ _)); exact BK322.out) hb); have n2_ := As0.mk (bwp (by repeat (first | (with_reducible first | exact HB.out | apply bwa | apply pbN | apply bd1 | refine bws ?_ GE322.out) | exact HB.out)) hb); clear HO_4; clear BK322; clear HB; have HO_4 := n0_; have BK322 := n1_; have HB := n2_; clear n0_ n1_ n2_; (try clear hb); (try clear hb2); (try clear hk); (try clear hi); have q15 : (x17_1 : Int) ≤ ((l0.length : Int) : Int) := of_decide_eq_true (by first | (with_reducible assumption) | assumption); obtain ⟨i015, hi015, _, hsz15, _⟩ := info_parts info67; have hroom15 : l0.length ≤ c0 := HC0.out; have hC15 : Kd.C k67 _ (some ad321) l0.length l0 := HR0.out; have hcut15 := cut_to (P := Tryz.prog) 33 67 .i64 Tryz.underlying33 hi015 (some ad321) l0.length c0 x17_1 (of_decide_eq_true (by first | (with_reducible assumption) | assumption)) q15 hroom15; have hr15 := Kd.C_take (m := (x17_1 : Int).toNat) hC15 (by omega); have hy15 : y324.length = (x17_1 : Int).toNat := (by rw [Ny324.out, List.length_take]; omega); rw [← Ny324.out] at hr15; rw [← hy15] at hcut15; have HR327 := As0.mk hr15; have HC327 := As0.mk (show y324.length ≤ c0 from by omega); clear hr15 hC15 hroom15 hi015 hsz15; have KY15 := As0.mk hy15; clear hy15; replace q15 := eq_true q15))
                  go_loopg [29] k1 (fun kq v29 w' => ∃ (x29_2 : Int), v29 = .int .i64 x29_2 ∧ As0 (neaptideref06_List.l1 kq l0 x4_1 l0 (l0.length : Int) x17_1 y324 (y324.length : Int) x29_2 ((rd_T67 l0 x17_1).f0) ((rd_T67 l0 x17_1).f1) = some (r1, r2)) ∧ As0 (kq ≤ k1) ∧ As0 (Kd.R (Kd.int .i64) 3 w' w.heap.size (fun _ => True) u4 x4_1) ∧ As0 (w'.heap[gb322]? = some (.cells #[.int .i64 ((rd_T67 l0 x17_1).f0), .int .i64 ((rd_T67 l0 x17_1).f1)] 67 (0, 0))) ∧ As0 (Below w.heap.size w w'))
                  case atStart => exact ⟨(0), (by first | rfl | (simp; done) | (simp [*]; done)), H', ⟨Nat.le_refl _⟩, ⟨by (with_reducible repeat (first | apply Kd.R_alloc | apply Kd.R_drewN | apply Kd.R_drew)); exact HO_4.out⟩, ⟨by (with_reducible repeat (first | refine bkN ?_ _ | refine bkd ?_ | refine bka ?_ _)); exact BK322.out⟩, ⟨by repeat (first | (with_reducible first | exact HB.out | apply bwa | apply pbN | apply bd1 | refine bws ?_ GE322.out) | exact HB.out)⟩⟩
                  case round =>
                    clear H'
                    try clear c1
                    try clear q1
                    try clear c2
                    try clear c2b0
                    try clear c2b1
                    try clear p2
                    try clear p3
                    try clear q3
                    try clear hx3
                    try clear c5
                    try clear c5b0
                    try clear c6
                    try clear c6b0
                    try clear c7
                    try clear c7b0
                    try clear c9
                    try clear c10
                    try clear c10b0
                    try clear c11
                    try clear c11b0
                    try clear c11b1
                    try clear q15
                    try clear hcz13_0
                    try clear hcz13_1
                    try clear hfz13_0
                    try clear hfz13_1
                    try clear hx321_0
                    try clear hx321_1
                    try clear p2
                    try clear p321
                    try clear q15
                    try clear q321
                    obtain ⟨x29_2, rfl, HA, HK2, HO_4, BK322, HB⟩ := hrel
                    cases gk with
                    | zero => exact absurd HA.out (by simp [neaptideref06_List.l1])
                    | succ k2 =>
                      have H := HA.out
                      clear HA
                      simp only [neaptideref06_List.l1] at H
                      by_cases c16 : x29_2 < (y324.length : Int)
                      · rw [if_pos c16] at H
                        have c16b0 : decide (x29_2 < (y324.length : Int)) = true := decide_eq_true c16
                        clear c16
                        by_cases c17 : 0 ≤ x29_2
                        · rw [if_pos c17] at H
                          have c17b0 : decide (0 ≤ x29_2) = true := decide_eq_true c17
                          clear c17
                          by_cases c18 : x29_2 < (y324.length : Int)
                          · rw [if_pos c18] at H
                            have c18b0 : decide (x29_2 < (y324.length : Int)) = true := decide_eq_true c18
                            clear c18
                            by_cases c19 : ((rd_T67 y324 x29_2).f0) = ((rd_T67 l0 x17_1).f0)
                            · rw [if_pos c19] at H
                              have c19b0 : (((rd_T67 y324 x29_2).f0) == ((rd_T67 l0 x17_1).f0)) = true := beq_iff_eq.mpr c19
                              have c19b1 : (((rd_T67 y324 x29_2).f0) != ((rd_T67 l0 x17_1).f0)) = false := bne_eq_false_iff_eq.mpr c19
                              clear c19
                              simp only [Option.some.injEq, Prod.mk.injEq] at H
                              obtain ⟨rfl, rfl⟩ := H
                              have p328 : 0 ≤ (x29_2 : Int) := of_decide_eq_true (by first | (with_reducible assumption) | assumption)
                              have q328 : x29_2 < (y324.length : Int) := of_decide_eq_true (by first | (with_reducible assumption) | assumption)
                              obtain ⟨ad328, e328, hx328_0, hx328_1⟩ := at_T67 HR327.out x29_2 p328 q328
                              obtain rfl : ad321 = ad328 := (by injection e328)
                              replace hx328_0 := (HB.out.cell (World.block_lt_of_cell? w _ hx328_0)).trans hx328_0
                              replace hx328_1 := (HB.out.cell (World.block_lt_of_cell? w _ hx328_1)).trans hx328_1
                              replace p328 := eq_true p328
                              replace q328 := eq_true q328
                              go_wp2_with (first | ((with_reducible refine gate_dst (N := 8) rfl ?_); refine bxe ?hg (N := 8) ?hd (cs := #[.int .i64 0, .int .i64 0]) (t := 67) ?hr ?_; (case hd => rfl); (case hg => rfl); (case hr => first | (go_simp; done) | (go_simp; rfl)); intro gb329 hg w20 hbox hb; have n0_ := As0.mk (Kd.R_below (by (with_reducible repeat (first | apply Kd.R_alloc | apply Kd.R_drewN | apply Kd.R_drew)); exact HO_4.out) hb); have n1_ := As0.mk (blk_below (g := gb322) (o := .cells #[.int .i64 ((rd_T67 l0 x17_1).f0), .int .i64 ((rd_T67 l0 x17_1).f1)] 67 (0, 0)) (by (with_reducible repeat (first | refine bkN ?_ _ | refine bkd ?_ | refine bka ?_ _)); exact BK322.out) hb); have n2_ := As0.mk (bwp (by repeat (first | (with_reducible first | exact HB.out | apply bwa | apply pbN | apply bd1 | refine bws ?_ GE322.out) | exact HB.out)) hb); have n3_ := As0.mk (hbox); have n4_ := As0.mk ((by rw [hg]; exact (bwz (by repeat (first | (with_reducible first | exact HB.out | apply bwa | apply pbN | apply bd1 | refine bws ?_ GE322.out) | exact HB.out))) : w.heap.size ≤ gb329)); have n5_ := As0.mk ((by rw [hg]; exact (bwz (by repeat (first | (with_reducible first | exact HB.out | apply bwa | apply pbN | apply bd1 | refine bws ?_ GE322.out) | exact HB.out))) : w.heap.size ≤ gb329)); have n6_ := As0.mk ((by rw [hg]; exact Nat.ne_of_lt (blk_lt (g := gb322) (o := .cells #[.int .i64 ((rd_T67 l0 x17_1).f0), .int .i64 ((rd_T67 l0 x17_1).f1)] 67 (0, 0)) (by (with_reducible repeat (first | refine bkN ?_ _ | refine bkd ?_ | refine bka ?_ _)); exact BK322.out)) : gb322 ≠ gb329)); have n7_ := As0.mk ((by rw [hg]; exact Nat.ne_of_gt (blk_lt (g := gb322) (o := .cells #[.int .i64 ((rd_T67 l0 x17_1).f0), .int .i64 ((rd_T67 l0 x17_1).f1)] 67 (0, 0)) (by (with_reducible repeat (first | refine bkN ?_ _ | refine bkd ?_ | refine bka ?_ _)); exact BK322.out)) : gb329 ≠ gb322)); clear HO_4; clear BK322; clear HB; have HO_4 := n0_; have BK322 := n1_; have HB := n2_; have BK329 := n3_; have GW329 := n4_; have GE329 := n5_; have NB322_329 := n6_; have NB329_322 := n7_; clear n0_ n1_ n2_ n3_ n4_ n5_ n6_ n7_; clear hb hbox hg; have hnb21 := NB329_322.out; have hnc21 := NB322_329.out; have hcz22_0 : w20.cell? ⟨gb329, 0, none⟩ = some (.int .i64 0) := (bkc BK329.out 0).trans rfl; have hcz22_1 : w20.cell? ⟨gb329, 1, none⟩ = some (.int .i64 0) := (bkc BK329.out 1).trans rfl; have hfz22_0 := bkf BK329.out 0; have hfz22_1 := bkf BK329.out 1; have hcz23_0 : w20.cell? ⟨gb322, 0, none⟩ = some (.int .i64 ((rd_T67 l0 x17_1).f0)) := (bkc BK322.out 0).trans rfl; have hcz23_1 : w20.cell? ⟨gb322, 1, none⟩ = some (.int .i64 ((rd_T67 l0 x17_1).f1)) := (bkc BK322.out 1).trans rfl; have hfz23_0 := bkf BK322.out 0; have hfz23_1 := bkf BK322.out 1))
                              go_ret2
                              exact ⟨_, by first | rfl | (simp [eWn, eWs] <;> rfl) | (simp [*, eWn, eWs] <;> rfl), by first | exact Kd.R_nil _ _ _ _ _ | exact Kd.N_nil _ _ _ _ _ | exact Kd.V_nil _ _ _ _ _ | exact Kd.Q_nil _ _ _ _ _ | exact Kd.S_nil _ _ _ _ _, by repeat (first | (with_reducible first | exact HB.out | apply bwa | apply pbN | apply bd1 | refine bws ?_ GE322.out | refine bws ?_ GE329.out) | exact HB.out)⟩
                            · rw [if_neg c19] at H
                              have c19b0 : (((rd_T67 y324 x29_2).f0) == ((rd_T67 l0 x17_1).f0)) = false := beq_eq_false_iff_ne.mpr c19
                              have c19b1 : (((rd_T67 y324 x29_2).f0) != ((rd_T67 l0 x17_1).f0)) = true := bne_iff_ne.mpr c19
                              have H' := As0.mk H
                              clear H
                              have p328 : 0 ≤ (x29_2 : Int) := of_decide_eq_true (by first | (with_reducible assumption) | assumption)
                              have q328 : x29_2 < (y324.length : Int) := of_decide_eq_true (by first | (with_reducible assumption) | assumption)
                              obtain ⟨ad328, e328, hx328_0, hx328_1⟩ := at_T67 HR327.out x29_2 p328 q328
                              obtain rfl : ad321 = ad328 := (by injection e328)
                              replace hx328_0 := (HB.out.cell (World.block_lt_of_cell? w _ hx328_0)).trans hx328_0
                              replace hx328_1 := (HB.out.cell (World.block_lt_of_cell? w _ hx328_1)).trans hx328_1
                              replace p328 := eq_true p328
                              replace q328 := eq_true q328
                              go_wp2_with (first | ((with_reducible refine gate_dst (N := 8) rfl ?_); refine bxe ?hg (N := 8) ?hd (cs := #[.int .i64 0, .int .i64 0]) (t := 67) ?hr ?_; (case hd => rfl); (case hg => rfl); (case hr => first | (go_simp; done) | (go_simp; rfl)); intro gb329 hg w24 hbox hb; have n0_ := As0.mk (Kd.R_below (by (with_reducible repeat (first | apply Kd.R_alloc | apply Kd.R_drewN | apply Kd.R_drew)); exact HO_4.out) hb); have n1_ := As0.mk (blk_below (g := gb322) (o := .cells #[.int .i64 ((rd_T67 l0 x17_1).f0), .int .i64 ((rd_T67 l0 x17_1).f1)] 67 (0, 0)) (by (with_reducible repeat (first | refine bkN ?_ _ | refine bkd ?_ | refine bka ?_ _)); exact BK322.out) hb); have n2_ := As0.mk (bwp (by repeat (first | (with_reducible first | exact HB.out | apply bwa | apply pbN | apply bd1 | refine bws ?_ GE322.out) | exact HB.out)) hb); have n3_ := As0.mk (hbox); have n4_ := As0.mk ((by rw [hg]; exact (bwz (by repeat (first | (with_reducible first | exact HB.out | apply bwa | apply pbN | apply bd1 | refine bws ?_ GE322.out) | exact HB.out))) : w.heap.size ≤ gb329)); have n5_ := As0.mk ((by rw [hg]; exact (bwz (by repeat (first | (with_reducible first | exact HB.out | apply bwa | apply pbN | apply bd1 | refine bws ?_ GE322.out) | exact HB.out))) : w.heap.size ≤ gb329)); have n6_ := As0.mk ((by rw [hg]; exact Nat.ne_of_lt (blk_lt (g := gb322) (o := .cells #[.int .i64 ((rd_T67 l0 x17_1).f0), .int .i64 ((rd_T67 l0 x17_1).f1)] 67 (0, 0)) (by (with_reducible repeat (first | refine bkN ?_ _ | refine bkd ?_ | refine bka ?_ _)); exact BK322.out)) : gb322 ≠ gb329)); have n7_ := As0.mk ((by rw [hg]; exact Nat.ne_of_gt (blk_lt (g := gb322) (o := .cells #[.int .i64 ((rd_T67 l0 x17_1).f0), .int .i64 ((rd_T67 l0 x17_1).f1)] 67 (0, 0)) (by (with_reducible repeat (first | refine bkN ?_ _ | refine bkd ?_ | refine bka ?_ _)); exact BK322.out)) : gb329 ≠ gb322)); clear HO_4; clear BK322; clear HB; have HO_4 := n0_; have BK322 := n1_; have HB := n2_; have BK329 := n3_; have GW329 := n4_; have GE329 := n5_; have NB322_329 := n6_; have NB329_322 := n7_; clear n0_ n1_ n2_ n3_ n4_ n5_ n6_ n7_; clear hb hbox hg; have hnb25 := NB329_322.out; have hnc25 := NB322_329.out; have hcz26_0 : w24.cell? ⟨gb329, 0, none⟩ = some (.int .i64 0) := (bkc BK329.out 0).trans rfl; have hcz26_1 : w24.cell? ⟨gb329, 1, none⟩ = some (.int .i64 0) := (bkc BK329.out 1).trans rfl; have hfz26_0 := bkf BK329.out 0; have hfz26_1 := bkf BK329.out 1; have hcz27_0 : w24.cell? ⟨gb322, 0, none⟩ = some (.int .i64 ((rd_T67 l0 x17_1).f0)) := (bkc BK322.out 0).trans rfl; have hcz27_1 : w24.cell? ⟨gb322, 1, none⟩ = some (.int .i64 ((rd_T67 l0 x17_1).f1)) := (bkc BK322.out 1).trans rfl; have hfz27_0 := bkf BK322.out 0; have hfz27_1 := bkf BK322.out 1))
                              go_roundg k2
                              case measure => have := HK1.out; have := HK2.out; omega
                              case rel => exact ⟨(wrap64 (x29_2 + 1)), (by first | rfl | (simp; done) | (simp [*]; done)), H', ⟨by have := HK1.out; have := HK2.out; omega⟩, ⟨by (with_reducible repeat (first | apply Kd.R_alloc | apply Kd.R_drewN | apply Kd.R_drew)); exact Kd.R_mono (Kd.R_far (p := ⟨gb329, 1, none⟩) (Kd.R_far (p := ⟨gb329, 0, none⟩) (Kd.R_types HO_4.out BK329.out (by decide)) (fun _ hk => hk.2) (.int .i64 ((rd_T67 y324 x29_2).f0))) (fun _ hk => hk.2) (.int .i64 ((rd_T67 y324 x29_2).f1))) (fun _ hk => trivial)⟩, ⟨by (with_reducible repeat (first | refine bkN ?_ _ | refine bkd ?_ | refine bka ?_ _)); refine blk_far ?_ NB322_329.out _; (with_reducible repeat (first | refine bkN ?_ _ | refine bkd ?_ | refine bka ?_ _)); refine blk_far ?_ NB322_329.out _; (with_reducible repeat (first | refine bkN ?_ _ | refine bkd ?_ | refine bka ?_ _)); exact BK322.out⟩, ⟨by repeat (first | (with_reducible first | exact HB.out | apply bwa | apply pbN | apply bd1 | refine bws ?_ GE322.out | refine bws ?_ GE329.out) | exact HB.out)⟩⟩
                          · rw [if_neg c18] at H
                            exact absurd H (by simp)
                        · rw [if_neg c17] at H
                          exact absurd H (by simp)
                      · rw [if_neg c16] at H
                        have c16b0 : decide (x29_2 < (y324.length : Int)) = false := decide_eq_false c16
                        clear c16
                        obtain ⟨y330, hy330⟩ : ∃ y_ : List Int, y_ = (([((rd_T67 l0 x17_1).f0), ((rd_T67 l0 x17_1).f1)] : List Int)) := ⟨_, rfl⟩
                        replace H : (if x4_1.length + y330.length < 17592186044416 then (neaptideref06_List.l0 k2 l0 (x4_1 ++ y330) l0 (l0.length : Int) (wrap64 (x17_1 + 1))) else (none)) = some (r1, r2) := by first | (rw [hy330]; with_reducible exact H) | (have H2_ := (Option.bind_some _ _).symm.trans H; rw [hy330]; with_reducible exact H2_) | (have H2_ := (Option.bind_some _ _).symm.trans H; with_reducible exact H2_) | with_reducible exact H | (rw [hy330]; exact H) | exact H
                        have Ny330 := As0.mk hy330
                        clear hy330
                        by_cases c28 : x4_1.length + y330.length < 17592186044416
                        · rw [if_pos c28] at H
                          have LMc28 := As0.mk c28
                          clear c28
                          obtain ⟨y333, hy333⟩ : ∃ y_ : List Int, y_ = (x4_1 ++ y330) := ⟨_, rfl⟩
                          replace H : (neaptideref06_List.l0 k2 l0 y333 l0 (l0.length : Int) (wrap64 (x17_1 + 1))) = some (r1, r2) := by first | (rw [hy333]; with_reducible exact H) | (have H2_ := (Option.bind_some _ _).symm.trans H; rw [hy333]; with_reducible exact H2_) | (have H2_ := (Option.bind_some _ _).symm.trans H; with_reducible exact H2_) | with_reducible exact H | (rw [hy333]; exact H) | exact H
                          have Ny333 := As0.mk hy333
                          clear hy333
                          have H' := As0.mk H
                          clear H
                          have hcz29_0 : wr.cell? ⟨gb322, 0, none⟩ = some (.int .i64 ((rd_T67 l0 x17_1).f0)) := (bkc BK322.out 0).trans rfl
                          have hcz29_1 : wr.cell? ⟨gb322, 1, none⟩ = some (.int .i64 ((rd_T67 l0 x17_1).f1)) := (bkc BK322.out 1).trans rfl
                          have hfz29_0 := bkf BK322.out 0
                          have hfz29_1 := bkf BK322.out 1
                          go_wp2_with (first | ((with_reducible refine gate_dst (N := 44) rfl ?_); refine Kd.R_lit (Kd.int .i64) _ 3 ?hg (N := 44) ?hd (xs := ([((rd_T67 l0 x17_1).f0), ((rd_T67 l0 x17_1).f1)] : List Int)) (inner := [.int .i64 ((rd_T67 l0 x17_1).f0), .int .i64 ((rd_T67 l0 x17_1).f1)]) (ok := fun _ => True) (okp := fun _ => True) ?hr ?hp (fun _ hk => hk) trivial (Below.refl _ _) (Nat.le_refl _) (by simp) ?_; (case hd => rfl); (case hg => rfl); (case hr => first | (go_simp; done) | (go_simp; rfl)); (case hp => exact (Reps.one (show Kd.M (Kd.int .i64) _ _ _ ((rd_T67 l0 x17_1).f0) [.int .i64 ((rd_T67 l0 x17_1).f0)] from rfl) (Reps.one (show Kd.M (Kd.int .i64) _ _ _ ((rd_T67 l0 x17_1).f1) [.int .i64 ((rd_T67 l0 x17_1).f1)] from rfl) (Reps.none _ _)))); intro v331 w30 ho31 hb hg_ hnew_; clear hg_ hnew_; (first | rw [← Ny330.out] at ho31 | (simp only [Int.reduceToNat] at ho31; rw [← Ny330.out] at ho31)); have n0_ := As0.mk (Kd.R_elder' (by (with_reducible repeat (first | apply Kd.R_alloc | apply Kd.R_drewN | apply Kd.R_drew)); exact HO_4.out) (Kd.R_base ho31) hb); have n1_ := As0.mk (Kd.R_lower (Kd.R_new' ho31 (Kd.R_lt (by (with_reducible repeat (first | apply Kd.R_alloc | apply Kd.R_drewN | apply Kd.R_drew)); exact HO_4.out))) (bwz (by repeat (first | (with_reducible first | exact HB.out | apply bwa | apply pbN | apply bd1 | refine bws ?_ GE322.out) | exact HB.out)))); have n2_ := As0.mk (blk_below (g := gb322) (o := .cells #[.int .i64 ((rd_T67 l0 x17_1).f0), .int .i64 ((rd_T67 l0 x17_1).f1)] 67 (0, 0)) (by (with_reducible repeat (first | refine bkN ?_ _ | refine bkd ?_ | refine bka ?_ _)); exact BK322.out) hb); have n3_ := As0.mk (bwp (by repeat (first | (with_reducible first | exact HB.out | apply bwa | apply pbN | apply bd1 | refine bws ?_ GE322.out) | exact HB.out)) hb); clear HO_4; clear BK322; clear HB; have HO_4 := n0_; have HO332 := n1_; have BK322 := n2_; have HB := n3_; clear n0_ n1_ n2_ n3_; clear hb ho31; obtain ⟨Ao33, co33, eo33⟩ := Kd.R_slice HO332.out; subst eo33) | ((with_reducible refine gate_builtin (b := .append) (xs := #[.tmp 39, .tmp 44]) rfl ?_); at_builtin; refine Kd.R_append_rows (Kd.int .i64) (w0 := w) w.heap.size rfl (.tmp 39) (.tmp 44) 22 3 (.int .i64 0) 8 rfl Tryz.underlying22 info3 rfl (by decide) (by omega) u4 x4_1 y330 _ _ _ (fun k_ => some k_ ≠ (.slice Ao33 y330.length co33 : Value).ownBlock) (fun _ => False) rfl rfl ?aO ?aR (fun _ _ h => h) (fun _ h => h.elim) ?aF ?aB ?aS ?aL ?_; (case aR => repeat (first | exact (Kd.R_reads' HO332.out).2.2 | (with_reducible refine Kd.C_alloc ?_ _) | (with_reducible refine Kd.C_drewN ?_ _) | (with_reducible refine Kd.C_drew ?_))); (case aB => exact (by repeat (first | (with_reducible first | exact HB.out | apply bwa | apply pbN | apply bd1 | refine bws ?_ GE322.out) | exact HB.out))); (case aF => exact (fun k_ hk => Kd.fresh' (Kd.R_lt (by (with_reducible repeat (first | apply Kd.R_alloc | apply Kd.R_drewN | apply Kd.R_drew)); exact HO332.out)) k_ hk)); (case aO => exact (by (with_reducible repeat (first | apply Kd.R_alloc | apply Kd.R_drewN | apply Kd.R_drew)); exact Kd.R_mono HO_4.out (fun _ hk => hk.2))); (case aS => exact (bwz (by repeat (first | (with_reducible first | exact HB.out | apply bwa | apply pbN | apply bd1 | refine bws ?_ GE322.out) | exact HB.out)))); (case aL => have := LMc28.out; omega); intro v334 w32 ho hb hg hat; rw [← Ny333.out] at ho; have n0_ := As0.mk (blk_grown (g := gb322) (o := .cells #[.int .i64 ((rd_T67 l0 x17_1).f0), .int .i64 ((rd_T67 l0 x17_1).f1)] 67 (0, 0)) (by (with_reducible repeat (first | refine bkN ?_ _ | refine bkd ?_ | refine bka ?_ _)); exact BK322.out) hg (Kd.R_ne HO_4.out BK322.out (by decide))); have n1_ := As0.mk (Kd.R_after (ok := (fun _ => True)) (by (with_reducible repeat (first | apply Kd.R_alloc | apply Kd.R_drewN | apply Kd.R_drew)); exact HO332.out) hg hat); have n2_ := As0.mk (hb); have n3_ := As0.mk (ho); clear BK322; clear HO332; clear HB; clear HO_4; have BK322 := n0_; have HO332 := n1_; have HB := n2_; have HO335 := n3_; clear n0_ n1_ n2_ n3_; clear ho hb hg hat))
                          go_roundg k2
                          case measure => have := HK1.out; have := HK2.out; omega
                          case rel => exact ⟨(y333), (wrap64 (x17_1 + 1)), (by first | rfl | (simp; done) | (simp [*]; done)), H', ⟨by have := HK1.out; have := HK2.out; omega⟩, ⟨by (with_reducible repeat (first | apply Kd.R_alloc | apply Kd.R_drewN | apply Kd.R_drew)); exact Kd.R_mono HO335.out (fun _ hk => trivial)⟩, ⟨by repeat (first | (with_reducible first | exact HB.out | apply bwa | apply pbN | apply bd1 | refine bws ?_ GE322.out) | exact HB.out)⟩⟩
                        · rw [if_neg c28] at H
                          exact absurd H (by simp)
                · rw [if_neg c11] at H
                  exact absurd H (by simp)
              · replace c9 := Bool.eq_false_iff.mpr c9
                subst c9
                have H1 : (some (([] : List Int), 61)) = some (r1, r2) := by rw [if_neg (show ¬ (false = true) by decide)] at H; exact H
                clear H
                have H := H1
                clear H1
                simp only [Option.some.injEq, Prod.mk.injEq] at H
                obtain ⟨rfl, rfl⟩ := H
                have p321 : 0 ≤ (x17_1 : Int) := of_decide_eq_true (by first | (with_reducible assumption) | assumption)
                have q321 : x17_1 < (l0.length : Int) := of_decide_eq_true (by first | (with_reducible assumption) | assumption)
                obtain ⟨ad321, e321, hx321_0, hx321_1⟩ := at_T67 HR0.out x17_1 p321 q321
                cases e321
                replace hx321_0 := (HB.out.cell (World.block_lt_of_cell? w _ hx321_0)).trans hx321_0
                replace hx321_1 := (HB.out.cell (World.block_lt_of_cell? w _ hx321_1)).trans hx321_1
                replace p321 := eq_true p321
                replace q321 := eq_true q321
                go_wp2_with (first | ((with_reducible refine gate_dst (N := 6) rfl ?_); refine bxe ?hg (N := 6) ?hd (cs := #[.int .i64 0, .int .i64 0]) (t := 67) ?hr ?_; (case hd => rfl); (case hg => rfl); (case hr => first | (go_simp; done) | (go_simp; rfl)); intro gb322 hg w34 hbox hb; have n0_ := As0.mk (Kd.R_below (by (with_reducible repeat (first | apply Kd.R_alloc | apply Kd.R_drewN | apply Kd.R_drew)); exact HO_4.out) hb); have n1_ := As0.mk (bwp (by repeat (first | (with_reducible first | exact HB.out | apply bwa | apply pbN | apply bd1) | exact HB.out)) hb); have n2_ := As0.mk (hbox); have n3_ := As0.mk ((by rw [hg]; exact (bwz (by repeat (first | (with_reducible first | exact HB.out | apply bwa | apply pbN | apply bd1) | exact HB.out))) : w.heap.size ≤ gb322)); have n4_ := As0.mk ((by rw [hg]; exact (bwz (by repeat (first | (with_reducible first | exact HB.out | apply bwa | apply pbN | apply bd1) | exact HB.out))) : w.heap.size ≤ gb322)); clear HO_4; clear HB; have HO_4 := n0_; have HB := n1_; have BK322 := n2_; have GW322 := n3_; have GE322 := n4_; clear n0_ n1_ n2_ n3_ n4_; clear hb hbox hg; have hcz35_0 : w34.cell? ⟨gb322, 0, none⟩ = some (.int .i64 0) := (bkc BK322.out 0).trans rfl; have hcz35_1 : w34.cell? ⟨gb322, 1, none⟩ = some (.int .i64 0) := (bkc BK322.out 1).trans rfl; have hfz35_0 := bkf BK322.out 0; have hfz35_1 := bkf BK322.out 1) | ((with_reducible refine gtc (f := 93) rfl ?_); refine goesL_ (some 23) rfl rfl Tryz.func93 (by kernel_rfl) rfl #[.agg #[.int .i64 ((rd_T67 l0 x17_1).f0), .int .i64 ((rd_T67 l0 x17_1).f1)]] rfl (by (try simp only [List.map_toArray, List.map_cons, List.map_nil]); first | done | rfl | (simp only [List.length_drop, List.length_take]; rfl)) ?_; (with_reducible refine (neaptideref06_Right.calls ((rd_T67 l0 x17_1).f0) ((rd_T67 l0 x17_1).f1) false _ A8.out).mono ?_); rintro e w36 ⟨rfl, hb⟩; refine ⟨_, rfl, ?_⟩; have n0_ := As0.mk (Kd.R_below (by (with_reducible repeat (first | apply Kd.R_alloc | apply Kd.R_drewN | apply Kd.R_drew)); exact (Kd.R_mono (Kd.R_far (p := ⟨gb322, 1, none⟩) (Kd.R_far (p := ⟨gb322, 0, none⟩) (Kd.R_types HO_4.out BK322.out (by decide)) (fun _ hk => hk.2) (.int .i64 ((rd_T67 l0 x17_1).f0))) (fun _ hk => hk.2) (.int .i64 ((rd_T67 l0 x17_1).f1))) (fun _ h_ => h_.1))) hb); have n1_ := As0.mk (blk_below (g := gb322) (o := .cells #[.int .i64 ((rd_T67 l0 x17_1).f0), .int .i64 ((rd_T67 l0 x17_1).f1)] 67 (0, 0)) (by (with_reducible repeat (first | refine bkN ?_ _ | refine bkd ?_ | refine bka ?_ _)); refine blk_put (cs := #[.int .i64 ((rd_T67 l0 x17_1).f0), .int .i64 0]) ?_ 1 _ rfl; (with_reducible repeat (first | refine bkN ?_ _ | refine bkd ?_ | refine bka ?_ _)); refine blk_put (cs := #[.int .i64 0, .int .i64 0]) ?_ 0 _ rfl; (with_reducible repeat (first | refine bkN ?_ _ | refine bkd ?_ | refine bka ?_ _)); exact BK322.out) hb); have n2_ := As0.mk (bwp (by repeat (first | (with_reducible first | exact HB.out | apply bwa | apply pbN | apply bd1 | refine bws ?_ GE322.out) | exact HB.out)) hb); clear HO_4; clear BK322; clear HB; have HO_4 := n0_; have BK322 := n1_; have HB := n2_; clear n0_ n1_ n2_; (try clear hb); (try clear hb2); (try clear hk); (try clear hi)))
                go_ret2
                exact ⟨_, by first | rfl | (simp [eWn, eWs] <;> rfl) | (simp [*, eWn, eWs] <;> rfl), by first | exact Kd.R_nil _ _ _ _ _ | exact Kd.N_nil _ _ _ _ _ | exact Kd.V_nil _ _ _ _ _ | exact Kd.Q_nil _ _ _ _ _ | exact Kd.S_nil _ _ _ _ _, by repeat (first | (with_reducible first | exact HB.out | apply bwa | apply pbN | apply bd1 | refine bws ?_ GE322.out) | exact HB.out)⟩
            · rw [if_neg c7] at H
              exact absurd H (by simp)
          · rw [if_neg c6] at H
            exact absurd H (by simp)
        · rw [if_neg c5] at H
          have c5b0 : decide (x17_1 < (l0.length : Int)) = false := decide_eq_false c5
          clear c5
          replace H := Option.bind_eq_some_iff.mp H
          obtain ⟨⟨t317, t318⟩, A370, H⟩ := H
          replace H : (some (t317, t318)) = some (r1, r2) := H
          have A37 := As0.mk A370
          clear A370
          simp only [Option.some.injEq, Prod.mk.injEq] at H
          obtain ⟨rfl, rfl⟩ := H
          obtain ⟨Ao38, co38, eo38⟩ := Kd.R_slice HO_4.out
          subst eo38
          go_wp2_with (first | ((with_reducible refine gtc (f := 94) rfl ?_); refine goesL_ (some 48) rfl rfl Tryz.func94 (by kernel_rfl) rfl #[.slice Ao38 x4_1.length co38] rfl (by (try simp only [List.map_toArray, List.map_cons, List.map_nil]); first | done | rfl | (simp only [List.length_drop, List.length_take]; rfl)) ?_; (with_reducible refine (neaptideref01_Nums.calls k1 _ _ x4_1 t317 t318 _ ?side1 ?side2 A37.out).mono ?_); (case side1 => repeat (first | exact (Kd.R_reads' HO_4.out).2.2 | (with_reducible refine Kd.C_alloc ?_ _) | (with_reducible refine Kd.C_drewN ?_ _) | (with_reducible refine Kd.C_drew ?_))); (case side2 => exact (Kd.R_reads' HO_4.out).2.1); rintro e w39 ⟨v319, rfl, ho0, hb⟩; refine ⟨_, rfl, ?_⟩; have n0_ := As0.mk (Kd.R_below (by (with_reducible repeat (first | apply Kd.R_alloc | apply Kd.R_drewN | apply Kd.R_drew)); exact HO_4.out) hb); have n1_ := As0.mk (Kd.R_lower ho0 (bwz (by repeat (first | (with_reducible first | exact HB.out | apply bwa | apply pbN | apply bd1) | exact HB.out)))); have n2_ := As0.mk (bwp (by repeat (first | (with_reducible first | exact HB.out | apply bwa | apply pbN | apply bd1) | exact HB.out)) hb); clear HO_4; clear HB; have HO_4 := n0_; have HO320 := n1_; have HB := n2_; clear n0_ n1_ n2_; (try clear hb); (try clear hb2); (try clear hk); (try clear hi); (try clear ho0)))
          go_ret2
          exact ⟨_, by first | rfl | (simp [eWn, eWs] <;> rfl) | (simp [*, eWn, eWs] <;> rfl), by (with_reducible repeat (first | apply Kd.R_alloc | apply Kd.R_drewN | apply Kd.R_drew)); exact HO320.out, by repeat (first | (with_reducible first | exact HB.out | apply bwa | apply pbN | apply bd1) | exact HB.out)⟩
def neaptideref07_Parts.f (a0 : Int) : Option (Int × Int × Int × Bool) := if a0 < 0 then (some (0, 0, 0, false)) else (if (wrap64 (Int.tdiv a0 65536)) ≥ 1 then (if (wrap64 (Int.tdiv a0 65536)) ≤ 4095 then (some (wrap64 (Int.tdiv a0 65536), Int.tmod (wrap64 (Int.tdiv a0 256)) 256, Int.tmod a0 256, decide ((Int.tmod (wrap64 (Int.tdiv a0 256)) 256) ≤ 6))) else (some (wrap64 (Int.tdiv a0 65536), Int.tmod (wrap64 (Int.tdiv a0 256)) 256, Int.tmod a0 256, false))) else (some (wrap64 (Int.tdiv a0 65536), Int.tmod (wrap64 (Int.tdiv a0 256)) 256, Int.tmod a0 256, false)))
set_option maxHeartbeats 8000000 in
set_option maxRecDepth 100000 in
theorem neaptideref07_Parts.calls (a0 : Int) (r1 : Int) (r2 : Int) (r3 : Int) (r4 : Bool) (w : World) (h : neaptideref07_Parts.f a0 = some (r1, r2, r3, r4)) :
    Calls Tryz.prog 69 #[.int .i64 a0] w fun e w' => e = .returned (.tuple #[.int .i64 r1, .int .i64 r2, .int .i64 r3, .bool r4]) ∧ Drawn0 w w' := by
  have H : (if a0 < 0 then (some (0, 0, 0, false)) else (if (wrap64 (Int.tdiv a0 65536)) ≥ 1 then (if (wrap64 (Int.tdiv a0 65536)) ≤ 4095 then (some (wrap64 (Int.tdiv a0 65536), Int.tmod (wrap64 (Int.tdiv a0 256)) 256, Int.tmod a0 256, decide ((Int.tmod (wrap64 (Int.tdiv a0 256)) 256) ≤ 6))) else (some (wrap64 (Int.tdiv a0 65536), Int.tmod (wrap64 (Int.tdiv a0 256)) 256, Int.tmod a0 256, false))) else (some (wrap64 (Int.tdiv a0 65536), Int.tmod (wrap64 (Int.tdiv a0 256)) 256, Int.tmod a0 256, false)))) = some (r1, r2, r3, r4) := h
  clear h
  by_cases c2 : a0 < 0
  · rw [if_pos c2] at H
    have c2b0 : decide (a0 < 0) = true := decide_eq_true c2
    clear c2
    simp only [Option.some.injEq, Prod.mk.injEq] at H
    obtain ⟨rfl, rfl, rfl, rfl⟩ := H
    go_enter Tryz.func69, Tryz.ntmps69
    go_wp2
    refine bodyPost_ret (results_list (rs := [.tmp 2, .tmp 3, .tmp 4, .tmp 5]) rfl (by simp) (.tmp (.tmp (.tmp (.tmp .nil))))) rfl ?_
    exact ⟨by first | rfl | (simp; done) | (simp [*]; done), by repeat (first | exact Drawn0.refl _ | apply Drawn0.step)⟩
  · rw [if_neg c2] at H
    have c2b0 : decide (a0 < 0) = false := decide_eq_false c2
    clear c2
    by_cases c3 : (wrap64 (Int.tdiv a0 65536)) ≥ 1
    · rw [if_pos c3] at H
      have c3b0 : decide (1 ≤ (wrap64 (Int.tdiv a0 65536))) = true := decide_eq_true c3
      clear c3
      by_cases c4 : (wrap64 (Int.tdiv a0 65536)) ≤ 4095
      · rw [if_pos c4] at H
        have c4b0 : decide ((wrap64 (Int.tdiv a0 65536)) ≤ 4095) = true := decide_eq_true c4
        clear c4
        simp only [Option.some.injEq, Prod.mk.injEq] at H
        obtain ⟨rfl, rfl, rfl, rfl⟩ := H
        go_enter Tryz.func69, Tryz.ntmps69
        go_wp2
        refine bodyPost_ret (results_list (rs := [.tmp 2, .tmp 3, .tmp 4, .tmp 5]) rfl (by simp) (.tmp (.tmp (.tmp (.tmp .nil))))) rfl ?_
        exact ⟨by first | rfl | (simp; done) | (simp [*]; done), by repeat (first | exact Drawn0.refl _ | apply Drawn0.step)⟩
      · rw [if_neg c4] at H
        have c4b0 : decide ((wrap64 (Int.tdiv a0 65536)) ≤ 4095) = false := decide_eq_false c4
        clear c4
        simp only [Option.some.injEq, Prod.mk.injEq] at H
        obtain ⟨rfl, rfl, rfl, rfl⟩ := H
        go_enter Tryz.func69, Tryz.ntmps69
        go_wp2
        refine bodyPost_ret (results_list (rs := [.tmp 2, .tmp 3, .tmp 4, .tmp 5]) rfl (by simp) (.tmp (.tmp (.tmp (.tmp .nil))))) rfl ?_
        exact ⟨by first | rfl | (simp; done) | (simp [*]; done), by repeat (first | exact Drawn0.refl _ | apply Drawn0.step)⟩
    · rw [if_neg c3] at H
      have c3b0 : decide (1 ≤ (wrap64 (Int.tdiv a0 65536))) = false := decide_eq_false c3
      clear c3
      simp only [Option.some.injEq, Prod.mk.injEq] at H
      obtain ⟨rfl, rfl, rfl, rfl⟩ := H
      go_enter Tryz.func69, Tryz.ntmps69
      go_wp2
      refine bodyPost_ret (results_list (rs := [.tmp 2, .tmp 3, .tmp 4, .tmp 5]) rfl (by simp) (.tmp (.tmp (.tmp (.tmp .nil))))) rfl ?_
      exact ⟨by first | rfl | (simp; done) | (simp [*]; done), by repeat (first | exact Drawn0.refl _ | apply Drawn0.step)⟩
end Go.Proofs.YtlllhpnpgcphcaaGreat.PX
