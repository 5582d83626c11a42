/- What ChainRuns needs. -/
import Derived.Test.YtlllhpnpgcphcaaGreatQChainRunsPXx0
import Derived.Test.YtlllhpnpgcphcaaGreatQChainRunsPXx8
namespace Go.Proofs.YtlllhpnpgcphcaaGreat.PX
open Go.RowKit Go.Proofs.YtlllhpnpgcphcaaGreatW.PrintWords Go.Proofs.YtlllhpnpgcphcaaGreatW.PrintLast Go.Proofs.YtlllhpnpgcphcaaGreatW.PrintMore
attribute [local go_sem] max2_int min2_int max_two min_two max_three min_three max_four min_four   -- for this text's walks alone
set_option linter.unusedVariables false
set_option linter.unusedSimpArgs false
def tx_Right.f (a0_0 : Int) (a0_1 : Int) : Option (Bool) := if a0_0 ≥ 1 then (if a0_0 ≤ 1000000 then (if a0_1 ≥ 0 then (some (decide (a0_1 ≤ 1000))) else (some false)) else (some false)) else (some false)
set_option maxHeartbeats 8000000 in
set_option maxRecDepth 100000 in
theorem tx_Right.calls (a0_0 : Int) (a0_1 : Int) (r : Bool) (w : World) (h : tx_Right.f a0_0 a0_1 = some r) :
    Calls Tryz.prog 104 #[.agg #[.int .i64 a0_0, .int .i64 a0_1]] w fun e w' => e = .returned (.bool r) ∧ Below w.heap.size w w' := by
  have hu67 := Tryz.underlying67
  have HB := As0.mk (Below.refl w.heap.size w)
  have H : (if a0_0 ≥ 1 then (if a0_0 ≤ 1000000 then (if a0_1 ≥ 0 then (some (decide (a0_1 ≤ 1000))) else (some false)) else (some false)) else (some false)) = some r := h
  clear h
  by_cases c2 : a0_0 ≥ 1
  · rw [if_pos c2] at H
    have c2b0 : decide (1 ≤ a0_0) = true := decide_eq_true c2
    clear c2
    by_cases c3 : a0_0 ≤ 1000000
    · rw [if_pos c3] at H
      have c3b0 : decide (a0_0 ≤ 1000000) = true := decide_eq_true c3
      clear c3
      by_cases c4 : a0_1 ≥ 0
      · rw [if_pos c4] at H
        have c4b0 : decide (0 ≤ a0_1) = true := decide_eq_true c4
        clear c4
        obtain rfl := Option.some.inj H
        go_enter Tryz.func104, Tryz.ntmps104
        go_wp2_with (first | ((with_reducible refine gate_dst (N := 1) rfl ?_); refine bxe ?hg (N := 1) ?hd (cs := #[.int .i64 a0_0, .int .i64 a0_1]) (t := 67) ?hr ?_; (case hd => rfl); (case hg => rfl); (case hr => first | (go_simp; done) | (go_simp; rfl)); intro gb245 hg w5 hbox hb; have n0_ := As0.mk (bwp (by repeat (first | (with_reducible first | exact HB.out | apply bwa | apply pbN | apply bd1) | exact HB.out)) hb); have n1_ := As0.mk (hbox); have n2_ := As0.mk ((by rw [hg]; exact (bwz (by repeat (first | (with_reducible first | exact HB.out | apply bwa | apply pbN | apply bd1) | exact HB.out))) : w.heap.size ≤ gb245)); have n3_ := As0.mk ((by rw [hg]; exact (bwz (by repeat (first | (with_reducible first | exact HB.out | apply bwa | apply pbN | apply bd1) | exact HB.out))) : w.heap.size ≤ gb245)); clear HB; have HB := n0_; have BK245 := n1_; have GW245 := n2_; have GE245 := n3_; clear n0_ n1_ n2_ n3_; clear hb hbox hg; have hcz6_0 : w5.cell? ⟨gb245, 0, none⟩ = some (.int .i64 a0_0) := (bkc BK245.out 0).trans rfl; have hcz6_1 : w5.cell? ⟨gb245, 1, none⟩ = some (.int .i64 a0_1) := (bkc BK245.out 1).trans rfl; have hfz6_0 := bkf BK245.out 0; have hfz6_1 := bkf BK245.out 1))
        go_ret
        exact ⟨by first | rfl | (simp [eWn, eWs] <;> rfl) | (simp [*, eWn, eWs] <;> rfl), by repeat (first | (with_reducible first | exact HB.out | apply bwa | apply pbN | apply bd1 | refine bws ?_ GE245.out) | exact HB.out)⟩
      · rw [if_neg c4] at H
        have c4b0 : decide (0 ≤ a0_1) = false := decide_eq_false c4
        clear c4
        obtain rfl := Option.some.inj H
        go_enter Tryz.func104, Tryz.ntmps104
        go_wp2_with (first | ((with_reducible refine gate_dst (N := 1) rfl ?_); refine bxe ?hg (N := 1) ?hd (cs := #[.int .i64 a0_0, .int .i64 a0_1]) (t := 67) ?hr ?_; (case hd => rfl); (case hg => rfl); (case hr => first | (go_simp; done) | (go_simp; rfl)); intro gb245 hg w7 hbox hb; have n0_ := As0.mk (bwp (by repeat (first | (with_reducible first | exact HB.out | apply bwa | apply pbN | apply bd1) | exact HB.out)) hb); have n1_ := As0.mk (hbox); have n2_ := As0.mk ((by rw [hg]; exact (bwz (by repeat (first | (with_reducible first | exact HB.out | apply bwa | apply pbN | apply bd1) | exact HB.out))) : w.heap.size ≤ gb245)); have n3_ := As0.mk ((by rw [hg]; exact (bwz (by repeat (first | (with_reducible first | exact HB.out | apply bwa | apply pbN | apply bd1) | exact HB.out))) : w.heap.size ≤ gb245)); clear HB; have HB := n0_; have BK245 := n1_; have GW245 := n2_; have GE245 := n3_; clear n0_ n1_ n2_ n3_; clear hb hbox hg; have hcz8_0 : w7.cell? ⟨gb245, 0, none⟩ = some (.int .i64 a0_0) := (bkc BK245.out 0).trans rfl; have hcz8_1 : w7.cell? ⟨gb245, 1, none⟩ = some (.int .i64 a0_1) := (bkc BK245.out 1).trans rfl; have hfz8_0 := bkf BK245.out 0; have hfz8_1 := bkf BK245.out 1))
        go_ret
        exact ⟨by first | rfl | (simp [eWn, eWs] <;> rfl) | (simp [*, eWn, eWs] <;> rfl), by repeat (first | (with_reducible first | exact HB.out | apply bwa | apply pbN | apply bd1 | refine bws ?_ GE245.out) | exact HB.out)⟩
    · rw [if_neg c3] at H
      have c3b0 : decide (a0_0 ≤ 1000000) = false := decide_eq_false c3
      clear c3
      obtain rfl := Option.some.inj H
      go_enter Tryz.func104, Tryz.ntmps104
      go_wp2_with (first | ((with_reducible refine gate_dst (N := 1) rfl ?_); refine bxe ?hg (N := 1) ?hd (cs := #[.int .i64 a0_0, .int .i64 a0_1]) (t := 67) ?hr ?_; (case hd => rfl); (case hg => rfl); (case hr => first | (go_simp; done) | (go_simp; rfl)); intro gb245 hg w9 hbox hb; have n0_ := As0.mk (bwp (by repeat (first | (with_reducible first | exact HB.out | apply bwa | apply pbN | apply bd1) | exact HB.out)) hb); have n1_ := As0.mk (hbox); have n2_ := As0.mk ((by rw [hg]; exact (bwz (by repeat (first | (with_reducible first | exact HB.out | apply bwa | apply pbN | apply bd1) | exact HB.out))) : w.heap.size ≤ gb245)); have n3_ := As0.mk ((by rw [hg]; exact (bwz (by repeat (first | (with_reducible first | exact HB.out | apply bwa | apply pbN | apply bd1) | exact HB.out))) : w.heap.size ≤ gb245)); clear HB; have HB := n0_; have BK245 := n1_; have GW245 := n2_; have GE245 := n3_; clear n0_ n1_ n2_ n3_; clear hb hbox hg; have hcz10_0 : w9.cell? ⟨gb245, 0, none⟩ = some (.int .i64 a0_0) := (bkc BK245.out 0).trans rfl; have hcz10_1 : w9.cell? ⟨gb245, 1, none⟩ = some (.int .i64 a0_1) := (bkc BK245.out 1).trans rfl; have hfz10_0 := bkf BK245.out 0; have hfz10_1 := bkf BK245.out 1))
      go_ret
      exact ⟨by first | rfl | (simp [eWn, eWs] <;> rfl) | (simp [*, eWn, eWs] <;> rfl), by repeat (first | (with_reducible first | exact HB.out | apply bwa | apply pbN | apply bd1 | refine bws ?_ GE245.out) | exact HB.out)⟩
  · rw [if_neg c2] at H
    have c2b0 : decide (1 ≤ a0_0) = false := decide_eq_false c2
    clear c2
    obtain rfl := Option.some.inj H
    go_enter Tryz.func104, Tryz.ntmps104
    go_wp2_with (first | ((with_reducible refine gate_dst (N := 1) rfl ?_); refine bxe ?hg (N := 1) ?hd (cs := #[.int .i64 a0_0, .int .i64 a0_1]) (t := 67) ?hr ?_; (case hd => rfl); (case hg => rfl); (case hr => first | (go_simp; done) | (go_simp; rfl)); intro gb245 hg w11 hbox hb; have n0_ := As0.mk (bwp (by repeat (first | (with_reducible first | exact HB.out | apply bwa | apply pbN | apply bd1) | exact HB.out)) hb); have n1_ := As0.mk (hbox); have n2_ := As0.mk ((by rw [hg]; exact (bwz (by repeat (first | (with_reducible first | exact HB.out | apply bwa | apply pbN | apply bd1) | exact HB.out))) : w.heap.size ≤ gb245)); have n3_ := As0.mk ((by rw [hg]; exact (bwz (by repeat (first | (with_reducible first | exact HB.out | apply bwa | apply pbN | apply bd1) | exact HB.out))) : w.heap.size ≤ gb245)); clear HB; have HB := n0_; have BK245 := n1_; have GW245 := n2_; have GE245 := n3_; clear n0_ n1_ n2_ n3_; clear hb hbox hg; have hcz12_0 : w11.cell? ⟨gb245, 0, none⟩ = some (.int .i64 a0_0) := (bkc BK245.out 0).trans rfl; have hcz12_1 : w11.cell? ⟨gb245, 1, none⟩ = some (.int .i64 a0_1) := (bkc BK245.out 1).trans rfl; have hfz12_0 := bkf BK245.out 0; have hfz12_1 := bkf BK245.out 1))
    go_ret
    exact ⟨by first | rfl | (simp [eWn, eWs] <;> rfl) | (simp [*, eWn, eWs] <;> rfl), by repeat (first | (with_reducible first | exact HB.out | apply bwa | apply pbN | apply bd1 | refine bws ?_ GE245.out) | exact HB.out)⟩
def tx_Bytes.f (k : Nat) (a0_0 : Int) (a0_1 : Int) : Option (List Int × Int) := (tx_Right.f a0_0 a0_1).bind fun t247 => (if t247 = true then ((wire_Nums.f k (([a0_0, a0_1] : List Int))).bind fun bt251 => (some (bt251.1, 0))) else (some (([] : List Int), 61)))
set_option maxHeartbeats 8000000 in
set_option maxRecDepth 100000 in
theorem tx_Bytes.calls (k : Nat) (a0_0 : Int) (a0_1 : Int) (r1 : List Int) (r2 : Int) (w : World) (h : tx_Bytes.f k a0_0 a0_1 = some (r1, r2)) :
    Calls Tryz.prog 92 #[.agg #[.int .i64 a0_0, .int .i64 a0_1]] w fun e w' => ∃ v0_ : Value, e = .returned (.tuple #[v0_, .int .i64 r2]) ∧ Kd.R (Kd.int .u8) 5 w' w.heap.size (fun _ => True) v0_ r1 ∧ Below w.heap.size w w' := by
  have hu67 := Tryz.underlying67
  have HB := As0.mk (Below.refl w.heap.size w)
  have H : ((tx_Right.f a0_0 a0_1).bind fun t247 => (if t247 = true then ((wire_Nums.f k (([a0_0, a0_1] : List Int))).bind fun bt251 => (some (bt251.1, 0))) else (some (([] : List Int), 61)))) = some (r1, r2) := h
  clear h
  replace H := Option.bind_eq_some_iff.mp H
  obtain ⟨t247, A20, H⟩ := H
  replace H : (if t247 = true then ((wire_Nums.f k (([a0_0, a0_1] : List Int))).bind fun bt251 => (some (bt251.1, 0))) else (some (([] : List Int), 61))) = some (r1, r2) := H
  have A2 := As0.mk A20
  clear A20
  by_cases c3 : t247 = true
  · subst c3
    have H1 : ((wire_Nums.f k (([a0_0, a0_1] : List Int))).bind fun bt251 => (some (bt251.1, 0))) = some (r1, r2) := by rw [if_pos rfl] at H; exact H
    clear H
    have H := H1
    clear H1
    obtain ⟨y248, hy248⟩ : ∃ y_ : List Int, y_ = (([a0_0, a0_1] : List Int)) := ⟨_, rfl⟩
    replace H : ((wire_Nums.f k y248).bind fun bt251 => (some (bt251.1, 0))) = some (r1, r2) := by first | (rw [hy248]; with_reducible exact H) | (have H2_ := (Option.bind_some _ _).symm.trans H; rw [hy248]; with_reducible exact H2_) | (have H2_ := (Option.bind_some _ _).symm.trans H; with_reducible exact H2_) | with_reducible exact H | (rw [hy248]; exact H) | exact H
    have Ny248 := As0.mk hy248
    clear hy248
    replace H := Option.bind_eq_some_iff.mp H
    obtain ⟨⟨t251, t252⟩, A40, H⟩ := H
    replace H : (some (t251, 0)) = some (r1, r2) := H
    have A4 := As0.mk A40
    clear A40
    simp only [Option.some.injEq, Prod.mk.injEq] at H
    obtain ⟨rfl, rfl⟩ := H
    go_enter Tryz.func92, Tryz.ntmps92
    go_wp2_with (first | ((with_reducible refine gate_dst (N := 1) rfl ?_); refine bxe ?hg (N := 1) ?hd (cs := #[.int .i64 a0_0, .int .i64 a0_1]) (t := 67) ?hr ?_; (case hd => rfl); (case hg => rfl); (case hr => first | (go_simp; done) | (go_simp; rfl)); intro gb246 hg w5 hbox hb; have n0_ := As0.mk (bwp (by repeat (first | (with_reducible first | exact HB.out | apply bwa | apply pbN | apply bd1) | exact HB.out)) hb); have n1_ := As0.mk (hbox); have n2_ := As0.mk ((by rw [hg]; exact (bwz (by repeat (first | (with_reducible first | exact HB.out | apply bwa | apply pbN | apply bd1) | exact HB.out))) : w.heap.size ≤ gb246)); have n3_ := As0.mk ((by rw [hg]; exact (bwz (by repeat (first | (with_reducible first | exact HB.out | apply bwa | apply pbN | apply bd1) | exact HB.out))) : w.heap.size ≤ gb246)); clear HB; have HB := n0_; have BK246 := n1_; have GW246 := n2_; have GE246 := n3_; clear n0_ n1_ n2_ n3_; clear hb hbox hg; have hcz6_0 : w5.cell? ⟨gb246, 0, none⟩ = some (.int .i64 a0_0) := (bkc BK246.out 0).trans rfl; have hcz6_1 : w5.cell? ⟨gb246, 1, none⟩ = some (.int .i64 a0_1) := (bkc BK246.out 1).trans rfl; have hfz6_0 := bkf BK246.out 0; have hfz6_1 := bkf BK246.out 1) | ((with_reducible refine gtc (f := 104) rfl ?_); refine goesL_ (some 7) rfl rfl Tryz.func104 (by kernel_rfl) rfl #[.agg #[.int .i64 a0_0, .int .i64 a0_1]] rfl (by (try simp only [List.map_toArray, List.map_cons, List.map_nil]); first | done | rfl | (simp only [List.length_drop, List.length_take]; rfl)) ?_; (with_reducible refine (tx_Right.calls a0_0 a0_1 true _ A2.out).mono ?_); rintro e w7 ⟨rfl, hb⟩; refine ⟨_, rfl, ?_⟩; have n0_ := As0.mk (blk_below (g := gb246) (o := .cells #[.int .i64 a0_0, .int .i64 a0_1] 67 (0, 0)) (by (with_reducible repeat (first | refine bkN ?_ _ | refine bkd ?_ | refine bka ?_ _)); exact BK246.out) hb); have n1_ := As0.mk (bwp (by repeat (first | (with_reducible first | exact HB.out | apply bwa | apply pbN | apply bd1 | refine bws ?_ GE246.out) | exact HB.out)) hb); clear BK246; clear HB; have BK246 := n0_; have HB := n1_; clear n0_ n1_; (try clear hb); (try clear hb2); (try clear hk); (try clear hi); have hcz8_0 : w7.cell? ⟨gb246, 0, none⟩ = some (.int .i64 a0_0) := (bkc BK246.out 0).trans rfl; have hcz8_1 : w7.cell? ⟨gb246, 1, none⟩ = some (.int .i64 a0_1) := (bkc BK246.out 1).trans rfl; have hfz8_0 := bkf BK246.out 0; have hfz8_1 := bkf BK246.out 1) | ((with_reducible refine gate_dst (N := 14) rfl ?_); refine Kd.R_lit (Kd.int .i64) _ 3 ?hg (N := 14) ?hd (xs := ([a0_0, a0_1] : List Int)) (inner := [.int .i64 a0_0, .int .i64 a0_1]) (ok := fun _ => True) (okp := fun _ => True) ?hr ?hp (fun _ hk => hk) trivial (Below.refl _ _) (Nat.le_refl _) (by simp) ?_; (case hd => rfl); (case hg => rfl); (case hr => first | (go_simp; done) | (go_simp; rfl)); (case hp => exact (Reps.one (show Kd.M (Kd.int .i64) _ _ _ a0_0 [.int .i64 a0_0] from rfl) (Reps.one (show Kd.M (Kd.int .i64) _ _ _ a0_1 [.int .i64 a0_1] from rfl) (Reps.none _ _)))); intro v249 w9 ho10 hb hg_ hnew_; clear hg_ hnew_; (first | rw [← Ny248.out] at ho10 | (simp only [Int.reduceToNat] at ho10; rw [← Ny248.out] at ho10)); have n0_ := As0.mk (Kd.R_lower ho10 (bwz (by repeat (first | (with_reducible first | exact HB.out | apply bwa | apply pbN | apply bd1 | refine bws ?_ GE246.out) | exact HB.out)))); have n1_ := As0.mk (blk_below (g := gb246) (o := .cells #[.int .i64 a0_0, .int .i64 a0_1] 67 (0, 0)) (by (with_reducible repeat (first | refine bkN ?_ _ | refine bkd ?_ | refine bka ?_ _)); exact BK246.out) hb); have n2_ := As0.mk (bwp (by repeat (first | (with_reducible first | exact HB.out | apply bwa | apply pbN | apply bd1 | refine bws ?_ GE246.out) | exact HB.out)) hb); clear BK246; clear HB; have HO250 := n0_; have BK246 := n1_; have HB := n2_; clear n0_ n1_ n2_; clear hb ho10; obtain ⟨Ao11, co11, eo11⟩ := Kd.R_slice HO250.out; subst eo11) | ((with_reducible refine gtc (f := 91) rfl ?_); refine goesL_ (some 15) rfl rfl Tryz.func91 (by kernel_rfl) rfl #[.slice Ao11 y248.length co11] rfl (by (try simp only [List.map_toArray, List.map_cons, List.map_nil]); first | done | rfl | (simp only [List.length_drop, List.length_take]; rfl)) ?_; (with_reducible refine (wire_Nums.calls k _ _ y248 t251 t252 _ ?side1 ?side2 A4.out).mono ?_); (case side1 => repeat (first | exact (Kd.R_reads' HO250.out).2.2 | (with_reducible refine Kd.C_alloc ?_ _) | (with_reducible refine Kd.C_drewN ?_ _) | (with_reducible refine Kd.C_drew ?_))); (case side2 => exact (Kd.R_reads' HO250.out).2.1); rintro e w12 ⟨v253, rfl, ho0, hb⟩; refine ⟨_, rfl, ?_⟩; have n0_ := As0.mk (Kd.R_below (by (with_reducible repeat (first | apply Kd.R_alloc | apply Kd.R_drewN | apply Kd.R_drew)); exact HO250.out) hb); have n1_ := As0.mk (Kd.R_lower ho0 (bwz (by repeat (first | (with_reducible first | exact HB.out | apply bwa | apply pbN | apply bd1 | refine bws ?_ GE246.out) | exact HB.out)))); have n2_ := As0.mk (blk_below (g := gb246) (o := .cells #[.int .i64 a0_0, .int .i64 a0_1] 67 (0, 0)) (by (with_reducible repeat (first | refine bkN ?_ _ | refine bkd ?_ | refine bka ?_ _)); exact BK246.out) hb); have n3_ := As0.mk (bwp (by repeat (first | (with_reducible first | exact HB.out | apply bwa | apply pbN | apply bd1 | refine bws ?_ GE246.out) | exact HB.out)) hb); clear HO250; clear BK246; clear HB; have HO250 := n0_; have HO254 := n1_; have BK246 := n2_; have HB := n3_; clear n0_ n1_ n2_ n3_; (try clear hb); (try clear hb2); (try clear hk); (try clear hi); (try clear ho0)))
    go_ret2
    exact ⟨_, by first | rfl | (simp [eWn, eWs] <;> rfl) | (simp [*, eWn, eWs] <;> rfl), by (with_reducible repeat (first | apply Kd.R_alloc | apply Kd.R_drewN | apply Kd.R_drew)); exact HO254.out, by repeat (first | (with_reducible first | exact HB.out | apply bwa | apply pbN | apply bd1 | refine bws ?_ GE246.out) | exact HB.out)⟩
  · replace c3 := Bool.eq_false_iff.mpr c3
    subst c3
    have H1 : (some (([] : List Int), 61)) = some (r1, r2) := by rw [if_neg (show ¬ (false = true) by decide)] at H; exact H
    clear H
    have H := H1
    clear H1
    simp only [Option.some.injEq, Prod.mk.injEq] at H
    obtain ⟨rfl, rfl⟩ := H
    go_enter Tryz.func92, Tryz.ntmps92
    go_wp2_with (first | ((with_reducible refine gate_dst (N := 1) rfl ?_); refine bxe ?hg (N := 1) ?hd (cs := #[.int .i64 a0_0, .int .i64 a0_1]) (t := 67) ?hr ?_; (case hd => rfl); (case hg => rfl); (case hr => first | (go_simp; done) | (go_simp; rfl)); intro gb246 hg w13 hbox hb; have n0_ := As0.mk (bwp (by repeat (first | (with_reducible first | exact HB.out | apply bwa | apply pbN | apply bd1) | exact HB.out)) hb); have n1_ := As0.mk (hbox); have n2_ := As0.mk ((by rw [hg]; exact (bwz (by repeat (first | (with_reducible first | exact HB.out | apply bwa | apply pbN | apply bd1) | exact HB.out))) : w.heap.size ≤ gb246)); have n3_ := As0.mk ((by rw [hg]; exact (bwz (by repeat (first | (with_reducible first | exact HB.out | apply bwa | apply pbN | apply bd1) | exact HB.out))) : w.heap.size ≤ gb246)); clear HB; have HB := n0_; have BK246 := n1_; have GW246 := n2_; have GE246 := n3_; clear n0_ n1_ n2_ n3_; clear hb hbox hg; have hcz14_0 : w13.cell? ⟨gb246, 0, none⟩ = some (.int .i64 a0_0) := (bkc BK246.out 0).trans rfl; have hcz14_1 : w13.cell? ⟨gb246, 1, none⟩ = some (.int .i64 a0_1) := (bkc BK246.out 1).trans rfl; have hfz14_0 := bkf BK246.out 0; have hfz14_1 := bkf BK246.out 1) | ((with_reducible refine gtc (f := 104) rfl ?_); refine goesL_ (some 7) rfl rfl Tryz.func104 (by kernel_rfl) rfl #[.agg #[.int .i64 a0_0, .int .i64 a0_1]] rfl (by (try simp only [List.map_toArray, List.map_cons, List.map_nil]); first | done | rfl | (simp only [List.length_drop, List.length_take]; rfl)) ?_; (with_reducible refine (tx_Right.calls a0_0 a0_1 false _ A2.out).mono ?_); rintro e w15 ⟨rfl, hb⟩; refine ⟨_, rfl, ?_⟩; have n0_ := As0.mk (blk_below (g := gb246) (o := .cells #[.int .i64 a0_0, .int .i64 a0_1] 67 (0, 0)) (by (with_reducible repeat (first | refine bkN ?_ _ | refine bkd ?_ | refine bka ?_ _)); exact BK246.out) hb); have n1_ := As0.mk (bwp (by repeat (first | (with_reducible first | exact HB.out | apply bwa | apply pbN | apply bd1 | refine bws ?_ GE246.out) | exact HB.out)) hb); clear BK246; clear HB; have BK246 := n0_; have HB := n1_; clear n0_ n1_; (try clear hb); (try clear hb2); (try clear hk); (try clear hi)))
    go_ret2
    exact ⟨_, by first | rfl | (simp [eWn, eWs] <;> rfl) | (simp [*, eWn, eWs] <;> rfl), by first | exact Kd.R_nil _ _ _ _ _ | exact Kd.N_nil _ _ _ _ _ | exact Kd.V_nil _ _ _ _ _ | exact Kd.Q_nil _ _ _ _ _ | exact Kd.S_nil _ _ _ _ _, by repeat (first | (with_reducible first | exact HB.out | apply bwa | apply pbN | apply bd1 | refine bws ?_ GE246.out) | exact HB.out)⟩
def tx_List.l0 : Nat → List Int → List (S67) → Int → Int → Option (List Int × Int)
  | 0, _, _, _, _ => none
  | k + 1, x4, x20, x21, x22 => if x22 < x21 then (if 0 ≤ x22 then (if x22 < (x20.length : Int) then ((tx_Bytes.f k ((rd_T67 x20 x22).f0) ((rd_T67 x20 x22).f1)).bind fun bt265 => (if bt265.2 = 0 then (if x4.length + bt265.1.length < 140737488355328 then (tx_List.l0 k (x4 ++ bt265.1) x20 x21 (wrap64 (x22 + 1))) else (none)) else (some (([] : List Int), bt265.2)))) else (none)) else (none)) else (some (x4, 0))
def tx_List.f (k : Nat) (l0 : List (S67)) : Option (List Int × Int) := (tx_unlike.f l0).bind fun t255 => (if t255 = true then ((wire_Nums.f k (([(l0.length : Int)] : List Int))).bind fun bt259 => (tx_List.l0 k bt259.1 l0 (l0.length : Int) 0)) else (some (([] : List Int), 61)))
set_option maxHeartbeats 8000000 in
set_option maxRecDepth 100000 in
theorem tx_List.calls (k : Nat) (A0 : Option Addr) (c0 : Nat) (l0 : List (S67)) (r1 : List Int) (r2 : Int) (w : World) (hr0 : Kd.C k67 w A0 l0.length l0) (hc0 : l0.length ≤ c0) (h : tx_List.f k l0 = some (r1, r2)) :
    Calls Tryz.prog 67 #[.slice A0 l0.length c0] w fun e w' => ∃ v0_ : Value, e = .returned (.tuple #[v0_, .int .i64 r2]) ∧ Kd.R (Kd.int .u8) 5 w' w.heap.size (fun _ => True) v0_ r1 ∧ Below w.heap.size w w' := by
  have hu67 := Tryz.underlying67
  have HR0 := As0.mk hr0
  have HC0 := As0.mk hc0
  clear hr0 hc0
  have HB := As0.mk (Below.refl w.heap.size w)
  have H : ((tx_unlike.f l0).bind fun t255 => (if t255 = true then ((wire_Nums.f k (([(l0.length : Int)] : List Int))).bind fun bt259 => (tx_List.l0 k bt259.1 l0 (l0.length : Int) 0)) else (some (([] : List Int), 61)))) = some (r1, r2) := h
  clear h
  replace H := Option.bind_eq_some_iff.mp H
  obtain ⟨t255, A20, H⟩ := H
  replace H : (if t255 = true then ((wire_Nums.f k (([(l0.length : Int)] : List Int))).bind fun bt259 => (tx_List.l0 k bt259.1 l0 (l0.length : Int) 0)) else (some (([] : List Int), 61))) = some (r1, r2) := H
  have A2 := As0.mk A20
  clear A20
  by_cases c3 : t255 = true
  · subst c3
    have H1 : ((wire_Nums.f k (([(l0.length : Int)] : List Int))).bind fun bt259 => (tx_List.l0 k bt259.1 l0 (l0.length : Int) 0)) = some (r1, r2) := by rw [if_pos rfl] at H; exact H
    clear H
    have H := H1
    clear H1
    obtain ⟨y256, hy256⟩ : ∃ y_ : List Int, y_ = (([(l0.length : Int)] : List Int)) := ⟨_, rfl⟩
    replace H : ((wire_Nums.f k y256).bind fun bt259 => (tx_List.l0 k bt259.1 l0 (l0.length : Int) 0)) = some (r1, r2) := by first | (rw [hy256]; with_reducible exact H) | (have H2_ := (Option.bind_some _ _).symm.trans H; rw [hy256]; with_reducible exact H2_) | (have H2_ := (Option.bind_some _ _).symm.trans H; with_reducible exact H2_) | with_reducible exact H | (rw [hy256]; exact H) | exact H
    have Ny256 := As0.mk hy256
    clear hy256
    replace H := Option.bind_eq_some_iff.mp H
    obtain ⟨⟨t259, t260⟩, A40, H⟩ := H
    replace H : (tx_List.l0 k t259 l0 (l0.length : Int) 0) = some (r1, r2) := H
    have A4 := As0.mk A40
    clear A40
    have H' := As0.mk H
    clear H
    go_enter Tryz.func67, Tryz.ntmps67
    go_wp2_with (first | ((with_reducible refine gtc (f := 90) rfl ?_); refine goesL_ (some 11) rfl rfl Tryz.func90 (by kernel_rfl) rfl #[.slice A0 l0.length c0] rfl (by (try simp only [List.map_toArray, List.map_cons, List.map_nil]); first | done | rfl | (simp only [List.length_drop, List.length_take]; rfl)) ?_; (with_reducible refine (tx_unlike.calls _ _ l0 true _ ?side1 ?side2 A2.out).mono ?_); (case side1 => repeat (first | exact HR0.out | (with_reducible refine Kd.C_alloc ?_ _) | (with_reducible refine Kd.C_drewN ?_ _) | (with_reducible refine Kd.C_drew ?_))); (case side2 => exact HC0.out); rintro e w5 ⟨rfl, hb⟩; refine ⟨_, rfl, ?_⟩; have n0_ := As0.mk (bwp (by repeat (first | (with_reducible first | exact HB.out | apply bwa | apply pbN | apply bd1) | exact HB.out)) hb); clear HB; have HB := n0_; clear n0_; (try clear hb); (try clear hb2); (try clear hk); (try clear hi)) | ((with_reducible refine gate_dst (N := 16) rfl ?_); refine Kd.R_lit (Kd.int .i64) _ 3 ?hg (N := 16) ?hd (xs := ([(l0.length : Int)] : List Int)) (inner := [.int .i64 (l0.length : Int)]) (ok := fun _ => True) (okp := fun _ => True) ?hr ?hp (fun _ hk => hk) trivial (Below.refl _ _) (Nat.le_refl _) (by simp) ?_; (case hd => rfl); (case hg => rfl); (case hr => first | (go_simp; done) | (go_simp; rfl)); (case hp => exact (Reps.one (show Kd.M (Kd.int .i64) _ _ _ (l0.length : Int) [.int .i64 (l0.length : Int)] from rfl) (Reps.none _ _))); intro v257 w6 ho7 hb hg_ hnew_; clear hg_ hnew_; (first | rw [← Ny256.out] at ho7 | (simp only [Int.reduceToNat] at ho7; rw [← Ny256.out] at ho7)); have n0_ := As0.mk (Kd.R_lower ho7 (bwz (by repeat (first | (with_reducible first | exact HB.out | apply bwa | apply pbN | apply bd1) | exact HB.out)))); have n1_ := As0.mk (bwp (by repeat (first | (with_reducible first | exact HB.out | apply bwa | apply pbN | apply bd1) | exact HB.out)) hb); clear HB; have HO258 := n0_; have HB := n1_; clear n0_ n1_; clear hb ho7; obtain ⟨Ao8, co8, eo8⟩ := Kd.R_slice HO258.out; subst eo8) | ((with_reducible refine gtc (f := 91) rfl ?_); refine goesL_ (some 17) rfl rfl Tryz.func91 (by kernel_rfl) rfl #[.slice Ao8 y256.length co8] rfl (by (try simp only [List.map_toArray, List.map_cons, List.map_nil]); first | done | rfl | (simp only [List.length_drop, List.length_take]; rfl)) ?_; (with_reducible refine (wire_Nums.calls k _ _ y256 t259 t260 _ ?side1 ?side2 A4.out).mono ?_); (case side1 => repeat (first | exact (Kd.R_reads' HO258.out).2.2 | (with_reducible refine Kd.C_alloc ?_ _) | (with_reducible refine Kd.C_drewN ?_ _) | (with_reducible refine Kd.C_drew ?_))); (case side2 => exact (Kd.R_reads' HO258.out).2.1); rintro e w9 ⟨v261, rfl, ho0, hb⟩; refine ⟨_, rfl, ?_⟩; have n0_ := As0.mk (Kd.R_below (by (with_reducible repeat (first | apply Kd.R_alloc | apply Kd.R_drewN | apply Kd.R_drew)); exact HO258.out) hb); have n1_ := As0.mk (Kd.R_lower ho0 (bwz (by repeat (first | (with_reducible first | exact HB.out | apply bwa | apply pbN | apply bd1) | exact HB.out)))); have n2_ := As0.mk (bwp (by repeat (first | (with_reducible first | exact HB.out | apply bwa | apply pbN | apply bd1) | exact HB.out)) hb); clear HO258; clear HB; have HO258 := n0_; have HO262 := n1_; have HB := n2_; clear n0_ n1_ n2_; (try clear hb); (try clear hb2); (try clear hk); (try clear hi); (try clear ho0)))
    go_loopg [4, 22] k (fun kq v4 v22 w' => ∃ (x4_1 : List Int) (x22_1 : Int), v22 = .int .i64 x22_1 ∧ As0 (tx_List.l0 kq x4_1 l0 (l0.length : Int) x22_1 = some (r1, r2)) ∧ As0 (kq ≤ k) ∧ As0 (Kd.R (Kd.int .u8) 5 w' w.heap.size (fun _ => True) v4 x4_1) ∧ As0 (Below w.heap.size w w'))
    case atStart => exact ⟨(t259), (0), (by first | rfl | (simp; done) | (simp [*]; done)), H', ⟨Nat.le_refl _⟩, ⟨by (with_reducible repeat (first | apply Kd.R_alloc | apply Kd.R_drewN | apply Kd.R_drew)); exact HO262.out⟩, ⟨by repeat (first | (with_reducible first | exact HB.out | apply bwa | apply pbN | apply bd1) | exact HB.out)⟩⟩
    case round =>
      clear H'
      try clear p2
      try clear c3
      try clear c6
      try clear c9
      obtain ⟨x4_1, x22_1, rfl, HA, HK1, HO_4, HB⟩ := hrel
      cases gk with
      | zero => exact absurd HA.out (by simp [tx_List.l0])
      | succ k1 =>
        have H := HA.out
        clear HA
        simp only [tx_List.l0] at H
        by_cases c10 : x22_1 < (l0.length : Int)
        · rw [if_pos c10] at H
          have c10b0 : decide (x22_1 < (l0.length : Int)) = true := decide_eq_true c10
          clear c10
          by_cases c11 : 0 ≤ x22_1
          · rw [if_pos c11] at H
            have c11b0 : decide (0 ≤ x22_1) = true := decide_eq_true c11
            clear c11
            by_cases c12 : x22_1 < (l0.length : Int)
            · rw [if_pos c12] at H
              have c12b0 : decide (x22_1 < (l0.length : Int)) = true := decide_eq_true c12
              clear c12
              replace H := Option.bind_eq_some_iff.mp H
              obtain ⟨⟨t265, t268⟩, A130, H⟩ := H
              replace H : (if t268 = 0 then (if x4_1.length + t265.length < 140737488355328 then (tx_List.l0 k1 (x4_1 ++ t265) l0 (l0.length : Int) (wrap64 (x22_1 + 1))) else (none)) else (some (([] : List Int), t268))) = some (r1, r2) := H
              have A13 := As0.mk A130
              clear A130
              by_cases c14 : t268 = 0
              · rw [if_pos c14] at H
                have c14b0 : (t268 == 0) = true := beq_iff_eq.mpr c14
                have c14b1 : (t268 != 0) = false := bne_eq_false_iff_eq.mpr c14
                clear c14
                by_cases c15 : x4_1.length + t265.length < 140737488355328
                · rw [if_pos c15] at H
                  have LMc15 := As0.mk c15
                  clear c15
                  obtain ⟨y269, hy269⟩ : ∃ y_ : List Int, y_ = (x4_1 ++ t265) := ⟨_, rfl⟩
                  replace H : (tx_List.l0 k1 y269 l0 (l0.length : Int) (wrap64 (x22_1 + 1))) = some (r1, r2) := by first | (rw [hy269]; with_reducible exact H) | (have H2_ := (Option.bind_some _ _).symm.trans H; rw [hy269]; with_reducible exact H2_) | (have H2_ := (Option.bind_some _ _).symm.trans H; with_reducible exact H2_) | with_reducible exact H | (rw [hy269]; exact H) | exact H
                  have Ny269 := As0.mk hy269
                  clear hy269
                  have H' := As0.mk H
                  clear H
                  have p263 : 0 ≤ (x22_1 : Int) := of_decide_eq_true (by first | (with_reducible assumption) | assumption)
                  have q263 : x22_1 < (l0.length : Int) := of_decide_eq_true (by first | (with_reducible assumption) | assumption)
                  obtain ⟨ad263, e263, hx263_0, hx263_1⟩ := at_T67 HR0.out x22_1 p263 q263
                  cases e263
                  replace hx263_0 := (HB.out.cell (World.block_lt_of_cell? w _ hx263_0)).trans hx263_0
                  replace hx263_1 := (HB.out.cell (World.block_lt_of_cell? w _ hx263_1)).trans hx263_1
                  replace p263 := eq_true p263
                  replace q263 := eq_true q263
                  go_wp2_with (first | ((with_reducible refine gate_dst (N := 7) rfl ?_); refine bxe ?hg (N := 7) ?hd (cs := #[.int .i64 0, .int .i64 0]) (t := 67) ?hr ?_; (case hd => rfl); (case hg => rfl); (case hr => first | (go_simp; done) | (go_simp; rfl)); intro gb264 hg w16 hbox hb; have n0_ := As0.mk (Kd.R_below (by (with_reducible repeat (first | apply Kd.R_alloc | apply Kd.R_drewN | apply Kd.R_drew)); exact HO_4.out) hb); have n1_ := As0.mk (bwp (by repeat (first | (with_reducible first | exact HB.out | apply bwa | apply pbN | apply bd1) | exact HB.out)) hb); have n2_ := As0.mk (hbox); have n3_ := As0.mk ((by rw [hg]; exact (bwz (by repeat (first | (with_reducible first | exact HB.out | apply bwa | apply pbN | apply bd1) | exact HB.out))) : w.heap.size ≤ gb264)); have n4_ := As0.mk ((by rw [hg]; exact (bwz (by repeat (first | (with_reducible first | exact HB.out | apply bwa | apply pbN | apply bd1) | exact HB.out))) : w.heap.size ≤ gb264)); clear HO_4; clear HB; have HO_4 := n0_; have HB := n1_; have BK264 := n2_; have GW264 := n3_; have GE264 := n4_; clear n0_ n1_ n2_ n3_ n4_; clear hb hbox hg; have hcz17_0 : w16.cell? ⟨gb264, 0, none⟩ = some (.int .i64 0) := (bkc BK264.out 0).trans rfl; have hcz17_1 : w16.cell? ⟨gb264, 1, none⟩ = some (.int .i64 0) := (bkc BK264.out 1).trans rfl; have hfz17_0 := bkf BK264.out 0; have hfz17_1 := bkf BK264.out 1) | ((with_reducible refine gtc (f := 92) rfl ?_); refine goesL_ (some 28) rfl rfl Tryz.func92 (by kernel_rfl) rfl #[.agg #[.int .i64 ((rd_T67 l0 x22_1).f0), .int .i64 ((rd_T67 l0 x22_1).f1)]] rfl (by (try simp only [List.map_toArray, List.map_cons, List.map_nil]); first | done | rfl | (simp only [List.length_drop, List.length_take]; rfl)) ?_; (with_reducible refine (tx_Bytes.calls k1 ((rd_T67 l0 x22_1).f0) ((rd_T67 l0 x22_1).f1) t265 t268 _ A13.out).mono ?_); rintro e w18 ⟨v266, rfl, ho0, hb⟩; refine ⟨_, rfl, ?_⟩; have n0_ := As0.mk (Kd.R_elder' (by (with_reducible repeat (first | apply Kd.R_alloc | apply Kd.R_drewN | apply Kd.R_drew)); exact (Kd.R_mono (Kd.R_far (p := ⟨gb264, 1, none⟩) (Kd.R_far (p := ⟨gb264, 0, none⟩) (Kd.R_types HO_4.out BK264.out (by decide)) (fun _ hk => hk.2) (.int .i64 ((rd_T67 l0 x22_1).f0))) (fun _ hk => hk.2) (.int .i64 ((rd_T67 l0 x22_1).f1))) (fun _ h_ => h_.1))) (Kd.R_base ho0) hb); have n1_ := As0.mk (Kd.R_lower (Kd.R_new' ho0 (Kd.R_lt (by (with_reducible repeat (first | apply Kd.R_alloc | apply Kd.R_drewN | apply Kd.R_drew)); exact (Kd.R_mono (Kd.R_far (p := ⟨gb264, 1, none⟩) (Kd.R_far (p := ⟨gb264, 0, none⟩) (Kd.R_types HO_4.out BK264.out (by decide)) (fun _ hk => hk.2) (.int .i64 ((rd_T67 l0 x22_1).f0))) (fun _ hk => hk.2) (.int .i64 ((rd_T67 l0 x22_1).f1))) (fun _ h_ => h_.1))))) (bwz (by repeat (first | (with_reducible first | exact HB.out | apply bwa | apply pbN | apply bd1 | refine bws ?_ GE264.out) | exact HB.out)))); have n2_ := As0.mk (blk_below (g := gb264) (o := .cells #[.int .i64 ((rd_T67 l0 x22_1).f0), .int .i64 ((rd_T67 l0 x22_1).f1)] 67 (0, 0)) (by (with_reducible repeat (first | refine bkN ?_ _ | refine bkd ?_ | refine bka ?_ _)); refine blk_put (cs := #[.int .i64 ((rd_T67 l0 x22_1).f0), .int .i64 0]) ?_ 1 _ rfl; (with_reducible repeat (first | refine bkN ?_ _ | refine bkd ?_ | refine bka ?_ _)); refine blk_put (cs := #[.int .i64 0, .int .i64 0]) ?_ 0 _ rfl; (with_reducible repeat (first | refine bkN ?_ _ | refine bkd ?_ | refine bka ?_ _)); exact BK264.out) hb); have n3_ := As0.mk (bwp (by repeat (first | (with_reducible first | exact HB.out | apply bwa | apply pbN | apply bd1 | refine bws ?_ GE264.out) | exact HB.out)) hb); clear HO_4; clear BK264; clear HB; have HO_4 := n0_; have HO267 := n1_; have BK264 := n2_; have HB := n3_; clear n0_ n1_ n2_ n3_; (try clear hb); (try clear hb2); (try clear hk); (try clear hi); (try clear ho0); obtain ⟨Ao20, co20, eo20⟩ := Kd.R_slice HO267.out; subst eo20) | ((with_reducible refine gate_builtin (b := .append) (xs := #[.tmp 34, .tmp 35]) rfl ?_); at_builtin; refine Kd.R_append_rows (Kd.int .u8) (w0 := w) w.heap.size rfl (.tmp 34) (.tmp 35) 102 5 (.int .u8 0) 1 rfl Tryz.underlying102 info5 rfl (by decide) (by omega) u4 x4_1 t265 _ _ _ (fun k_ => some k_ ≠ (.slice Ao20 t265.length co20 : Value).ownBlock) (fun _ => False) rfl rfl ?aO ?aR (fun _ _ h => h) (fun _ h => h.elim) ?aF ?aB ?aS ?aL ?_; (case aR => repeat (first | exact (Kd.R_reads' HO267.out).2.2 | (with_reducible refine Kd.C_alloc ?_ _) | (with_reducible refine Kd.C_drewN ?_ _) | (with_reducible refine Kd.C_drew ?_))); (case aB => exact (by repeat (first | (with_reducible first | exact HB.out | apply bwa | apply pbN | apply bd1 | refine bws ?_ GE264.out) | exact HB.out))); (case aF => exact (fun k_ hk => Kd.fresh' (Kd.R_lt (by (with_reducible repeat (first | apply Kd.R_alloc | apply Kd.R_drewN | apply Kd.R_drew)); exact HO267.out)) k_ hk)); (case aO => exact (by (with_reducible repeat (first | apply Kd.R_alloc | apply Kd.R_drewN | apply Kd.R_drew)); exact Kd.R_mono HO_4.out (fun _ hk => hk.2))); (case aS => exact (bwz (by repeat (first | (with_reducible first | exact HB.out | apply bwa | apply pbN | apply bd1 | refine bws ?_ GE264.out) | exact HB.out)))); (case aL => have := LMc15.out; omega); intro v270 w19 ho hb hg hat; rw [← Ny269.out] at ho; have n0_ := As0.mk (blk_grown (g := gb264) (o := .cells #[.int .i64 ((rd_T67 l0 x22_1).f0), .int .i64 ((rd_T67 l0 x22_1).f1)] 67 (0, 0)) (by (with_reducible repeat (first | refine bkN ?_ _ | refine bkd ?_ | refine bka ?_ _)); exact BK264.out) hg (Kd.R_ne HO_4.out BK264.out (by decide))); have n1_ := As0.mk (Kd.R_after (ok := (fun _ => True)) (by (with_reducible repeat (first | apply Kd.R_alloc | apply Kd.R_drewN | apply Kd.R_drew)); exact HO267.out) hg hat); have n2_ := As0.mk (hb); have n3_ := As0.mk (ho); clear BK264; clear HO267; clear HB; clear HO_4; have BK264 := n0_; have HO267 := n1_; have HB := n2_; have HO271 := n3_; clear n0_ n1_ n2_ n3_; clear ho hb hg hat))
                  go_roundg k1
                  case measure => have := HK1.out; omega
                  case rel => exact ⟨(y269), (wrap64 (x22_1 + 1)), (by first | rfl | (simp; done) | (simp [*]; done)), H', ⟨by have := HK1.out; omega⟩, ⟨by (with_reducible repeat (first | apply Kd.R_alloc | apply Kd.R_drewN | apply Kd.R_drew)); exact Kd.R_mono HO271.out (fun _ hk => trivial)⟩, ⟨by repeat (first | (with_reducible first | exact HB.out | apply bwa | apply pbN | apply bd1 | refine bws ?_ GE264.out) | exact HB.out)⟩⟩
                · rw [if_neg c15] at H
                  exact absurd H (by simp)
              · rw [if_neg c14] at H
                have c14b0 : (t268 == 0) = false := beq_eq_false_iff_ne.mpr c14
                have c14b1 : (t268 != 0) = true := bne_iff_ne.mpr c14
                simp only [Option.some.injEq, Prod.mk.injEq] at H
                obtain ⟨rfl, rfl⟩ := H
                have p263 : 0 ≤ (x22_1 : Int) := of_decide_eq_true (by first | (with_reducible assumption) | assumption)
                have q263 : x22_1 < (l0.length : Int) := of_decide_eq_true (by first | (with_reducible assumption) | assumption)
                obtain ⟨ad263, e263, hx263_0, hx263_1⟩ := at_T67 HR0.out x22_1 p263 q263
                cases e263
                replace hx263_0 := (HB.out.cell (World.block_lt_of_cell? w _ hx263_0)).trans hx263_0
                replace hx263_1 := (HB.out.cell (World.block_lt_of_cell? w _ hx263_1)).trans hx263_1
                replace p263 := eq_true p263
                replace q263 := eq_true q263
                go_wp2_with (first | ((with_reducible refine gate_dst (N := 7) rfl ?_); refine bxe ?hg (N := 7) ?hd (cs := #[.int .i64 0, .int .i64 0]) (t := 67) ?hr ?_; (case hd => rfl); (case hg => rfl); (case hr => first | (go_simp; done) | (go_simp; rfl)); intro gb264 hg w21 hbox hb; have n0_ := As0.mk (Kd.R_below (by (with_reducible repeat (first | apply Kd.R_alloc | apply Kd.R_drewN | apply Kd.R_drew)); exact HO_4.out) hb); have n1_ := As0.mk (bwp (by repeat (first | (with_reducible first | exact HB.out | apply bwa | apply pbN | apply bd1) | exact HB.out)) hb); have n2_ := As0.mk (hbox); have n3_ := As0.mk ((by rw [hg]; exact (bwz (by repeat (first | (with_reducible first | exact HB.out | apply bwa | apply pbN | apply bd1) | exact HB.out))) : w.heap.size ≤ gb264)); have n4_ := As0.mk ((by rw [hg]; exact (bwz (by repeat (first | (with_reducible first | exact HB.out | apply bwa | apply pbN | apply bd1) | exact HB.out))) : w.heap.size ≤ gb264)); clear HO_4; clear HB; have HO_4 := n0_; have HB := n1_; have BK264 := n2_; have GW264 := n3_; have GE264 := n4_; clear n0_ n1_ n2_ n3_ n4_; clear hb hbox hg; have hcz22_0 : w21.cell? ⟨gb264, 0, none⟩ = some (.int .i64 0) := (bkc BK264.out 0).trans rfl; have hcz22_1 : w21.cell? ⟨gb264, 1, none⟩ = some (.int .i64 0) := (bkc BK264.out 1).trans rfl; have hfz22_0 := bkf BK264.out 0; have hfz22_1 := bkf BK264.out 1) | ((with_reducible refine gtc (f := 92) rfl ?_); refine goesL_ (some 28) rfl rfl Tryz.func92 (by kernel_rfl) rfl #[.agg #[.int .i64 ((rd_T67 l0 x22_1).f0), .int .i64 ((rd_T67 l0 x22_1).f1)]] rfl (by (try simp only [List.map_toArray, List.map_cons, List.map_nil]); first | done | rfl | (simp only [List.length_drop, List.length_take]; rfl)) ?_; (with_reducible refine (tx_Bytes.calls k1 ((rd_T67 l0 x22_1).f0) ((rd_T67 l0 x22_1).f1) t265 t268 _ A13.out).mono ?_); rintro e w23 ⟨v266, rfl, ho0, hb⟩; refine ⟨_, rfl, ?_⟩; have n0_ := As0.mk (Kd.R_elder' (by (with_reducible repeat (first | apply Kd.R_alloc | apply Kd.R_drewN | apply Kd.R_drew)); exact (Kd.R_mono (Kd.R_far (p := ⟨gb264, 1, none⟩) (Kd.R_far (p := ⟨gb264, 0, none⟩) (Kd.R_types HO_4.out BK264.out (by decide)) (fun _ hk => hk.2) (.int .i64 ((rd_T67 l0 x22_1).f0))) (fun _ hk => hk.2) (.int .i64 ((rd_T67 l0 x22_1).f1))) (fun _ h_ => h_.1))) (Kd.R_base ho0) hb); have n1_ := As0.mk (Kd.R_lower (Kd.R_new' ho0 (Kd.R_lt (by (with_reducible repeat (first | apply Kd.R_alloc | apply Kd.R_drewN | apply Kd.R_drew)); exact (Kd.R_mono (Kd.R_far (p := ⟨gb264, 1, none⟩) (Kd.R_far (p := ⟨gb264, 0, none⟩) (Kd.R_types HO_4.out BK264.out (by decide)) (fun _ hk => hk.2) (.int .i64 ((rd_T67 l0 x22_1).f0))) (fun _ hk => hk.2) (.int .i64 ((rd_T67 l0 x22_1).f1))) (fun _ h_ => h_.1))))) (bwz (by repeat (first | (with_reducible first | exact HB.out | apply bwa | apply pbN | apply bd1 | refine bws ?_ GE264.out) | exact HB.out)))); have n2_ := As0.mk (blk_below (g := gb264) (o := .cells #[.int .i64 ((rd_T67 l0 x22_1).f0), .int .i64 ((rd_T67 l0 x22_1).f1)] 67 (0, 0)) (by (with_reducible repeat (first | refine bkN ?_ _ | refine bkd ?_ | refine bka ?_ _)); refine blk_put (cs := #[.int .i64 ((rd_T67 l0 x22_1).f0), .int .i64 0]) ?_ 1 _ rfl; (with_reducible repeat (first | refine bkN ?_ _ | refine bkd ?_ | refine bka ?_ _)); refine blk_put (cs := #[.int .i64 0, .int .i64 0]) ?_ 0 _ rfl; (with_reducible repeat (first | refine bkN ?_ _ | refine bkd ?_ | refine bka ?_ _)); exact BK264.out) hb); have n3_ := As0.mk (bwp (by repeat (first | (with_reducible first | exact HB.out | apply bwa | apply pbN | apply bd1 | refine bws ?_ GE264.out) | exact HB.out)) hb); clear HO_4; clear BK264; clear HB; have HO_4 := n0_; have HO267 := n1_; have BK264 := n2_; have HB := n3_; clear n0_ n1_ n2_ n3_; (try clear hb); (try clear hb2); (try clear hk); (try clear hi); (try clear ho0)))
                go_ret2
                exact ⟨_, by first | rfl | (simp [eWn, eWs] <;> rfl) | (simp [*, eWn, eWs] <;> rfl), by first | exact Kd.R_nil _ _ _ _ _ | exact Kd.N_nil _ _ _ _ _ | exact Kd.V_nil _ _ _ _ _ | exact Kd.Q_nil _ _ _ _ _ | exact Kd.S_nil _ _ _ _ _, by repeat (first | (with_reducible first | exact HB.out | apply bwa | apply pbN | apply bd1 | refine bws ?_ GE264.out) | exact HB.out)⟩
            · rw [if_neg c12] at H
              exact absurd H (by simp)
          · rw [if_neg c11] at H
            exact absurd H (by simp)
        · rw [if_neg c10] at H
          have c10b0 : decide (x22_1 < (l0.length : Int)) = false := decide_eq_false c10
          clear c10
          simp only [Option.some.injEq, Prod.mk.injEq] at H
          obtain ⟨rfl, rfl⟩ := H
          go_wp2
          go_ret2
          exact ⟨_, by first | rfl | (simp [eWn, eWs] <;> rfl) | (simp [*, eWn, eWs] <;> rfl), by (with_reducible repeat (first | apply Kd.R_alloc | apply Kd.R_drewN | apply Kd.R_drew)); exact HO_4.out, by repeat (first | (with_reducible first | exact HB.out | apply bwa | apply pbN | apply bd1) | exact HB.out)⟩
  · replace c3 := Bool.eq_false_iff.mpr c3
    subst c3
    have H1 : (some (([] : List Int), 61)) = some (r1, r2) := by rw [if_neg (show ¬ (false = true) by decide)] at H; exact H
    clear H
    have H := H1
    clear H1
    simp only [Option.some.injEq, Prod.mk.injEq] at H
    obtain ⟨rfl, rfl⟩ := H
    go_enter Tryz.func67, Tryz.ntmps67
    go_wp2_with (first | ((with_reducible refine gtc (f := 90) rfl ?_); refine goesL_ (some 11) rfl rfl Tryz.func90 (by kernel_rfl) rfl #[.slice A0 l0.length c0] rfl (by (try simp only [List.map_toArray, List.map_cons, List.map_nil]); first | done | rfl | (simp only [List.length_drop, List.length_take]; rfl)) ?_; (with_reducible refine (tx_unlike.calls _ _ l0 false _ ?side1 ?side2 A2.out).mono ?_); (case side1 => repeat (first | exact HR0.out | (with_reducible refine Kd.C_alloc ?_ _) | (with_reducible refine Kd.C_drewN ?_ _) | (with_reducible refine Kd.C_drew ?_))); (case side2 => exact HC0.out); rintro e w24 ⟨rfl, hb⟩; refine ⟨_, rfl, ?_⟩; have n0_ := As0.mk (bwp (by repeat (first | (with_reducible first | exact HB.out | apply bwa | apply pbN | apply bd1) | exact HB.out)) hb); clear HB; have HB := n0_; clear n0_; (try clear hb); (try clear hb2); (try clear hk); (try clear hi)))
    go_ret2
    exact ⟨_, by first | rfl | (simp [eWn, eWs] <;> rfl) | (simp [*, eWn, eWs] <;> rfl), by first | exact Kd.R_nil _ _ _ _ _ | exact Kd.N_nil _ _ _ _ _ | exact Kd.V_nil _ _ _ _ _ | exact Kd.Q_nil _ _ _ _ _ | exact Kd.S_nil _ _ _ _ _, by repeat (first | (with_reducible first | exact HB.out | apply bwa | apply pbN | apply bd1) | exact HB.out)⟩
def block_Right.j0 : Nat → Bool → Int → Int → Int → Int → List (S67) → Option (Bool)
  | 0, _, _, _, _, _, _ => none
  | k + 1, x20, x273000, x273001, x273002, x273003, x273004 => if x20 = true then (some false) else (if x273003 = 0 then ((tx_List.f k x273004).bind fun bt276 => (some (bt276.2 == 0))) else ((block_named.f x273003).bind fun t280 => (if t280 = true then (if (wrap64 (Int.tdiv x273003 65536)) ≥ x273000 then (some false) else ((tx_List.f k x273004).bind fun bt281 => (some (bt281.2 == 0)))) else (some false))))
def block_Right.f (k : Nat) (a0_0 : Int) (a0_1 : Int) (a0_2 : Int) (a0_3 : Int) (l0_4 : List (S67)) : Option (Bool) := (block_between.f a0_0 1 4095).bind fun t273 => (if t273 = true then ((block_between.f a0_1 0 6).bind fun t274 => (if t274 = true then ((block_between.f a0_2 0 255).bind fun t275 => (block_Right.j0 k (!t275) a0_0 a0_1 a0_2 a0_3 l0_4)) else (block_Right.j0 k true a0_0 a0_1 a0_2 a0_3 l0_4))) else (block_Right.j0 k true a0_0 a0_1 a0_2 a0_3 l0_4))
set_option maxHeartbeats 8000000 in
set_option maxRecDepth 100000 in
theorem block_Right.calls (k : Nat) (a0_0 : Int) (a0_1 : Int) (a0_2 : Int) (a0_3 : Int) (A0_4 : Option Addr) (c0_4 : Nat) (l0_4 : List (S67)) (r : Bool) (w : World) (hr0_4 : Kd.C k67 w A0_4 l0_4.length l0_4) (hc0_4 : l0_4.length ≤ c0_4) (h : block_Right.f k a0_0 a0_1 a0_2 a0_3 l0_4 = some r) :
    Calls Tryz.prog 40 #[.agg #[.int .i64 a0_0, .int .i64 a0_1, .int .i64 a0_2, .int .i64 a0_3, .slice A0_4 l0_4.length c0_4]] w fun e w' => e = .returned (.bool r) ∧ Below w.heap.size w w' := by
  have hu35 := Tryz.underlying35
  have HR0_4 := As0.mk hr0_4
  have HC0_4 := As0.mk hc0_4
  clear hr0_4 hc0_4
  have HB := As0.mk (Below.refl w.heap.size w)
  have H : ((block_between.f a0_0 1 4095).bind fun t273 => (if t273 = true then ((block_between.f a0_1 0 6).bind fun t274 => (if t274 = true then ((block_between.f a0_2 0 255).bind fun t275 => (block_Right.j0 k (!t275) a0_0 a0_1 a0_2 a0_3 l0_4)) else (block_Right.j0 k true a0_0 a0_1 a0_2 a0_3 l0_4))) else (block_Right.j0 k true a0_0 a0_1 a0_2 a0_3 l0_4))) = some r := h
  clear h
  have HC2 := As0.mk H
  clear H
  go_enter Tryz.func40, Tryz.ntmps40
  go_upto_region 1 with (first | ((with_reducible refine gate_dst (N := 1) rfl ?_); refine bxe ?hg (N := 1) ?hd (cs := #[.int .i64 a0_0, .int .i64 a0_1, .int .i64 a0_2, .int .i64 a0_3, .slice A0_4 l0_4.length c0_4]) (t := 35) ?hr ?_; (case hd => rfl); (case hg => rfl); (case hr => first | (go_simp; done) | (go_simp; rfl)); intro gb272 hg w3 hbox hb; have n0_ := As0.mk (bwp (by repeat (first | (with_reducible first | exact HB.out | apply bwa | apply pbN | apply bd1) | exact HB.out)) hb); have n1_ := As0.mk (hbox); have n2_ := As0.mk ((by rw [hg]; exact (bwz (by repeat (first | (with_reducible first | exact HB.out | apply bwa | apply pbN | apply bd1) | exact HB.out))) : w.heap.size ≤ gb272)); have n3_ := As0.mk ((by rw [hg]; exact (bwz (by repeat (first | (with_reducible first | exact HB.out | apply bwa | apply pbN | apply bd1) | exact HB.out))) : w.heap.size ≤ gb272)); clear HB; have HB := n0_; have BK272 := n1_; have GW272 := n2_; have GE272 := n3_; clear n0_ n1_ n2_ n3_; clear hb hbox hg))
  (try simp only [Act.put, List.setIfInBounds_toArray, List.set_cons_zero, List.set_cons_succ])
  go_cut [20] (fun v20 wc => ∃ (kq : Nat) (x20_1 : Bool), v20 = .bool x20_1 ∧ As0 (block_Right.j0 kq x20_1 a0_0 a0_1 a0_2 a0_3 l0_4 = some r) ∧ As0 (kq ≤ k) ∧ As0 (wc.heap[gb272]? = some (.cells #[.int .i64 a0_0, .int .i64 a0_1, .int .i64 a0_2, .int .i64 a0_3, (.slice A0_4 l0_4.length c0_4)] 35 (0, 0))) ∧ As0 (Below w.heap.size w wc))
  case first =>
    have H := HC2.out
    clear HC2
    replace H := Option.bind_eq_some_iff.mp H
    obtain ⟨t273, A40, H⟩ := H
    replace H : (if t273 = true then ((block_between.f a0_1 0 6).bind fun t274 => (if t274 = true then ((block_between.f a0_2 0 255).bind fun t275 => (block_Right.j0 k (!t275) a0_0 a0_1 a0_2 a0_3 l0_4)) else (block_Right.j0 k true a0_0 a0_1 a0_2 a0_3 l0_4))) else (block_Right.j0 k true a0_0 a0_1 a0_2 a0_3 l0_4)) = some r := H
    have A4 := As0.mk A40
    clear A40
    by_cases c5 : t273 = true
    · subst c5
      have H1 : ((block_between.f a0_1 0 6).bind fun t274 => (if t274 = true then ((block_between.f a0_2 0 255).bind fun t275 => (block_Right.j0 k (!t275) a0_0 a0_1 a0_2 a0_3 l0_4)) else (block_Right.j0 k true a0_0 a0_1 a0_2 a0_3 l0_4))) = some r := by rw [if_pos rfl] at H; exact H
      clear H
      have H := H1
      clear H1
      replace H := Option.bind_eq_some_iff.mp H
      obtain ⟨t274, A60, H⟩ := H
      replace H : (if t274 = true then ((block_between.f a0_2 0 255).bind fun t275 => (block_Right.j0 k (!t275) a0_0 a0_1 a0_2 a0_3 l0_4)) else (block_Right.j0 k true a0_0 a0_1 a0_2 a0_3 l0_4)) = some r := H
      have A6 := As0.mk A60
      clear A60
      by_cases c7 : t274 = true
      · subst c7
        have H1 : ((block_between.f a0_2 0 255).bind fun t275 => (block_Right.j0 k (!t275) a0_0 a0_1 a0_2 a0_3 l0_4)) = some r := by rw [if_pos rfl] at H; exact H
        clear H
        have H := H1
        clear H1
        replace H := Option.bind_eq_some_iff.mp H
        obtain ⟨t275, A80, H⟩ := H
        replace H : (block_Right.j0 k (!t275) a0_0 a0_1 a0_2 a0_3 l0_4) = some r := H
        have A8 := As0.mk A80
        clear A80
        have H' := As0.mk H
        clear H
        have hcz9_0 : w3.cell? ⟨gb272, 0, none⟩ = some (.int .i64 a0_0) := (bkc BK272.out 0).trans rfl
        have hcz9_1 : w3.cell? ⟨gb272, 1, none⟩ = some (.int .i64 a0_1) := (bkc BK272.out 1).trans rfl
        have hcz9_2 : w3.cell? ⟨gb272, 2, none⟩ = some (.int .i64 a0_2) := (bkc BK272.out 2).trans rfl
        have hcz9_3 : w3.cell? ⟨gb272, 3, none⟩ = some (.int .i64 a0_3) := (bkc BK272.out 3).trans rfl
        have hcz9_4 : w3.cell? ⟨gb272, 4, none⟩ = some (.slice A0_4 l0_4.length c0_4) := (bkc BK272.out 4).trans rfl
        have hfz9_0 := bkf BK272.out 0
        have hfz9_1 := bkf BK272.out 1
        have hfz9_2 := bkf BK272.out 2
        have hfz9_3 := bkf BK272.out 3
        have hfz9_4 := bkf BK272.out 4
        go_wp2_with (first | ((with_reducible refine gtc (f := 66) rfl ?_); refine goesL_ (some 7) rfl rfl Tryz.func66 (by kernel_rfl) rfl #[.int .i64 a0_0, .int .i64 1, .int .i64 4095] rfl (by (try simp only [List.map_toArray, List.map_cons, List.map_nil]); first | done | rfl | (simp only [List.length_drop, List.length_take]; rfl)) ?_; (with_reducible refine (block_between.calls a0_0 1 4095 true _ A4.out).mono ?_); rintro e w' ⟨rfl, ⟨nd, rfl⟩⟩; refine ⟨_, rfl, ?_⟩) | (go_at_call 66; (with_reducible refine (block_between.calls a0_1 0 6 true _ A6.out).mono ?_); rintro e w' ⟨rfl, ⟨nd, rfl⟩⟩) | (go_at_call 66; (with_reducible refine (block_between.calls a0_2 0 255 t275 _ A8.out).mono ?_); rintro e w' ⟨rfl, ⟨nd, rfl⟩⟩))
        go_meet
        case rel => exact ⟨_, (!t275), (by first | rfl | (simp; done) | (simp [*]; done)), H', ⟨by first | omega | exact Nat.le_refl _⟩, ⟨by (with_reducible repeat (first | refine bkN ?_ _ | refine bkd ?_ | refine bka ?_ _)); exact BK272.out⟩, ⟨by repeat (first | (with_reducible first | exact HB.out | apply bwa | apply pbN | apply bd1 | refine bws ?_ GE272.out) | exact HB.out)⟩⟩
      · replace c7 := Bool.eq_false_iff.mpr c7
        subst c7
        have H1 : (block_Right.j0 k true a0_0 a0_1 a0_2 a0_3 l0_4) = some r := by rw [if_neg (show ¬ (false = true) by decide)] at H; exact H
        clear H
        have H := H1
        clear H1
        have H' := As0.mk H
        clear H
        have hcz10_0 : w3.cell? ⟨gb272, 0, none⟩ = some (.int .i64 a0_0) := (bkc BK272.out 0).trans rfl
        have hcz10_1 : w3.cell? ⟨gb272, 1, none⟩ = some (.int .i64 a0_1) := (bkc BK272.out 1).trans rfl
        have hcz10_2 : w3.cell? ⟨gb272, 2, none⟩ = some (.int .i64 a0_2) := (bkc BK272.out 2).trans rfl
        have hcz10_3 : w3.cell? ⟨gb272, 3, none⟩ = some (.int .i64 a0_3) := (bkc BK272.out 3).trans rfl
        have hcz10_4 : w3.cell? ⟨gb272, 4, none⟩ = some (.slice A0_4 l0_4.length c0_4) := (bkc BK272.out 4).trans rfl
        have hfz10_0 := bkf BK272.out 0
        have hfz10_1 := bkf BK272.out 1
        have hfz10_2 := bkf BK272.out 2
        have hfz10_3 := bkf BK272.out 3
        have hfz10_4 := bkf BK272.out 4
        go_wp2_with (first | ((with_reducible refine gtc (f := 66) rfl ?_); refine goesL_ (some 7) rfl rfl Tryz.func66 (by kernel_rfl) rfl #[.int .i64 a0_0, .int .i64 1, .int .i64 4095] rfl (by (try simp only [List.map_toArray, List.map_cons, List.map_nil]); first | done | rfl | (simp only [List.length_drop, List.length_take]; rfl)) ?_; (with_reducible refine (block_between.calls a0_0 1 4095 true _ A4.out).mono ?_); rintro e w' ⟨rfl, ⟨nd, rfl⟩⟩; refine ⟨_, rfl, ?_⟩) | (go_at_call 66; (with_reducible refine (block_between.calls a0_1 0 6 false _ A6.out).mono ?_); rintro e w' ⟨rfl, ⟨nd, rfl⟩⟩))
        go_meet
        case rel => exact ⟨_, (true), (by first | rfl | (simp; done) | (simp [*]; done)), H', ⟨by first | omega | exact Nat.le_refl _⟩, ⟨by (with_reducible repeat (first | refine bkN ?_ _ | refine bkd ?_ | refine bka ?_ _)); exact BK272.out⟩, ⟨by repeat (first | (with_reducible first | exact HB.out | apply bwa | apply pbN | apply bd1 | refine bws ?_ GE272.out) | exact HB.out)⟩⟩
    · replace c5 := Bool.eq_false_iff.mpr c5
      subst c5
      have H1 : (block_Right.j0 k true a0_0 a0_1 a0_2 a0_3 l0_4) = some r := by rw [if_neg (show ¬ (false = true) by decide)] at H; exact H
      clear H
      have H := H1
      clear H1
      have H' := As0.mk H
      clear H
      have hcz11_0 : w3.cell? ⟨gb272, 0, none⟩ = some (.int .i64 a0_0) := (bkc BK272.out 0).trans rfl
      have hcz11_1 : w3.cell? ⟨gb272, 1, none⟩ = some (.int .i64 a0_1) := (bkc BK272.out 1).trans rfl
      have hcz11_2 : w3.cell? ⟨gb272, 2, none⟩ = some (.int .i64 a0_2) := (bkc BK272.out 2).trans rfl
      have hcz11_3 : w3.cell? ⟨gb272, 3, none⟩ = some (.int .i64 a0_3) := (bkc BK272.out 3).trans rfl
      have hcz11_4 : w3.cell? ⟨gb272, 4, none⟩ = some (.slice A0_4 l0_4.length c0_4) := (bkc BK272.out 4).trans rfl
      have hfz11_0 := bkf BK272.out 0
      have hfz11_1 := bkf BK272.out 1
      have hfz11_2 := bkf BK272.out 2
      have hfz11_3 := bkf BK272.out 3
      have hfz11_4 := bkf BK272.out 4
      go_wp2_with (first | ((with_reducible refine gtc (f := 66) rfl ?_); refine goesL_ (some 7) rfl rfl Tryz.func66 (by kernel_rfl) rfl #[.int .i64 a0_0, .int .i64 1, .int .i64 4095] rfl (by (try simp only [List.map_toArray, List.map_cons, List.map_nil]); first | done | rfl | (simp only [List.length_drop, List.length_take]; rfl)) ?_; (with_reducible refine (block_between.calls a0_0 1 4095 false _ A4.out).mono ?_); rintro e w' ⟨rfl, ⟨nd, rfl⟩⟩; refine ⟨_, rfl, ?_⟩))
      go_meet
      case rel => exact ⟨_, (true), (by first | rfl | (simp; done) | (simp [*]; done)), H', ⟨by first | omega | exact Nat.le_refl _⟩, ⟨by (with_reducible repeat (first | refine bkN ?_ _ | refine bkd ?_ | refine bka ?_ _)); exact BK272.out⟩, ⟨by repeat (first | (with_reducible first | exact HB.out | apply bwa | apply pbN | apply bd1 | refine bws ?_ GE272.out) | exact HB.out)⟩⟩
  case rest =>
    clear HC2
    try clear p2
    try clear c4
    try clear c5
    try clear c6
    try clear c7
    try clear hcz10_0
    try clear hcz10_1
    try clear hcz10_2
    try clear hcz10_3
    try clear hcz10_4
    try clear hcz11_0
    try clear hcz11_1
    try clear hcz11_2
    try clear hcz11_3
    try clear hcz11_4
    try clear hcz9_0
    try clear hcz9_1
    try clear hcz9_2
    try clear hcz9_3
    try clear hcz9_4
    try clear hfz10_0
    try clear hfz10_1
    try clear hfz10_2
    try clear hfz10_3
    try clear hfz10_4
    try clear hfz11_0
    try clear hfz11_1
    try clear hfz11_2
    try clear hfz11_3
    try clear hfz11_4
    try clear hfz9_0
    try clear hfz9_1
    try clear hfz9_2
    try clear hfz9_3
    try clear hfz9_4
    obtain ⟨kq, x20_1, rfl, HA, HJ1, BK272, HB⟩ := hcut
    cases kq with
    | zero => exact absurd HA.out (by simp [block_Right.j0])
    | succ kj1 =>
      have H := HA.out
      clear HA
      simp only [block_Right.j0] at H
      by_cases c12 : x20_1 = true
      · subst c12
        have H1 : (some false) = some r := by rw [if_pos rfl] at H; exact H
        clear H
        have H := H1
        clear H1
        obtain rfl := Option.some.inj H
        go_wp2
        go_ret
        exact ⟨by first | rfl | (simp [eWn, eWs] <;> rfl) | (simp [*, eWn, eWs] <;> rfl), by repeat (first | (with_reducible first | exact HB.out | apply bwa | apply pbN | apply bd1 | refine bws ?_ GE272.out) | exact HB.out)⟩
      · replace c12 := Bool.eq_false_iff.mpr c12
        subst c12
        have H1 : (if a0_3 = 0 then ((tx_List.f kj1 l0_4).bind fun bt276 => (some (bt276.2 == 0))) else ((block_named.f a0_3).bind fun t280 => (if t280 = true then (if (wrap64 (Int.tdiv a0_3 65536)) ≥ a0_0 then (some false) else ((tx_List.f kj1 l0_4).bind fun bt281 => (some (bt281.2 == 0)))) else (some false)))) = some r := by rw [if_neg (show ¬ (false = true) by decide)] at H; exact H
        clear H
        have H := H1
        clear H1
        by_cases c13 : a0_3 = 0
        · rw [if_pos c13] at H
          have c13b0 : (a0_3 == 0) = true := beq_iff_eq.mpr c13
          have c13b1 : (a0_3 != 0) = false := bne_eq_false_iff_eq.mpr c13
          clear c13
          replace H := Option.bind_eq_some_iff.mp H
          obtain ⟨⟨t276, t277⟩, A140, H⟩ := H
          replace H : (some (t277 == 0)) = some r := H
          have A14 := As0.mk A140
          clear A140
          obtain rfl := Option.some.inj H
          have hcz15_0 : wc.cell? ⟨gb272, 0, none⟩ = some (.int .i64 a0_0) := (bkc BK272.out 0).trans rfl
          have hcz15_1 : wc.cell? ⟨gb272, 1, none⟩ = some (.int .i64 a0_1) := (bkc BK272.out 1).trans rfl
          have hcz15_2 : wc.cell? ⟨gb272, 2, none⟩ = some (.int .i64 a0_2) := (bkc BK272.out 2).trans rfl
          have hcz15_3 : wc.cell? ⟨gb272, 3, none⟩ = some (.int .i64 a0_3) := (bkc BK272.out 3).trans rfl
          have hcz15_4 : wc.cell? ⟨gb272, 4, none⟩ = some (.slice A0_4 l0_4.length c0_4) := (bkc BK272.out 4).trans rfl
          have hfz15_0 := bkf BK272.out 0
          have hfz15_1 := bkf BK272.out 1
          have hfz15_2 := bkf BK272.out 2
          have hfz15_3 := bkf BK272.out 3
          have hfz15_4 := bkf BK272.out 4
          go_wp2_with (first | ((with_reducible refine gtc (f := 67) rfl ?_); refine goesL_ (some 41) rfl rfl Tryz.func67 (by kernel_rfl) rfl #[.slice A0_4 l0_4.length c0_4] rfl (by (try simp only [List.map_toArray, List.map_cons, List.map_nil]); first | done | rfl | (simp only [List.length_drop, List.length_take]; rfl)) ?_; (with_reducible refine (tx_List.calls kj1 _ _ l0_4 t276 t277 _ ?side1 ?side2 A14.out).mono ?_); (case side1 => repeat (first | exact (Kd.C_below HR0_4.out HB.out) | (with_reducible refine Kd.C_alloc ?_ _) | (with_reducible refine Kd.C_drewN ?_ _) | (with_reducible refine Kd.C_drew ?_))); (case side2 => exact HC0_4.out); rintro e w16 ⟨v278, rfl, ho0, hb⟩; refine ⟨_, rfl, ?_⟩; have n0_ := As0.mk (Kd.R_lower ho0 (bwz (by repeat (first | (with_reducible first | exact HB.out | apply bwa | apply pbN | apply bd1 | refine bws ?_ GE272.out) | exact HB.out)))); have n1_ := As0.mk (blk_below (g := gb272) (o := .cells #[.int .i64 a0_0, .int .i64 a0_1, .int .i64 a0_2, .int .i64 a0_3, .slice A0_4 l0_4.length c0_4] 35 (0, 0)) (by (with_reducible repeat (first | refine bkN ?_ _ | refine bkd ?_ | refine bka ?_ _)); exact BK272.out) hb); have n2_ := As0.mk (bwp (by repeat (first | (with_reducible first | exact HB.out | apply bwa | apply pbN | apply bd1 | refine bws ?_ GE272.out) | exact HB.out)) hb); clear BK272; clear HB; have HO279 := n0_; have BK272 := n1_; have HB := n2_; clear n0_ n1_ n2_; (try clear hb); (try clear hb2); (try clear hk); (try clear hi); (try clear ho0)))
          go_ret
          exact ⟨by first | rfl | (simp [eWn, eWs] <;> rfl) | (simp [*, eWn, eWs] <;> rfl), by repeat (first | (with_reducible first | exact HB.out | apply bwa | apply pbN | apply bd1 | refine bws ?_ GE272.out) | exact HB.out)⟩
        · rw [if_neg c13] at H
          have c13b0 : (a0_3 == 0) = false := beq_eq_false_iff_ne.mpr c13
          have c13b1 : (a0_3 != 0) = true := bne_iff_ne.mpr c13
          replace H := Option.bind_eq_some_iff.mp H
          obtain ⟨t280, A170, H⟩ := H
          replace H : (if t280 = true then (if (wrap64 (Int.tdiv a0_3 65536)) ≥ a0_0 then (some false) else ((tx_List.f kj1 l0_4).bind fun bt281 => (some (bt281.2 == 0)))) else (some false)) = some r := H
          have A17 := As0.mk A170
          clear A170
          by_cases c18 : t280 = true
          · subst c18
            have H1 : (if (wrap64 (Int.tdiv a0_3 65536)) ≥ a0_0 then (some false) else ((tx_List.f kj1 l0_4).bind fun bt281 => (some (bt281.2 == 0)))) = some r := by rw [if_pos rfl] at H; exact H
            clear H
            have H := H1
            clear H1
            by_cases c19 : (wrap64 (Int.tdiv a0_3 65536)) ≥ a0_0
            · rw [if_pos c19] at H
              have c19b0 : decide (a0_0 ≤ (wrap64 (Int.tdiv a0_3 65536))) = true := decide_eq_true c19
              clear c19
              obtain rfl := Option.some.inj H
              have hcz20_0 : wc.cell? ⟨gb272, 0, none⟩ = some (.int .i64 a0_0) := (bkc BK272.out 0).trans rfl
              have hcz20_1 : wc.cell? ⟨gb272, 1, none⟩ = some (.int .i64 a0_1) := (bkc BK272.out 1).trans rfl
              have hcz20_2 : wc.cell? ⟨gb272, 2, none⟩ = some (.int .i64 a0_2) := (bkc BK272.out 2).trans rfl
              have hcz20_3 : wc.cell? ⟨gb272, 3, none⟩ = some (.int .i64 a0_3) := (bkc BK272.out 3).trans rfl
              have hcz20_4 : wc.cell? ⟨gb272, 4, none⟩ = some (.slice A0_4 l0_4.length c0_4) := (bkc BK272.out 4).trans rfl
              have hfz20_0 := bkf BK272.out 0
              have hfz20_1 := bkf BK272.out 1
              have hfz20_2 := bkf BK272.out 2
              have hfz20_3 := bkf BK272.out 3
              have hfz20_4 := bkf BK272.out 4
              go_wp2_with (first | (go_at_call 64; (with_reducible refine (block_named.calls a0_3 true _ A17.out).mono ?_); rintro e w' ⟨rfl, ⟨nd, rfl⟩⟩))
              go_ret
              exact ⟨by first | rfl | (simp [eWn, eWs] <;> rfl) | (simp [*, eWn, eWs] <;> rfl), by repeat (first | (with_reducible first | exact HB.out | apply bwa | apply pbN | apply bd1 | refine bws ?_ GE272.out) | exact HB.out)⟩
            · rw [if_neg c19] at H
              have c19b0 : decide (a0_0 ≤ (wrap64 (Int.tdiv a0_3 65536))) = false := decide_eq_false c19
              clear c19
              replace H := Option.bind_eq_some_iff.mp H
              obtain ⟨⟨t281, t282⟩, A210, H⟩ := H
              replace H : (some (t282 == 0)) = some r := H
              have A21 := As0.mk A210
              clear A210
              obtain rfl := Option.some.inj H
              have hcz22_0 : wc.cell? ⟨gb272, 0, none⟩ = some (.int .i64 a0_0) := (bkc BK272.out 0).trans rfl
              have hcz22_1 : wc.cell? ⟨gb272, 1, none⟩ = some (.int .i64 a0_1) := (bkc BK272.out 1).trans rfl
              have hcz22_2 : wc.cell? ⟨gb272, 2, none⟩ = some (.int .i64 a0_2) := (bkc BK272.out 2).trans rfl
              have hcz22_3 : wc.cell? ⟨gb272, 3, none⟩ = some (.int .i64 a0_3) := (bkc BK272.out 3).trans rfl
              have hcz22_4 : wc.cell? ⟨gb272, 4, none⟩ = some (.slice A0_4 l0_4.length c0_4) := (bkc BK272.out 4).trans rfl
              have hfz22_0 := bkf BK272.out 0
              have hfz22_1 := bkf BK272.out 1
              have hfz22_2 := bkf BK272.out 2
              have hfz22_3 := bkf BK272.out 3
              have hfz22_4 := bkf BK272.out 4
              go_wp2_with (first | (go_at_call 64; (with_reducible refine (block_named.calls a0_3 true _ A17.out).mono ?_); rintro e w' ⟨rfl, ⟨nd, rfl⟩⟩) | ((with_reducible refine gtc (f := 67) rfl ?_); refine goesL_ (some 41) rfl rfl Tryz.func67 (by kernel_rfl) rfl #[.slice A0_4 l0_4.length c0_4] rfl (by (try simp only [List.map_toArray, List.map_cons, List.map_nil]); first | done | rfl | (simp only [List.length_drop, List.length_take]; rfl)) ?_; (with_reducible refine (tx_List.calls kj1 _ _ l0_4 t281 t282 _ ?side1 ?side2 A21.out).mono ?_); (case side1 => repeat (first | exact (Kd.C_below HR0_4.out (by repeat (first | (with_reducible first | exact HB.out | apply bwa | apply pbN | apply bd1 | refine bws ?_ GE272.out) | exact HB.out))) | (with_reducible refine Kd.C_alloc ?_ _) | (with_reducible refine Kd.C_drewN ?_ _) | (with_reducible refine Kd.C_drew ?_))); (case side2 => exact HC0_4.out); rintro e w23 ⟨v283, rfl, ho0, hb⟩; refine ⟨_, rfl, ?_⟩; have n0_ := As0.mk (Kd.R_lower ho0 (bwz (by repeat (first | (with_reducible first | exact HB.out | apply bwa | apply pbN | apply bd1 | refine bws ?_ GE272.out) | exact HB.out)))); have n1_ := As0.mk (blk_below (g := gb272) (o := .cells #[.int .i64 a0_0, .int .i64 a0_1, .int .i64 a0_2, .int .i64 a0_3, .slice A0_4 l0_4.length c0_4] 35 (0, 0)) (by (with_reducible repeat (first | refine bkN ?_ _ | refine bkd ?_ | refine bka ?_ _)); exact BK272.out) hb); have n2_ := As0.mk (bwp (by repeat (first | (with_reducible first | exact HB.out | apply bwa | apply pbN | apply bd1 | refine bws ?_ GE272.out) | exact HB.out)) hb); clear BK272; clear HB; have HO284 := n0_; have BK272 := n1_; have HB := n2_; clear n0_ n1_ n2_; (try clear hb); (try clear hb2); (try clear hk); (try clear hi); (try clear ho0)))
              go_ret
              exact ⟨by first | rfl | (simp [eWn, eWs] <;> rfl) | (simp [*, eWn, eWs] <;> rfl), by repeat (first | (with_reducible first | exact HB.out | apply bwa | apply pbN | apply bd1 | refine bws ?_ GE272.out) | exact HB.out)⟩
          · replace c18 := Bool.eq_false_iff.mpr c18
            subst c18
            have H1 : (some false) = some r := by rw [if_neg (show ¬ (false = true) by decide)] at H; exact H
            clear H
            have H := H1
            clear H1
            obtain rfl := Option.some.inj H
            have hcz24_0 : wc.cell? ⟨gb272, 0, none⟩ = some (.int .i64 a0_0) := (bkc BK272.out 0).trans rfl
            have hcz24_1 : wc.cell? ⟨gb272, 1, none⟩ = some (.int .i64 a0_1) := (bkc BK272.out 1).trans rfl
            have hcz24_2 : wc.cell? ⟨gb272, 2, none⟩ = some (.int .i64 a0_2) := (bkc BK272.out 2).trans rfl
            have hcz24_3 : wc.cell? ⟨gb272, 3, none⟩ = some (.int .i64 a0_3) := (bkc BK272.out 3).trans rfl
            have hcz24_4 : wc.cell? ⟨gb272, 4, none⟩ = some (.slice A0_4 l0_4.length c0_4) := (bkc BK272.out 4).trans rfl
            have hfz24_0 := bkf BK272.out 0
            have hfz24_1 := bkf BK272.out 1
            have hfz24_2 := bkf BK272.out 2
            have hfz24_3 := bkf BK272.out 3
            have hfz24_4 := bkf BK272.out 4
            go_wp2_with (first | (go_at_call 64; (with_reducible refine (block_named.calls a0_3 false _ A17.out).mono ?_); rintro e w' ⟨rfl, ⟨nd, rfl⟩⟩))
            go_ret
            exact ⟨by first | rfl | (simp [eWn, eWs] <;> rfl) | (simp [*, eWn, eWs] <;> rfl), by repeat (first | (with_reducible first | exact HB.out | apply bwa | apply pbN | apply bd1 | refine bws ?_ GE272.out) | exact HB.out)⟩
def block_Name.f (k : Nat) (a0_0 : Int) (a0_1 : Int) (a0_2 : Int) (a0_3 : Int) (l0_4 : List (S67)) : Option (Int) := (block_Right.f k a0_0 a0_1 a0_2 a0_3 l0_4).bind fun t286 => (if t286 = true then (some (wrap64 ((wrap64 ((wrap64 (a0_0 * 65536)) + (wrap64 (a0_1 * 256)))) + a0_2))) else (some 0))
set_option maxHeartbeats 8000000 in
set_option maxRecDepth 100000 in
theorem block_Name.calls (k : Nat) (a0_0 : Int) (a0_1 : Int) (a0_2 : Int) (a0_3 : Int) (A0_4 : Option Addr) (c0_4 : Nat) (l0_4 : List (S67)) (r : Int) (w : World) (hr0_4 : Kd.C k67 w A0_4 l0_4.length l0_4) (hc0_4 : l0_4.length ≤ c0_4) (h : block_Name.f k a0_0 a0_1 a0_2 a0_3 l0_4 = some r) :
    Calls Tryz.prog 70 #[.agg #[.int .i64 a0_0, .int .i64 a0_1, .int .i64 a0_2, .int .i64 a0_3, .slice A0_4 l0_4.length c0_4]] w fun e w' => e = .returned (.int .i64 r) ∧ Below w.heap.size w w' := by
  have hu35 := Tryz.underlying35
  have HR0_4 := As0.mk hr0_4
  have HC0_4 := As0.mk hc0_4
  clear hr0_4 hc0_4
  have HB := As0.mk (Below.refl w.heap.size w)
  have H : ((block_Right.f k a0_0 a0_1 a0_2 a0_3 l0_4).bind fun t286 => (if t286 = true then (some (wrap64 ((wrap64 ((wrap64 (a0_0 * 65536)) + (wrap64 (a0_1 * 256)))) + a0_2))) else (some 0))) = some r := h
  clear h
  replace H := Option.bind_eq_some_iff.mp H
  obtain ⟨t286, A20, H⟩ := H
  replace H : (if t286 = true then (some (wrap64 ((wrap64 ((wrap64 (a0_0 * 65536)) + (wrap64 (a0_1 * 256)))) + a0_2))) else (some 0)) = some r := H
  have A2 := As0.mk A20
  clear A20
  by_cases c3 : t286 = true
  · subst c3
    have H1 : (some (wrap64 ((wrap64 ((wrap64 (a0_0 * 65536)) + (wrap64 (a0_1 * 256)))) + a0_2))) = some r := by rw [if_pos rfl] at H; exact H
    clear H
    have H := H1
    clear H1
    obtain rfl := Option.some.inj H
    go_enter Tryz.func70, Tryz.ntmps70
    go_wp2_with (first | ((with_reducible refine gate_dst (N := 1) rfl ?_); refine bxe ?hg (N := 1) ?hd (cs := #[.int .i64 a0_0, .int .i64 a0_1, .int .i64 a0_2, .int .i64 a0_3, .slice A0_4 l0_4.length c0_4]) (t := 35) ?hr ?_; (case hd => rfl); (case hg => rfl); (case hr => first | (go_simp; done) | (go_simp; rfl)); intro gb285 hg w4 hbox hb; have n0_ := As0.mk (bwp (by repeat (first | (with_reducible first | exact HB.out | apply bwa | apply pbN | apply bd1) | exact HB.out)) hb); have n1_ := As0.mk (hbox); have n2_ := As0.mk ((by rw [hg]; exact (bwz (by repeat (first | (with_reducible first | exact HB.out | apply bwa | apply pbN | apply bd1) | exact HB.out))) : w.heap.size ≤ gb285)); have n3_ := As0.mk ((by rw [hg]; exact (bwz (by repeat (first | (with_reducible first | exact HB.out | apply bwa | apply pbN | apply bd1) | exact HB.out))) : w.heap.size ≤ gb285)); clear HB; have HB := n0_; have BK285 := n1_; have GW285 := n2_; have GE285 := n3_; clear n0_ n1_ n2_ n3_; clear hb hbox hg; have hcz5_0 : w4.cell? ⟨gb285, 0, none⟩ = some (.int .i64 a0_0) := (bkc BK285.out 0).trans rfl; have hcz5_1 : w4.cell? ⟨gb285, 1, none⟩ = some (.int .i64 a0_1) := (bkc BK285.out 1).trans rfl; have hcz5_2 : w4.cell? ⟨gb285, 2, none⟩ = some (.int .i64 a0_2) := (bkc BK285.out 2).trans rfl; have hcz5_3 : w4.cell? ⟨gb285, 3, none⟩ = some (.int .i64 a0_3) := (bkc BK285.out 3).trans rfl; have hcz5_4 : w4.cell? ⟨gb285, 4, none⟩ = some (.slice A0_4 l0_4.length c0_4) := (bkc BK285.out 4).trans rfl; have hfz5_0 := bkf BK285.out 0; have hfz5_1 := bkf BK285.out 1; have hfz5_2 := bkf BK285.out 2; have hfz5_3 := bkf BK285.out 3; have hfz5_4 := bkf BK285.out 4) | ((with_reducible refine gtc (f := 40) rfl ?_); refine goesL_ (some 4) rfl rfl Tryz.func40 (by kernel_rfl) rfl #[.agg #[.int .i64 a0_0, .int .i64 a0_1, .int .i64 a0_2, .int .i64 a0_3, .slice A0_4 l0_4.length c0_4]] rfl (by (try simp only [List.map_toArray, List.map_cons, List.map_nil]); first | done | rfl | (simp only [List.length_drop, List.length_take]; rfl)) ?_; (with_reducible refine (block_Right.calls k a0_0 a0_1 a0_2 a0_3 _ _ l0_4 true _ ?side1 ?side2 A2.out).mono ?_); (case side1 => repeat (first | exact (Kd.C_below HR0_4.out HB.out) | (with_reducible refine Kd.C_alloc ?_ _) | (with_reducible refine Kd.C_drewN ?_ _) | (with_reducible refine Kd.C_drew ?_))); (case side2 => exact HC0_4.out); rintro e w6 ⟨rfl, hb⟩; refine ⟨_, rfl, ?_⟩; have n0_ := As0.mk (blk_below (g := gb285) (o := .cells #[.int .i64 a0_0, .int .i64 a0_1, .int .i64 a0_2, .int .i64 a0_3, .slice A0_4 l0_4.length c0_4] 35 (0, 0)) (by (with_reducible repeat (first | refine bkN ?_ _ | refine bkd ?_ | refine bka ?_ _)); exact BK285.out) hb); have n1_ := As0.mk (bwp (by repeat (first | (with_reducible first | exact HB.out | apply bwa | apply pbN | apply bd1 | refine bws ?_ GE285.out) | exact HB.out)) hb); clear BK285; clear HB; have BK285 := n0_; have HB := n1_; clear n0_ n1_; (try clear hb); (try clear hb2); (try clear hk); (try clear hi); have hcz7_0 : w6.cell? ⟨gb285, 0, none⟩ = some (.int .i64 a0_0) := (bkc BK285.out 0).trans rfl; have hcz7_1 : w6.cell? ⟨gb285, 1, none⟩ = some (.int .i64 a0_1) := (bkc BK285.out 1).trans rfl; have hcz7_2 : w6.cell? ⟨gb285, 2, none⟩ = some (.int .i64 a0_2) := (bkc BK285.out 2).trans rfl; have hcz7_3 : w6.cell? ⟨gb285, 3, none⟩ = some (.int .i64 a0_3) := (bkc BK285.out 3).trans rfl; have hcz7_4 : w6.cell? ⟨gb285, 4, none⟩ = some (.slice A0_4 l0_4.length c0_4) := (bkc BK285.out 4).trans rfl; have hfz7_0 := bkf BK285.out 0; have hfz7_1 := bkf BK285.out 1; have hfz7_2 := bkf BK285.out 2; have hfz7_3 := bkf BK285.out 3; have hfz7_4 := bkf BK285.out 4))
    go_ret
    exact ⟨by first | rfl | (simp [eWn, eWs] <;> rfl) | (simp [*, eWn, eWs] <;> rfl), by repeat (first | (with_reducible first | exact HB.out | apply bwa | apply pbN | apply bd1 | refine bws ?_ GE285.out) | exact HB.out)⟩
  · replace c3 := Bool.eq_false_iff.mpr c3
    subst c3
    have H1 : (some 0) = some r := by rw [if_neg (show ¬ (false = true) by decide)] at H; exact H
    clear H
    have H := H1
    clear H1
    obtain rfl := Option.some.inj H
    go_enter Tryz.func70, Tryz.ntmps70
    go_wp2_with (first | ((with_reducible refine gate_dst (N := 1) rfl ?_); refine bxe ?hg (N := 1) ?hd (cs := #[.int .i64 a0_0, .int .i64 a0_1, .int .i64 a0_2, .int .i64 a0_3, .slice A0_4 l0_4.length c0_4]) (t := 35) ?hr ?_; (case hd => rfl); (case hg => rfl); (case hr => first | (go_simp; done) | (go_simp; rfl)); intro gb285 hg w8 hbox hb; have n0_ := As0.mk (bwp (by repeat (first | (with_reducible first | exact HB.out | apply bwa | apply pbN | apply bd1) | exact HB.out)) hb); have n1_ := As0.mk (hbox); have n2_ := As0.mk ((by rw [hg]; exact (bwz (by repeat (first | (with_reducible first | exact HB.out | apply bwa | apply pbN | apply bd1) | exact HB.out))) : w.heap.size ≤ gb285)); have n3_ := As0.mk ((by rw [hg]; exact (bwz (by repeat (first | (with_reducible first | exact HB.out | apply bwa | apply pbN | apply bd1) | exact HB.out))) : w.heap.size ≤ gb285)); clear HB; have HB := n0_; have BK285 := n1_; have GW285 := n2_; have GE285 := n3_; clear n0_ n1_ n2_ n3_; clear hb hbox hg; have hcz9_0 : w8.cell? ⟨gb285, 0, none⟩ = some (.int .i64 a0_0) := (bkc BK285.out 0).trans rfl; have hcz9_1 : w8.cell? ⟨gb285, 1, none⟩ = some (.int .i64 a0_1) := (bkc BK285.out 1).trans rfl; have hcz9_2 : w8.cell? ⟨gb285, 2, none⟩ = some (.int .i64 a0_2) := (bkc BK285.out 2).trans rfl; have hcz9_3 : w8.cell? ⟨gb285, 3, none⟩ = some (.int .i64 a0_3) := (bkc BK285.out 3).trans rfl; have hcz9_4 : w8.cell? ⟨gb285, 4, none⟩ = some (.slice A0_4 l0_4.length c0_4) := (bkc BK285.out 4).trans rfl; have hfz9_0 := bkf BK285.out 0; have hfz9_1 := bkf BK285.out 1; have hfz9_2 := bkf BK285.out 2; have hfz9_3 := bkf BK285.out 3; have hfz9_4 := bkf BK285.out 4) | ((with_reducible refine gtc (f := 40) rfl ?_); refine goesL_ (some 4) rfl rfl Tryz.func40 (by kernel_rfl) rfl #[.agg #[.int .i64 a0_0, .int .i64 a0_1, .int .i64 a0_2, .int .i64 a0_3, .slice A0_4 l0_4.length c0_4]] rfl (by (try simp only [List.map_toArray, List.map_cons, List.map_nil]); first | done | rfl | (simp only [List.length_drop, List.length_take]; rfl)) ?_; (with_reducible refine (block_Right.calls k a0_0 a0_1 a0_2 a0_3 _ _ l0_4 false _ ?side1 ?side2 A2.out).mono ?_); (case side1 => repeat (first | exact (Kd.C_below HR0_4.out HB.out) | (with_reducible refine Kd.C_alloc ?_ _) | (with_reducible refine Kd.C_drewN ?_ _) | (with_reducible refine Kd.C_drew ?_))); (case side2 => exact HC0_4.out); rintro e w10 ⟨rfl, hb⟩; refine ⟨_, rfl, ?_⟩; have n0_ := As0.mk (blk_below (g := gb285) (o := .cells #[.int .i64 a0_0, .int .i64 a0_1, .int .i64 a0_2, .int .i64 a0_3, .slice A0_4 l0_4.length c0_4] 35 (0, 0)) (by (with_reducible repeat (first | refine bkN ?_ _ | refine bkd ?_ | refine bka ?_ _)); exact BK285.out) hb); have n1_ := As0.mk (bwp (by repeat (first | (with_reducible first | exact HB.out | apply bwa | apply pbN | apply bd1 | refine bws ?_ GE285.out) | exact HB.out)) hb); clear BK285; clear HB; have BK285 := n0_; have HB := n1_; clear n0_ n1_; (try clear hb); (try clear hb2); (try clear hk); (try clear hi)))
    go_ret
    exact ⟨by first | rfl | (simp [eWn, eWs] <;> rfl) | (simp [*, eWn, eWs] <;> rfl), by repeat (first | (with_reducible first | exact HB.out | apply bwa | apply pbN | apply bd1 | refine bws ?_ GE285.out) | exact HB.out)⟩
def neaptideref10_Check.l0 : Nat → List Int → Int → Int → Option (Int)
  | 0, _, _, _ => none
  | k + 1, x8, x9, x10 => if x10 < x9 then (if 0 ≤ x10 then (if x10 < (x8.length : Int) then (if (rd x8 x10) < 0 then (some 101) else (if (rd x8 x10) > 127 then (some 101) else (neaptideref10_Check.l0 k x8 x9 (wrap64 (x10 + 1))))) else (none)) else (none)) else (some 0)
def neaptideref10_Check.f (k : Nat) (l0 : List Int) : Option (Int) := if (l0.length : Int) > 200 then (some 101) else (neaptideref10_Check.l0 k l0 (l0.length : Int) 0)
set_option maxHeartbeats 8000000 in
set_option maxRecDepth 100000 in
theorem neaptideref10_Check.calls (k : Nat) (A0 : Option Addr) (c0 : Nat) (l0 : List Int) (r : Int) (w : World) (hr0 : Kd.C (Kd.int .i64) w A0 l0.length l0) (hc0 : l0.length ≤ c0) (h : neaptideref10_Check.f k l0 = some r) :
    Calls Tryz.prog 7 #[.slice A0 l0.length c0] w fun e w' => e = .returned (.int .i64 r) ∧ Drawn0 w w' := by
  have HR0 := As0.mk hr0
  have HC0 := As0.mk hc0
  clear hr0 hc0
  have H : (if (l0.length : Int) > 200 then (some 101) else (neaptideref10_Check.l0 k l0 (l0.length : Int) 0)) = some r := h
  clear h
  by_cases c2 : (l0.length : Int) > 200
  · rw [if_pos c2] at H
    have c2b0 : decide (200 < (l0.length : Int)) = true := decide_eq_true c2
    have c2b1 : decide (200 < l0.length) = true := decide_eq_true (by omega)
    clear c2
    obtain rfl := Option.some.inj H
    go_enter Tryz.func7, Tryz.ntmps7
    go_wp2
    go_ret
    exact ⟨by first | rfl | (simp; done) | (simp [*]; done), by repeat (first | exact Drawn0.refl _ | apply Drawn0.step)⟩
  · rw [if_neg c2] at H
    have c2b0 : decide (200 < (l0.length : Int)) = false := decide_eq_false c2
    have c2b1 : decide (200 < l0.length) = false := decide_eq_false (by omega)
    clear c2
    have H' := As0.mk H
    clear H
    go_enter Tryz.func7, Tryz.ntmps7
    go_wp2
    go_loopg [10] k (fun kq v10 w' => ∃ (x10_1 : Int), v10 = .int .i64 x10_1 ∧ As0 (neaptideref10_Check.l0 kq l0 (l0.length : Int) x10_1 = some r) ∧ As0 (kq ≤ k) ∧ Drawn0 w w')
    case atStart => exact ⟨(0), (by first | rfl | (simp; done) | (simp [*]; done)), H', ⟨Nat.le_refl _⟩, by repeat (first | exact Drawn0.refl _ | apply Drawn0.step)⟩
    case round =>
      clear H'
      try clear c2
      try clear c2b0
      try clear c2b1
      try clear p2
      obtain ⟨x10_1, rfl, HA, HK1, ⟨m1, rfl⟩⟩ := hrel
      cases gk with
      | zero => exact absurd HA.out (by simp [neaptideref10_Check.l0])
      | succ k1 =>
        have H := HA.out
        clear HA
        simp only [neaptideref10_Check.l0] at H
        by_cases c3 : x10_1 < (l0.length : Int)
        · rw [if_pos c3] at H
          have c3b0 : decide (x10_1 < (l0.length : Int)) = true := decide_eq_true c3
          clear c3
          by_cases c4 : 0 ≤ x10_1
          · rw [if_pos c4] at H
            have c4b0 : decide (0 ≤ x10_1) = true := decide_eq_true c4
            clear c4
            by_cases c5 : x10_1 < (l0.length : Int)
            · rw [if_pos c5] at H
              have c5b0 : decide (x10_1 < (l0.length : Int)) = true := decide_eq_true c5
              clear c5
              by_cases c6 : (rd l0 x10_1) < 0
              · rw [if_pos c6] at H
                have c6b0 : decide ((rd l0 x10_1) < 0) = true := decide_eq_true c6
                clear c6
                obtain rfl := Option.some.inj H
                have p291 : 0 ≤ (x10_1 : Int) := of_decide_eq_true (by first | (with_reducible assumption) | assumption)
                have q291 : x10_1 < (l0.length : Int) := of_decide_eq_true (by first | (with_reducible assumption) | assumption)
                obtain ⟨ad291, e291, hx291_0⟩ := Kd.at_int HR0.out x10_1 p291 q291
                cases e291
                replace p291 := eq_true p291
                replace q291 := eq_true q291
                go_wp2
                go_ret
                exact ⟨by first | rfl | (simp; done) | (simp [*]; done), by repeat (first | exact Drawn0.refl _ | apply Drawn0.step)⟩
              · rw [if_neg c6] at H
                have c6b0 : decide ((rd l0 x10_1) < 0) = false := decide_eq_false c6
                clear c6
                by_cases c7 : (rd l0 x10_1) > 127
                · rw [if_pos c7] at H
                  have c7b0 : decide (127 < (rd l0 x10_1)) = true := decide_eq_true c7
                  clear c7
                  obtain rfl := Option.some.inj H
                  have p291 : 0 ≤ (x10_1 : Int) := of_decide_eq_true (by first | (with_reducible assumption) | assumption)
                  have q291 : x10_1 < (l0.length : Int) := of_decide_eq_true (by first | (with_reducible assumption) | assumption)
                  obtain ⟨ad291, e291, hx291_0⟩ := Kd.at_int HR0.out x10_1 p291 q291
                  cases e291
                  replace p291 := eq_true p291
                  replace q291 := eq_true q291
                  go_wp2
                  go_ret
                  exact ⟨by first | rfl | (simp; done) | (simp [*]; done), by repeat (first | exact Drawn0.refl _ | apply Drawn0.step)⟩
                · rw [if_neg c7] at H
                  have c7b0 : decide (127 < (rd l0 x10_1)) = false := decide_eq_false c7
                  clear c7
                  have H' := As0.mk H
                  clear H
                  have p291 : 0 ≤ (x10_1 : Int) := of_decide_eq_true (by first | (with_reducible assumption) | assumption)
                  have q291 : x10_1 < (l0.length : Int) := of_decide_eq_true (by first | (with_reducible assumption) | assumption)
                  obtain ⟨ad291, e291, hx291_0⟩ := Kd.at_int HR0.out x10_1 p291 q291
                  cases e291
                  replace p291 := eq_true p291
                  replace q291 := eq_true q291
                  go_wp2
                  go_roundg k1
                  case measure => have := HK1.out; omega
                  case rel => exact ⟨(wrap64 (x10_1 + 1)), (by first | rfl | (simp; done) | (simp [*]; done)), H', ⟨by have := HK1.out; omega⟩, by repeat (first | exact Drawn0.refl _ | apply Drawn0.step)⟩
            · rw [if_neg c5] at H
              exact absurd H (by simp)
          · rw [if_neg c4] at H
            exact absurd H (by simp)
        · rw [if_neg c3] at H
          have c3b0 : decide (x10_1 < (l0.length : Int)) = false := decide_eq_false c3
          clear c3
          obtain rfl := Option.some.inj H
          go_wp2
          go_ret
          exact ⟨by first | rfl | (simp; done) | (simp [*]; done), by repeat (first | exact Drawn0.refl _ | apply Drawn0.step)⟩
def neaptideref06_Right.f (a0_0 : Int) (a0_1 : Int) : Option (Bool) := if a0_0 > 0 then (if a0_0 ≤ 1000000 then (if a0_1 ≥ 0 then (some (decide (a0_1 ≤ 1000))) else (some false)) else (some false)) else (some false)
set_option maxHeartbeats 8000000 in
set_option maxRecDepth 100000 in
theorem neaptideref06_Right.calls (a0_0 : Int) (a0_1 : Int) (r : Bool) (w : World) (h : neaptideref06_Right.f a0_0 a0_1 = some r) :
    Calls Tryz.prog 93 #[.agg #[.int .i64 a0_0, .int .i64 a0_1]] w fun e w' => e = .returned (.bool r) ∧ Below w.heap.size w w' := by
  have hu67 := Tryz.underlying67
  have HB := As0.mk (Below.refl w.heap.size w)
  have H : (if a0_0 > 0 then (if a0_0 ≤ 1000000 then (if a0_1 ≥ 0 then (some (decide (a0_1 ≤ 1000))) else (some false)) else (some false)) else (some false)) = some r := h
  clear h
  by_cases c2 : a0_0 > 0
  · rw [if_pos c2] at H
    have c2b0 : decide (0 < a0_0) = true := decide_eq_true c2
    clear c2
    by_cases c3 : a0_0 ≤ 1000000
    · rw [if_pos c3] at H
      have c3b0 : decide (a0_0 ≤ 1000000) = true := decide_eq_true c3
      clear c3
      by_cases c4 : a0_1 ≥ 0
      · rw [if_pos c4] at H
        have c4b0 : decide (0 ≤ a0_1) = true := decide_eq_true c4
        clear c4
        obtain rfl := Option.some.inj H
        go_enter Tryz.func93, Tryz.ntmps93
        go_wp2_with (first | ((with_reducible refine gate_dst (N := 1) rfl ?_); refine bxe ?hg (N := 1) ?hd (cs := #[.int .i64 a0_0, .int .i64 a0_1]) (t := 67) ?hr ?_; (case hd => rfl); (case hg => rfl); (case hr => first | (go_simp; done) | (go_simp; rfl)); intro gb294 hg w5 hbox hb; have n0_ := As0.mk (bwp (by repeat (first | (with_reducible first | exact HB.out | apply bwa | apply pbN | apply bd1) | exact HB.out)) hb); have n1_ := As0.mk (hbox); have n2_ := As0.mk ((by rw [hg]; exact (bwz (by repeat (first | (with_reducible first | exact HB.out | apply bwa | apply pbN | apply bd1) | exact HB.out))) : w.heap.size ≤ gb294)); have n3_ := As0.mk ((by rw [hg]; exact (bwz (by repeat (first | (with_reducible first | exact HB.out | apply bwa | apply pbN | apply bd1) | exact HB.out))) : w.heap.size ≤ gb294)); clear HB; have HB := n0_; have BK294 := n1_; have GW294 := n2_; have GE294 := n3_; clear n0_ n1_ n2_ n3_; clear hb hbox hg; have hcz6_0 : w5.cell? ⟨gb294, 0, none⟩ = some (.int .i64 a0_0) := (bkc BK294.out 0).trans rfl; have hcz6_1 : w5.cell? ⟨gb294, 1, none⟩ = some (.int .i64 a0_1) := (bkc BK294.out 1).trans rfl; have hfz6_0 := bkf BK294.out 0; have hfz6_1 := bkf BK294.out 1))
        go_ret
        exact ⟨by first | rfl | (simp [eWn, eWs] <;> rfl) | (simp [*, eWn, eWs] <;> rfl), by repeat (first | (with_reducible first | exact HB.out | apply bwa | apply pbN | apply bd1 | refine bws ?_ GE294.out) | exact HB.out)⟩
      · rw [if_neg c4] at H
        have c4b0 : decide (0 ≤ a0_1) = false := decide_eq_false c4
        clear c4
        obtain rfl := Option.some.inj H
        go_enter Tryz.func93, Tryz.ntmps93
        go_wp2_with (first | ((with_reducible refine gate_dst (N := 1) rfl ?_); refine bxe ?hg (N := 1) ?hd (cs := #[.int .i64 a0_0, .int .i64 a0_1]) (t := 67) ?hr ?_; (case hd => rfl); (case hg => rfl); (case hr => first | (go_simp; done) | (go_simp; rfl)); intro gb294 hg w7 hbox hb; have n0_ := As0.mk (bwp (by repeat (first | (with_reducible first | exact HB.out | apply bwa | apply pbN | apply bd1) | exact HB.out)) hb); have n1_ := As0.mk (hbox); have n2_ := As0.mk ((by rw [hg]; exact (bwz (by repeat (first | (with_reducible first | exact HB.out | apply bwa | apply pbN | apply bd1) | exact HB.out))) : w.heap.size ≤ gb294)); have n3_ := As0.mk ((by rw [hg]; exact (bwz (by repeat (first | (with_reducible first | exact HB.out | apply bwa | apply pbN | apply bd1) | exact HB.out))) : w.heap.size ≤ gb294)); clear HB; have HB := n0_; have BK294 := n1_; have GW294 := n2_; have GE294 := n3_; clear n0_ n1_ n2_ n3_; clear hb hbox hg; have hcz8_0 : w7.cell? ⟨gb294, 0, none⟩ = some (.int .i64 a0_0) := (bkc BK294.out 0).trans rfl; have hcz8_1 : w7.cell? ⟨gb294, 1, none⟩ = some (.int .i64 a0_1) := (bkc BK294.out 1).trans rfl; have hfz8_0 := bkf BK294.out 0; have hfz8_1 := bkf BK294.out 1))
        go_ret
        exact ⟨by first | rfl | (simp [eWn, eWs] <;> rfl) | (simp [*, eWn, eWs] <;> rfl), by repeat (first | (with_reducible first | exact HB.out | apply bwa | apply pbN | apply bd1 | refine bws ?_ GE294.out) | exact HB.out)⟩
    · rw [if_neg c3] at H
      have c3b0 : decide (a0_0 ≤ 1000000) = false := decide_eq_false c3
      clear c3
      obtain rfl := Option.some.inj H
      go_enter Tryz.func93, Tryz.ntmps93
      go_wp2_with (first | ((with_reducible refine gate_dst (N := 1) rfl ?_); refine bxe ?hg (N := 1) ?hd (cs := #[.int .i64 a0_0, .int .i64 a0_1]) (t := 67) ?hr ?_; (case hd => rfl); (case hg => rfl); (case hr => first | (go_simp; done) | (go_simp; rfl)); intro gb294 hg w9 hbox hb; have n0_ := As0.mk (bwp (by repeat (first | (with_reducible first | exact HB.out | apply bwa | apply pbN | apply bd1) | exact HB.out)) hb); have n1_ := As0.mk (hbox); have n2_ := As0.mk ((by rw [hg]; exact (bwz (by repeat (first | (with_reducible first | exact HB.out | apply bwa | apply pbN | apply bd1) | exact HB.out))) : w.heap.size ≤ gb294)); have n3_ := As0.mk ((by rw [hg]; exact (bwz (by repeat (first | (with_reducible first | exact HB.out | apply bwa | apply pbN | apply bd1) | exact HB.out))) : w.heap.size ≤ gb294)); clear HB; have HB := n0_; have BK294 := n1_; have GW294 := n2_; have GE294 := n3_; clear n0_ n1_ n2_ n3_; clear hb hbox hg; have hcz10_0 : w9.cell? ⟨gb294, 0, none⟩ = some (.int .i64 a0_0) := (bkc BK294.out 0).trans rfl; have hcz10_1 : w9.cell? ⟨gb294, 1, none⟩ = some (.int .i64 a0_1) := (bkc BK294.out 1).trans rfl; have hfz10_0 := bkf BK294.out 0; have hfz10_1 := bkf BK294.out 1))
      go_ret
      exact ⟨by first | rfl | (simp [eWn, eWs] <;> rfl) | (simp [*, eWn, eWs] <;> rfl), by repeat (first | (with_reducible first | exact HB.out | apply bwa | apply pbN | apply bd1 | refine bws ?_ GE294.out) | exact HB.out)⟩
  · rw [if_neg c2] at H
    have c2b0 : decide (0 < a0_0) = false := decide_eq_false c2
    clear c2
    obtain rfl := Option.some.inj H
    go_enter Tryz.func93, Tryz.ntmps93
    go_wp2_with (first | ((with_reducible refine gate_dst (N := 1) rfl ?_); refine bxe ?hg (N := 1) ?hd (cs := #[.int .i64 a0_0, .int .i64 a0_1]) (t := 67) ?hr ?_; (case hd => rfl); (case hg => rfl); (case hr => first | (go_simp; done) | (go_simp; rfl)); intro gb294 hg w11 hbox hb; have n0_ := As0.mk (bwp (by repeat (first | (with_reducible first | exact HB.out | apply bwa | apply pbN | apply bd1) | exact HB.out)) hb); have n1_ := As0.mk (hbox); have n2_ := As0.mk ((by rw [hg]; exact (bwz (by repeat (first | (with_reducible first | exact HB.out | apply bwa | apply pbN | apply bd1) | exact HB.out))) : w.heap.size ≤ gb294)); have n3_ := As0.mk ((by rw [hg]; exact (bwz (by repeat (first | (with_reducible first | exact HB.out | apply bwa | apply pbN | apply bd1) | exact HB.out))) : w.heap.size ≤ gb294)); clear HB; have HB := n0_; have BK294 := n1_; have GW294 := n2_; have GE294 := n3_; clear n0_ n1_ n2_ n3_; clear hb hbox hg; have hcz12_0 : w11.cell? ⟨gb294, 0, none⟩ = some (.int .i64 a0_0) := (bkc BK294.out 0).trans rfl; have hcz12_1 : w11.cell? ⟨gb294, 1, none⟩ = some (.int .i64 a0_1) := (bkc BK294.out 1).trans rfl; have hfz12_0 := bkf BK294.out 0; have hfz12_1 := bkf BK294.out 1))
    go_ret
    exact ⟨by first | rfl | (simp [eWn, eWs] <;> rfl) | (simp [*, eWn, eWs] <;> rfl), by repeat (first | (with_reducible first | exact HB.out | apply bwa | apply pbN | apply bd1 | refine bws ?_ GE294.out) | exact HB.out)⟩
end Go.Proofs.YtlllhpnpgcphcaaGreat.PX
