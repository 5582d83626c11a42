/- What ChainRuns needs. -/
import Derived.Test.YtlllhpnpgcphcaaGreatQChainRunsPXx0
import Derived.Test.YtlllhpnpgcphcaaGreatQChainRunsPXx10
namespace Go.Proofs.YtlllhpnpgcphcaaGreat.PX
open Go.RowKit Go.Proofs.YtlllhpnpgcphcaaGreatW.PrintWords Go.Proofs.YtlllhpnpgcphcaaGreatW.PrintLast Go.Proofs.YtlllhpnpgcphcaaGreatW.PrintMore
attribute [local go_sem] max2_int min2_int max_two min_two max_three min_three max_four min_four   -- for this text's walks alone
set_option linter.unusedVariables false
set_option linter.unusedSimpArgs false
def neaptideref07_Right.j0 : Nat → Bool → Int → Int → Int → Int → List (S67) → Option (Bool)
  | 0, _, _, _, _, _, _ => none
  | k + 1, x36, x337000, x337001, x337002, x337003, x337004 => if x36 = true then (some false) else ((neaptideref06_List.f k x337004).bind fun bt337 => (if bt337.2 = 0 then (if x337003 = 0 then (some true) else ((neaptideref07_Parts.f x337003).bind fun bt341 => (if bt341.2.2.2 = true then (some (decide (bt341.1 < x337000))) else (some false)))) else (some false)))
def neaptideref07_Right.f (k : Nat) (a0_0 : Int) (a0_1 : Int) (a0_2 : Int) (a0_3 : Int) (l0_4 : List (S67)) : Option (Bool) := if a0_0 < 1 then (neaptideref07_Right.j0 k true a0_0 a0_1 a0_2 a0_3 l0_4) else (if a0_0 > 4095 then (neaptideref07_Right.j0 k true a0_0 a0_1 a0_2 a0_3 l0_4) else (if a0_1 < 0 then (neaptideref07_Right.j0 k true a0_0 a0_1 a0_2 a0_3 l0_4) else (if a0_1 > 6 then (neaptideref07_Right.j0 k true a0_0 a0_1 a0_2 a0_3 l0_4) else (if a0_2 < 0 then (neaptideref07_Right.j0 k true a0_0 a0_1 a0_2 a0_3 l0_4) else (neaptideref07_Right.j0 k (decide (a0_2 > 255)) a0_0 a0_1 a0_2 a0_3 l0_4)))))
set_option maxHeartbeats 8000000 in
set_option maxRecDepth 100000 in
theorem neaptideref07_Right.calls (k : Nat) (a0_0 : Int) (a0_1 : Int) (a0_2 : Int) (a0_3 : Int) (A0_4 : Option Addr) (c0_4 : Nat) (l0_4 : List (S67)) (r : Bool) (w : World) (hr0_4 : Kd.C k67 w A0_4 l0_4.length l0_4) (hc0_4 : l0_4.length ≤ c0_4) (h : neaptideref07_Right.f k a0_0 a0_1 a0_2 a0_3 l0_4 = some r) :
    Calls Tryz.prog 43 #[.agg #[.int .i64 a0_0, .int .i64 a0_1, .int .i64 a0_2, .int .i64 a0_3, .slice A0_4 l0_4.length c0_4]] w fun e w' => e = .returned (.bool r) ∧ Below w.heap.size w w' := by
  have hu35 := Tryz.underlying35
  have HR0_4 := As0.mk hr0_4
  have HC0_4 := As0.mk hc0_4
  clear hr0_4 hc0_4
  have HB := As0.mk (Below.refl w.heap.size w)
  have H : (if a0_0 < 1 then (neaptideref07_Right.j0 k true a0_0 a0_1 a0_2 a0_3 l0_4) else (if a0_0 > 4095 then (neaptideref07_Right.j0 k true a0_0 a0_1 a0_2 a0_3 l0_4) else (if a0_1 < 0 then (neaptideref07_Right.j0 k true a0_0 a0_1 a0_2 a0_3 l0_4) else (if a0_1 > 6 then (neaptideref07_Right.j0 k true a0_0 a0_1 a0_2 a0_3 l0_4) else (if a0_2 < 0 then (neaptideref07_Right.j0 k true a0_0 a0_1 a0_2 a0_3 l0_4) else (neaptideref07_Right.j0 k (decide (a0_2 > 255)) a0_0 a0_1 a0_2 a0_3 l0_4)))))) = some r := h
  clear h
  have HC2 := As0.mk H
  clear H
  go_enter Tryz.func43, Tryz.ntmps43
  go_upto_region 1 with (first | ((with_reducible refine gate_dst (N := 1) rfl ?_); refine bxe ?hg (N := 1) ?hd (cs := #[.int .i64 a0_0, .int .i64 a0_1, .int .i64 a0_2, .int .i64 a0_3, .slice A0_4 l0_4.length c0_4]) (t := 35) ?hr ?_; (case hd => rfl); (case hg => rfl); (case hr => first | (go_simp; done) | (go_simp; rfl)); intro gb336 hg w3 hbox hb; have n0_ := As0.mk (bwp (by repeat (first | (with_reducible first | exact HB.out | apply bwa | apply pbN | apply bd1) | exact HB.out)) hb); have n1_ := As0.mk (hbox); have n2_ := As0.mk ((by rw [hg]; exact (bwz (by repeat (first | (with_reducible first | exact HB.out | apply bwa | apply pbN | apply bd1) | exact HB.out))) : w.heap.size ≤ gb336)); have n3_ := As0.mk ((by rw [hg]; exact (bwz (by repeat (first | (with_reducible first | exact HB.out | apply bwa | apply pbN | apply bd1) | exact HB.out))) : w.heap.size ≤ gb336)); clear HB; have HB := n0_; have BK336 := n1_; have GW336 := n2_; have GE336 := n3_; clear n0_ n1_ n2_ n3_; clear hb hbox hg))
  (try simp only [Act.put, List.setIfInBounds_toArray, List.set_cons_zero, List.set_cons_succ])
  go_cut [36] (fun v36 wc => ∃ (kq : Nat) (x36_1 : Bool), v36 = .bool x36_1 ∧ As0 (neaptideref07_Right.j0 kq x36_1 a0_0 a0_1 a0_2 a0_3 l0_4 = some r) ∧ As0 (kq ≤ k) ∧ As0 (wc.heap[gb336]? = some (.cells #[.int .i64 a0_0, .int .i64 a0_1, .int .i64 a0_2, .int .i64 a0_3, (.slice A0_4 l0_4.length c0_4)] 35 (0, 0))) ∧ As0 (Below w.heap.size w wc))
  case first =>
    have H := HC2.out
    clear HC2
    by_cases c4 : a0_0 < 1
    · rw [if_pos c4] at H
      have c4b0 : decide (a0_0 < 1) = true := decide_eq_true c4
      clear c4
      (first | rw [c4b0] | (simp only [i64_w, i32_w]; rw [c4b0]) | skip)
      have H' := As0.mk H
      clear H
      have hcz5_0 : w3.cell? ⟨gb336, 0, none⟩ = some (.int .i64 a0_0) := (bkc BK336.out 0).trans rfl
      have hcz5_1 : w3.cell? ⟨gb336, 1, none⟩ = some (.int .i64 a0_1) := (bkc BK336.out 1).trans rfl
      have hcz5_2 : w3.cell? ⟨gb336, 2, none⟩ = some (.int .i64 a0_2) := (bkc BK336.out 2).trans rfl
      have hcz5_3 : w3.cell? ⟨gb336, 3, none⟩ = some (.int .i64 a0_3) := (bkc BK336.out 3).trans rfl
      have hcz5_4 : w3.cell? ⟨gb336, 4, none⟩ = some (.slice A0_4 l0_4.length c0_4) := (bkc BK336.out 4).trans rfl
      have hfz5_0 := bkf BK336.out 0
      have hfz5_1 := bkf BK336.out 1
      have hfz5_2 := bkf BK336.out 2
      have hfz5_3 := bkf BK336.out 3
      have hfz5_4 := bkf BK336.out 4
      go_wp2
      go_meet
      case rel => exact ⟨_, (true), (by first | rfl | (simp; done) | (simp [*]; done)), H', ⟨by first | omega | exact Nat.le_refl _⟩, ⟨by (with_reducible repeat (first | refine bkN ?_ _ | refine bkd ?_ | refine bka ?_ _)); exact BK336.out⟩, ⟨by repeat (first | (with_reducible first | exact HB.out | apply bwa | apply pbN | apply bd1 | refine bws ?_ GE336.out) | exact HB.out)⟩⟩
    · rw [if_neg c4] at H
      have c4b0 : decide (a0_0 < 1) = false := decide_eq_false c4
      clear c4
      (first | rw [c4b0] | (simp only [i64_w, i32_w]; rw [c4b0]) | skip)
      by_cases c6 : a0_0 > 4095
      · rw [if_pos c6] at H
        have c6b0 : decide (4095 < a0_0) = true := decide_eq_true c6
        clear c6
        have H' := As0.mk H
        clear H
        have hcz7_0 : w3.cell? ⟨gb336, 0, none⟩ = some (.int .i64 a0_0) := (bkc BK336.out 0).trans rfl
        have hcz7_1 : w3.cell? ⟨gb336, 1, none⟩ = some (.int .i64 a0_1) := (bkc BK336.out 1).trans rfl
        have hcz7_2 : w3.cell? ⟨gb336, 2, none⟩ = some (.int .i64 a0_2) := (bkc BK336.out 2).trans rfl
        have hcz7_3 : w3.cell? ⟨gb336, 3, none⟩ = some (.int .i64 a0_3) := (bkc BK336.out 3).trans rfl
        have hcz7_4 : w3.cell? ⟨gb336, 4, none⟩ = some (.slice A0_4 l0_4.length c0_4) := (bkc BK336.out 4).trans rfl
        have hfz7_0 := bkf BK336.out 0
        have hfz7_1 := bkf BK336.out 1
        have hfz7_2 := bkf BK336.out 2
        have hfz7_3 := bkf BK336.out 3
        have hfz7_4 := bkf BK336.out 4
        go_wp2
        go_meet
        case rel => exact ⟨_, (true), (by first | rfl | (simp; done) | (simp [*]; done)), H', ⟨by first | omega | exact Nat.le_refl _⟩, ⟨by (with_reducible repeat (first | refine bkN ?_ _ | refine bkd ?_ | refine bka ?_ _)); exact BK336.out⟩, ⟨by repeat (first | (with_reducible first | exact HB.out | apply bwa | apply pbN | apply bd1 | refine bws ?_ GE336.out) | exact HB.out)⟩⟩
      · rw [if_neg c6] at H
        have c6b0 : decide (4095 < a0_0) = false := decide_eq_false c6
        clear c6
        by_cases c8 : a0_1 < 0
        · rw [if_pos c8] at H
          have c8b0 : decide (a0_1 < 0) = true := decide_eq_true c8
          clear c8
          have H' := As0.mk H
          clear H
          have hcz9_0 : w3.cell? ⟨gb336, 0, none⟩ = some (.int .i64 a0_0) := (bkc BK336.out 0).trans rfl
          have hcz9_1 : w3.cell? ⟨gb336, 1, none⟩ = some (.int .i64 a0_1) := (bkc BK336.out 1).trans rfl
          have hcz9_2 : w3.cell? ⟨gb336, 2, none⟩ = some (.int .i64 a0_2) := (bkc BK336.out 2).trans rfl
          have hcz9_3 : w3.cell? ⟨gb336, 3, none⟩ = some (.int .i64 a0_3) := (bkc BK336.out 3).trans rfl
          have hcz9_4 : w3.cell? ⟨gb336, 4, none⟩ = some (.slice A0_4 l0_4.length c0_4) := (bkc BK336.out 4).trans rfl
          have hfz9_0 := bkf BK336.out 0
          have hfz9_1 := bkf BK336.out 1
          have hfz9_2 := bkf BK336.out 2
          have hfz9_3 := bkf BK336.out 3
          have hfz9_4 := bkf BK336.out 4
          go_wp2
          go_meet
          case rel => exact ⟨_, (true), (by first | rfl | (simp; done) | (simp [*]; done)), H', ⟨by first | omega | exact Nat.le_refl _⟩, ⟨by (with_reducible repeat (first | refine bkN ?_ _ | refine bkd ?_ | refine bka ?_ _)); exact BK336.out⟩, ⟨by repeat (first | (with_reducible first | exact HB.out | apply bwa | apply pbN | apply bd1 | refine bws ?_ GE336.out) | exact HB.out)⟩⟩
        · rw [if_neg c8] at H
          have c8b0 : decide (a0_1 < 0) = false := decide_eq_false c8
          clear c8
          by_cases c10 : a0_1 > 6
          · rw [if_pos c10] at H
            have c10b0 : decide (6 < a0_1) = true := decide_eq_true c10
            clear c10
            have H' := As0.mk H
            clear H
            have hcz11_0 : w3.cell? ⟨gb336, 0, none⟩ = some (.int .i64 a0_0) := (bkc BK336.out 0).trans rfl
            have hcz11_1 : w3.cell? ⟨gb336, 1, none⟩ = some (.int .i64 a0_1) := (bkc BK336.out 1).trans rfl
            have hcz11_2 : w3.cell? ⟨gb336, 2, none⟩ = some (.int .i64 a0_2) := (bkc BK336.out 2).trans rfl
            have hcz11_3 : w3.cell? ⟨gb336, 3, none⟩ = some (.int .i64 a0_3) := (bkc BK336.out 3).trans rfl
            have hcz11_4 : w3.cell? ⟨gb336, 4, none⟩ = some (.slice A0_4 l0_4.length c0_4) := (bkc BK336.out 4).trans rfl
            have hfz11_0 := bkf BK336.out 0
            have hfz11_1 := bkf BK336.out 1
            have hfz11_2 := bkf BK336.out 2
            have hfz11_3 := bkf BK336.out 3
            have hfz11_4 := bkf BK336.out 4
            go_wp2
            go_meet
            case rel => exact ⟨_, (true), (by first | rfl | (simp; done) | (simp [*]; done)), H', ⟨by first | omega | exact Nat.le_refl _⟩, ⟨by (with_reducible repeat (first | refine bkN ?_ _ | refine bkd ?_ | refine bka ?_ _)); exact BK336.out⟩, ⟨by repeat (first | (with_reducible first | exact HB.out | apply bwa | apply pbN | apply bd1 | refine bws ?_ GE336.out) | exact HB.out)⟩⟩
          · rw [if_neg c10] at H
            have c10b0 : decide (6 < a0_1) = false := decide_eq_false c10
            clear c10
            by_cases c12 : a0_2 < 0
            · rw [if_pos c12] at H
              have c12b0 : decide (a0_2 < 0) = true := decide_eq_true c12
              clear c12
              have H' := As0.mk H
              clear H
              have hcz13_0 : w3.cell? ⟨gb336, 0, none⟩ = some (.int .i64 a0_0) := (bkc BK336.out 0).trans rfl
              have hcz13_1 : w3.cell? ⟨gb336, 1, none⟩ = some (.int .i64 a0_1) := (bkc BK336.out 1).trans rfl
              have hcz13_2 : w3.cell? ⟨gb336, 2, none⟩ = some (.int .i64 a0_2) := (bkc BK336.out 2).trans rfl
              have hcz13_3 : w3.cell? ⟨gb336, 3, none⟩ = some (.int .i64 a0_3) := (bkc BK336.out 3).trans rfl
              have hcz13_4 : w3.cell? ⟨gb336, 4, none⟩ = some (.slice A0_4 l0_4.length c0_4) := (bkc BK336.out 4).trans rfl
              have hfz13_0 := bkf BK336.out 0
              have hfz13_1 := bkf BK336.out 1
              have hfz13_2 := bkf BK336.out 2
              have hfz13_3 := bkf BK336.out 3
              have hfz13_4 := bkf BK336.out 4
              go_wp2
              go_meet
              case rel => exact ⟨_, (true), (by first | rfl | (simp; done) | (simp [*]; done)), H', ⟨by first | omega | exact Nat.le_refl _⟩, ⟨by (with_reducible repeat (first | refine bkN ?_ _ | refine bkd ?_ | refine bka ?_ _)); exact BK336.out⟩, ⟨by repeat (first | (with_reducible first | exact HB.out | apply bwa | apply pbN | apply bd1 | refine bws ?_ GE336.out) | exact HB.out)⟩⟩
            · rw [if_neg c12] at H
              have c12b0 : decide (a0_2 < 0) = false := decide_eq_false c12
              clear c12
              have H' := As0.mk H
              clear H
              have hcz14_0 : w3.cell? ⟨gb336, 0, none⟩ = some (.int .i64 a0_0) := (bkc BK336.out 0).trans rfl
              have hcz14_1 : w3.cell? ⟨gb336, 1, none⟩ = some (.int .i64 a0_1) := (bkc BK336.out 1).trans rfl
              have hcz14_2 : w3.cell? ⟨gb336, 2, none⟩ = some (.int .i64 a0_2) := (bkc BK336.out 2).trans rfl
              have hcz14_3 : w3.cell? ⟨gb336, 3, none⟩ = some (.int .i64 a0_3) := (bkc BK336.out 3).trans rfl
              have hcz14_4 : w3.cell? ⟨gb336, 4, none⟩ = some (.slice A0_4 l0_4.length c0_4) := (bkc BK336.out 4).trans rfl
              have hfz14_0 := bkf BK336.out 0
              have hfz14_1 := bkf BK336.out 1
              have hfz14_2 := bkf BK336.out 2
              have hfz14_3 := bkf BK336.out 3
              have hfz14_4 := bkf BK336.out 4
              go_wp2
              go_meet
              case rel => exact ⟨_, (decide (a0_2 > 255)), (by first | rfl | (simp; done) | (simp [*]; done)), H', ⟨by first | omega | exact Nat.le_refl _⟩, ⟨by (with_reducible repeat (first | refine bkN ?_ _ | refine bkd ?_ | refine bka ?_ _)); exact BK336.out⟩, ⟨by repeat (first | (with_reducible first | exact HB.out | apply bwa | apply pbN | apply bd1 | refine bws ?_ GE336.out) | exact HB.out)⟩⟩
  case rest =>
    clear HC2
    try clear c1
    try clear p2
    try clear c4
    try clear c4b0
    try clear c6
    try clear c6b0
    try clear c8
    try clear c8b0
    try clear c10
    try clear c10b0
    try clear c12
    try clear c12b0
    try clear hcz11_0
    try clear hcz11_1
    try clear hcz11_2
    try clear hcz11_3
    try clear hcz11_4
    try clear hcz13_0
    try clear hcz13_1
    try clear hcz13_2
    try clear hcz13_3
    try clear hcz13_4
    try clear hcz14_0
    try clear hcz14_1
    try clear hcz14_2
    try clear hcz14_3
    try clear hcz14_4
    try clear hcz5_0
    try clear hcz5_1
    try clear hcz5_2
    try clear hcz5_3
    try clear hcz5_4
    try clear hcz7_0
    try clear hcz7_1
    try clear hcz7_2
    try clear hcz7_3
    try clear hcz7_4
    try clear hcz9_0
    try clear hcz9_1
    try clear hcz9_2
    try clear hcz9_3
    try clear hcz9_4
    try clear hfz11_0
    try clear hfz11_1
    try clear hfz11_2
    try clear hfz11_3
    try clear hfz11_4
    try clear hfz13_0
    try clear hfz13_1
    try clear hfz13_2
    try clear hfz13_3
    try clear hfz13_4
    try clear hfz14_0
    try clear hfz14_1
    try clear hfz14_2
    try clear hfz14_3
    try clear hfz14_4
    try clear hfz5_0
    try clear hfz5_1
    try clear hfz5_2
    try clear hfz5_3
    try clear hfz5_4
    try clear hfz7_0
    try clear hfz7_1
    try clear hfz7_2
    try clear hfz7_3
    try clear hfz7_4
    try clear hfz9_0
    try clear hfz9_1
    try clear hfz9_2
    try clear hfz9_3
    try clear hfz9_4
    obtain ⟨kq, x36_1, rfl, HA, HJ1, BK336, HB⟩ := hcut
    cases kq with
    | zero => exact absurd HA.out (by simp [neaptideref07_Right.j0])
    | succ kj1 =>
      have H := HA.out
      clear HA
      simp only [neaptideref07_Right.j0] at H
      by_cases c15 : x36_1 = true
      · subst c15
        have H1 : (some false) = some r := by rw [if_pos rfl] at H; exact H
        clear H
        have H := H1
        clear H1
        obtain rfl := Option.some.inj H
        go_wp2
        go_ret
        exact ⟨by first | rfl | (simp [eWn, eWs] <;> rfl) | (simp [*, eWn, eWs] <;> rfl), by repeat (first | (with_reducible first | exact HB.out | apply bwa | apply pbN | apply bd1 | refine bws ?_ GE336.out) | exact HB.out)⟩
      · replace c15 := Bool.eq_false_iff.mpr c15
        subst c15
        have H1 : ((neaptideref06_List.f kj1 l0_4).bind fun bt337 => (if bt337.2 = 0 then (if a0_3 = 0 then (some true) else ((neaptideref07_Parts.f a0_3).bind fun bt341 => (if bt341.2.2.2 = true then (some (decide (bt341.1 < a0_0))) else (some false)))) else (some false))) = some r := by rw [if_neg (show ¬ (false = true) by decide)] at H; exact H
        clear H
        have H := H1
        clear H1
        replace H := Option.bind_eq_some_iff.mp H
        obtain ⟨⟨t337, t338⟩, A160, H⟩ := H
        replace H : (if t338 = 0 then (if a0_3 = 0 then (some true) else ((neaptideref07_Parts.f a0_3).bind fun bt341 => (if bt341.2.2.2 = true then (some (decide (bt341.1 < a0_0))) else (some false)))) else (some false)) = some r := H
        have A16 := As0.mk A160
        clear A160
        by_cases c17 : t338 = 0
        · rw [if_pos c17] at H
          have c17b0 : (t338 == 0) = true := beq_iff_eq.mpr c17
          have c17b1 : (t338 != 0) = false := bne_eq_false_iff_eq.mpr c17
          clear c17
          by_cases c18 : a0_3 = 0
          · rw [if_pos c18] at H
            have c18b0 : (a0_3 == 0) = true := beq_iff_eq.mpr c18
            have c18b1 : (a0_3 != 0) = false := bne_eq_false_iff_eq.mpr c18
            clear c18
            obtain rfl := Option.some.inj H
            have hcz19_0 : wc.cell? ⟨gb336, 0, none⟩ = some (.int .i64 a0_0) := (bkc BK336.out 0).trans rfl
            have hcz19_1 : wc.cell? ⟨gb336, 1, none⟩ = some (.int .i64 a0_1) := (bkc BK336.out 1).trans rfl
            have hcz19_2 : wc.cell? ⟨gb336, 2, none⟩ = some (.int .i64 a0_2) := (bkc BK336.out 2).trans rfl
            have hcz19_3 : wc.cell? ⟨gb336, 3, none⟩ = some (.int .i64 a0_3) := (bkc BK336.out 3).trans rfl
            have hcz19_4 : wc.cell? ⟨gb336, 4, none⟩ = some (.slice A0_4 l0_4.length c0_4) := (bkc BK336.out 4).trans rfl
            have hfz19_0 := bkf BK336.out 0
            have hfz19_1 := bkf BK336.out 1
            have hfz19_2 := bkf BK336.out 2
            have hfz19_3 := bkf BK336.out 3
            have hfz19_4 := bkf BK336.out 4
            go_wp2_with (first | ((with_reducible refine gtc (f := 68) rfl ?_); refine goesL_ (some 40) rfl rfl Tryz.func68 (by kernel_rfl) rfl #[.slice A0_4 l0_4.length c0_4] rfl (by (try simp only [List.map_toArray, List.map_cons, List.map_nil]); first | done | rfl | (simp only [List.length_drop, List.length_take]; rfl)) ?_; (with_reducible refine (neaptideref06_List.calls kj1 _ _ l0_4 t337 t338 _ ?side1 ?side2 A16.out).mono ?_); (case side1 => repeat (first | exact (Kd.C_below HR0_4.out HB.out) | (with_reducible refine Kd.C_alloc ?_ _) | (with_reducible refine Kd.C_drewN ?_ _) | (with_reducible refine Kd.C_drew ?_))); (case side2 => exact HC0_4.out); rintro e w20 ⟨v339, rfl, ho0, hb⟩; refine ⟨_, rfl, ?_⟩; have n0_ := As0.mk (Kd.R_lower ho0 (bwz (by repeat (first | (with_reducible first | exact HB.out | apply bwa | apply pbN | apply bd1 | refine bws ?_ GE336.out) | exact HB.out)))); have n1_ := As0.mk (blk_below (g := gb336) (o := .cells #[.int .i64 a0_0, .int .i64 a0_1, .int .i64 a0_2, .int .i64 a0_3, .slice A0_4 l0_4.length c0_4] 35 (0, 0)) (by (with_reducible repeat (first | refine bkN ?_ _ | refine bkd ?_ | refine bka ?_ _)); exact BK336.out) hb); have n2_ := As0.mk (bwp (by repeat (first | (with_reducible first | exact HB.out | apply bwa | apply pbN | apply bd1 | refine bws ?_ GE336.out) | exact HB.out)) hb); clear BK336; clear HB; have HO340 := n0_; have BK336 := n1_; have HB := n2_; clear n0_ n1_ n2_; (try clear hb); (try clear hb2); (try clear hk); (try clear hi); (try clear ho0); have hcz21_0 : w20.cell? ⟨gb336, 0, none⟩ = some (.int .i64 a0_0) := (bkc BK336.out 0).trans rfl; have hcz21_1 : w20.cell? ⟨gb336, 1, none⟩ = some (.int .i64 a0_1) := (bkc BK336.out 1).trans rfl; have hcz21_2 : w20.cell? ⟨gb336, 2, none⟩ = some (.int .i64 a0_2) := (bkc BK336.out 2).trans rfl; have hcz21_3 : w20.cell? ⟨gb336, 3, none⟩ = some (.int .i64 a0_3) := (bkc BK336.out 3).trans rfl; have hcz21_4 : w20.cell? ⟨gb336, 4, none⟩ = some (.slice A0_4 l0_4.length c0_4) := (bkc BK336.out 4).trans rfl; have hfz21_0 := bkf BK336.out 0; have hfz21_1 := bkf BK336.out 1; have hfz21_2 := bkf BK336.out 2; have hfz21_3 := bkf BK336.out 3; have hfz21_4 := bkf BK336.out 4))
            go_ret
            exact ⟨by first | rfl | (simp [eWn, eWs] <;> rfl) | (simp [*, eWn, eWs] <;> rfl), by repeat (first | (with_reducible first | exact HB.out | apply bwa | apply pbN | apply bd1 | refine bws ?_ GE336.out) | exact HB.out)⟩
          · rw [if_neg c18] at H
            have c18b0 : (a0_3 == 0) = false := beq_eq_false_iff_ne.mpr c18
            have c18b1 : (a0_3 != 0) = true := bne_iff_ne.mpr c18
            replace H := Option.bind_eq_some_iff.mp H
            obtain ⟨⟨t341, t342, t343, t344⟩, A220, H⟩ := H
            replace H : (if t344 = true then (some (decide (t341 < a0_0))) else (some false)) = some r := H
            have A22 := As0.mk A220
            clear A220
            by_cases c23 : t344 = true
            · subst c23
              have H1 : (some (decide (t341 < a0_0))) = some r := by rw [if_pos rfl] at H; exact H
              clear H
              have H := H1
              clear H1
              obtain rfl := Option.some.inj H
              have hcz24_0 : wc.cell? ⟨gb336, 0, none⟩ = some (.int .i64 a0_0) := (bkc BK336.out 0).trans rfl
              have hcz24_1 : wc.cell? ⟨gb336, 1, none⟩ = some (.int .i64 a0_1) := (bkc BK336.out 1).trans rfl
              have hcz24_2 : wc.cell? ⟨gb336, 2, none⟩ = some (.int .i64 a0_2) := (bkc BK336.out 2).trans rfl
              have hcz24_3 : wc.cell? ⟨gb336, 3, none⟩ = some (.int .i64 a0_3) := (bkc BK336.out 3).trans rfl
              have hcz24_4 : wc.cell? ⟨gb336, 4, none⟩ = some (.slice A0_4 l0_4.length c0_4) := (bkc BK336.out 4).trans rfl
              have hfz24_0 := bkf BK336.out 0
              have hfz24_1 := bkf BK336.out 1
              have hfz24_2 := bkf BK336.out 2
              have hfz24_3 := bkf BK336.out 3
              have hfz24_4 := bkf BK336.out 4
              go_wp2_with (first | ((with_reducible refine gtc (f := 68) rfl ?_); refine goesL_ (some 40) rfl rfl Tryz.func68 (by kernel_rfl) rfl #[.slice A0_4 l0_4.length c0_4] rfl (by (try simp only [List.map_toArray, List.map_cons, List.map_nil]); first | done | rfl | (simp only [List.length_drop, List.length_take]; rfl)) ?_; (with_reducible refine (neaptideref06_List.calls kj1 _ _ l0_4 t337 t338 _ ?side1 ?side2 A16.out).mono ?_); (case side1 => repeat (first | exact (Kd.C_below HR0_4.out HB.out) | (with_reducible refine Kd.C_alloc ?_ _) | (with_reducible refine Kd.C_drewN ?_ _) | (with_reducible refine Kd.C_drew ?_))); (case side2 => exact HC0_4.out); rintro e w25 ⟨v339, rfl, ho0, hb⟩; refine ⟨_, rfl, ?_⟩; have n0_ := As0.mk (Kd.R_lower ho0 (bwz (by repeat (first | (with_reducible first | exact HB.out | apply bwa | apply pbN | apply bd1 | refine bws ?_ GE336.out) | exact HB.out)))); have n1_ := As0.mk (blk_below (g := gb336) (o := .cells #[.int .i64 a0_0, .int .i64 a0_1, .int .i64 a0_2, .int .i64 a0_3, .slice A0_4 l0_4.length c0_4] 35 (0, 0)) (by (with_reducible repeat (first | refine bkN ?_ _ | refine bkd ?_ | refine bka ?_ _)); exact BK336.out) hb); have n2_ := As0.mk (bwp (by repeat (first | (with_reducible first | exact HB.out | apply bwa | apply pbN | apply bd1 | refine bws ?_ GE336.out) | exact HB.out)) hb); clear BK336; clear HB; have HO340 := n0_; have BK336 := n1_; have HB := n2_; clear n0_ n1_ n2_; (try clear hb); (try clear hb2); (try clear hk); (try clear hi); (try clear ho0); have hcz26_0 : w25.cell? ⟨gb336, 0, none⟩ = some (.int .i64 a0_0) := (bkc BK336.out 0).trans rfl; have hcz26_1 : w25.cell? ⟨gb336, 1, none⟩ = some (.int .i64 a0_1) := (bkc BK336.out 1).trans rfl; have hcz26_2 : w25.cell? ⟨gb336, 2, none⟩ = some (.int .i64 a0_2) := (bkc BK336.out 2).trans rfl; have hcz26_3 : w25.cell? ⟨gb336, 3, none⟩ = some (.int .i64 a0_3) := (bkc BK336.out 3).trans rfl; have hcz26_4 : w25.cell? ⟨gb336, 4, none⟩ = some (.slice A0_4 l0_4.length c0_4) := (bkc BK336.out 4).trans rfl; have hfz26_0 := bkf BK336.out 0; have hfz26_1 := bkf BK336.out 1; have hfz26_2 := bkf BK336.out 2; have hfz26_3 := bkf BK336.out 3; have hfz26_4 := bkf BK336.out 4) | ((with_reducible refine gtc (f := 69) rfl ?_); refine goesL_ (some 51) rfl rfl Tryz.func69 (by kernel_rfl) rfl #[.int .i64 a0_3] rfl (by (try simp only [List.map_toArray, List.map_cons, List.map_nil]); first | done | rfl | (simp only [List.length_drop, List.length_take]; rfl)) ?_; (with_reducible refine (neaptideref07_Parts.calls a0_3 t341 t342 t343 true _ A22.out).mono ?_); rintro e w' ⟨rfl, ⟨nd, rfl⟩⟩; refine ⟨_, rfl, ?_⟩))
              go_ret
              exact ⟨by first | rfl | (simp [eWn, eWs] <;> rfl) | (simp [*, eWn, eWs] <;> rfl), by repeat (first | (with_reducible first | exact HB.out | apply bwa | apply pbN | apply bd1 | refine bws ?_ GE336.out) | exact HB.out)⟩
            · replace c23 := Bool.eq_false_iff.mpr c23
              subst c23
              have H1 : (some false) = some r := by rw [if_neg (show ¬ (false = true) by decide)] at H; exact H
              clear H
              have H := H1
              clear H1
              obtain rfl := Option.some.inj H
              have hcz27_0 : wc.cell? ⟨gb336, 0, none⟩ = some (.int .i64 a0_0) := (bkc BK336.out 0).trans rfl
              have hcz27_1 : wc.cell? ⟨gb336, 1, none⟩ = some (.int .i64 a0_1) := (bkc BK336.out 1).trans rfl
              have hcz27_2 : wc.cell? ⟨gb336, 2, none⟩ = some (.int .i64 a0_2) := (bkc BK336.out 2).trans rfl
              have hcz27_3 : wc.cell? ⟨gb336, 3, none⟩ = some (.int .i64 a0_3) := (bkc BK336.out 3).trans rfl
              have hcz27_4 : wc.cell? ⟨gb336, 4, none⟩ = some (.slice A0_4 l0_4.length c0_4) := (bkc BK336.out 4).trans rfl
              have hfz27_0 := bkf BK336.out 0
              have hfz27_1 := bkf BK336.out 1
              have hfz27_2 := bkf BK336.out 2
              have hfz27_3 := bkf BK336.out 3
              have hfz27_4 := bkf BK336.out 4
              go_wp2_with (first | ((with_reducible refine gtc (f := 68) rfl ?_); refine goesL_ (some 40) rfl rfl Tryz.func68 (by kernel_rfl) rfl #[.slice A0_4 l0_4.length c0_4] rfl (by (try simp only [List.map_toArray, List.map_cons, List.map_nil]); first | done | rfl | (simp only [List.length_drop, List.length_take]; rfl)) ?_; (with_reducible refine (neaptideref06_List.calls kj1 _ _ l0_4 t337 t338 _ ?side1 ?side2 A16.out).mono ?_); (case side1 => repeat (first | exact (Kd.C_below HR0_4.out HB.out) | (with_reducible refine Kd.C_alloc ?_ _) | (with_reducible refine Kd.C_drewN ?_ _) | (with_reducible refine Kd.C_drew ?_))); (case side2 => exact HC0_4.out); rintro e w28 ⟨v339, rfl, ho0, hb⟩; refine ⟨_, rfl, ?_⟩; have n0_ := As0.mk (Kd.R_lower ho0 (bwz (by repeat (first | (with_reducible first | exact HB.out | apply bwa | apply pbN | apply bd1 | refine bws ?_ GE336.out) | exact HB.out)))); have n1_ := As0.mk (blk_below (g := gb336) (o := .cells #[.int .i64 a0_0, .int .i64 a0_1, .int .i64 a0_2, .int .i64 a0_3, .slice A0_4 l0_4.length c0_4] 35 (0, 0)) (by (with_reducible repeat (first | refine bkN ?_ _ | refine bkd ?_ | refine bka ?_ _)); exact BK336.out) hb); have n2_ := As0.mk (bwp (by repeat (first | (with_reducible first | exact HB.out | apply bwa | apply pbN | apply bd1 | refine bws ?_ GE336.out) | exact HB.out)) hb); clear BK336; clear HB; have HO340 := n0_; have BK336 := n1_; have HB := n2_; clear n0_ n1_ n2_; (try clear hb); (try clear hb2); (try clear hk); (try clear hi); (try clear ho0); have hcz29_0 : w28.cell? ⟨gb336, 0, none⟩ = some (.int .i64 a0_0) := (bkc BK336.out 0).trans rfl; have hcz29_1 : w28.cell? ⟨gb336, 1, none⟩ = some (.int .i64 a0_1) := (bkc BK336.out 1).trans rfl; have hcz29_2 : w28.cell? ⟨gb336, 2, none⟩ = some (.int .i64 a0_2) := (bkc BK336.out 2).trans rfl; have hcz29_3 : w28.cell? ⟨gb336, 3, none⟩ = some (.int .i64 a0_3) := (bkc BK336.out 3).trans rfl; have hcz29_4 : w28.cell? ⟨gb336, 4, none⟩ = some (.slice A0_4 l0_4.length c0_4) := (bkc BK336.out 4).trans rfl; have hfz29_0 := bkf BK336.out 0; have hfz29_1 := bkf BK336.out 1; have hfz29_2 := bkf BK336.out 2; have hfz29_3 := bkf BK336.out 3; have hfz29_4 := bkf BK336.out 4) | ((with_reducible refine gtc (f := 69) rfl ?_); refine goesL_ (some 51) rfl rfl Tryz.func69 (by kernel_rfl) rfl #[.int .i64 a0_3] rfl (by (try simp only [List.map_toArray, List.map_cons, List.map_nil]); first | done | rfl | (simp only [List.length_drop, List.length_take]; rfl)) ?_; (with_reducible refine (neaptideref07_Parts.calls a0_3 t341 t342 t343 false _ A22.out).mono ?_); rintro e w' ⟨rfl, ⟨nd, rfl⟩⟩; refine ⟨_, rfl, ?_⟩))
              go_ret
              exact ⟨by first | rfl | (simp [eWn, eWs] <;> rfl) | (simp [*, eWn, eWs] <;> rfl), by repeat (first | (with_reducible first | exact HB.out | apply bwa | apply pbN | apply bd1 | refine bws ?_ GE336.out) | exact HB.out)⟩
        · rw [if_neg c17] at H
          have c17b0 : (t338 == 0) = false := beq_eq_false_iff_ne.mpr c17
          have c17b1 : (t338 != 0) = true := bne_iff_ne.mpr c17
          obtain rfl := Option.some.inj H
          have hcz30_0 : wc.cell? ⟨gb336, 0, none⟩ = some (.int .i64 a0_0) := (bkc BK336.out 0).trans rfl
          have hcz30_1 : wc.cell? ⟨gb336, 1, none⟩ = some (.int .i64 a0_1) := (bkc BK336.out 1).trans rfl
          have hcz30_2 : wc.cell? ⟨gb336, 2, none⟩ = some (.int .i64 a0_2) := (bkc BK336.out 2).trans rfl
          have hcz30_3 : wc.cell? ⟨gb336, 3, none⟩ = some (.int .i64 a0_3) := (bkc BK336.out 3).trans rfl
          have hcz30_4 : wc.cell? ⟨gb336, 4, none⟩ = some (.slice A0_4 l0_4.length c0_4) := (bkc BK336.out 4).trans rfl
          have hfz30_0 := bkf BK336.out 0
          have hfz30_1 := bkf BK336.out 1
          have hfz30_2 := bkf BK336.out 2
          have hfz30_3 := bkf BK336.out 3
          have hfz30_4 := bkf BK336.out 4
          go_wp2_with (first | ((with_reducible refine gtc (f := 68) rfl ?_); refine goesL_ (some 40) rfl rfl Tryz.func68 (by kernel_rfl) rfl #[.slice A0_4 l0_4.length c0_4] rfl (by (try simp only [List.map_toArray, List.map_cons, List.map_nil]); first | done | rfl | (simp only [List.length_drop, List.length_take]; rfl)) ?_; (with_reducible refine (neaptideref06_List.calls kj1 _ _ l0_4 t337 t338 _ ?side1 ?side2 A16.out).mono ?_); (case side1 => repeat (first | exact (Kd.C_below HR0_4.out HB.out) | (with_reducible refine Kd.C_alloc ?_ _) | (with_reducible refine Kd.C_drewN ?_ _) | (with_reducible refine Kd.C_drew ?_))); (case side2 => exact HC0_4.out); rintro e w31 ⟨v339, rfl, ho0, hb⟩; refine ⟨_, rfl, ?_⟩; have n0_ := As0.mk (Kd.R_lower ho0 (bwz (by repeat (first | (with_reducible first | exact HB.out | apply bwa | apply pbN | apply bd1 | refine bws ?_ GE336.out) | exact HB.out)))); have n1_ := As0.mk (blk_below (g := gb336) (o := .cells #[.int .i64 a0_0, .int .i64 a0_1, .int .i64 a0_2, .int .i64 a0_3, .slice A0_4 l0_4.length c0_4] 35 (0, 0)) (by (with_reducible repeat (first | refine bkN ?_ _ | refine bkd ?_ | refine bka ?_ _)); exact BK336.out) hb); have n2_ := As0.mk (bwp (by repeat (first | (with_reducible first | exact HB.out | apply bwa | apply pbN | apply bd1 | refine bws ?_ GE336.out) | exact HB.out)) hb); clear BK336; clear HB; have HO340 := n0_; have BK336 := n1_; have HB := n2_; clear n0_ n1_ n2_; (try clear hb); (try clear hb2); (try clear hk); (try clear hi); (try clear ho0)))
          go_ret
          exact ⟨by first | rfl | (simp [eWn, eWs] <;> rfl) | (simp [*, eWn, eWs] <;> rfl), by repeat (first | (with_reducible first | exact HB.out | apply bwa | apply pbN | apply bd1 | refine bws ?_ GE336.out) | exact HB.out)⟩
def neaptideref07_Name.f (k : Nat) (a0_0 : Int) (a0_1 : Int) (a0_2 : Int) (a0_3 : Int) (l0_4 : List (S67)) : Option (Int) := (neaptideref07_Right.f k a0_0 a0_1 a0_2 a0_3 l0_4).bind fun t346 => (if t346 = true then (some (wrap64 ((wrap64 ((wrap64 ((wrap64 (a0_0 * 256)) + a0_1)) * 256)) + a0_2))) else (some 0))
set_option maxHeartbeats 8000000 in
set_option maxRecDepth 100000 in
theorem neaptideref07_Name.calls (k : Nat) (a0_0 : Int) (a0_1 : Int) (a0_2 : Int) (a0_3 : Int) (A0_4 : Option Addr) (c0_4 : Nat) (l0_4 : List (S67)) (r : Int) (w : World) (hr0_4 : Kd.C k67 w A0_4 l0_4.length l0_4) (hc0_4 : l0_4.length ≤ c0_4) (h : neaptideref07_Name.f k a0_0 a0_1 a0_2 a0_3 l0_4 = some r) :
    Calls Tryz.prog 76 #[.agg #[.int .i64 a0_0, .int .i64 a0_1, .int .i64 a0_2, .int .i64 a0_3, .slice A0_4 l0_4.length c0_4]] w fun e w' => e = .returned (.int .i64 r) ∧ Below w.heap.size w w' := by
  have hu35 := Tryz.underlying35
  have HR0_4 := As0.mk hr0_4
  have HC0_4 := As0.mk hc0_4
  clear hr0_4 hc0_4
  have HB := As0.mk (Below.refl w.heap.size w)
  have H : ((neaptideref07_Right.f k a0_0 a0_1 a0_2 a0_3 l0_4).bind fun t346 => (if t346 = true then (some (wrap64 ((wrap64 ((wrap64 ((wrap64 (a0_0 * 256)) + a0_1)) * 256)) + a0_2))) else (some 0))) = some r := h
  clear h
  replace H := Option.bind_eq_some_iff.mp H
  obtain ⟨t346, A20, H⟩ := H
  replace H : (if t346 = true then (some (wrap64 ((wrap64 ((wrap64 ((wrap64 (a0_0 * 256)) + a0_1)) * 256)) + a0_2))) else (some 0)) = some r := H
  have A2 := As0.mk A20
  clear A20
  by_cases c3 : t346 = true
  · subst c3
    have H1 : (some (wrap64 ((wrap64 ((wrap64 ((wrap64 (a0_0 * 256)) + a0_1)) * 256)) + a0_2))) = some r := by rw [if_pos rfl] at H; exact H
    clear H
    have H := H1
    clear H1
    obtain rfl := Option.some.inj H
    go_enter Tryz.func76, Tryz.ntmps76
    go_wp2_with (first | ((with_reducible refine gate_dst (N := 1) rfl ?_); refine bxe ?hg (N := 1) ?hd (cs := #[.int .i64 a0_0, .int .i64 a0_1, .int .i64 a0_2, .int .i64 a0_3, .slice A0_4 l0_4.length c0_4]) (t := 35) ?hr ?_; (case hd => rfl); (case hg => rfl); (case hr => first | (go_simp; done) | (go_simp; rfl)); intro gb345 hg w4 hbox hb; have n0_ := As0.mk (bwp (by repeat (first | (with_reducible first | exact HB.out | apply bwa | apply pbN | apply bd1) | exact HB.out)) hb); have n1_ := As0.mk (hbox); have n2_ := As0.mk ((by rw [hg]; exact (bwz (by repeat (first | (with_reducible first | exact HB.out | apply bwa | apply pbN | apply bd1) | exact HB.out))) : w.heap.size ≤ gb345)); have n3_ := As0.mk ((by rw [hg]; exact (bwz (by repeat (first | (with_reducible first | exact HB.out | apply bwa | apply pbN | apply bd1) | exact HB.out))) : w.heap.size ≤ gb345)); clear HB; have HB := n0_; have BK345 := n1_; have GW345 := n2_; have GE345 := n3_; clear n0_ n1_ n2_ n3_; clear hb hbox hg; have hcz5_0 : w4.cell? ⟨gb345, 0, none⟩ = some (.int .i64 a0_0) := (bkc BK345.out 0).trans rfl; have hcz5_1 : w4.cell? ⟨gb345, 1, none⟩ = some (.int .i64 a0_1) := (bkc BK345.out 1).trans rfl; have hcz5_2 : w4.cell? ⟨gb345, 2, none⟩ = some (.int .i64 a0_2) := (bkc BK345.out 2).trans rfl; have hcz5_3 : w4.cell? ⟨gb345, 3, none⟩ = some (.int .i64 a0_3) := (bkc BK345.out 3).trans rfl; have hcz5_4 : w4.cell? ⟨gb345, 4, none⟩ = some (.slice A0_4 l0_4.length c0_4) := (bkc BK345.out 4).trans rfl; have hfz5_0 := bkf BK345.out 0; have hfz5_1 := bkf BK345.out 1; have hfz5_2 := bkf BK345.out 2; have hfz5_3 := bkf BK345.out 3; have hfz5_4 := bkf BK345.out 4) | ((with_reducible refine gtc (f := 43) rfl ?_); refine goesL_ (some 4) rfl rfl Tryz.func43 (by kernel_rfl) rfl #[.agg #[.int .i64 a0_0, .int .i64 a0_1, .int .i64 a0_2, .int .i64 a0_3, .slice A0_4 l0_4.length c0_4]] rfl (by (try simp only [List.map_toArray, List.map_cons, List.map_nil]); first | done | rfl | (simp only [List.length_drop, List.length_take]; rfl)) ?_; (with_reducible refine (neaptideref07_Right.calls k a0_0 a0_1 a0_2 a0_3 _ _ l0_4 true _ ?side1 ?side2 A2.out).mono ?_); (case side1 => repeat (first | exact (Kd.C_below HR0_4.out HB.out) | (with_reducible refine Kd.C_alloc ?_ _) | (with_reducible refine Kd.C_drewN ?_ _) | (with_reducible refine Kd.C_drew ?_))); (case side2 => exact HC0_4.out); rintro e w6 ⟨rfl, hb⟩; refine ⟨_, rfl, ?_⟩; have n0_ := As0.mk (blk_below (g := gb345) (o := .cells #[.int .i64 a0_0, .int .i64 a0_1, .int .i64 a0_2, .int .i64 a0_3, .slice A0_4 l0_4.length c0_4] 35 (0, 0)) (by (with_reducible repeat (first | refine bkN ?_ _ | refine bkd ?_ | refine bka ?_ _)); exact BK345.out) hb); have n1_ := As0.mk (bwp (by repeat (first | (with_reducible first | exact HB.out | apply bwa | apply pbN | apply bd1 | refine bws ?_ GE345.out) | exact HB.out)) hb); clear BK345; clear HB; have BK345 := n0_; have HB := n1_; clear n0_ n1_; (try clear hb); (try clear hb2); (try clear hk); (try clear hi); have hcz7_0 : w6.cell? ⟨gb345, 0, none⟩ = some (.int .i64 a0_0) := (bkc BK345.out 0).trans rfl; have hcz7_1 : w6.cell? ⟨gb345, 1, none⟩ = some (.int .i64 a0_1) := (bkc BK345.out 1).trans rfl; have hcz7_2 : w6.cell? ⟨gb345, 2, none⟩ = some (.int .i64 a0_2) := (bkc BK345.out 2).trans rfl; have hcz7_3 : w6.cell? ⟨gb345, 3, none⟩ = some (.int .i64 a0_3) := (bkc BK345.out 3).trans rfl; have hcz7_4 : w6.cell? ⟨gb345, 4, none⟩ = some (.slice A0_4 l0_4.length c0_4) := (bkc BK345.out 4).trans rfl; have hfz7_0 := bkf BK345.out 0; have hfz7_1 := bkf BK345.out 1; have hfz7_2 := bkf BK345.out 2; have hfz7_3 := bkf BK345.out 3; have hfz7_4 := bkf BK345.out 4))
    go_ret
    exact ⟨by first | rfl | (simp [eWn, eWs] <;> rfl) | (simp [*, eWn, eWs] <;> rfl), by repeat (first | (with_reducible first | exact HB.out | apply bwa | apply pbN | apply bd1 | refine bws ?_ GE345.out) | exact HB.out)⟩
  · replace c3 := Bool.eq_false_iff.mpr c3
    subst c3
    have H1 : (some 0) = some r := by rw [if_neg (show ¬ (false = true) by decide)] at H; exact H
    clear H
    have H := H1
    clear H1
    obtain rfl := Option.some.inj H
    go_enter Tryz.func76, Tryz.ntmps76
    go_wp2_with (first | ((with_reducible refine gate_dst (N := 1) rfl ?_); refine bxe ?hg (N := 1) ?hd (cs := #[.int .i64 a0_0, .int .i64 a0_1, .int .i64 a0_2, .int .i64 a0_3, .slice A0_4 l0_4.length c0_4]) (t := 35) ?hr ?_; (case hd => rfl); (case hg => rfl); (case hr => first | (go_simp; done) | (go_simp; rfl)); intro gb345 hg w8 hbox hb; have n0_ := As0.mk (bwp (by repeat (first | (with_reducible first | exact HB.out | apply bwa | apply pbN | apply bd1) | exact HB.out)) hb); have n1_ := As0.mk (hbox); have n2_ := As0.mk ((by rw [hg]; exact (bwz (by repeat (first | (with_reducible first | exact HB.out | apply bwa | apply pbN | apply bd1) | exact HB.out))) : w.heap.size ≤ gb345)); have n3_ := As0.mk ((by rw [hg]; exact (bwz (by repeat (first | (with_reducible first | exact HB.out | apply bwa | apply pbN | apply bd1) | exact HB.out))) : w.heap.size ≤ gb345)); clear HB; have HB := n0_; have BK345 := n1_; have GW345 := n2_; have GE345 := n3_; clear n0_ n1_ n2_ n3_; clear hb hbox hg; have hcz9_0 : w8.cell? ⟨gb345, 0, none⟩ = some (.int .i64 a0_0) := (bkc BK345.out 0).trans rfl; have hcz9_1 : w8.cell? ⟨gb345, 1, none⟩ = some (.int .i64 a0_1) := (bkc BK345.out 1).trans rfl; have hcz9_2 : w8.cell? ⟨gb345, 2, none⟩ = some (.int .i64 a0_2) := (bkc BK345.out 2).trans rfl; have hcz9_3 : w8.cell? ⟨gb345, 3, none⟩ = some (.int .i64 a0_3) := (bkc BK345.out 3).trans rfl; have hcz9_4 : w8.cell? ⟨gb345, 4, none⟩ = some (.slice A0_4 l0_4.length c0_4) := (bkc BK345.out 4).trans rfl; have hfz9_0 := bkf BK345.out 0; have hfz9_1 := bkf BK345.out 1; have hfz9_2 := bkf BK345.out 2; have hfz9_3 := bkf BK345.out 3; have hfz9_4 := bkf BK345.out 4) | ((with_reducible refine gtc (f := 43) rfl ?_); refine goesL_ (some 4) rfl rfl Tryz.func43 (by kernel_rfl) rfl #[.agg #[.int .i64 a0_0, .int .i64 a0_1, .int .i64 a0_2, .int .i64 a0_3, .slice A0_4 l0_4.length c0_4]] rfl (by (try simp only [List.map_toArray, List.map_cons, List.map_nil]); first | done | rfl | (simp only [List.length_drop, List.length_take]; rfl)) ?_; (with_reducible refine (neaptideref07_Right.calls k a0_0 a0_1 a0_2 a0_3 _ _ l0_4 false _ ?side1 ?side2 A2.out).mono ?_); (case side1 => repeat (first | exact (Kd.C_below HR0_4.out HB.out) | (with_reducible refine Kd.C_alloc ?_ _) | (with_reducible refine Kd.C_drewN ?_ _) | (with_reducible refine Kd.C_drew ?_))); (case side2 => exact HC0_4.out); rintro e w10 ⟨rfl, hb⟩; refine ⟨_, rfl, ?_⟩; have n0_ := As0.mk (blk_below (g := gb345) (o := .cells #[.int .i64 a0_0, .int .i64 a0_1, .int .i64 a0_2, .int .i64 a0_3, .slice A0_4 l0_4.length c0_4] 35 (0, 0)) (by (with_reducible repeat (first | refine bkN ?_ _ | refine bkd ?_ | refine bka ?_ _)); exact BK345.out) hb); have n1_ := As0.mk (bwp (by repeat (first | (with_reducible first | exact HB.out | apply bwa | apply pbN | apply bd1 | refine bws ?_ GE345.out) | exact HB.out)) hb); clear BK345; clear HB; have BK345 := n0_; have HB := n1_; clear n0_ n1_; (try clear hb); (try clear hb2); (try clear hk); (try clear hi)))
    go_ret
    exact ⟨by first | rfl | (simp [eWn, eWs] <;> rfl) | (simp [*, eWn, eWs] <;> rfl), by repeat (first | (with_reducible first | exact HB.out | apply bwa | apply pbN | apply bd1 | refine bws ?_ GE345.out) | exact HB.out)⟩
mutual
def neaptideref08_insert.l0 : Nat → Int → List Int → Bool → List Int → Int → Int → Option (List Int)
  | 0, _, _, _, _, _, _ => none
  | k + 1, x1, x5, x6, x10, x11, x12 => if x12 < x11 then (if 0 ≤ x12 then (if x12 < (x10.length : Int) then (if x6 = true then (neaptideref08_insert.j1 k x1 x5 x6 (rd x10 x12) x10 x11 x12 false) else (neaptideref08_insert.j1 k x1 x5 x6 (rd x10 x12) x10 x11 x12 (decide ((rd x10 x12) ≥ x1)))) else (none)) else (none)) else (if x6 = true then (some x5) else (if x5.length < 17592186044416 then (some (x5 ++ [x1])) else (none)))
def neaptideref08_insert.j1 : Nat → Int → List Int → Bool → Int → List Int → Int → Int → Bool → Option (List Int)
  | 0, _, _, _, _, _, _, _, _ => none
  | k + 1, x1, x5, x6, x8, x10, x11, x12, x22 => if x22 = true then (if x5.length < 17592186044416 then ((some (x5 ++ [x1] : List Int)).bind fun y354 => (if x8 = x1 then (neaptideref08_insert.l0 k x1 y354 true x10 x11 (wrap64 (x12 + 1))) else (if y354.length < 17592186044416 then (neaptideref08_insert.l0 k x1 (y354 ++ [x8]) true x10 x11 (wrap64 (x12 + 1))) else (none)))) else (none)) else (if x8 = x1 then (neaptideref08_insert.l0 k x1 x5 x6 x10 x11 (wrap64 (x12 + 1))) else (if x5.length < 17592186044416 then (neaptideref08_insert.l0 k x1 (x5 ++ [x8]) x6 x10 x11 (wrap64 (x12 + 1))) else (none)))
end
def neaptideref08_insert.f (k : Nat) (l0 : List Int) (a1 : Int) : Option (List Int) := neaptideref08_insert.l0 k a1 (([] : List Int)) false l0 (l0.length : Int) 0
set_option maxHeartbeats 8000000 in
set_option maxRecDepth 100000 in
theorem neaptideref08_insert.calls (k : Nat) (A0 : Option Addr) (c0 : Nat) (l0 : List Int) (a1 : Int) (r : List Int) (w : World) (hr0 : Kd.C (Kd.int .i64) w A0 l0.length l0) (hc0 : l0.length ≤ c0) (h : neaptideref08_insert.f k l0 a1 = some r) :
    Calls Tryz.prog 81 #[.slice A0 l0.length c0, .int .i64 a1] w fun e w' => ∃ v0_ : Value, e = .returned (v0_) ∧ Kd.R (Kd.int .i64) 3 w' w.heap.size (fun _ => True) v0_ r ∧ Below w.heap.size w w' := by
  have HR0 := As0.mk hr0
  have HC0 := As0.mk hc0
  clear hr0 hc0
  have HB := As0.mk (Below.refl w.heap.size w)
  have H : (neaptideref08_insert.l0 k a1 (([] : List Int)) false l0 (l0.length : Int) 0) = some r := h
  clear h
  obtain ⟨y347, hy347⟩ : ∃ y_ : List Int, y_ = (([] : List Int)) := ⟨_, rfl⟩
  replace H : (neaptideref08_insert.l0 k a1 y347 false l0 (l0.length : Int) 0) = some r := by first | (rw [hy347]; with_reducible exact H) | (have H2_ := (Option.bind_some _ _).symm.trans H; rw [hy347]; with_reducible exact H2_) | (have H2_ := (Option.bind_some _ _).symm.trans H; with_reducible exact H2_) | with_reducible exact H | (rw [hy347]; exact H) | exact H
  have Ny347 := As0.mk hy347
  clear hy347
  have H' := As0.mk H
  clear H
  go_enter Tryz.func81, Tryz.ntmps81
  go_wp2_with (first | ((with_reducible refine gate_dst (N := 9) rfl ?_); refine Kd.R_lit (Kd.int .i64) _ 3 ?hg (N := 9) ?hd (xs := ([] : List Int)) (inner := []) (ok := fun _ => True) (okp := fun _ => True) ?hr ?hp (fun _ hk => hk) trivial (Below.refl _ _) (Nat.le_refl _) (by simp) ?_; (case hd => rfl); (case hg => rfl); (case hr => first | (go_simp; done) | (go_simp; rfl)); (case hp => exact (Reps.none _ _)); intro v348 w3 ho4 hb hg_ hnew_; clear hg_ hnew_; (first | rw [← Ny347.out] at ho4 | (simp only [Int.reduceToNat] at ho4; rw [← Ny347.out] at ho4)); have n0_ := As0.mk (Kd.R_lower ho4 (bwz (by repeat (first | (with_reducible first | exact HB.out | apply bwa | apply pbN | apply bd1) | exact HB.out)))); have n1_ := As0.mk (bwp (by repeat (first | (with_reducible first | exact HB.out | apply bwa | apply pbN | apply bd1) | exact HB.out)) hb); clear HB; have HO349 := n0_; have HB := n1_; clear n0_ n1_; clear hb ho4))
  go_loopg [5, 6, 12] k (fun kq v5 v6 v12 w' => ∃ (x5_1 : List Int) (x6_1 : Bool) (x12_1 : Int), v6 = .bool x6_1 ∧ v12 = .int .i64 x12_1 ∧ As0 (neaptideref08_insert.l0 kq a1 x5_1 x6_1 l0 (l0.length : Int) x12_1 = some r) ∧ As0 (kq ≤ k) ∧ As0 (Kd.R (Kd.int .i64) 3 w' w.heap.size (fun _ => True) v5 x5_1) ∧ As0 (Below w.heap.size w w'))
  case atStart => exact ⟨(y347), (false), (0), (by first | rfl | (simp; done) | (simp [*]; done)), (by first | rfl | (simp; done) | (simp [*]; done)), H', ⟨Nat.le_refl _⟩, ⟨by (with_reducible repeat (first | apply Kd.R_alloc | apply Kd.R_drewN | apply Kd.R_drew)); exact HO349.out⟩, ⟨by repeat (first | (with_reducible first | exact HB.out | apply bwa | apply pbN | apply bd1) | exact HB.out)⟩⟩
  case round =>
    clear H'
    try clear p2
    obtain ⟨x5_1, x6_1, x12_1, rfl, rfl, HA, HK1, HO_5, HB⟩ := hrel
    cases gk with
    | zero => exact absurd HA.out (by simp [neaptideref08_insert.l0])
    | succ k1 =>
      have H := HA.out
      clear HA
      simp only [neaptideref08_insert.l0] at H
      by_cases c5 : x12_1 < (l0.length : Int)
      · rw [if_pos c5] at H
        have c5b0 : decide (x12_1 < (l0.length : Int)) = true := decide_eq_true c5
        clear c5
        by_cases c6 : 0 ≤ x12_1
        · rw [if_pos c6] at H
          have c6b0 : decide (0 ≤ x12_1) = true := decide_eq_true c6
          clear c6
          by_cases c7 : x12_1 < (l0.length : Int)
          · rw [if_pos c7] at H
            have c7b0 : decide (x12_1 < (l0.length : Int)) = true := decide_eq_true c7
            clear c7
            have HC8 := As0.mk H
            clear H
            have p353 : 0 ≤ (x12_1 : Int) := of_decide_eq_true (by first | (with_reducible assumption) | assumption)
            have q353 : x12_1 < (l0.length : Int) := of_decide_eq_true (by first | (with_reducible assumption) | assumption)
            obtain ⟨ad353, e353, hx353_0⟩ := Kd.at_int HR0.out x12_1 p353 q353
            cases e353
            replace hx353_0 := (HB.out.cell (World.block_lt_of_cell? w _ hx353_0)).trans hx353_0
            replace p353 := eq_true p353
            replace q353 := eq_true q353
            go_upto_region 6 with (fail)
            go_cut [22] (fun v22 wc => ∃ (kq : Nat) (x22_7 : Bool), v22 = .bool x22_7 ∧ As0 (neaptideref08_insert.j1 kq a1 x5_1 x6_1 (rd l0 x12_1) l0 (l0.length : Int) x12_1 x22_7 = some r) ∧ As0 (kq ≤ k1) ∧ As0 (Kd.R (Kd.int .i64) 3 wc w.heap.size (fun _ => True) u5 x5_1) ∧ As0 (Below w.heap.size w wc))
            case first =>
              have H := HC8.out
              clear HC8
              by_cases c9 : x6_1 = true
              · subst c9
                have H1 : (neaptideref08_insert.j1 k1 a1 x5_1 true (rd l0 x12_1) l0 (l0.length : Int) x12_1 false) = some r := by rw [if_pos rfl] at H; exact H
                clear H
                have H := H1
                clear H1
                have H' := As0.mk H
                clear H
                go_wp2
                go_meet
                case rel => exact ⟨_, (false), (by first | rfl | (simp; done) | (simp [*]; done)), H', ⟨by have := HK1.out; first | omega | exact Nat.le_refl _⟩, ⟨by (with_reducible repeat (first | apply Kd.R_alloc | apply Kd.R_drewN | apply Kd.R_drew)); exact HO_5.out⟩, ⟨by repeat (first | (with_reducible first | exact HB.out | apply bwa | apply pbN | apply bd1) | exact HB.out)⟩⟩
              · replace c9 := Bool.eq_false_iff.mpr c9
                subst c9
                have H1 : (neaptideref08_insert.j1 k1 a1 x5_1 false (rd l0 x12_1) l0 (l0.length : Int) x12_1 (decide ((rd l0 x12_1) ≥ a1))) = some r := by rw [if_neg (show ¬ (false = true) by decide)] at H; exact H
                clear H
                have H := H1
                clear H1
                have H' := As0.mk H
                clear H
                go_wp2
                go_meet
                case rel => exact ⟨_, (decide ((rd l0 x12_1) ≥ a1)), (by first | rfl | (simp; done) | (simp [*]; done)), H', ⟨by have := HK1.out; first | omega | exact Nat.le_refl _⟩, ⟨by (with_reducible repeat (first | apply Kd.R_alloc | apply Kd.R_drewN | apply Kd.R_drew)); exact HO_5.out⟩, ⟨by repeat (first | (with_reducible first | exact HB.out | apply bwa | apply pbN | apply bd1) | exact HB.out)⟩⟩
            case rest =>
              clear HC8
              try clear p2
              try clear p3
              try clear q3
              try clear hx3
              try clear c5
              try clear c5b0
              try clear c6
              try clear c6b0
              try clear c7
              try clear c7b0
              try clear c8
              try clear c9
              try clear hx353_0
              try clear p2
              try clear p353
              try clear q353
              obtain ⟨kq, x22_7, rfl, HA, HJ7, HO_5, HB⟩ := hcut
              cases kq with
              | zero => exact absurd HA.out (by simp [neaptideref08_insert.j1])
              | succ kj7 =>
                have H := HA.out
                clear HA
                simp only [neaptideref08_insert.j1] at H
                by_cases c10 : x22_7 = true
                · subst c10
                  have H1 : (if x5_1.length < 17592186044416 then ((some (x5_1 ++ [a1] : List Int)).bind fun y354 => (if (rd l0 x12_1) = a1 then (neaptideref08_insert.l0 kj7 a1 y354 true l0 (l0.length : Int) (wrap64 (x12_1 + 1))) else (if y354.length < 17592186044416 then (neaptideref08_insert.l0 kj7 a1 (y354 ++ [(rd l0 x12_1)]) true l0 (l0.length : Int) (wrap64 (x12_1 + 1))) else (none)))) else (none)) = some r := by rw [if_pos rfl] at H; exact H
                  clear H
                  have H := H1
                  clear H1
                  by_cases c11 : x5_1.length < 17592186044416
                  · rw [if_pos c11] at H
                    have LMc11 := As0.mk c11
                    clear c11
                    obtain ⟨y354, hy354⟩ : ∃ y_ : List Int, y_ = (x5_1 ++ [a1]) := ⟨_, rfl⟩
                    replace H : (if (rd l0 x12_1) = a1 then (neaptideref08_insert.l0 kj7 a1 y354 true l0 (l0.length : Int) (wrap64 (x12_1 + 1))) else (if y354.length < 17592186044416 then (neaptideref08_insert.l0 kj7 a1 (y354 ++ [(rd l0 x12_1)]) true l0 (l0.length : Int) (wrap64 (x12_1 + 1))) else (none))) = some r := by first | (rw [hy354]; with_reducible exact H) | (have H2_ := (Option.bind_some _ _).symm.trans H; rw [hy354]; with_reducible exact H2_) | (have H2_ := (Option.bind_some _ _).symm.trans H; with_reducible exact H2_) | with_reducible exact H | (rw [hy354]; exact H) | exact H
                    have Ny354 := As0.mk hy354
                    clear hy354
                    by_cases c12 : (rd l0 x12_1) = a1
                    · rw [if_pos c12] at H
                      have c12b0 : ((rd l0 x12_1) == a1) = true := beq_iff_eq.mpr c12
                      have c12b1 : ((rd l0 x12_1) != a1) = false := bne_eq_false_iff_eq.mpr c12
                      clear c12
                      have H' := As0.mk H
                      clear H
                      go_wp2_with (first | ((with_reducible refine gate_builtin (b := .append) (xs := #[.tmp 23, .tmp 25]) rfl ?_); at_builtin; refine Kd.R_append (Kd.int .i64) (w0 := w) w.heap.size rfl (.tmp 23) (.tmp 25) 22 3 (.int .i64 0) 8 rfl Tryz.underlying22 info3 rfl (by decide) (by omega) u5 x5_1 a1 [.int .i64 a1] (fun _ => True) (fun _ => False) rfl rfl ?aP (fun _ hk => hk.elim) ?aF ?aO ?aB ?aS ?aL ?_; (case aP => exact rfl); (case aB => exact (by repeat (first | (with_reducible first | exact HB.out | apply bwa | apply pbN | apply bd1) | exact HB.out))); (case aF => exact (fun _ _ => trivial)); (case aO => exact (by (with_reducible repeat (first | apply Kd.R_alloc | apply Kd.R_drewN | apply Kd.R_drew)); exact HO_5.out)); (case aS => exact (bwz (by repeat (first | (with_reducible first | exact HB.out | apply bwa | apply pbN | apply bd1) | exact HB.out)))); (case aL => have := LMc11.out; omega); intro v355 w13 ho hb hg hat; rw [← Ny354.out] at ho; have n0_ := As0.mk (hb); have n1_ := As0.mk (ho); clear HB; clear HO_5; have HB := n0_; have HO356 := n1_; clear n0_ n1_; clear ho hb hg hat))
                      go_roundg kj7
                      case measure => have := HK1.out; have := HJ7.out; omega
                      case rel => exact ⟨(y354), (true), (wrap64 (x12_1 + 1)), (by first | rfl | (simp; done) | (simp [*]; done)), (by first | rfl | (simp; done) | (simp [*]; done)), H', ⟨by have := HK1.out; have := HJ7.out; omega⟩, ⟨by (with_reducible repeat (first | apply Kd.R_alloc | apply Kd.R_drewN | apply Kd.R_drew)); exact HO356.out⟩, ⟨by repeat (first | (with_reducible first | exact HB.out | apply bwa | apply pbN | apply bd1) | exact HB.out)⟩⟩
                    · rw [if_neg c12] at H
                      have c12b0 : ((rd l0 x12_1) == a1) = false := beq_eq_false_iff_ne.mpr c12
                      have c12b1 : ((rd l0 x12_1) != a1) = true := bne_iff_ne.mpr c12
                      by_cases c14 : y354.length < 17592186044416
                      · rw [if_pos c14] at H
                        have LMc14 := As0.mk c14
                        clear c14
                        obtain ⟨y357, hy357⟩ : ∃ y_ : List Int, y_ = (y354 ++ [(rd l0 x12_1)]) := ⟨_, rfl⟩
                        replace H : (neaptideref08_insert.l0 kj7 a1 y357 true l0 (l0.length : Int) (wrap64 (x12_1 + 1))) = some r := by first | (rw [hy357]; with_reducible exact H) | (have H2_ := (Option.bind_some _ _).symm.trans H; rw [hy357]; with_reducible exact H2_) | (have H2_ := (Option.bind_some _ _).symm.trans H; with_reducible exact H2_) | with_reducible exact H | (rw [hy357]; exact H) | exact H
                        have Ny357 := As0.mk hy357
                        clear hy357
                        have H' := As0.mk H
                        clear H
                        go_wp2_with (first | ((with_reducible refine gate_builtin (b := .append) (xs := #[.tmp 23, .tmp 25]) rfl ?_); at_builtin; refine Kd.R_append (Kd.int .i64) (w0 := w) w.heap.size rfl (.tmp 23) (.tmp 25) 22 3 (.int .i64 0) 8 rfl Tryz.underlying22 info3 rfl (by decide) (by omega) u5 x5_1 a1 [.int .i64 a1] (fun _ => True) (fun _ => False) rfl rfl ?aP (fun _ hk => hk.elim) ?aF ?aO ?aB ?aS ?aL ?_; (case aP => exact rfl); (case aB => exact (by repeat (first | (with_reducible first | exact HB.out | apply bwa | apply pbN | apply bd1) | exact HB.out))); (case aF => exact (fun _ _ => trivial)); (case aO => exact (by (with_reducible repeat (first | apply Kd.R_alloc | apply Kd.R_drewN | apply Kd.R_drew)); exact HO_5.out)); (case aS => exact (bwz (by repeat (first | (with_reducible first | exact HB.out | apply bwa | apply pbN | apply bd1) | exact HB.out)))); (case aL => have := LMc11.out; omega); intro v355 w15 ho hb hg hat; rw [← Ny354.out] at ho; have n0_ := As0.mk (hb); have n1_ := As0.mk (ho); clear HB; clear HO_5; have HB := n0_; have HO356 := n1_; clear n0_ n1_; clear ho hb hg hat) | ((with_reducible refine gate_builtin (b := .append) (xs := #[.tmp 30, .tmp 32]) rfl ?_); at_builtin; refine Kd.R_append (Kd.int .i64) (w0 := w) w.heap.size rfl (.tmp 30) (.tmp 32) 22 3 (.int .i64 0) 8 rfl Tryz.underlying22 info3 rfl (by decide) (by omega) v355 y354 (rd l0 x12_1) [.int .i64 (rd l0 x12_1)] (fun _ => True) (fun _ => False) rfl rfl ?aP (fun _ hk => hk.elim) ?aF ?aO ?aB ?aS ?aL ?_; (case aP => exact rfl); (case aB => exact (by repeat (first | (with_reducible first | exact HB.out | apply bwa | apply pbN | apply bd1) | exact HB.out))); (case aF => exact (fun _ _ => trivial)); (case aO => exact (by (with_reducible repeat (first | apply Kd.R_alloc | apply Kd.R_drewN | apply Kd.R_drew)); exact HO356.out)); (case aS => exact (bwz (by repeat (first | (with_reducible first | exact HB.out | apply bwa | apply pbN | apply bd1) | exact HB.out)))); (case aL => have := LMc14.out; omega); intro v358 w16 ho hb hg hat; rw [← Ny357.out] at ho; have n0_ := As0.mk (hb); have n1_ := As0.mk (ho); clear HB; clear HO356; have HB := n0_; have HO359 := n1_; clear n0_ n1_; clear ho hb hg hat))
                        go_roundg kj7
                        case measure => have := HK1.out; have := HJ7.out; omega
                        case rel => exact ⟨(y357), (true), (wrap64 (x12_1 + 1)), (by first | rfl | (simp; done) | (simp [*]; done)), (by first | rfl | (simp; done) | (simp [*]; done)), H', ⟨by have := HK1.out; have := HJ7.out; omega⟩, ⟨by (with_reducible repeat (first | apply Kd.R_alloc | apply Kd.R_drewN | apply Kd.R_drew)); exact HO359.out⟩, ⟨by repeat (first | (with_reducible first | exact HB.out | apply bwa | apply pbN | apply bd1) | exact HB.out)⟩⟩
                      · rw [if_neg c14] at H
                        exact absurd H (by simp)
                  · rw [if_neg c11] at H
                    exact absurd H (by simp)
                · replace c10 := Bool.eq_false_iff.mpr c10
                  subst c10
                  have H1 : (if (rd l0 x12_1) = a1 then (neaptideref08_insert.l0 kj7 a1 x5_1 x6_1 l0 (l0.length : Int) (wrap64 (x12_1 + 1))) else (if x5_1.length < 17592186044416 then (neaptideref08_insert.l0 kj7 a1 (x5_1 ++ [(rd l0 x12_1)]) x6_1 l0 (l0.length : Int) (wrap64 (x12_1 + 1))) else (none))) = some r := by rw [if_neg (show ¬ (false = true) by decide)] at H; exact H
                  clear H
                  have H := H1
                  clear H1
                  by_cases c17 : (rd l0 x12_1) = a1
                  · rw [if_pos c17] at H
                    have c17b0 : ((rd l0 x12_1) == a1) = true := beq_iff_eq.mpr c17
                    have c17b1 : ((rd l0 x12_1) != a1) = false := bne_eq_false_iff_eq.mpr c17
                    clear c17
                    have H' := As0.mk H
                    clear H
                    go_wp2
                    go_roundg kj7
                    case measure => have := HK1.out; have := HJ7.out; omega
                    case rel => exact ⟨(x5_1), (x6_1), (wrap64 (x12_1 + 1)), (by first | rfl | (simp; done) | (simp [*]; done)), (by first | rfl | (simp; done) | (simp [*]; done)), H', ⟨by have := HK1.out; have := HJ7.out; omega⟩, ⟨by (with_reducible repeat (first | apply Kd.R_alloc | apply Kd.R_drewN | apply Kd.R_drew)); exact HO_5.out⟩, ⟨by repeat (first | (with_reducible first | exact HB.out | apply bwa | apply pbN | apply bd1) | exact HB.out)⟩⟩
                  · rw [if_neg c17] at H
                    have c17b0 : ((rd l0 x12_1) == a1) = false := beq_eq_false_iff_ne.mpr c17
                    have c17b1 : ((rd l0 x12_1) != a1) = true := bne_iff_ne.mpr c17
                    by_cases c18 : x5_1.length < 17592186044416
                    · rw [if_pos c18] at H
                      have LMc18 := As0.mk c18
                      clear c18
                      obtain ⟨y360, hy360⟩ : ∃ y_ : List Int, y_ = (x5_1 ++ [(rd l0 x12_1)]) := ⟨_, rfl⟩
                      replace H : (neaptideref08_insert.l0 kj7 a1 y360 x6_1 l0 (l0.length : Int) (wrap64 (x12_1 + 1))) = some r := by first | (rw [hy360]; with_reducible exact H) | (have H2_ := (Option.bind_some _ _).symm.trans H; rw [hy360]; with_reducible exact H2_) | (have H2_ := (Option.bind_some _ _).symm.trans H; with_reducible exact H2_) | with_reducible exact H | (rw [hy360]; exact H) | exact H
                      have Ny360 := As0.mk hy360
                      clear hy360
                      have H' := As0.mk H
                      clear H
                      go_wp2_with (first | ((with_reducible refine gate_builtin (b := .append) (xs := #[.tmp 30, .tmp 32]) rfl ?_); at_builtin; refine Kd.R_append (Kd.int .i64) (w0 := w) w.heap.size rfl (.tmp 30) (.tmp 32) 22 3 (.int .i64 0) 8 rfl Tryz.underlying22 info3 rfl (by decide) (by omega) u5 x5_1 (rd l0 x12_1) [.int .i64 (rd l0 x12_1)] (fun _ => True) (fun _ => False) rfl rfl ?aP (fun _ hk => hk.elim) ?aF ?aO ?aB ?aS ?aL ?_; (case aP => exact rfl); (case aB => exact (by repeat (first | (with_reducible first | exact HB.out | apply bwa | apply pbN | apply bd1) | exact HB.out))); (case aF => exact (fun _ _ => trivial)); (case aO => exact (by (with_reducible repeat (first | apply Kd.R_alloc | apply Kd.R_drewN | apply Kd.R_drew)); exact HO_5.out)); (case aS => exact (bwz (by repeat (first | (with_reducible first | exact HB.out | apply bwa | apply pbN | apply bd1) | exact HB.out)))); (case aL => have := LMc18.out; omega); intro v361 w19 ho hb hg hat; rw [← Ny360.out] at ho; have n0_ := As0.mk (hb); have n1_ := As0.mk (ho); clear HB; clear HO_5; have HB := n0_; have HO362 := n1_; clear n0_ n1_; clear ho hb hg hat))
                      go_roundg kj7
                      case measure => have := HK1.out; have := HJ7.out; omega
                      case rel => exact ⟨(y360), (x6_1), (wrap64 (x12_1 + 1)), (by first | rfl | (simp; done) | (simp [*]; done)), (by first | rfl | (simp; done) | (simp [*]; done)), H', ⟨by have := HK1.out; have := HJ7.out; omega⟩, ⟨by (with_reducible repeat (first | apply Kd.R_alloc | apply Kd.R_drewN | apply Kd.R_drew)); exact HO362.out⟩, ⟨by repeat (first | (with_reducible first | exact HB.out | apply bwa | apply pbN | apply bd1) | exact HB.out)⟩⟩
                    · rw [if_neg c18] at H
                      exact absurd H (by simp)
          · rw [if_neg c7] at H
            exact absurd H (by simp)
        · rw [if_neg c6] at H
          exact absurd H (by simp)
      · rw [if_neg c5] at H
        have c5b0 : decide (x12_1 < (l0.length : Int)) = false := decide_eq_false c5
        clear c5
        by_cases c20 : x6_1 = true
        · subst c20
          have H1 : (some x5_1) = some r := by rw [if_pos rfl] at H; exact H
          clear H
          have H := H1
          clear H1
          obtain rfl := Option.some.inj H
          go_wp2
          go_ret
          exact ⟨_, by first | rfl | (simp [eWn, eWs] <;> rfl) | (simp [*, eWn, eWs] <;> rfl), by (with_reducible repeat (first | apply Kd.R_alloc | apply Kd.R_drewN | apply Kd.R_drew)); exact HO_5.out, by repeat (first | (with_reducible first | exact HB.out | apply bwa | apply pbN | apply bd1) | exact HB.out)⟩
        · replace c20 := Bool.eq_false_iff.mpr c20
          subst c20
          have H1 : (if x5_1.length < 17592186044416 then (some (x5_1 ++ [a1])) else (none)) = some r := by rw [if_neg (show ¬ (false = true) by decide)] at H; exact H
          clear H
          have H := H1
          clear H1
          by_cases c21 : x5_1.length < 17592186044416
          · rw [if_pos c21] at H
            have LMc21 := As0.mk c21
            clear c21
            obtain ⟨y350, hy350⟩ : ∃ y_ : List Int, y_ = (x5_1 ++ [a1]) := ⟨_, rfl⟩
            replace H : (some y350) = some r := by first | (rw [hy350]; with_reducible exact H) | (have H2_ := (Option.bind_some _ _).symm.trans H; rw [hy350]; with_reducible exact H2_) | (have H2_ := (Option.bind_some _ _).symm.trans H; with_reducible exact H2_) | with_reducible exact H | (rw [hy350]; exact H) | exact H
            have Ny350 := As0.mk hy350
            clear hy350
            obtain rfl := Option.some.inj H
            go_wp2_with (first | ((with_reducible refine gate_builtin (b := .append) (xs := #[.tmp 37, .tmp 39]) rfl ?_); at_builtin; refine Kd.R_append (Kd.int .i64) (w0 := w) w.heap.size rfl (.tmp 37) (.tmp 39) 22 3 (.int .i64 0) 8 rfl Tryz.underlying22 info3 rfl (by decide) (by omega) u5 x5_1 a1 [.int .i64 a1] (fun _ => True) (fun _ => False) rfl rfl ?aP (fun _ hk => hk.elim) ?aF ?aO ?aB ?aS ?aL ?_; (case aP => exact rfl); (case aB => exact (by repeat (first | (with_reducible first | exact HB.out | apply bwa | apply pbN | apply bd1) | exact HB.out))); (case aF => exact (fun _ _ => trivial)); (case aO => exact (by (with_reducible repeat (first | apply Kd.R_alloc | apply Kd.R_drewN | apply Kd.R_drew)); exact HO_5.out)); (case aS => exact (bwz (by repeat (first | (with_reducible first | exact HB.out | apply bwa | apply pbN | apply bd1) | exact HB.out)))); (case aL => have := LMc21.out; omega); intro v351 w22 ho hb hg hat; rw [← Ny350.out] at ho; have n0_ := As0.mk (hb); have n1_ := As0.mk (ho); clear HB; clear HO_5; have HB := n0_; have HO352 := n1_; clear n0_ n1_; clear ho hb hg hat))
            go_ret
            exact ⟨_, by first | rfl | (simp [eWn, eWs] <;> rfl) | (simp [*, eWn, eWs] <;> rfl), by (with_reducible repeat (first | apply Kd.R_alloc | apply Kd.R_drewN | apply Kd.R_drew)); exact HO352.out, by repeat (first | (with_reducible first | exact HB.out | apply bwa | apply pbN | apply bd1) | exact HB.out)⟩
          · rw [if_neg c21] at H
            exact absurd H (by simp)
def neaptideref08_Names.l0 : Nat → List Int → List (S35) → Int → Int → Option (List Int)
  | 0, _, _, _, _ => none
  | k + 1, x3, x8, x9, x10 => if x10 < x9 then (if 0 ≤ x10 then (if x10 < (x8.length : Int) then ((neaptideref07_Name.f k ((rd_T35 x8 x10).f0) ((rd_T35 x8 x10).f1) ((rd_T35 x8 x10).f2) ((rd_T35 x8 x10).f3) ((rd_T35 x8 x10).f4)).bind fun t369 => ((neaptideref08_insert.f k x3 t369).bind fun t370 => (neaptideref08_Names.l0 k t370 x8 x9 (wrap64 (x10 + 1))))) else (none)) else (none)) else (some x3)
def neaptideref08_Names.f (k : Nat) (l0_0 : List (S35)) (l0_1 : List (S35)) : Option (List Int) := neaptideref08_Names.l0 k (([] : List Int)) l0_0 (l0_0.length : Int) 0
set_option maxHeartbeats 8000000 in
set_option maxRecDepth 100000 in
theorem neaptideref08_Names.calls (k : Nat) (A0_0 : Option Addr) (c0_0 : Nat) (l0_0 : List (S35)) (A0_1 : Option Addr) (c0_1 : Nat) (l0_1 : List (S35)) (r : List Int) (w : World) (hr0_0 : Kd.C k35 w A0_0 l0_0.length l0_0) (hc0_0 : l0_0.length ≤ c0_0) (hr0_1 : Kd.C k35 w A0_1 l0_1.length l0_1) (hc0_1 : l0_1.length ≤ c0_1) (h : neaptideref08_Names.f k l0_0 l0_1 = some r) :
    Calls Tryz.prog 48 #[.agg #[.slice A0_0 l0_0.length c0_0, .slice A0_1 l0_1.length c0_1]] w fun e w' => ∃ v0_ : Value, e = .returned (v0_) ∧ Kd.R (Kd.int .i64) 3 w' w.heap.size (fun _ => True) v0_ r ∧ Below w.heap.size w w' := by
  have hu30 := Tryz.underlying30
  have hu35 := Tryz.underlying35
  have HR0_0 := As0.mk hr0_0
  have HC0_0 := As0.mk hc0_0
  clear hr0_0 hc0_0
  have HR0_1 := As0.mk hr0_1
  have HC0_1 := As0.mk hc0_1
  clear hr0_1 hc0_1
  have HB := As0.mk (Below.refl w.heap.size w)
  have H : (neaptideref08_Names.l0 k (([] : List Int)) l0_0 (l0_0.length : Int) 0) = some r := h
  clear h
  obtain ⟨y364, hy364⟩ : ∃ y_ : List Int, y_ = (([] : List Int)) := ⟨_, rfl⟩
  replace H : (neaptideref08_Names.l0 k y364 l0_0 (l0_0.length : Int) 0) = some r := by first | (rw [hy364]; with_reducible exact H) | (have H2_ := (Option.bind_some _ _).symm.trans H; rw [hy364]; with_reducible exact H2_) | (have H2_ := (Option.bind_some _ _).symm.trans H; with_reducible exact H2_) | with_reducible exact H | (rw [hy364]; exact H) | exact H
  have Ny364 := As0.mk hy364
  clear hy364
  have H' := As0.mk H
  clear H
  go_enter Tryz.func48, Tryz.ntmps48
  go_wp2_with (first | ((with_reducible refine gate_dst (N := 1) rfl ?_); refine bxe ?hg (N := 1) ?hd (cs := #[.slice A0_0 l0_0.length c0_0, .slice A0_1 l0_1.length c0_1]) (t := 30) ?hr ?_; (case hd => rfl); (case hg => rfl); (case hr => first | (go_simp; done) | (go_simp; rfl)); intro gb363 hg w2 hbox hb; have n0_ := As0.mk (bwp (by repeat (first | (with_reducible first | exact HB.out | apply bwa | apply pbN | apply bd1) | exact HB.out)) hb); have n1_ := As0.mk (hbox); have n2_ := As0.mk ((by rw [hg]; exact (bwz (by repeat (first | (with_reducible first | exact HB.out | apply bwa | apply pbN | apply bd1) | exact HB.out))) : w.heap.size ≤ gb363)); have n3_ := As0.mk ((by rw [hg]; exact (bwz (by repeat (first | (with_reducible first | exact HB.out | apply bwa | apply pbN | apply bd1) | exact HB.out))) : w.heap.size ≤ gb363)); clear HB; have HB := n0_; have BK363 := n1_; have GW363 := n2_; have GE363 := n3_; clear n0_ n1_ n2_ n3_; clear hb hbox hg) | ((with_reducible refine gate_dst (N := 6) rfl ?_); refine Kd.R_lit (Kd.int .i64) _ 3 ?hg (N := 6) ?hd (xs := ([] : List Int)) (inner := []) (ok := fun _ => True) (okp := fun _ => True) ?hr ?hp (fun _ hk => hk) trivial (Below.refl _ _) (Nat.le_refl _) (by simp) ?_; (case hd => rfl); (case hg => rfl); (case hr => first | (go_simp; done) | (go_simp; rfl)); (case hp => exact (Reps.none _ _)); intro v365 w3 ho4 hb hg_ hnew_; clear hg_ hnew_; (first | rw [← Ny364.out] at ho4 | (simp only [Int.reduceToNat] at ho4; rw [← Ny364.out] at ho4)); have n0_ := As0.mk (Kd.R_lower ho4 (bwz (by repeat (first | (with_reducible first | exact HB.out | apply bwa | apply pbN | apply bd1 | refine bws ?_ GE363.out) | exact HB.out)))); have n1_ := As0.mk (blk_below (g := gb363) (o := .cells #[.slice A0_0 l0_0.length c0_0, .slice A0_1 l0_1.length c0_1] 30 (0, 0)) (by (with_reducible repeat (first | refine bkN ?_ _ | refine bkd ?_ | refine bka ?_ _)); exact BK363.out) hb); have n2_ := As0.mk (bwp (by repeat (first | (with_reducible first | exact HB.out | apply bwa | apply pbN | apply bd1 | refine bws ?_ GE363.out) | exact HB.out)) hb); clear BK363; clear HB; have HO366 := n0_; have BK363 := n1_; have HB := n2_; clear n0_ n1_ n2_; clear hb ho4; have hcz5_0 : w3.cell? ⟨gb363, 0, none⟩ = some (.slice A0_0 l0_0.length c0_0) := (bkc BK363.out 0).trans rfl; have hcz5_1 : w3.cell? ⟨gb363, 1, none⟩ = some (.slice A0_1 l0_1.length c0_1) := (bkc BK363.out 1).trans rfl; have hfz5_0 := bkf BK363.out 0; have hfz5_1 := bkf BK363.out 1))
  go_loopg [3, 10] k (fun kq v3 v10 w' => ∃ (x3_1 : List Int) (x10_1 : Int), v10 = .int .i64 x10_1 ∧ As0 (neaptideref08_Names.l0 kq x3_1 l0_0 (l0_0.length : Int) x10_1 = some r) ∧ As0 (kq ≤ k) ∧ As0 (Kd.R (Kd.int .i64) 3 w' w.heap.size (fun _ => True) v3 x3_1) ∧ As0 (w'.heap[gb363]? = some (.cells #[(.slice A0_0 l0_0.length c0_0), (.slice A0_1 l0_1.length c0_1)] 30 (0, 0))) ∧ As0 (Below w.heap.size w w'))
  case atStart => exact ⟨(y364), (0), (by first | rfl | (simp; done) | (simp [*]; done)), H', ⟨Nat.le_refl _⟩, ⟨by (with_reducible repeat (first | apply Kd.R_alloc | apply Kd.R_drewN | apply Kd.R_drew)); exact HO366.out⟩, ⟨by (with_reducible repeat (first | refine bkN ?_ _ | refine bkd ?_ | refine bka ?_ _)); exact BK363.out⟩, ⟨by repeat (first | (with_reducible first | exact HB.out | apply bwa | apply pbN | apply bd1 | refine bws ?_ GE363.out) | exact HB.out)⟩⟩
  case round =>
    clear H'
    try clear p2
    try clear c4
    try clear hcz5_0
    try clear hcz5_1
    try clear hfz5_0
    try clear hfz5_1
    obtain ⟨x3_1, x10_1, rfl, HA, HK1, HO_3, BK363, HB⟩ := hrel
    cases gk with
    | zero => exact absurd HA.out (by simp [neaptideref08_Names.l0])
    | succ k1 =>
      have H := HA.out
      clear HA
      simp only [neaptideref08_Names.l0] at H
      by_cases c6 : x10_1 < (l0_0.length : Int)
      · rw [if_pos c6] at H
        have c6b0 : decide (x10_1 < (l0_0.length : Int)) = true := decide_eq_true c6
        clear c6
        by_cases c7 : 0 ≤ x10_1
        · rw [if_pos c7] at H
          have c7b0 : decide (0 ≤ x10_1) = true := decide_eq_true c7
          clear c7
          by_cases c8 : x10_1 < (l0_0.length : Int)
          · rw [if_pos c8] at H
            have c8b0 : decide (x10_1 < (l0_0.length : Int)) = true := decide_eq_true c8
            clear c8
            replace H := Option.bind_eq_some_iff.mp H
            obtain ⟨t369, A90, H⟩ := H
            replace H : ((neaptideref08_insert.f k1 x3_1 t369).bind fun t370 => (neaptideref08_Names.l0 k1 t370 l0_0 (l0_0.length : Int) (wrap64 (x10_1 + 1)))) = some r := H
            have A9 := As0.mk A90
            clear A90
            replace H := Option.bind_eq_some_iff.mp H
            obtain ⟨t370, A100, H⟩ := H
            replace H : (neaptideref08_Names.l0 k1 t370 l0_0 (l0_0.length : Int) (wrap64 (x10_1 + 1))) = some r := H
            have A10 := As0.mk A100
            clear A100
            have H' := As0.mk H
            clear H
            have p367 : 0 ≤ (x10_1 : Int) := of_decide_eq_true (by first | (with_reducible assumption) | assumption)
            have q367 : x10_1 < (l0_0.length : Int) := of_decide_eq_true (by first | (with_reducible assumption) | assumption)
            obtain ⟨ad367, A367_4, c367_4, e367, hx367_0, hx367_1, hx367_2, hx367_3, hx367_4, hl367_4, hi367_4⟩ := at_T35 HR0_0.out x10_1 p367 q367
            cases e367
            replace hx367_0 := (HB.out.cell (World.block_lt_of_cell? w _ hx367_0)).trans hx367_0
            replace hx367_1 := (HB.out.cell (World.block_lt_of_cell? w _ hx367_1)).trans hx367_1
            replace hx367_2 := (HB.out.cell (World.block_lt_of_cell? w _ hx367_2)).trans hx367_2
            replace hx367_3 := (HB.out.cell (World.block_lt_of_cell? w _ hx367_3)).trans hx367_3
            replace hx367_4 := (HB.out.cell (World.block_lt_of_cell? w _ hx367_4)).trans hx367_4
            have HR367_4 := As0.mk hi367_4
            have HC367_4 := As0.mk hl367_4
            clear hi367_4 hl367_4
            replace p367 := eq_true p367
            replace q367 := eq_true q367
            go_wp2_with (first | ((with_reducible refine gate_dst (N := 5) rfl ?_); refine bxe ?hg (N := 5) ?hd (cs := #[.int .i64 0, .int .i64 0, .int .i64 0, .int .i64 0, .slice none 0 0]) (t := 35) ?hr ?_; (case hd => rfl); (case hg => rfl); (case hr => first | (go_simp; done) | (go_simp; rfl)); intro gb368 hg w11 hbox hb; have n0_ := As0.mk (Kd.R_below (by (with_reducible repeat (first | apply Kd.R_alloc | apply Kd.R_drewN | apply Kd.R_drew)); exact HO_3.out) hb); have n1_ := As0.mk (blk_below (g := gb363) (o := .cells #[.slice (some ad367) l0_0.length c0_0, .slice A0_1 l0_1.length c0_1] 30 (0, 0)) (by (with_reducible repeat (first | refine bkN ?_ _ | refine bkd ?_ | refine bka ?_ _)); exact BK363.out) hb); have n2_ := As0.mk (bwp (by repeat (first | (with_reducible first | exact HB.out | apply bwa | apply pbN | apply bd1 | refine bws ?_ GE363.out) | exact HB.out)) hb); have n3_ := As0.mk (hbox); have n4_ := As0.mk ((by rw [hg]; exact (bwz (by repeat (first | (with_reducible first | exact HB.out | apply bwa | apply pbN | apply bd1 | refine bws ?_ GE363.out) | exact HB.out))) : w.heap.size ≤ gb368)); have n5_ := As0.mk ((by rw [hg]; exact (bwz (by repeat (first | (with_reducible first | exact HB.out | apply bwa | apply pbN | apply bd1 | refine bws ?_ GE363.out) | exact HB.out))) : w.heap.size ≤ gb368)); have n6_ := As0.mk ((by rw [hg]; exact Nat.ne_of_lt (blk_lt (g := gb363) (o := .cells #[.slice (some ad367) l0_0.length c0_0, .slice A0_1 l0_1.length c0_1] 30 (0, 0)) (by (with_reducible repeat (first | refine bkN ?_ _ | refine bkd ?_ | refine bka ?_ _)); exact BK363.out)) : gb363 ≠ gb368)); have n7_ := As0.mk ((by rw [hg]; exact Nat.ne_of_gt (blk_lt (g := gb363) (o := .cells #[.slice (some ad367) l0_0.length c0_0, .slice A0_1 l0_1.length c0_1] 30 (0, 0)) (by (with_reducible repeat (first | refine bkN ?_ _ | refine bkd ?_ | refine bka ?_ _)); exact BK363.out)) : gb368 ≠ gb363)); clear HO_3; clear BK363; clear HB; have HO_3 := n0_; have BK363 := n1_; have HB := n2_; have BK368 := n3_; have GW368 := n4_; have GE368 := n5_; have NB363_368 := n6_; have NB368_363 := n7_; clear n0_ n1_ n2_ n3_ n4_ n5_ n6_ n7_; clear hb hbox hg; have hnb12 := NB368_363.out; have hnc12 := NB363_368.out; have hcz13_0 : w11.cell? ⟨gb368, 0, none⟩ = some (.int .i64 0) := (bkc BK368.out 0).trans rfl; have hcz13_1 : w11.cell? ⟨gb368, 1, none⟩ = some (.int .i64 0) := (bkc BK368.out 1).trans rfl; have hcz13_2 : w11.cell? ⟨gb368, 2, none⟩ = some (.int .i64 0) := (bkc BK368.out 2).trans rfl; have hcz13_3 : w11.cell? ⟨gb368, 3, none⟩ = some (.int .i64 0) := (bkc BK368.out 3).trans rfl; have hcz13_4 : w11.cell? ⟨gb368, 4, none⟩ = some (.slice none 0 0) := (bkc BK368.out 4).trans rfl; have hfz13_0 := bkf BK368.out 0; have hfz13_1 := bkf BK368.out 1; have hfz13_2 := bkf BK368.out 2; have hfz13_3 := bkf BK368.out 3; have hfz13_4 := bkf BK368.out 4) | ((with_reducible refine gtc (f := 76) rfl ?_); refine goesL_ (some 16) rfl rfl Tryz.func76 (by kernel_rfl) rfl #[.agg #[.int .i64 ((rd_T35 l0_0 x10_1).f0), .int .i64 ((rd_T35 l0_0 x10_1).f1), .int .i64 ((rd_T35 l0_0 x10_1).f2), .int .i64 ((rd_T35 l0_0 x10_1).f3), .slice A367_4 ((rd_T35 l0_0 x10_1).f4).length c367_4]] rfl (by (try simp only [List.map_toArray, List.map_cons, List.map_nil]); first | done | rfl | (simp only [List.length_drop, List.length_take]; rfl)) ?_; (with_reducible refine (neaptideref07_Name.calls k1 ((rd_T35 l0_0 x10_1).f0) ((rd_T35 l0_0 x10_1).f1) ((rd_T35 l0_0 x10_1).f2) ((rd_T35 l0_0 x10_1).f3) _ _ ((rd_T35 l0_0 x10_1).f4) t369 _ ?side1 ?side2 A9.out).mono ?_); (case side1 => exact Kd.C_below HR367_4.out (by repeat (first | (with_reducible first | exact HB.out | apply bwa | apply pbN | apply bd1 | refine bws ?_ GE363.out | refine bws ?_ GE368.out) | exact HB.out))); (case side2 => exact HC367_4.out); rintro e w14 ⟨rfl, hb⟩; refine ⟨_, rfl, ?_⟩; have n0_ := As0.mk (Kd.R_below (by (with_reducible repeat (first | apply Kd.R_alloc | apply Kd.R_drewN | apply Kd.R_drew)); exact (Kd.R_mono (Kd.R_far (p := ⟨gb368, 4, none⟩) (Kd.R_far (p := ⟨gb368, 3, none⟩) (Kd.R_far (p := ⟨gb368, 2, none⟩) (Kd.R_far (p := ⟨gb368, 1, none⟩) (Kd.R_far (p := ⟨gb368, 0, none⟩) (Kd.R_types HO_3.out BK368.out (by decide)) (fun _ hk => hk.2) (.int .i64 ((rd_T35 l0_0 x10_1).f0))) (fun _ hk => hk.2) (.int .i64 ((rd_T35 l0_0 x10_1).f1))) (fun _ hk => hk.2) (.int .i64 ((rd_T35 l0_0 x10_1).f2))) (fun _ hk => hk.2) (.int .i64 ((rd_T35 l0_0 x10_1).f3))) (fun _ hk => hk.2) (.slice A367_4 ((rd_T35 l0_0 x10_1).f4).length c367_4)) (fun _ h_ => h_.1))) hb); have n1_ := As0.mk (blk_below (g := gb363) (o := .cells #[.slice (some ad367) l0_0.length c0_0, .slice A0_1 l0_1.length c0_1] 30 (0, 0)) (by (with_reducible repeat (first | refine bkN ?_ _ | refine bkd ?_ | refine bka ?_ _)); refine blk_far ?_ NB363_368.out _; (with_reducible repeat (first | refine bkN ?_ _ | refine bkd ?_ | refine bka ?_ _)); refine blk_far ?_ NB363_368.out _; (with_reducible repeat (first | refine bkN ?_ _ | refine bkd ?_ | refine bka ?_ _)); refine blk_far ?_ NB363_368.out _; (with_reducible repeat (first | refine bkN ?_ _ | refine bkd ?_ | refine bka ?_ _)); refine blk_far ?_ NB363_368.out _; (with_reducible repeat (first | refine bkN ?_ _ | refine bkd ?_ | refine bka ?_ _)); refine blk_far ?_ NB363_368.out _; (with_reducible repeat (first | refine bkN ?_ _ | refine bkd ?_ | refine bka ?_ _)); exact BK363.out) hb); have n2_ := As0.mk (blk_below (g := gb368) (o := .cells #[.int .i64 ((rd_T35 l0_0 x10_1).f0), .int .i64 ((rd_T35 l0_0 x10_1).f1), .int .i64 ((rd_T35 l0_0 x10_1).f2), .int .i64 ((rd_T35 l0_0 x10_1).f3), .slice A367_4 ((rd_T35 l0_0 x10_1).f4).length c367_4] 35 (0, 0)) (by (with_reducible repeat (first | refine bkN ?_ _ | refine bkd ?_ | refine bka ?_ _)); refine blk_put (cs := #[.int .i64 ((rd_T35 l0_0 x10_1).f0), .int .i64 ((rd_T35 l0_0 x10_1).f1), .int .i64 ((rd_T35 l0_0 x10_1).f2), .int .i64 ((rd_T35 l0_0 x10_1).f3), .slice none 0 0]) ?_ 4 _ rfl; (with_reducible repeat (first | refine bkN ?_ _ | refine bkd ?_ | refine bka ?_ _)); refine blk_put (cs := #[.int .i64 ((rd_T35 l0_0 x10_1).f0), .int .i64 ((rd_T35 l0_0 x10_1).f1), .int .i64 ((rd_T35 l0_0 x10_1).f2), .int .i64 0, .slice none 0 0]) ?_ 3 _ rfl; (with_reducible repeat (first | refine bkN ?_ _ | refine bkd ?_ | refine bka ?_ _)); refine blk_put (cs := #[.int .i64 ((rd_T35 l0_0 x10_1).f0), .int .i64 ((rd_T35 l0_0 x10_1).f1), .int .i64 0, .int .i64 0, .slice none 0 0]) ?_ 2 _ rfl; (with_reducible repeat (first | refine bkN ?_ _ | refine bkd ?_ | refine bka ?_ _)); refine blk_put (cs := #[.int .i64 ((rd_T35 l0_0 x10_1).f0), .int .i64 0, .int .i64 0, .int .i64 0, .slice none 0 0]) ?_ 1 _ rfl; (with_reducible repeat (first | refine bkN ?_ _ | refine bkd ?_ | refine bka ?_ _)); refine blk_put (cs := #[.int .i64 0, .int .i64 0, .int .i64 0, .int .i64 0, .slice none 0 0]) ?_ 0 _ rfl; (with_reducible repeat (first | refine bkN ?_ _ | refine bkd ?_ | refine bka ?_ _)); exact BK368.out) hb); have n3_ := As0.mk (bwp (by repeat (first | (with_reducible first | exact HB.out | apply bwa | apply pbN | apply bd1 | refine bws ?_ GE363.out | refine bws ?_ GE368.out) | exact HB.out)) hb); clear HO_3; clear BK363; clear BK368; clear HB; have HO_3 := n0_; have BK363 := n1_; have BK368 := n2_; have HB := n3_; clear n0_ n1_ n2_ n3_; (try clear hb); (try clear hb2); (try clear hk); (try clear hi); obtain ⟨Ao15, co15, eo15⟩ := Kd.R_slice HO_3.out; subst eo15) | ((with_reducible refine gtc (f := 81) rfl ?_); refine goesL_ (some 17) rfl rfl Tryz.func81 (by kernel_rfl) rfl #[.slice Ao15 x3_1.length co15, .int .i64 t369] rfl (by (try simp only [List.map_toArray, List.map_cons, List.map_nil]); first | done | rfl | (simp only [List.length_drop, List.length_take]; rfl)) ?_; (with_reducible refine (neaptideref08_insert.calls k1 _ _ x3_1 t369 t370 _ ?side1 ?side2 A10.out).mono ?_); (case side1 => repeat (first | exact (Kd.R_reads' HO_3.out).2.2 | (with_reducible refine Kd.C_alloc ?_ _) | (with_reducible refine Kd.C_drewN ?_ _) | (with_reducible refine Kd.C_drew ?_))); (case side2 => exact (Kd.R_reads' HO_3.out).2.1); rintro e w16 ⟨v371, rfl, ho0, hb⟩; refine ⟨_, rfl, ?_⟩; have n0_ := As0.mk (Kd.R_elder' (by (with_reducible repeat (first | apply Kd.R_alloc | apply Kd.R_drewN | apply Kd.R_drew)); exact HO_3.out) (Kd.R_base ho0) hb); have n1_ := As0.mk (Kd.R_lower (Kd.R_new' ho0 (Kd.R_lt (by (with_reducible repeat (first | apply Kd.R_alloc | apply Kd.R_drewN | apply Kd.R_drew)); exact HO_3.out))) (bwz (by repeat (first | (with_reducible first | exact HB.out | apply bwa | apply pbN | apply bd1 | refine bws ?_ GE363.out | refine bws ?_ GE368.out) | exact HB.out)))); have n2_ := As0.mk (blk_below (g := gb363) (o := .cells #[.slice (some ad367) l0_0.length c0_0, .slice A0_1 l0_1.length c0_1] 30 (0, 0)) (by (with_reducible repeat (first | refine bkN ?_ _ | refine bkd ?_ | refine bka ?_ _)); exact BK363.out) hb); have n3_ := As0.mk (blk_below (g := gb368) (o := .cells #[.int .i64 ((rd_T35 l0_0 x10_1).f0), .int .i64 ((rd_T35 l0_0 x10_1).f1), .int .i64 ((rd_T35 l0_0 x10_1).f2), .int .i64 ((rd_T35 l0_0 x10_1).f3), .slice A367_4 ((rd_T35 l0_0 x10_1).f4).length c367_4] 35 (0, 0)) (by (with_reducible repeat (first | refine bkN ?_ _ | refine bkd ?_ | refine bka ?_ _)); exact BK368.out) hb); have n4_ := As0.mk (bwp (by repeat (first | (with_reducible first | exact HB.out | apply bwa | apply pbN | apply bd1 | refine bws ?_ GE363.out | refine bws ?_ GE368.out) | exact HB.out)) hb); clear HO_3; clear BK363; clear BK368; clear HB; have HO_3 := n0_; have HO372 := n1_; have BK363 := n2_; have BK368 := n3_; have HB := n4_; clear n0_ n1_ n2_ n3_ n4_; (try clear hb); (try clear hb2); (try clear hk); (try clear hi); (try clear ho0)))
            go_roundg k1
            case measure => have := HK1.out; omega
            case rel => exact ⟨(t370), (wrap64 (x10_1 + 1)), (by first | rfl | (simp; done) | (simp [*]; done)), H', ⟨by have := HK1.out; omega⟩, ⟨by (with_reducible repeat (first | apply Kd.R_alloc | apply Kd.R_drewN | apply Kd.R_drew)); exact Kd.R_mono HO372.out (fun _ hk => trivial)⟩, ⟨by (with_reducible repeat (first | refine bkN ?_ _ | refine bkd ?_ | refine bka ?_ _)); exact BK363.out⟩, ⟨by repeat (first | (with_reducible first | exact HB.out | apply bwa | apply pbN | apply bd1 | refine bws ?_ GE363.out | refine bws ?_ GE368.out) | exact HB.out)⟩⟩
          · rw [if_neg c8] at H
            exact absurd H (by simp)
        · rw [if_neg c7] at H
          exact absurd H (by simp)
      · rw [if_neg c6] at H
        have c6b0 : decide (x10_1 < (l0_0.length : Int)) = false := decide_eq_false c6
        clear c6
        obtain rfl := Option.some.inj H
        go_wp2
        go_ret
        exact ⟨_, by first | rfl | (simp [eWn, eWs] <;> rfl) | (simp [*, eWn, eWs] <;> rfl), by (with_reducible repeat (first | apply Kd.R_alloc | apply Kd.R_drewN | apply Kd.R_drew)); exact HO_3.out, by repeat (first | (with_reducible first | exact HB.out | apply bwa | apply pbN | apply bd1 | refine bws ?_ GE363.out) | exact HB.out)⟩
end Go.Proofs.YtlllhpnpgcphcaaGreat.PX
