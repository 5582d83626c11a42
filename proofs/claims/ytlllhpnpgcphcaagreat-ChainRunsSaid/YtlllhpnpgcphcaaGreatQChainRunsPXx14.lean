/- What ChainRuns needs. -/
import Derived.Test.YtlllhpnpgcphcaaGreatQChainRunsPXx0
import Derived.Test.YtlllhpnpgcphcaaGreatQChainRunsPXx12
namespace Go.Proofs.YtlllhpnpgcphcaaGreat.PX
open Go.RowKit Go.Proofs.YtlllhpnpgcphcaaGreatW.PrintWords Go.Proofs.YtlllhpnpgcphcaaGreatW.PrintLast Go.Proofs.YtlllhpnpgcphcaaGreatW.PrintMore
attribute [local go_sem] max2_int min2_int max_two min_two max_three min_three max_four min_four   -- for this text's walks alone
set_option linter.unusedVariables false
set_option linter.unusedSimpArgs false
def neaptideref08_Back.l0 : Nat → Int → List Int → Int → Option (Int)
  | 0, _, _, _ => none
  | k + 1, x2, x7, x8 => if x8 < x2 then (if (x7.length : Int) > 0 then (if 0 ≤ (wrap64 ((x7.length : Int) - 1)) then (if (wrap64 ((x7.length : Int) - 1)) ≤ (x7.length : Int) then (neaptideref08_Back.l0 k x2 (x7.take ((wrap64 ((x7.length : Int) - 1)) : Int).toNat) (wrap64 (x8 + 1))) else (none)) else (none)) else (if (x7.length : Int) = 0 then (some 0) else (if 0 ≤ (wrap64 ((x7.length : Int) - 1)) then (if (wrap64 ((x7.length : Int) - 1)) < (x7.length : Int) then (some (rd x7 (wrap64 ((x7.length : Int) - 1)))) else (none)) else (none)))) else (if (x7.length : Int) = 0 then (some 0) else (if 0 ≤ (wrap64 ((x7.length : Int) - 1)) then (if (wrap64 ((x7.length : Int) - 1)) < (x7.length : Int) then (some (rd x7 (wrap64 ((x7.length : Int) - 1)))) else (none)) else (none)))
def neaptideref08_Back.f (k : Nat) (l0_0 : List (S35)) (l0_1 : List (S35)) (a1 : Int) (a2 : Int) : Option (Int) := (neaptideref08_Path.f k l0_0 l0_1 a1).bind fun t544 => (neaptideref08_Back.l0 k a2 t544 0)
set_option maxHeartbeats 8000000 in
set_option maxRecDepth 100000 in
theorem neaptideref08_Back.calls (k : Nat) (A0_0 : Option Addr) (c0_0 : Nat) (l0_0 : List (S35)) (A0_1 : Option Addr) (c0_1 : Nat) (l0_1 : List (S35)) (a1 : Int) (a2 : Int) (r : Int) (w : World) (hr0_0 : Kd.C k35 w A0_0 l0_0.length l0_0) (hc0_0 : l0_0.length ≤ c0_0) (hr0_1 : Kd.C k35 w A0_1 l0_1.length l0_1) (hc0_1 : l0_1.length ≤ c0_1) (h : neaptideref08_Back.f k l0_0 l0_1 a1 a2 = some r) :
    Calls Tryz.prog 57 #[.agg #[.slice A0_0 l0_0.length c0_0, .slice A0_1 l0_1.length c0_1], .int .i64 a1, .int .i64 a2] w fun e w' => e = .returned (.int .i64 r) ∧ Below w.heap.size w w' := by
  have hu30 := Tryz.underlying30
  have HR0_0 := As0.mk hr0_0
  have HC0_0 := As0.mk hc0_0
  clear hr0_0 hc0_0
  have HR0_1 := As0.mk hr0_1
  have HC0_1 := As0.mk hc0_1
  clear hr0_1 hc0_1
  have HB := As0.mk (Below.refl w.heap.size w)
  have H : ((neaptideref08_Path.f k l0_0 l0_1 a1).bind fun t544 => (neaptideref08_Back.l0 k a2 t544 0)) = some r := h
  clear h
  replace H := Option.bind_eq_some_iff.mp H
  obtain ⟨t544, A40, H⟩ := H
  replace H : (neaptideref08_Back.l0 k a2 t544 0) = some r := H
  have A4 := As0.mk A40
  clear A40
  have H' := As0.mk H
  clear H
  go_enter Tryz.func57, Tryz.ntmps57
  go_wp2_with (first | ((with_reducible refine gate_dst (N := 3) rfl ?_); (try (refine gate_guard (by rfl) ?_; dsimp only)); refine bxe ?hg (N := 3) ?hd (cs := #[.slice A0_0 l0_0.length c0_0, .slice A0_1 l0_1.length c0_1]) (t := 30) ?hr ?_; (case hd => rfl); (case hg => rfl); (case hr => first | (go_simp; done) | (go_simp; rfl)); intro gb543 hg w5 hbox hb; have n0_ := As0.mk (bwp (by repeat (first | (with_reducible first | exact HB.out | apply bwa | apply pbN | apply bd1) | exact HB.out)) hb); have n1_ := As0.mk (hbox); have n2_ := As0.mk ((by rw [hg]; exact (bwz (by repeat (first | (with_reducible first | exact HB.out | apply bwa | apply pbN | apply bd1) | exact HB.out))) : w.heap.size ≤ gb543)); have n3_ := As0.mk ((by rw [hg]; exact (bwz (by repeat (first | (with_reducible first | exact HB.out | apply bwa | apply pbN | apply bd1) | exact HB.out))) : w.heap.size ≤ gb543)); clear HB; have HB := n0_; have BK543 := n1_; have GW543 := n2_; have GE543 := n3_; clear n0_ n1_ n2_ n3_; clear hb hbox hg; have hcz6_0 : w5.cell? ⟨gb543, 0, none⟩ = some (.slice A0_0 l0_0.length c0_0) := (bkc BK543.out 0).trans rfl; have hcz6_1 : w5.cell? ⟨gb543, 1, none⟩ = some (.slice A0_1 l0_1.length c0_1) := (bkc BK543.out 1).trans rfl; have hfz6_0 := bkf BK543.out 0; have hfz6_1 := bkf BK543.out 1) | ((with_reducible refine gtc (f := 41) rfl ?_); refine goesL_ (some 11) rfl rfl Tryz.func41 (by kernel_rfl) rfl #[.agg #[.slice A0_0 l0_0.length c0_0, .slice A0_1 l0_1.length c0_1], .int .i64 a1] rfl (by (try simp only [List.map_toArray, List.map_cons, List.map_nil]); first | done | rfl | (simp only [List.length_drop, List.length_take]; rfl)) ?_; (with_reducible refine (neaptideref08_Path.calls k _ _ l0_0 _ _ l0_1 a1 t544 _ ?side1 ?side2 ?side3 ?side4 A4.out).mono ?_); (case side1 => repeat (first | exact (Kd.C_below HR0_0.out HB.out) | (with_reducible refine Kd.C_alloc ?_ _) | (with_reducible refine Kd.C_drewN ?_ _) | (with_reducible refine Kd.C_drew ?_))); (case side2 => exact HC0_0.out); (case side3 => repeat (first | exact (Kd.C_below HR0_1.out HB.out) | (with_reducible refine Kd.C_alloc ?_ _) | (with_reducible refine Kd.C_drewN ?_ _) | (with_reducible refine Kd.C_drew ?_))); (case side4 => exact HC0_1.out); rintro e w7 ⟨v545, rfl, ho0, hb⟩; refine ⟨_, rfl, ?_⟩; have n0_ := As0.mk (Kd.R_lower ho0 (bwz (by repeat (first | (with_reducible first | exact HB.out | apply bwa | apply pbN | apply bd1 | refine bws ?_ GE543.out) | exact HB.out)))); have n1_ := As0.mk (blk_below (g := gb543) (o := .cells #[.slice A0_0 l0_0.length c0_0, .slice A0_1 l0_1.length c0_1] 30 (0, 0)) (by (with_reducible repeat (first | refine bkN ?_ _ | refine bkd ?_ | refine bka ?_ _)); exact BK543.out) hb); have n2_ := As0.mk (bwp (by repeat (first | (with_reducible first | exact HB.out | apply bwa | apply pbN | apply bd1 | refine bws ?_ GE543.out) | exact HB.out)) hb); clear BK543; clear HB; have HO546 := n0_; have BK543 := n1_; have HB := n2_; clear n0_ n1_ n2_; (try clear hb); (try clear hb2); (try clear hk); (try clear hi); (try clear ho0)))
  go_loopg [7, 8] k (fun kq v7 v8 w' => ∃ (x7_1 : List Int) (x8_1 : Int), v8 = .int .i64 x8_1 ∧ As0 (neaptideref08_Back.l0 kq a2 x7_1 x8_1 = some r) ∧ As0 (kq ≤ k) ∧ As0 (Kd.R (Kd.int .i64) 3 w' w.heap.size (fun _ => True) v7 x7_1) ∧ As0 (w'.heap[gb543]? = some (.cells #[(.slice A0_0 l0_0.length c0_0), (.slice A0_1 l0_1.length c0_1)] 30 (0, 0))) ∧ As0 (Below w.heap.size w w'))
  case atStart => exact ⟨(t544), (0), (by first | rfl | (simp; done) | (simp [*]; done)), H', ⟨Nat.le_refl _⟩, ⟨by (with_reducible repeat (first | apply Kd.R_alloc | apply Kd.R_drewN | apply Kd.R_drew)); exact HO546.out⟩, ⟨by (with_reducible repeat (first | refine bkN ?_ _ | refine bkd ?_ | refine bka ?_ _)); exact BK543.out⟩, ⟨by repeat (first | (with_reducible first | exact HB.out | apply bwa | apply pbN | apply bd1 | refine bws ?_ GE543.out) | exact HB.out)⟩⟩
  case round =>
    clear H'
    try clear p2
    try clear c4
    try clear c5
    try clear hcz6_0
    try clear hcz6_1
    try clear hfz6_0
    try clear hfz6_1
    obtain ⟨x7_1, x8_1, rfl, HA, HK1, HO_7, BK543, HB⟩ := hrel
    cases gk with
    | zero => exact absurd HA.out (by simp [neaptideref08_Back.l0])
    | succ k1 =>
      have H := HA.out
      clear HA
      simp only [neaptideref08_Back.l0] at H
      by_cases c8 : x8_1 < a2
      · rw [if_pos c8] at H
        have c8b0 : decide (x8_1 < a2) = true := decide_eq_true c8
        clear c8
        by_cases c9 : (x7_1.length : Int) > 0
        · rw [if_pos c9] at H
          have c9b0 : decide (0 < (x7_1.length : Int)) = true := decide_eq_true c9
          have c9b1 : decide (0 < x7_1.length) = true := decide_eq_true (by omega)
          clear c9
          obtain ⟨ji10, hji10⟩ : ∃ j_ : Int, (wrap64 ((x7_1.length : Int) - 1)) = j_ := ⟨_, rfl⟩
          replace H : (if 0 ≤ (ji10) then (if (ji10) ≤ (x7_1.length : Int) then (neaptideref08_Back.l0 k1 a2 (x7_1.take ((ji10) : Int).toNat) (wrap64 (x8_1 + 1))) else (none)) else (none)) = some r := by first | (rw [hji10] at H; exact H) | (simp only [hji10] at H ⊢; exact H)
          have hji10w : (IntKind.i64.wrap ((x7_1.length : Int) - 1)) = ji10 := (i64_w _).trans hji10
          by_cases c11 : 0 ≤ (ji10)
          · rw [if_pos c11] at H
            have c11b0 := eq_true c11
            have c11b1 : decide (0 ≤ (ji10)) = true := decide_eq_true c11
            clear c11
            by_cases c12 : (ji10) ≤ (x7_1.length : Int)
            · rw [if_pos c12] at H
              have c12b0 := eq_true c12
              have c12b1 : decide ((ji10) ≤ (x7_1.length : Int)) = true := decide_eq_true c12
              clear c12
              obtain ⟨y547, hy547⟩ : ∃ y_ : List Int, y_ = (x7_1.take ((ji10) : Int).toNat) := ⟨_, rfl⟩
              replace H : (neaptideref08_Back.l0 k1 a2 y547 (wrap64 (x8_1 + 1))) = some r := by first | (rw [hy547]; with_reducible exact H) | (have H2_ := (Option.bind_some _ _).symm.trans H; rw [hy547]; with_reducible exact H2_) | (have H2_ := (Option.bind_some _ _).symm.trans H; with_reducible exact H2_) | with_reducible exact H | (rw [hy547]; exact H) | exact H
              have Ny547 := As0.mk hy547
              clear hy547
              have H' := As0.mk H
              clear H
              obtain ⟨Ao13, co13, eo13⟩ := Kd.R_slice HO_7.out
              subst eo13
              have q14 : ((ji10) : Int) ≤ ((x7_1.length : Int) : Int) := of_decide_eq_true (by first | (with_reducible assumption) | assumption)
              obtain ⟨i014, hi014, _, hsz14, _⟩ := info_parts info3
              have hcut14 := cut_to (P := Tryz.prog) 22 3 .i64 Tryz.underlying22 hi014 Ao13 x7_1.length co13 (ji10) (of_decide_eq_true (by first | (with_reducible assumption) | assumption)) q14 (Kd.R_reads' HO_7.out).2.1
              have hr14 := Kd.R_take (m := ((ji10) : Int).toNat) HO_7.out (by omega)
              have hy14 : y547.length = ((ji10) : Int).toNat := (by rw [Ny547.out, List.length_take]; omega)
              rw [← Ny547.out] at hr14
              rw [← hy14] at hr14 hcut14
              clear hy14 hi014 hsz14 HO_7
              have HO549 := As0.mk hr14
              clear hr14
              replace q14 := eq_true q14
              go_wp2
              go_roundg k1
              case measure => have := HK1.out; omega
              case rel => exact ⟨(y547), (wrap64 (x8_1 + 1)), (by first | rfl | (simp; done) | (simp [*]; done)), H', ⟨by have := HK1.out; omega⟩, ⟨by (with_reducible repeat (first | apply Kd.R_alloc | apply Kd.R_drewN | apply Kd.R_drew)); exact HO549.out⟩, ⟨by (with_reducible repeat (first | refine bkN ?_ _ | refine bkd ?_ | refine bka ?_ _)); exact BK543.out⟩, ⟨by repeat (first | (with_reducible first | exact HB.out | apply bwa | apply pbN | apply bd1 | refine bws ?_ GE543.out) | exact HB.out)⟩⟩
            · rw [if_neg c12] at H
              exact absurd H (by simp)
          · rw [if_neg c11] at H
            exact absurd H (by simp)
        · rw [if_neg c9] at H
          have c9b0 : decide (0 < (x7_1.length : Int)) = false := decide_eq_false c9
          have c9b1 : decide (0 < x7_1.length) = false := decide_eq_false (by omega)
          clear c9
          by_cases c15 : (x7_1.length : Int) = 0
          · rw [if_pos c15] at H
            have c15b0 : ((x7_1.length : Int) == 0) = true := beq_iff_eq.mpr c15
            have c15b1 : ((x7_1.length : Int) != 0) = false := bne_eq_false_iff_eq.mpr c15
            clear c15
            obtain rfl := Option.some.inj H
            obtain ⟨Ao16, co16, eo16⟩ := Kd.R_slice HO_7.out
            subst eo16
            go_wp2
            go_ret
            exact ⟨by first | rfl | (simp [eWn, eWs] <;> rfl) | (simp [*, eWn, eWs] <;> rfl), by repeat (first | (with_reducible first | exact HB.out | apply bwa | apply pbN | apply bd1 | refine bws ?_ GE543.out) | exact HB.out)⟩
          · rw [if_neg c15] at H
            have c15b0 : ((x7_1.length : Int) == 0) = false := beq_eq_false_iff_ne.mpr c15
            have c15b1 : ((x7_1.length : Int) != 0) = true := bne_iff_ne.mpr c15
            have c15b2 : ¬ (x7_1 = []) := fun h_ => c15 (by rw [h_]; rfl)
            obtain ⟨ji17, hji17⟩ : ∃ j_ : Int, (wrap64 ((x7_1.length : Int) - 1)) = j_ := ⟨_, rfl⟩
            replace H : (if 0 ≤ (ji17) then (if (ji17) < (x7_1.length : Int) then (some (rd x7_1 (ji17))) else (none)) else (none)) = some r := by first | (rw [hji17] at H; exact H) | (simp only [hji17] at H ⊢; exact H)
            have hji17w : (IntKind.i64.wrap ((x7_1.length : Int) - 1)) = ji17 := (i64_w _).trans hji17
            by_cases c18 : 0 ≤ (ji17)
            · rw [if_pos c18] at H
              have c18b0 : decide (0 ≤ (ji17)) = true := decide_eq_true c18
              clear c18
              by_cases c19 : (ji17) < (x7_1.length : Int)
              · rw [if_pos c19] at H
                have c19b0 : decide ((ji17) < (x7_1.length : Int)) = true := decide_eq_true c19
                clear c19
                obtain rfl := Option.some.inj H
                obtain ⟨Ao20, co20, eo20⟩ := Kd.R_slice HO_7.out
                subst eo20
                have p550 : 0 ≤ ((ji17) : Int) := of_decide_eq_true (by first | (with_reducible assumption) | assumption)
                have q550 : (ji17) < (x7_1.length : Int) := of_decide_eq_true (by first | (with_reducible assumption) | assumption)
                obtain ⟨ad550, e550, hx550_0⟩ := Kd.at_int (Kd.R_reads' HO_7.out).2.2 (ji17) p550 q550
                cases e550
                replace p550 := eq_true p550
                replace q550 := eq_true q550
                go_wp2
                go_ret
                exact ⟨by first | rfl | (simp [eWn, eWs] <;> rfl) | (simp only [← hji17]; first | rfl | (simp [eWn, eWs] <;> rfl)) | (simp [*, eWn, eWs] <;> rfl), by repeat (first | (with_reducible first | exact HB.out | apply bwa | apply pbN | apply bd1 | refine bws ?_ GE543.out) | exact HB.out)⟩
              · rw [if_neg c19] at H
                exact absurd H (by simp)
            · rw [if_neg c18] at H
              exact absurd H (by simp)
      · rw [if_neg c8] at H
        have c8b0 : decide (x8_1 < a2) = false := decide_eq_false c8
        clear c8
        by_cases c21 : (x7_1.length : Int) = 0
        · rw [if_pos c21] at H
          have c21b0 : ((x7_1.length : Int) == 0) = true := beq_iff_eq.mpr c21
          have c21b1 : ((x7_1.length : Int) != 0) = false := bne_eq_false_iff_eq.mpr c21
          clear c21
          obtain rfl := Option.some.inj H
          obtain ⟨Ao22, co22, eo22⟩ := Kd.R_slice HO_7.out
          subst eo22
          go_wp2
          go_ret
          exact ⟨by first | rfl | (simp [eWn, eWs] <;> rfl) | (simp [*, eWn, eWs] <;> rfl), by repeat (first | (with_reducible first | exact HB.out | apply bwa | apply pbN | apply bd1 | refine bws ?_ GE543.out) | exact HB.out)⟩
        · rw [if_neg c21] at H
          have c21b0 : ((x7_1.length : Int) == 0) = false := beq_eq_false_iff_ne.mpr c21
          have c21b1 : ((x7_1.length : Int) != 0) = true := bne_iff_ne.mpr c21
          have c21b2 : ¬ (x7_1 = []) := fun h_ => c21 (by rw [h_]; rfl)
          obtain ⟨ji23, hji23⟩ : ∃ j_ : Int, (wrap64 ((x7_1.length : Int) - 1)) = j_ := ⟨_, rfl⟩
          replace H : (if 0 ≤ (ji23) then (if (ji23) < (x7_1.length : Int) then (some (rd x7_1 (ji23))) else (none)) else (none)) = some r := by first | (rw [hji23] at H; exact H) | (simp only [hji23] at H ⊢; exact H)
          have hji23w : (IntKind.i64.wrap ((x7_1.length : Int) - 1)) = ji23 := (i64_w _).trans hji23
          by_cases c24 : 0 ≤ (ji23)
          · rw [if_pos c24] at H
            have c24b0 : decide (0 ≤ (ji23)) = true := decide_eq_true c24
            clear c24
            by_cases c25 : (ji23) < (x7_1.length : Int)
            · rw [if_pos c25] at H
              have c25b0 : decide ((ji23) < (x7_1.length : Int)) = true := decide_eq_true c25
              clear c25
              obtain rfl := Option.some.inj H
              obtain ⟨Ao26, co26, eo26⟩ := Kd.R_slice HO_7.out
              subst eo26
              have p551 : 0 ≤ ((ji23) : Int) := of_decide_eq_true (by first | (with_reducible assumption) | assumption)
              have q551 : (ji23) < (x7_1.length : Int) := of_decide_eq_true (by first | (with_reducible assumption) | assumption)
              obtain ⟨ad551, e551, hx551_0⟩ := Kd.at_int (Kd.R_reads' HO_7.out).2.2 (ji23) p551 q551
              cases e551
              replace p551 := eq_true p551
              replace q551 := eq_true q551
              go_wp2
              go_ret
              exact ⟨by first | rfl | (simp [eWn, eWs] <;> rfl) | (simp only [← hji23]; first | rfl | (simp [eWn, eWs] <;> rfl)) | (simp [*, eWn, eWs] <;> rfl), by repeat (first | (with_reducible first | exact HB.out | apply bwa | apply pbN | apply bd1 | refine bws ?_ GE543.out) | exact HB.out)⟩
            · rw [if_neg c25] at H
              exact absurd H (by simp)
          · rw [if_neg c24] at H
            exact absurd H (by simp)
end Go.Proofs.YtlllhpnpgcphcaaGreat.PX
