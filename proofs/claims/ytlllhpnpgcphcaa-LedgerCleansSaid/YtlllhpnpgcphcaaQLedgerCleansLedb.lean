/- A text that the row of LedgerCleans needs. (Pruned by tools/prune.py.) -/
import Derived.Test.YtlllhpnpgcphcaaQLedgerCleansLeda
set_option linter.unusedVariables false
set_option linter.unusedSimpArgs false
namespace Go.Np.Try
open Go.RowKit Go.Proofs Go.Proofs.Ytlllhpnpgcphcaa.PX Go.Proofs.YtlllhpnpgcphcaaW.PrintWords
theorem zeroE (w : World) : (zeroValue 139).run Try.prog w = .ok (.agg #[]) w := by kernel_rfl
def SeenS (m : List (Int × Value)) (met : List Int) : Prop := ∀ x, alook m x = if x ∈ met then some (.agg #[]) else none
set_option maxHeartbeats 1000000 in
set_option maxRecDepth 100000 in
theorem setadd_calls {w : World} {b : Nat} {m : List (Int × Value)} {met : List Int} (hM : MapIs (fun a : Int => Value.int .i64 a) w b m) (hS : SeenS m met) (x : Int) :
    Calls Try.prog 95 #[.map (some b), .int .i64 x] w fun e w' => e = .returned (.bool (!decide (x ∈ met))) ∧ (∃ m', MapIs (fun a : Int => Value.int .i64 a) w' b m' ∧ SeenS m' (met ++ [x])) ∧ Fr [b] w w' := by
  have hl := hM.run_lookup keyI Try.underlying117 (zeroE w) x true
  simp only [if_true, hS x] at hl
  have hM1 := hM.alloc (.cells #[] 139)
  have hF1 : Fr [b] w (w.alloc (.cells #[] 139)) := (Fr.refl _ _).alloc _
  have HS := Lib.hid hS
  have HF1 := Lib.hid hF1
  refine calls_k fun R hR => ?_
  obtain ⟨q, hq⟩ : ∃ q, decide (x ∈ met) = q := ⟨_, rfl⟩
  rw [hq] at hR
  have hfin : ∀ m', (∀ z, alook m' z = if x = z then some (.agg #[]) else alook m z) → SeenS m' (met ++ [x]) := fun m' h z => by
    rw [h z, HS.out z]
    by_cases e : x = z
    · simp [e]
    · have e' : ¬ z = x := fun h => e h.symm
      simp [e, e']
  have HFIN := Lib.hid hfin
  clear hS hF1 hfin
  cases q with
  | true =>
    have hmem : x ∈ met := of_decide_eq_true hq
    rw [if_pos hmem] at hl
    simp only [Option.getD_some, Option.isSome_some] at hl
    clear hq hmem
    go_enter Try.func95, Try.ntmps95
    go_wp2_with (at_mapUpdate; refine wp_store rfl _ _ _ 117 139 rfl keyI Try.underlying117 rfl hM1 x rfl (.agg #[]) rfl ?_; intro w1 hM2 hF2 hs1; have HF2 := Lib.hid (HF1.out.trans hF2 (fun y hy => .inl (by simpa using hy))); have HM2 := Lib.hid hM2; clear hM2 hF2)
    exact hR.out _ _ ⟨rfl, ⟨_, HM2.out, HFIN.out _ (fun z => by rw [alook_aput])⟩, HF2.out⟩
  | false =>
    have hmem : x ∉ met := of_decide_eq_false hq
    rw [if_neg hmem] at hl
    simp only [Option.getD_none, Option.isSome_none] at hl
    clear hq hmem
    go_enter Try.func95, Try.ntmps95
    go_wp2_with (at_mapUpdate; refine wp_store rfl _ _ _ 117 139 rfl keyI Try.underlying117 rfl hM1 x rfl (.agg #[]) rfl ?_; intro w1 hM2 hF2 hs1; have HF2 := Lib.hid (HF1.out.trans hF2 (fun y hy => .inl (by simpa using hy))); have HM2 := Lib.hid hM2; clear hM2 hF2)
    exact hR.out _ _ ⟨rfl, ⟨_, HM2.out, HFIN.out _ (fun z => by rw [alook_aput])⟩, HF2.out⟩
theorem met_calls {w : World} {g b : Nat} {m : List (Int × Value)} {met : List Int} (hg : w.cell? ⟨g, 0, none⟩ = some (.map (some b))) (hM : MapIs (fun a : Int => Value.int .i64 a) w b m) (hS : SeenS m met) (x : Int) :
    Calls Try.prog 94 #[.int .i64 x, .pointer (some ⟨g, 0, none⟩)] w fun e w' => e = .returned (.bool (decide (x ∈ met))) ∧ (∃ m', MapIs (fun a : Int => Value.int .i64 a) w' b m' ∧ SeenS m' (met ++ [x])) ∧ Fr [b] w w' := by
  have HA := Lib.hid (setadd_calls hM hS x)
  refine calls_k fun R hR => ?_
  obtain ⟨q, hq⟩ : ∃ q, decide (x ∈ met) = q := ⟨_, rfl⟩
  rw [hq] at hR HA
  clear hq hM hS
  go_enter Try.func94, Try.ntmps94
  go_wp2_with (go_at_call 95; refine HA.out.mono ?_; rintro e w1 ⟨rfl, hm1, hFn⟩; have HM1 := Lib.hid hm1; have HF1 := Lib.hid hFn; clear hm1 hFn HA)
  exact hR.out _ _ ⟨by simp, HM1.out, HF1.out⟩
end Go.Np.Try
