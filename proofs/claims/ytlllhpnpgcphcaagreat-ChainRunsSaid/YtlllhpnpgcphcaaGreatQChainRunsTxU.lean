/- What ChainRuns needs. -/
import Derived.Test.YtlllhpnpgcphcaaGreatProg
import Derived.Test.YtlllhpnpgcphcaaGreatQChainRunsNpB
import Derived.Test.YtlllhpnpgcphcaaGreatQChainRunsNpD
import Derived.Test.YtlllhpnpgcphcaaGreatQChainRunsPXx0
import Derived.Test.YtlllhpnpgcphcaaGreatQChainRunsWWords
import Derived.Deep.LoopGhost
import Derived.Deep.QuietTactic
import Derived.BigQuiet
import Derived.KernelRfl
namespace Go.Np.Tryz
open Go.RowKit Go.Proofs Go.Proofs.YtlllhpnpgcphcaaGreat.PX Go.Proofs.YtlllhpnpgcphcaaGreatW.PrintWords
theorem zeroB (w : World) : (zeroValue 4).run Tryz.prog w = .ok (.bool false) w := by kernel_rfl
theorem keyI : KeyOk Tryz.prog 3 (fun a : Int => Value.int .i64 a) := keyOk_int Tryz.underlying3
def unlikeB (l : List S67) : Bool := decide ((l.map (·.f0)).Nodup) && decide (l.length ≤ 3)
def seenT (m : List (Int × Value)) (l : List S67) : Prop := ∀ x, alook m x = if x ∈ l.map (·.f0) then some (.bool true) else none
set_option maxHeartbeats 1000000 in
set_option maxRecDepth 100000 in
theorem unlike_calls (A0 : Option Addr) (c0 : Nat) (l : List S67) (w : World) (hr0 : Kd.C k67 w A0 l.length l) :
    Calls Tryz.prog 90 #[.slice A0 l.length c0] w fun e w' => e = .returned (.bool (unlikeB l)) ∧ Fr [] w w' := by
  have hmm := @run_makeMap Tryz.prog
  have HR0 := As0.mk hr0
  clear hr0
  go_enter Tryz.func90, Tryz.ntmps90
  go_wp2
  go_loopw [9] (fun i wr => ∃ (k : Nat) (m : List (Int × Value)), k ≤ l.length ∧ i = .int .i64 k ∧ MapIs (fun a : Int => Value.int .i64 a) wr w.heap.size m ∧ As0 (seenT m (l.take k)) ∧ As0 (((l.take k).map (·.f0)).Nodup) ∧ Fr [] w wr)
    (fun i _ => l.length - (intOf i).toNat)
  case atStart => exact ⟨0, [], Nat.zero_le _, rfl, MapIs.made w, ⟨by simp [seenT, alook]⟩, ⟨by simp⟩, (Fr.refl _ _).alloc _⟩
  case round =>
    obtain ⟨k, m, hk, rfl, hM, hS, hN, hF⟩ := hrel
    have hm1 := Kd.C_max HR0.out
    have hsz := hF.size
    by_cases hlt : k < l.length
    · obtain ⟨ad, rfl, hc0, hc1⟩ := at_T67 (Kd.C_below HR0.out hF.below) (k : Int) (by omega) (by omega)
      have ht : l.take (k + 1) = l.take k ++ [rd_T67 l (k : Int)] := by
        rw [List.take_succ_eq_append_getElem hlt]; simp [rd_T67, List.getD_eq_getElem?_getD, List.getElem?_eq_getElem hlt]
      generalize rd_T67 l (k : Int) = q at hc0 hc1 ht
      have HT := As0.mk ht
      obtain ⟨x, y⟩ := q
      simp only [Int.toNat_natCast] at hc0 hc1
      clear ht
      obtain ⟨W8, hW8⟩ : ∃ W8, W8 = wr.alloc (.cells #[.int .i64 x, .int .i64 y] 67) := ⟨_, rfl⟩
      obtain ⟨b8, hb8⟩ : ∃ b8, b8 = wr.heap.size := ⟨_, rfl⟩
      have hF8 : Fr [] wr W8 := by rw [hW8]; exact (Fr.refl _ _).alloc _
      have hbl : W8.heap[b8]? = some (.cells #[.int .i64 x, .int .i64 y] 67 (0, 0)) := by rw [hW8, hb8]; exact heap_alloc_new _ _
      have e0 : W8.cell? ⟨b8, 0, none⟩ = some (.int .i64 x) := cell_of hbl 0
      have hM8 := hM.fr hF8 (by simp)
      have hFw : Fr [] w W8 := hF.trans hF8 (by simp)
      clear hbl hF8 hM
      have hl := hM8.run_lookup keyI Tryz.underlying140 (zeroB W8) x false
      simp only [Bool.false_eq_true, if_false, hS.out x] at hl
      go_upto_region 5 with (fail)
      rw [← hW8, ← hb8]
      clear hW8 hb8 hc0 hc1
      by_cases h3 : x ∈ (l.take k).map (·.f0)
      · rw [if_pos h3] at hl
        simp only [Option.getD_some] at hl
        have hb : unlikeB l = false := by
          have hnn : ¬ ((l.map (·.f0)).Nodup) := by
            intro hn
            have h4 := (List.Sublist.map (·.f0) (List.take_sublist (k + 1) l)).nodup hn
            rw [HT.out, List.map_append, List.nodup_append] at h4
            exact h4.2.2 x h3 x (by simp) rfl
          simp [unlikeB, hnn]
        have HB := As0.mk hb
        clear hb h3
        go_wp2
        first | (go_ret; exact ⟨by rw [HB.out]; rfl, hFw⟩) | exact ⟨by rw [HB.out]; rfl, hFw⟩
      · rw [if_neg h3] at hl
        simp only [Option.getD_none] at hl
        have H3 := As0.mk h3
        clear h3
        go_wp2_with (at_mapUpdate; refine wp_store rfl _ _ _ 140 4 rfl keyI Tryz.underlying140 rfl hM8 x rfl (.bool true) rfl ?_; intro w1 hM1 hF1 hs1; have hF2 := hFw.trans hF1 (fun y hy => .inr (by simp at hy; omega)))
        go_roundw
        case rel =>
          refine ⟨k + 1, _, by omega, by go_num, hM1, ⟨fun z => ?_⟩, ⟨?_⟩, hF2⟩
          · rw [alook_aput, hS.out z, HT.out]; by_cases e : x = z <;> simp [e, eq_comm]
          · rw [HT.out, List.map_append, List.nodup_append]
            refine ⟨hN.out, by simp, fun a ha b hb => ?_⟩
            simp at hb
            subst hb
            intro he
            subst he
            exact H3.out ha
        case measure => simp [intOf]; omega
    · obtain rfl : k = l.length := by omega
      have hn := hN.out
      rw [List.take_length] at hn
      have hb : unlikeB l = decide ((l.length : Int) ≤ 3) := by simp [unlikeB, hn]; omega
      have HB := As0.mk hb
      clear hb hn hS hN
      go_wp2
      first | (go_ret; exact ⟨by rw [HB.out]; rfl, hF⟩) | exact ⟨by rw [HB.out]; rfl, hF⟩
end Go.Np.Tryz
namespace Go.Proofs.YtlllhpnpgcphcaaGreat.PX
open Go.RowKit Go.Proofs Go.Proofs.YtlllhpnpgcphcaaGreatW.PrintWords Go.Np
def tx_unlike.f (l0 : List S67) : Option Bool := some (Go.Np.Tryz.unlikeB l0)
theorem tx_unlike.calls (A0 : Option Addr) (c0 : Nat) (l0 : List S67) (r : Bool) (w : World) (hr0 : Kd.C k67 w A0 l0.length l0) (_hc0 : l0.length ≤ c0) (h : tx_unlike.f l0 = some r) :
    Calls Tryz.prog 90 #[.slice A0 l0.length c0] w fun e w' => e = .returned (.bool r) ∧ Below w.heap.size w w' := by
  obtain rfl := Option.some.inj h
  exact (Go.Np.Tryz.unlike_calls A0 c0 l0 w hr0).mono fun e w' hh => ⟨hh.1, hh.2.below⟩
end Go.Proofs.YtlllhpnpgcphcaaGreat.PX
