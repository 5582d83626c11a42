/- What CheckTold needs. -/
import Derived.Test.YtgfiglcmhlbjjaaGreatProg
import Derived.Test.YtgfiglcmhlbjjaaGreatQCheckToldNpB
import Derived.Test.YtgfiglcmhlbjjaaGreatQCheckToldWWords
import Derived.Deep.LoopGhost
import Derived.Deep.QuietTactic
import Derived.BigQuiet
import Derived.KernelRfl
namespace Go.Np
open Go.RowKit Go.Proofs Go.Proofs.YtgfiglcmhlbjjaaGreatW.PrintWords
def sumGo (st : List Int) : List Int → List Int → Int → Int
  | [], _, n => n
  | x :: l, seen, n => if 0 ≤ x ∧ x < st.length ∧ ¬ x ∈ seen then sumGo st l (x :: seen) (wrap64 (n + st.getD x.toNat 0)) else sumGo st l seen n
def sumP (st who : List Int) : Int := sumGo st who [] 0
end Go.Np
namespace Go.Np.Tryz
open Go.RowKit Go.Proofs Go.Proofs.YtgfiglcmhlbjjaaGreatW.PrintWords
theorem zeroB (w : World) : (zeroValue 4).run Tryz.prog w = .ok (.bool false) w := by kernel_rfl
theorem keyI : KeyOk Tryz.prog 3 (fun a : Int => Value.int .i64 a) := keyOk_int Tryz.underlying3
theorem at_int_nat {w : World} {q : IntKind} {A : Option Addr} {xs : List Int} (h : (Kd.int q).C w A xs.length xs) (k : Nat) (hk : k < xs.length) : ∃ ad, A = some ad ∧ w.cell? (ad.add k) = some (.int q (xs.getD k 0)) := by
  obtain ⟨ad, e, hc⟩ := Kd.at_int h (k : Int) (by omega) (by omega)
  exact ⟨ad, e, by simpa [rd] using hc⟩
def seenM (m : List (Int × Value)) (seen : List Int) : Prop := ∀ x, alook m x = if x ∈ seen then some (.bool true) else none
set_option maxHeartbeats 1000000 in
set_option maxRecDepth 100000 in
theorem sum_calls (A0 : Option Addr) (c0 : Nat) (st : List Int) (A1 : Option Addr) (c1 : Nat) (who : List Int) (w : World)
    (hr0 : Kd.C (Kd.int .i64) w A0 st.length st) (hr1 : Kd.C (Kd.int .i64) w A1 who.length who) :
    Calls Tryz.prog 82 #[.slice A0 st.length c0, .slice A1 who.length c1] w fun e w' => e = .returned (.int .i64 (sumP st who)) ∧ Fr [] w w' := by
  have hmm := @run_makeMap Tryz.prog
  have HR0 := Aside0.mk hr0
  have HR1 := Aside0.mk hr1
  clear hr0 hr1
  go_enter Tryz.func82, Tryz.ntmps82
  go_wp2
  go_loopw [5, 12] (fun n i wr => ∃ (k : Nat) (c : Int) (m : List (Int × Value)) (seen : List Int), k ≤ who.length ∧ i = .int .i64 k ∧ n = .int .i64 c ∧ MapIs (fun a : Int => Value.int .i64 a) wr w.heap.size m ∧ Aside0 (seenM m seen) ∧ Aside0 (sumGo st (who.drop k) seen c = sumP st who) ∧ Fr [] w wr)
    (fun _ i _ => who.length - (intOf i).toNat)
  case atStart => exact ⟨0, 0, [], [], Nat.zero_le _, rfl, rfl, MapIs.made w, ⟨by simp [seenM, alook]⟩, ⟨rfl⟩, (Fr.refl _ _).alloc _⟩
  case round =>
    obtain ⟨k, c, m, seen, hk, rfl, rfl, hM, hS, hE, hF⟩ := hrel
    have hm1 := Kd.C_max HR1.out
    have hsz := hF.size
    by_cases hlt : k < who.length
    · have hR1 := Kd.C_below HR1.out hF.below
      have hR0 := Kd.C_below HR0.out hF.below
      obtain ⟨x, hx⟩ : ∃ x, x = who.getD k 0 := ⟨_, rfl⟩
      obtain ⟨ad1, rfl, hc1⟩ := at_int_nat hR1 k hlt
      rw [← hx] at hc1
      have hd : who.drop k = x :: who.drop (k + 1) := by
        rw [hx, List.getD_eq_getElem?_getD, List.getElem?_eq_getElem hlt]; exact List.drop_eq_getElem_cons hlt
      have HD := Aside0.mk hd
      clear hx hd hR1
      by_cases h1 : 0 ≤ x ∧ x < (st.length : Int)
      · obtain ⟨h1, h2⟩ := h1
        have hl := hM.run_lookup keyI Tryz.underlying137 (zeroB wr) x false
        simp only [Bool.false_eq_true, if_false, hS.out x] at hl
        clear hR0
        by_cases h3 : x ∈ seen
        · rw [if_pos h3] at hl
          simp only [Option.getD_some] at hl
          have HN := Aside0.mk h3
          clear h3
          go_wp2
          go_roundw
          case rel => exact ⟨k + 1, c, m, seen, by omega, by go_num, rfl, hM, hS, ⟨by rw [← hE.out, HD.out, sumGo, if_neg (fun h => h.2.2 HN.out)]⟩, hF⟩
          case measure => simp [intOf]; omega
        · rw [if_neg h3] at hl
          simp only [Option.getD_none] at hl
          have HN := Aside0.mk h3
          clear h3
          go_wp2_with (at_mapUpdate; refine wp_store rfl _ _ _ 137 4 rfl keyI Tryz.underlying137 rfl hM x rfl (.bool true) rfl ?_; intro w1 hM1 hF1 hs1; have hF2 := hF.trans hF1 (fun y hy => .inr (by simp at hy; omega)); obtain ⟨ad0, rfl, hc0⟩ := at_int_nat (Kd.C_below HR0.out hF2.below) x.toNat (by omega))
          go_roundw
          case rel => exact ⟨k + 1, _, _, x :: seen, by omega, by go_num, rfl, hM1, ⟨fun y => by rw [alook_aput, hS.out y]; by_cases e : x = y <;> simp [e, eq_comm]⟩, ⟨by rw [← hE.out, HD.out, sumGo, if_pos ⟨h1, h2, HN.out⟩, show st.getD x.toNat 0 = st[x.toNat]'(by omega) from by rw [List.getD_eq_getElem?_getD, List.getElem?_eq_getElem (by omega)]; rfl]⟩, hF2⟩
          case measure => simp [intOf]; omega
      · have HN := Aside0.mk h1
        by_cases h0 : 0 ≤ x
        · have h2 : (st.length : Int) ≤ x := by omega
          clear h1
          go_wp2
          go_roundw
          case rel => exact ⟨k + 1, c, m, seen, by omega, by go_num, rfl, hM, hS, ⟨by rw [← hE.out, HD.out, sumGo, if_neg (fun h => HN.out ⟨h.1, h.2.1⟩)]⟩, hF⟩
          case measure => simp [intOf]; omega
        · have h2 : x < 0 := by omega
          clear h1 h0
          go_wp2
          go_roundw
          case rel => exact ⟨k + 1, c, m, seen, by omega, by go_num, rfl, hM, hS, ⟨by rw [← hE.out, HD.out, sumGo, if_neg (fun h => HN.out ⟨h.1, h.2.1⟩)]⟩, hF⟩
          case measure => simp [intOf]; omega
    · go_wp2
      go_ret
      refine ⟨?_, hF⟩
      rw [← hE.out, List.drop_of_length_le (by omega)]
      rfl
end Go.Np.Tryz
namespace Go.Proofs.YtgfiglcmhlbjjaaGreat.PX
open Go.RowKit Go.Proofs Go.Proofs.YtgfiglcmhlbjjaaGreatW.PrintWords Go.Np
def stake_Sum.f (l0 l1 : List Int) : Option (Int) := some (sumP l0 l1)
theorem stake_Sum.calls (A0 : Option Addr) (c0 : Nat) (l0 : List Int) (A1 : Option Addr) (c1 : Nat) (l1 : List Int) (r : Int) (w : World) (hr0 : Kd.C (Kd.int .i64) w A0 l0.length l0) (_hc0 : l0.length ≤ c0) (hr1 : Kd.C (Kd.int .i64) w A1 l1.length l1) (_hc1 : l1.length ≤ c1) (h : stake_Sum.f l0 l1 = some r) :
    Calls Tryz.prog 82 #[.slice A0 l0.length c0, .slice A1 l1.length c1] w fun e w' => e = .returned (.int .i64 r) ∧ Below w.heap.size w w' := by
  obtain rfl := Option.some.inj h
  exact (Go.Np.Tryz.sum_calls A0 c0 l0 A1 c1 l1 w hr0 hr1).mono fun e w' hh => ⟨hh.1, hh.2.below⟩
end Go.Proofs.YtgfiglcmhlbjjaaGreat.PX
