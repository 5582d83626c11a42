/- What CheckTold needs. -/
import Derived.Test.YtgfiglcmhlbjjaaGreatProg
import Derived.Test.YtgfiglcmhlbjjaaGreatQCheckToldNpD
import Derived.Test.YtgfiglcmhlbjjaaGreatQCheckToldWWords
import Derived.Deep.QuietTactic
import Derived.BigQuiet
import Derived.KernelRfl
set_option linter.unusedVariables false
set_option linter.unusedSimpArgs false
namespace Go.Np
open Go.RowKit Go.Proofs.YtgfiglcmhlbjjaaGreatW.PrintWords
theorem int_at {w : World} {q : IntKind} {A : Option Addr} {xs : List Int} (h : (Kd.int q).C w A xs.length xs) (k : Nat) (hk : k < xs.length) : ∃ ad, A = some ad ∧ w.cell? (ad.add k) = some (.int q (xs.getD k 0)) := by
  obtain ⟨ad, e, hc⟩ := Kd.at_int h (k : Int) (by omega) (by omega)
  exact ⟨ad, e, by simpa [rd] using hc⟩
theorem drew2 (w : World) (n m : Nat) : ∃ k, (w.drewN n).drewN m = w.drewN k := ⟨n + m, by simp [World.drewN, Nat.add_assoc]⟩
theorem take_same {a b : List Int} {k : Nat} (h : a.take k = b.take k) (hl : a.length = b.length) (hk : k < a.length) : a.take (k + 1) = b.take (k + 1) ↔ a.getD k 0 = b.getD k 0 := by
  have hb : k < b.length := by omega
  have ea : a.getD k 0 = a[k] := by simp [List.getD_eq_getElem?_getD, hk]
  have eb : b.getD k 0 = b[k] := by simp [List.getD_eq_getElem?_getD, hb]
  rw [List.take_succ_eq_append_getElem hk, List.take_succ_eq_append_getElem hb, h, ea, eb]
  constructor
  · intro h; have := List.append_cancel_left h; injection this
  · intro h; rw [h]
end Go.Np
namespace Go.Np.Tryz
open Go.RowKit Go.Proofs Go.Proofs.YtgfiglcmhlbjjaaGreatW.PrintWords
set_option maxHeartbeats 1000000 in
set_option maxRecDepth 100000 in
theorem same_calls {w : World} {A0 A1 : Option Addr} {c0 c1 : Nat} {a b : List Int} (ha : (Kd.int .i64).C w A0 a.length a) (hb : (Kd.int .i64).C w A1 b.length b) :
    Calls Tryz.prog 16 #[.slice A0 a.length c0, .slice A1 b.length c1] w fun e w' => e = .returned (.bool (decide (a = b))) ∧ ∃ n, w' = w.drewN n := by
  have HA := Lib.hid ha
  have HB := Lib.hid hb
  have hm := Kd.C_max ha
  refine calls_k fun R hR => ?_
  clear ha hb
  by_cases hl : a.length = b.length
  · have HL := Lib.hid hl
    have hl1 : ((a.length : Int) == (b.length : Int)) = true := by simp [hl]
    have hl2 : ((a.length : Int) != (b.length : Int)) = false := by simp [hl]
    have hl3 : a.length ≤ b.length := by omega
    clear hl
    go_enter Tryz.func16, Tryz.ntmps16
    go_wp2
    go_loopw [13] (fun i wr => ∃ k : Nat, k ≤ a.length ∧ i = .int .i64 k ∧ Hid (a.take k = b.take k) ∧ ∃ n, wr = w.drewN n) (fun i _ => a.length - (intOf i).toNat)
    case atStart => exact ⟨0, Nat.zero_le _, rfl, rfl, 0, rfl⟩
    case round =>
      obtain ⟨k, hk, rfl, he, n, rfl⟩ := hrel
      by_cases hlt : k < a.length
      · obtain ⟨ad0, rfl, hc0⟩ := int_at HA.out k hlt
        obtain ⟨ad1, rfl, hc1⟩ := int_at HB.out k (by omega)
        have ht := take_same he.out HL.out hlt
        obtain ⟨x, hx⟩ : ∃ x, x = a.getD k 0 := ⟨_, rfl⟩
        obtain ⟨y, hy⟩ : ∃ y, y = b.getD k 0 := ⟨_, rfl⟩
        rw [← hx] at hc0 ht
        rw [← hy] at hc1 ht
        have hltb : k < b.length := by omega
        clear hx hy
        by_cases hxy : x = y
        · have h1 : (x != y) = false := by simp [hxy]
          have HT := Lib.hid (ht.2 hxy)
          clear ht hxy he
          go_wp2
          go_quiet (fail)
          go_wp2
          go_roundw
          case rel => exact ⟨k + 1, by omega, by go_num, HT, by first | exact ⟨_, rfl⟩ | exact drew2 _ _ _⟩
          case measure => simp [intOf]; omega
        · have h1 : (x != y) = true := by simp [hxy]
          have hd : decide (a = b) = false := decide_eq_false (fun e => hxy (ht.1 (by rw [e])))
          rw [hd] at hR
          clear ht hxy hd
          go_wp2
          go_quiet (fail)
          go_wp2
          exact hR.out _ _ ⟨rfl, by first | exact ⟨_, rfl⟩ | exact drew2 _ _ _⟩
      · have hd : decide (a = b) = true := decide_eq_true (by
          have := he.out
          rw [List.take_of_length_le (by omega), List.take_of_length_le (by have := HL.out; omega)] at this
          exact this)
        rw [hd] at hR
        clear hd
        go_wp2
        exact hR.out _ _ ⟨rfl, _, rfl⟩
  · have hd : decide (a = b) = false := decide_eq_false (fun e => hl (by rw [e]))
    rw [hd] at hR
    have hl1 : ((a.length : Int) == (b.length : Int)) = false := by simp; omega
    have hl2 : ((a.length : Int) != (b.length : Int)) = true := by simp; omega
    clear hd hl
    go_enter Tryz.func16, Tryz.ntmps16
    go_wp2
    exact hR.out _ _ ⟨rfl, 0, rfl⟩
end Go.Np.Tryz
