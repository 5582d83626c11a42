/- WatchOrder: the walk. -/
import Derived.Test.YtjpdhgajpldjbaaWatchUn
import Derived.Test.YtjpdhgajpldjbaaSame
import Derived.Deep.DeepCutAuto
set_option linter.unusedVariables false
set_option linter.unusedSimpArgs false
namespace Go.Np
theorem beg_refl (a : List Int) : begP a a = true := begP_iff.2 (List.prefix_refl a)
theorem beg_trans {a b c : List Int} (h1 : begP a b = true) (h2 : begP b c = true) : begP a c = true := begP_iff.2 ((begP_iff.1 h1).trans (begP_iff.1 h2))
theorem beg_anti {a b : List Int} (h1 : begP a b = true) (h2 : begP b a = true) : a = b := (begP_iff.1 h1).eq_of_length_le (begP_iff.1 h2).length_le
theorem lon3 (a b c : List Int) : ((longP [a, b, c]).length : Int) = if (if (a.length : Int) < b.length then (b.length : Int) else a.length) < c.length then (c.length : Int) else (if (a.length : Int) < b.length then (b.length : Int) else a.length) := by
  simp only [longP, List.foldl_cons, List.foldl_nil, lonStep]
  split <;> split <;> split <;> split <;> split <;> simp_all <;> omega
end Go.Np
namespace Go.Np.Try
open Go.RowKit Go.Proofs Go.Proofs.YtjpdhgajpldjbaaW.PrintWords
theorem lists3 {W : World} {p : Nat} {t : TypeId} {A0 A1 A2 : Option Addr} {c0 c1 c2 : Nat} {a b c : List Int} (h : W.heap[p]? = some (.cells #[.slice A0 a.length c0, .slice A1 b.length c1, .slice A2 c.length c2] t (0, 0)))
    (ha : (Kd.int .i64).C W A0 a.length a) (hb : (Kd.int .i64).C W A1 b.length b) (hc : (Kd.int .i64).C W A2 c.length c) (h0 : a.length ≤ c0) (h1 : b.length ≤ c1) (h2 : c.length ≤ c2) : KdL.C W (some ⟨p, 0, none⟩) [a, b, c].length [a, b, c] := by
  refine ⟨rfl, by simp, fun _ => ⟨_, rfl, fun j q hq => ?_⟩⟩
  have cell : ∀ (i : Nat) (u : Value), (#[Value.slice A0 a.length c0, .slice A1 b.length c1, .slice A2 c.length c2])[i]? = some u → W.cell? ((⟨p, 0, none⟩ : Addr).add i) = some u := by
    intro i u hu
    rw [addr_add _ _ rfl]
    simpa [World.cell?, h] using hu
  match j, hq with
  | 0, hq => simp at hq; subst hq; exact ⟨[_], rfl, ⟨A0, c0, rfl, h0, ha⟩, fun i u hu => by cases i with | zero => simp at hu; subst hu; exact cell 0 _ rfl | succ i => simp at hu⟩
  | 1, hq => simp at hq; subst hq; exact ⟨[_], rfl, ⟨A1, c1, rfl, h1, hb⟩, fun i u hu => by cases i with | zero => simp at hu; subst hu; exact cell 1 _ rfl | succ i => simp at hu⟩
  | 2, hq => simp at hq; subst hq; exact ⟨[_], rfl, ⟨A2, c2, rfl, h2, hc⟩, fun i u hu => by cases i with | zero => simp at hu; subst hu; exact cell 2 _ rfl | succ i => simp at hu⟩
  | j + 3, hq => simp at hq
theorem max_run (x y z m : Int) (h : m = if (if x < y then y else x) < z then z else (if x < y then y else x)) (t ty : TypeId) (w : World) : (Builtin.max_ #[t, t, t] ty #[.int .i64 x, .int .i64 y, .int .i64 z]).run Try.prog w = .ok (.int .i64 m) w := by
  subst h
  by_cases h1 : x < y <;> by_cases h2 : y < z <;> by_cases h3 : x < z <;> simp [Builtin.max_, Builtin.max2, h1, h2, h3]

set_option maxHeartbeats 4000000 in
set_option maxRecDepth 100000 in
theorem order_calls {w : World} {A0 A1 A2 : Option Addr} {c0 c1 c2 : Nat} {a b c : List Int} (ha : (Kd.int .i64).C w A0 a.length a) (hb : (Kd.int .i64).C w A1 b.length b) (hc : (Kd.int .i64).C w A2 c.length c) (h0 : a.length ≤ c0) (h1 : b.length ≤ c1) (h2 : c.length ≤ c2) :
    Calls Try.prog 4 #[.slice A0 a.length c0, .slice A1 b.length c1, .slice A2 c.length c2] w fun e w' => e = .returned (.bool true) ∧ Fr [] w w' := by
  have hma := Kd.C_max ha
  have hmb := Kd.C_max hb
  have hmc := Kd.C_max hc
  refine calls_k fun R hR => ?_
  by_cases hs : a.length ≤ 500 ∧ b.length ≤ 500 ∧ c.length ≤ 500
  · obtain ⟨s0, s1, s2⟩ := hs
    have HA := Lib.hid ha
    have HB := Lib.hid hb
    have HC := Lib.hid hc
    clear ha hb hc
    go_enter Try.func4, Try.ntmps4
    go_upto_region 5 with (go_at_call 12; refine (walive_calls _).mono ?_; rintro e w1 ⟨rfl, hF1⟩)
    go_cut [57] (fun v wc => v = .bool false ∧ Hid (Fr [] w wc))
    case first =>
      by_cases p : begP a b = true
      · by_cases q : begP b c = true
        · by_cases s : begP b a = true
          · have CAA : Hid (∀ W, Fr [] w W → Calls Try.prog 13 #[.slice A0 a.length c0, .slice A0 a.length c0] W fun e w' => e = .returned (.bool true) ∧ Fr [] w w') := by
              intro W hF
              refine (begins_calls (c0 := c0) (Kd.C_below HA.out hF.below) (Kd.C_below HA.out hF.below) h0).mono ?_
              have e1 : begP a a = true := beg_refl a
              rw [e1]
              rintro e w' ⟨rfl, n, rfl⟩
              exact ⟨rfl, hF.drewN n⟩
            have CAB : Hid (∀ W, Fr [] w W → Calls Try.prog 13 #[.slice A0 a.length c0, .slice A1 b.length c1] W fun e w' => e = .returned (.bool true) ∧ Fr [] w w') := by
              intro W hF
              refine (begins_calls (c0 := c0) (Kd.C_below HA.out hF.below) (Kd.C_below HB.out hF.below) h1).mono ?_
              have e1 : begP a b = true := p
              rw [e1]
              rintro e w' ⟨rfl, n, rfl⟩
              exact ⟨rfl, hF.drewN n⟩
            have CBC : Hid (∀ W, Fr [] w W → Calls Try.prog 13 #[.slice A1 b.length c1, .slice A2 c.length c2] W fun e w' => e = .returned (.bool true) ∧ Fr [] w w') := by
              intro W hF
              refine (begins_calls (c0 := c1) (Kd.C_below HB.out hF.below) (Kd.C_below HC.out hF.below) h2).mono ?_
              have e1 : begP b c = true := q
              rw [e1]
              rintro e w' ⟨rfl, n, rfl⟩
              exact ⟨rfl, hF.drewN n⟩
            have CAC : Hid (∀ W, Fr [] w W → Calls Try.prog 13 #[.slice A0 a.length c0, .slice A2 c.length c2] W fun e w' => e = .returned (.bool true) ∧ Fr [] w w') := by
              intro W hF
              refine (begins_calls (c0 := c0) (Kd.C_below HA.out hF.below) (Kd.C_below HC.out hF.below) h2).mono ?_
              have e1 : begP a c = true := beg_trans p q
              rw [e1]
              rintro e w' ⟨rfl, n, rfl⟩
              exact ⟨rfl, hF.drewN n⟩
            have CBA : Hid (∀ W, Fr [] w W → Calls Try.prog 13 #[.slice A1 b.length c1, .slice A0 a.length c0] W fun e w' => e = .returned (.bool true) ∧ Fr [] w w') := by
              intro W hF
              refine (begins_calls (c0 := c1) (Kd.C_below HB.out hF.below) (Kd.C_below HA.out hF.below) h0).mono ?_
              have e1 : begP b a = true := s
              rw [e1]
              rintro e w' ⟨rfl, n, rfl⟩
              exact ⟨rfl, hF.drewN n⟩
            have CS : Hid (∀ W, Fr [] w W → Calls Try.prog 19 #[.slice A0 a.length c0, .slice A1 b.length c1] W fun e w' => e = .returned (.bool true) ∧ Fr [] w w') := by
              intro W hF
              refine (same_calls (c0 := c0) (c1 := c1) (Kd.C_below HA.out hF.below) (Kd.C_below HB.out hF.below)).mono ?_
              have e1 : decide (a = b) = true := decide_eq_true (beg_anti p s)
              rw [e1]
              rintro e w' ⟨rfl, n, rfl⟩
              exact ⟨rfl, hF.drewN n⟩
            have G1 := Lib.hid hF1
            clear hF1 p q s
            have FA := Lib.hid (fun (W : World) (h : Fr [] w W) => h)
            go_wp2_with (first
              | (go_at_call 13; with_reducible refine (CAA.out _ (by first | assumption | exact G1.out)).mono ?_; rintro e w4 ⟨rfl, hF4⟩)
              | (go_at_call 13; with_reducible refine (CAB.out _ (by first | assumption | exact G1.out)).mono ?_; rintro e w4 ⟨rfl, hF4⟩)
              | (go_at_call 13; with_reducible refine (CBC.out _ (by first | assumption | exact G1.out)).mono ?_; rintro e w4 ⟨rfl, hF4⟩)
              | (go_at_call 13; with_reducible refine (CAC.out _ (by first | assumption | exact G1.out)).mono ?_; rintro e w4 ⟨rfl, hF4⟩)
              | (go_at_call 13; with_reducible refine (CBA.out _ (by first | assumption | exact G1.out)).mono ?_; rintro e w4 ⟨rfl, hF4⟩)
              | (go_at_call 19; with_reducible refine (CS.out _ (by first | assumption | exact G1.out)).mono ?_; rintro e w5 ⟨rfl, hF5⟩))
            go_meet
            case rel => exact ⟨rfl, Lib.hid (by first | exact hF5 | exact hF4)⟩
          · have CAA : Hid (∀ W, Fr [] w W → Calls Try.prog 13 #[.slice A0 a.length c0, .slice A0 a.length c0] W fun e w' => e = .returned (.bool true) ∧ Fr [] w w') := by
              intro W hF
              refine (begins_calls (c0 := c0) (Kd.C_below HA.out hF.below) (Kd.C_below HA.out hF.below) h0).mono ?_
              have e1 : begP a a = true := beg_refl a
              rw [e1]
              rintro e w' ⟨rfl, n, rfl⟩
              exact ⟨rfl, hF.drewN n⟩
            have CAB : Hid (∀ W, Fr [] w W → Calls Try.prog 13 #[.slice A0 a.length c0, .slice A1 b.length c1] W fun e w' => e = .returned (.bool true) ∧ Fr [] w w') := by
              intro W hF
              refine (begins_calls (c0 := c0) (Kd.C_below HA.out hF.below) (Kd.C_below HB.out hF.below) h1).mono ?_
              have e1 : begP a b = true := p
              rw [e1]
              rintro e w' ⟨rfl, n, rfl⟩
              exact ⟨rfl, hF.drewN n⟩
            have CBC : Hid (∀ W, Fr [] w W → Calls Try.prog 13 #[.slice A1 b.length c1, .slice A2 c.length c2] W fun e w' => e = .returned (.bool true) ∧ Fr [] w w') := by
              intro W hF
              refine (begins_calls (c0 := c1) (Kd.C_below HB.out hF.below) (Kd.C_below HC.out hF.below) h2).mono ?_
              have e1 : begP b c = true := q
              rw [e1]
              rintro e w' ⟨rfl, n, rfl⟩
              exact ⟨rfl, hF.drewN n⟩
            have CAC : Hid (∀ W, Fr [] w W → Calls Try.prog 13 #[.slice A0 a.length c0, .slice A2 c.length c2] W fun e w' => e = .returned (.bool true) ∧ Fr [] w w') := by
              intro W hF
              refine (begins_calls (c0 := c0) (Kd.C_below HA.out hF.below) (Kd.C_below HC.out hF.below) h2).mono ?_
              have e1 : begP a c = true := beg_trans p q
              rw [e1]
              rintro e w' ⟨rfl, n, rfl⟩
              exact ⟨rfl, hF.drewN n⟩
            have CBA : Hid (∀ W, Fr [] w W → Calls Try.prog 13 #[.slice A1 b.length c1, .slice A0 a.length c0] W fun e w' => e = .returned (.bool false) ∧ Fr [] w w') := by
              intro W hF
              refine (begins_calls (c0 := c1) (Kd.C_below HB.out hF.below) (Kd.C_below HA.out hF.below) h0).mono ?_
              have e1 : begP b a = false := by simpa using s
              rw [e1]
              rintro e w' ⟨rfl, n, rfl⟩
              exact ⟨rfl, hF.drewN n⟩
            have CS : Hid (∀ W, Fr [] w W → Calls Try.prog 19 #[.slice A0 a.length c0, .slice A1 b.length c1] W fun e w' => e = .returned (.bool false) ∧ Fr [] w w') := by
              intro W hF
              refine (same_calls (c0 := c0) (c1 := c1) (Kd.C_below HA.out hF.below) (Kd.C_below HB.out hF.below)).mono ?_
              have e1 : decide (a = b) = false := decide_eq_false (fun e => s (by rw [e]; exact beg_refl b))
              rw [e1]
              rintro e w' ⟨rfl, n, rfl⟩
              exact ⟨rfl, hF.drewN n⟩
            have G1 := Lib.hid hF1
            clear hF1 p q s
            have FA := Lib.hid (fun (W : World) (h : Fr [] w W) => h)
            go_wp2_with (first
              | (go_at_call 13; with_reducible refine (CAA.out _ (by first | assumption | exact G1.out)).mono ?_; rintro e w4 ⟨rfl, hF4⟩)
              | (go_at_call 13; with_reducible refine (CAB.out _ (by first | assumption | exact G1.out)).mono ?_; rintro e w4 ⟨rfl, hF4⟩)
              | (go_at_call 13; with_reducible refine (CBC.out _ (by first | assumption | exact G1.out)).mono ?_; rintro e w4 ⟨rfl, hF4⟩)
              | (go_at_call 13; with_reducible refine (CAC.out _ (by first | assumption | exact G1.out)).mono ?_; rintro e w4 ⟨rfl, hF4⟩)
              | (go_at_call 13; with_reducible refine (CBA.out _ (by first | assumption | exact G1.out)).mono ?_; rintro e w4 ⟨rfl, hF4⟩)
              | (go_at_call 19; with_reducible refine (CS.out _ (by first | assumption | exact G1.out)).mono ?_; rintro e w5 ⟨rfl, hF5⟩))
            go_meet
            case rel => exact ⟨rfl, Lib.hid (by first | exact hF5 | exact hF4)⟩
        · by_cases s : begP b a = true
          · have CAA : Hid (∀ W, Fr [] w W → Calls Try.prog 13 #[.slice A0 a.length c0, .slice A0 a.length c0] W fun e w' => e = .returned (.bool true) ∧ Fr [] w w') := by
              intro W hF
              refine (begins_calls (c0 := c0) (Kd.C_below HA.out hF.below) (Kd.C_below HA.out hF.below) h0).mono ?_
              have e1 : begP a a = true := beg_refl a
              rw [e1]
              rintro e w' ⟨rfl, n, rfl⟩
              exact ⟨rfl, hF.drewN n⟩
            have CAB : Hid (∀ W, Fr [] w W → Calls Try.prog 13 #[.slice A0 a.length c0, .slice A1 b.length c1] W fun e w' => e = .returned (.bool true) ∧ Fr [] w w') := by
              intro W hF
              refine (begins_calls (c0 := c0) (Kd.C_below HA.out hF.below) (Kd.C_below HB.out hF.below) h1).mono ?_
              have e1 : begP a b = true := p
              rw [e1]
              rintro e w' ⟨rfl, n, rfl⟩
              exact ⟨rfl, hF.drewN n⟩
            have CBC : Hid (∀ W, Fr [] w W → Calls Try.prog 13 #[.slice A1 b.length c1, .slice A2 c.length c2] W fun e w' => e = .returned (.bool false) ∧ Fr [] w w') := by
              intro W hF
              refine (begins_calls (c0 := c1) (Kd.C_below HB.out hF.below) (Kd.C_below HC.out hF.below) h2).mono ?_
              have e1 : begP b c = false := by simpa using q
              rw [e1]
              rintro e w' ⟨rfl, n, rfl⟩
              exact ⟨rfl, hF.drewN n⟩
            have CBA : Hid (∀ W, Fr [] w W → Calls Try.prog 13 #[.slice A1 b.length c1, .slice A0 a.length c0] W fun e w' => e = .returned (.bool true) ∧ Fr [] w w') := by
              intro W hF
              refine (begins_calls (c0 := c1) (Kd.C_below HB.out hF.below) (Kd.C_below HA.out hF.below) h0).mono ?_
              have e1 : begP b a = true := s
              rw [e1]
              rintro e w' ⟨rfl, n, rfl⟩
              exact ⟨rfl, hF.drewN n⟩
            have CS : Hid (∀ W, Fr [] w W → Calls Try.prog 19 #[.slice A0 a.length c0, .slice A1 b.length c1] W fun e w' => e = .returned (.bool true) ∧ Fr [] w w') := by
              intro W hF
              refine (same_calls (c0 := c0) (c1 := c1) (Kd.C_below HA.out hF.below) (Kd.C_below HB.out hF.below)).mono ?_
              have e1 : decide (a = b) = true := decide_eq_true (beg_anti p s)
              rw [e1]
              rintro e w' ⟨rfl, n, rfl⟩
              exact ⟨rfl, hF.drewN n⟩
            have G1 := Lib.hid hF1
            clear hF1 p q s
            have FA := Lib.hid (fun (W : World) (h : Fr [] w W) => h)
            go_wp2_with (first
              | (go_at_call 13; with_reducible refine (CAA.out _ (by first | assumption | exact G1.out)).mono ?_; rintro e w4 ⟨rfl, hF4⟩)
              | (go_at_call 13; with_reducible refine (CAB.out _ (by first | assumption | exact G1.out)).mono ?_; rintro e w4 ⟨rfl, hF4⟩)
              | (go_at_call 13; with_reducible refine (CBC.out _ (by first | assumption | exact G1.out)).mono ?_; rintro e w4 ⟨rfl, hF4⟩)
              | (go_at_call 13; with_reducible refine (CBA.out _ (by first | assumption | exact G1.out)).mono ?_; rintro e w4 ⟨rfl, hF4⟩)
              | (go_at_call 19; with_reducible refine (CS.out _ (by first | assumption | exact G1.out)).mono ?_; rintro e w5 ⟨rfl, hF5⟩))
            go_meet
            case rel => exact ⟨rfl, Lib.hid (by first | exact hF5 | exact hF4)⟩
          · have CAA : Hid (∀ W, Fr [] w W → Calls Try.prog 13 #[.slice A0 a.length c0, .slice A0 a.length c0] W fun e w' => e = .returned (.bool true) ∧ Fr [] w w') := by
              intro W hF
              refine (begins_calls (c0 := c0) (Kd.C_below HA.out hF.below) (Kd.C_below HA.out hF.below) h0).mono ?_
              have e1 : begP a a = true := beg_refl a
              rw [e1]
              rintro e w' ⟨rfl, n, rfl⟩
              exact ⟨rfl, hF.drewN n⟩
            have CAB : Hid (∀ W, Fr [] w W → Calls Try.prog 13 #[.slice A0 a.length c0, .slice A1 b.length c1] W fun e w' => e = .returned (.bool true) ∧ Fr [] w w') := by
              intro W hF
              refine (begins_calls (c0 := c0) (Kd.C_below HA.out hF.below) (Kd.C_below HB.out hF.below) h1).mono ?_
              have e1 : begP a b = true := p
              rw [e1]
              rintro e w' ⟨rfl, n, rfl⟩
              exact ⟨rfl, hF.drewN n⟩
            have CBC : Hid (∀ W, Fr [] w W → Calls Try.prog 13 #[.slice A1 b.length c1, .slice A2 c.length c2] W fun e w' => e = .returned (.bool false) ∧ Fr [] w w') := by
              intro W hF
              refine (begins_calls (c0 := c1) (Kd.C_below HB.out hF.below) (Kd.C_below HC.out hF.below) h2).mono ?_
              have e1 : begP b c = false := by simpa using q
              rw [e1]
              rintro e w' ⟨rfl, n, rfl⟩
              exact ⟨rfl, hF.drewN n⟩
            have CBA : Hid (∀ W, Fr [] w W → Calls Try.prog 13 #[.slice A1 b.length c1, .slice A0 a.length c0] W fun e w' => e = .returned (.bool false) ∧ Fr [] w w') := by
              intro W hF
              refine (begins_calls (c0 := c1) (Kd.C_below HB.out hF.below) (Kd.C_below HA.out hF.below) h0).mono ?_
              have e1 : begP b a = false := by simpa using s
              rw [e1]
              rintro e w' ⟨rfl, n, rfl⟩
              exact ⟨rfl, hF.drewN n⟩
            have CS : Hid (∀ W, Fr [] w W → Calls Try.prog 19 #[.slice A0 a.length c0, .slice A1 b.length c1] W fun e w' => e = .returned (.bool false) ∧ Fr [] w w') := by
              intro W hF
              refine (same_calls (c0 := c0) (c1 := c1) (Kd.C_below HA.out hF.below) (Kd.C_below HB.out hF.below)).mono ?_
              have e1 : decide (a = b) = false := decide_eq_false (fun e => s (by rw [e]; exact beg_refl b))
              rw [e1]
              rintro e w' ⟨rfl, n, rfl⟩
              exact ⟨rfl, hF.drewN n⟩
            have G1 := Lib.hid hF1
            clear hF1 p q s
            have FA := Lib.hid (fun (W : World) (h : Fr [] w W) => h)
            go_wp2_with (first
              | (go_at_call 13; with_reducible refine (CAA.out _ (by first | assumption | exact G1.out)).mono ?_; rintro e w4 ⟨rfl, hF4⟩)
              | (go_at_call 13; with_reducible refine (CAB.out _ (by first | assumption | exact G1.out)).mono ?_; rintro e w4 ⟨rfl, hF4⟩)
              | (go_at_call 13; with_reducible refine (CBC.out _ (by first | assumption | exact G1.out)).mono ?_; rintro e w4 ⟨rfl, hF4⟩)
              | (go_at_call 13; with_reducible refine (CBA.out _ (by first | assumption | exact G1.out)).mono ?_; rintro e w4 ⟨rfl, hF4⟩)
              | (go_at_call 19; with_reducible refine (CS.out _ (by first | assumption | exact G1.out)).mono ?_; rintro e w5 ⟨rfl, hF5⟩))
            go_meet
            case rel => exact ⟨rfl, Lib.hid (by first | exact hF5 | exact hF4)⟩
      · have CAA : Hid (∀ W, Fr [] w W → Calls Try.prog 13 #[.slice A0 a.length c0, .slice A0 a.length c0] W fun e w' => e = .returned (.bool true) ∧ Fr [] w w') := by
          intro W hF
          refine (begins_calls (c0 := c0) (Kd.C_below HA.out hF.below) (Kd.C_below HA.out hF.below) h0).mono ?_
          have e1 : begP a a = true := beg_refl a
          rw [e1]
          rintro e w' ⟨rfl, n, rfl⟩
          exact ⟨rfl, hF.drewN n⟩
        have CAB : Hid (∀ W, Fr [] w W → Calls Try.prog 13 #[.slice A0 a.length c0, .slice A1 b.length c1] W fun e w' => e = .returned (.bool false) ∧ Fr [] w w') := by
          intro W hF
          refine (begins_calls (c0 := c0) (Kd.C_below HA.out hF.below) (Kd.C_below HB.out hF.below) h1).mono ?_
          have e1 : begP a b = false := by simpa using p
          rw [e1]
          rintro e w' ⟨rfl, n, rfl⟩
          exact ⟨rfl, hF.drewN n⟩
        have CS : Hid (∀ W, Fr [] w W → Calls Try.prog 19 #[.slice A0 a.length c0, .slice A1 b.length c1] W fun e w' => e = .returned (.bool false) ∧ Fr [] w w') := by
          intro W hF
          refine (same_calls (c0 := c0) (c1 := c1) (Kd.C_below HA.out hF.below) (Kd.C_below HB.out hF.below)).mono ?_
          have e1 : decide (a = b) = false := decide_eq_false (fun e => p (by rw [e]; exact beg_refl b))
          rw [e1]
          rintro e w' ⟨rfl, n, rfl⟩
          exact ⟨rfl, hF.drewN n⟩
        have G1 := Lib.hid hF1
        clear hF1 p
        have FA := Lib.hid (fun (W : World) (h : Fr [] w W) => h)
        go_wp2_with (first
          | (go_at_call 13; with_reducible refine (CAA.out _ (by first | assumption | exact G1.out)).mono ?_; rintro e w4 ⟨rfl, hF4⟩)
          | (go_at_call 13; with_reducible refine (CAB.out _ (by first | assumption | exact G1.out)).mono ?_; rintro e w4 ⟨rfl, hF4⟩)
          | (go_at_call 19; with_reducible refine (CS.out _ (by first | assumption | exact G1.out)).mono ?_; rintro e w5 ⟨rfl, hF5⟩))
        go_meet
        case rel => exact ⟨rfl, Lib.hid (by first | exact hF5 | exact hF4)⟩
    case rest =>
      obtain ⟨rfl, hG⟩ := hcut
      try clear hF1
      obtain ⟨W1, hW1⟩ : ∃ W1, W1 = wc.alloc (.cells #[.slice A0 a.length c0, .slice A1 b.length c1, .slice A2 c.length c2] 24) := ⟨_, rfl⟩
      have hGF := hG.out
      have hF1 : Fr [] w W1 := by rw [hW1]; exact hGF.alloc _
      have hblk : W1.heap[wc.heap.size]? = some (.cells #[.slice A0 a.length c0, .slice A1 b.length c1, .slice A2 c.length c2] 24 (0, 0)) := by rw [hW1]; exact heap_alloc_new wc _
      have hC3 := lists3 hblk (Kd.C_below HA.out hF1.below) (Kd.C_below HB.out hF1.below) (Kd.C_below HC.out hF1.below) h0 h1 h2
      obtain ⟨m, hm⟩ : ∃ m, m = longP [a, b, c] := ⟨_, rfl⟩
      have hml := lon3 a b c
      rw [← hm] at hml
      have hmx := fun t ty => max_run (a.length : Int) (b.length : Int) (c.length : Int) (m.length : Int) hml t ty
      have hm5 : m.length ≤ 500 := by revert hml; split <;> split <;> omega
      have HLo : Hid (Calls Try.prog 20 #[.slice (some ⟨wc.heap.size, 0, none⟩) 3 3] W1 fun e w' => ∃ B d, e = .returned (.slice B m.length d) ∧ m.length ≤ d ∧ (Kd.int .i64).C w' B m.length m ∧ Fr [] w w') := by
        refine (longest_calls (c := 3) hC3 (by rw [← hm]; omega)).mono ?_
        rw [← hm]
        rintro e w' ⟨v, rfl, h3, h4⟩
        obtain ⟨B, d, rfl, h5, h6⟩ := Kd.R_reads h3
        exact ⟨B, d, rfl, h5, h6, hF1.trans (Fr.of_below [] h4) (by simp)⟩
      have HAl : Hid (∀ W, Fr [] w W → Calls Try.prog 17 #[.slice (some ⟨W.heap.size, 0, none⟩) 3 3] (W.alloc (.cells #[.slice A0 a.length c0, .slice A1 b.length c1, .slice A2 c.length c2] 24)) fun e w' => e = .returned (.bool (begP a m && (begP b m && begP c m))) ∧ Fr [] w w') := by
        intro W hF
        have hFa : Fr [] w (W.alloc (.cells #[.slice A0 a.length c0, .slice A1 b.length c1, .slice A2 c.length c2] 24)) := hF.alloc _
        have hC4 := lists3 (heap_alloc_new W _) (Kd.C_below HA.out hFa.below) (Kd.C_below HB.out hFa.below) (Kd.C_below HC.out hFa.below) h0 h1 h2
        refine (alike_calls (c := 3) hC4 (by rw [← hm]; omega)).mono ?_
        have e1 : alikeP [a, b, c] = (begP a m && (begP b m && begP c m)) := by
          unfold alikeP; rw [← hm]; simp
        rw [e1]
        rintro e w' ⟨rfl, h4⟩
        exact ⟨rfl, hFa.trans (Fr.of_below [] h4) (by simp)⟩
      have HBa : Hid (∀ W B d, Fr [] w W → m.length ≤ d → (Kd.int .i64).C W B m.length m → Calls Try.prog 13 #[.slice A0 a.length c0, .slice B m.length d] W fun e w' => e = .returned (.bool (begP a m)) ∧ Fr [] w w' ∧ (Kd.int .i64).C w' B m.length m) := by
        intro W B d hF hd hm2
        refine (begins_calls (c0 := c0) (Kd.C_below HA.out hF.below) hm2 hd).mono ?_
        rintro e w' ⟨rfl, n, rfl⟩
        exact ⟨rfl, hF.drewN n, Kd.C_drewN hm2 n⟩
      have HBb : Hid (∀ W B d, Fr [] w W → m.length ≤ d → (Kd.int .i64).C W B m.length m → Calls Try.prog 13 #[.slice A1 b.length c1, .slice B m.length d] W fun e w' => e = .returned (.bool (begP b m)) ∧ Fr [] w w' ∧ (Kd.int .i64).C w' B m.length m) := by
        intro W B d hF hd hm2
        refine (begins_calls (c0 := c1) (Kd.C_below HB.out hF.below) hm2 hd).mono ?_
        rintro e w' ⟨rfl, n, rfl⟩
        exact ⟨rfl, hF.drewN n, Kd.C_drewN hm2 n⟩
      have HBc : Hid (∀ W B d, Fr [] w W → m.length ≤ d → (Kd.int .i64).C W B m.length m → Calls Try.prog 13 #[.slice A2 c.length c2, .slice B m.length d] W fun e w' => e = .returned (.bool (begP c m)) ∧ Fr [] w w' ∧ (Kd.int .i64).C w' B m.length m) := by
        intro W B d hF hd hm2
        refine (begins_calls (c0 := c2) (Kd.C_below HC.out hF.below) hm2 hd).mono ?_
        rintro e w' ⟨rfl, n, rfl⟩
        exact ⟨rfl, hF.drewN n, Kd.C_drewN hm2 n⟩
      obtain ⟨pa, hpa⟩ : ∃ x, x = begP a m := ⟨_, rfl⟩
      obtain ⟨pb, hpb⟩ : ∃ x, x = begP b m := ⟨_, rfl⟩
      obtain ⟨pc, hpc⟩ : ∃ x, x = begP c m := ⟨_, rfl⟩
      rw [← hpa, ← hpb, ← hpc] at HAl
      rw [← hpa] at HBa
      rw [← hpb] at HBb
      rw [← hpc] at HBc
      rw [hW1] at HLo
      have HM := Lib.hid hm
      clear hpa hpb hpc hm hml hC3 hblk hF1 hW1 hGF
      cases pa <;> cases pb <;> cases pc
      all_goals
        simp only [Bool.and_true, Bool.and_false, Bool.false_and, Bool.true_and] at HAl
        go_wp2_with (first
          | (go_at_call 20; refine HLo.out.mono ?_; rintro e w6 ⟨B, d, rfl, hd, hC6, hF6⟩)
          | (go_at_call 13; with_reducible refine (HBa.out _ _ _ (by assumption) hd (by assumption)).mono ?_; rintro e w7 ⟨rfl, hF7, hC7⟩)
          | (go_at_call 13; with_reducible refine (HBb.out _ _ _ (by assumption) hd (by assumption)).mono ?_; rintro e w8 ⟨rfl, hF8, hC8⟩)
          | (go_at_call 13; with_reducible refine (HBc.out _ _ _ (by assumption) hd (by assumption)).mono ?_; rintro e w9 ⟨rfl, hF9, hC9⟩)
          | (go_at_call 17; refine (HAl.out _ (by assumption)).mono ?_; rintro e w10 ⟨rfl, hF10⟩))
        exact hR.out _ _ ⟨by first | rfl | simp, hF10⟩
  · by_cases t0 : 500 < a.length
    · clear hs
      go_enter Try.func4, Try.ntmps4
      go_wp2_with (go_at_call 12; refine (walive_calls _).mono ?_; rintro e w1 ⟨rfl, hF1⟩)
      exact hR.out _ _ ⟨rfl, hF1⟩
    · by_cases t1 : 500 < b.length
      · clear hs
        go_enter Try.func4, Try.ntmps4
        go_wp2_with (go_at_call 12; refine (walive_calls _).mono ?_; rintro e w1 ⟨rfl, hF1⟩)
        exact hR.out _ _ ⟨rfl, hF1⟩
      · have t2 : 500 < c.length := by omega
        clear hs
        go_enter Try.func4, Try.ntmps4
        go_wp2_with (go_at_call 12; refine (walive_calls _).mono ?_; rintro e w1 ⟨rfl, hF1⟩)
        exact hR.out _ _ ⟨rfl, hF1⟩
theorem WatchOrder_walk (w : World) (A0 : Option Addr) (c0 : Nat) (a : List Int) (ha : (Kd.int .i64).C w A0 a.length a) (_ : a.length ≤ maxLen) (_ : a.length * 8 ≤ 140737488351232) (_ : ∀ x ∈ a, (Lit.int .i64 x).wf = true) (h0 : a.length ≤ c0)
    (A1 : Option Addr) (c1 : Nat) (b : List Int) (hb : (Kd.int .i64).C w A1 b.length b) (_ : b.length ≤ maxLen) (_ : b.length * 8 ≤ 140737488351232) (_ : ∀ x ∈ b, (Lit.int .i64 x).wf = true) (h1 : b.length ≤ c1)
    (A2 : Option Addr) (c2 : Nat) (c : List Int) (hc : (Kd.int .i64).C w A2 c.length c) (_ : c.length ≤ maxLen) (_ : c.length * 8 ≤ 140737488351232) (_ : ∀ x ∈ c, (Lit.int .i64 x).wf = true) (h2 : c.length ≤ c2) :
    Calls Try.prog 4 #[.slice A0 a.length c0, .slice A1 b.length c1, .slice A2 c.length c2] w fun e w' => e = .returned (.bool true) ∧ Fr [] w w' := order_calls ha hb hc h0 h1 h2
end Go.Np.Try
