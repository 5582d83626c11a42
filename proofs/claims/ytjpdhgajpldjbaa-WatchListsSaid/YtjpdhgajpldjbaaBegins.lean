/- slices.Equal at []int, watch.Begins: contracts. -/
import Derived.Test.YtjpdhgajpldjbaaClone
import Derived.Test.YtjpdhgajpldjbaaSame
set_option linter.unusedVariables false
set_option linter.unusedSimpArgs false
namespace Go.Np
def begP (a b : List Int) : Bool := decide (a.length ≤ b.length ∧ a = b.take a.length)
theorem begP_iff {a b : List Int} : begP a b = true ↔ a <+: b := by
  unfold begP
  rw [decide_eq_true_eq]
  constructor
  · rintro ⟨_, h⟩; rw [h]; exact List.take_prefix _ _
  · intro h; exact ⟨h.length_le, List.prefix_iff_eq_take.1 h⟩
end Go.Np
namespace Go.Np.Try
open Go.RowKit Go.Proofs Go.Proofs.YtjpdhgajpldjbaaW.PrintWords
set_option maxHeartbeats 1000000 in
set_option maxRecDepth 100000 in
theorem equal_calls {w : World} {A0 A1 : Option Addr} {c0 c1 : Nat} {a b : List Int} (ha : (Kd.int .i64).C w A0 a.length a) (hb : (Kd.int .i64).C w A1 b.length b) :
    Calls Try.prog 41 #[.slice A0 a.length c0, .slice A1 b.length c1] w fun e w' => e = .returned (.bool (decide (a = b))) ∧ ∃ n, w' = w.drewN n := by
  have HA := Lib.hid ha
  have HB := Lib.hid hb
  have hm := Kd.C_max ha
  refine calls_k fun R hR => ?_
  clear ha hb
  by_cases hl : a.length = b.length
  · have HL := Lib.hid hl
    have hl1 : ((a.length : Int) == (b.length : Int)) = true := by simp [hl]
    have hl2 : ((a.length : Int) != (b.length : Int)) = false := by simp [hl]
    have hl3 : a.length ≤ b.length := by omega
    clear hl
    go_enter Try.func41, Try.ntmps41
    go_wp2
    go_loopw [13] (fun i wr => ∃ k : Nat, k ≤ a.length ∧ i = .int .i64 k ∧ Hid (a.take k = b.take k) ∧ ∃ n, wr = w.drewN n) (fun i _ => a.length - (RowKit.intOf i).toNat)
    case atStart => exact ⟨0, Nat.zero_le _, rfl, rfl, 0, rfl⟩
    case round =>
      obtain ⟨k, hk, rfl, he, n, rfl⟩ := hrel
      by_cases hlt : k < a.length
      · obtain ⟨ad0, rfl, hc0⟩ := int_at HA.out k hlt
        obtain ⟨ad1, rfl, hc1⟩ := int_at HB.out k (by omega)
        have ht := take_same he.out HL.out hlt
        obtain ⟨x, hx⟩ : ∃ x, x = a.getD k 0 := ⟨_, rfl⟩
        obtain ⟨y, hy⟩ : ∃ y, y = b.getD k 0 := ⟨_, rfl⟩
        rw [← hx] at hc0 ht
        rw [← hy] at hc1 ht
        have hltb : k < b.length := by omega
        clear hx hy
        by_cases hxy : x = y
        · have h1 : (x != y) = false := by simp [hxy]
          have HT := Lib.hid (ht.2 hxy)
          clear ht hxy he
          go_wp2
          go_quiet (fail)
          go_wp2
          go_roundw
          case rel => exact ⟨k + 1, by omega, by go_num, HT, by first | exact ⟨_, rfl⟩ | exact drew2 _ _ _⟩
          case measure => simp [RowKit.intOf]; omega
        · have h1 : (x != y) = true := by simp [hxy]
          have hd : decide (a = b) = false := decide_eq_false (fun e => hxy (ht.1 (by rw [e])))
          rw [hd] at hR
          clear ht hxy hd
          go_wp2
          go_quiet (fail)
          go_wp2
          exact hR.out _ _ ⟨rfl, by first | exact ⟨_, rfl⟩ | exact drew2 _ _ _⟩
      · have hd : decide (a = b) = true := decide_eq_true (by
          have := he.out
          rw [List.take_of_length_le (by omega), List.take_of_length_le (by have := HL.out; omega)] at this
          exact this)
        rw [hd] at hR
        clear hd
        go_wp2
        exact hR.out _ _ ⟨rfl, _, rfl⟩
  · have hd : decide (a = b) = false := decide_eq_false (fun e => hl (by rw [e]))
    rw [hd] at hR
    have hl1 : ((a.length : Int) == (b.length : Int)) = false := by simp; omega
    have hl2 : ((a.length : Int) != (b.length : Int)) = true := by simp; omega
    clear hd hl
    go_enter Try.func41, Try.ntmps41
    go_wp2
    exact hR.out _ _ ⟨rfl, 0, rfl⟩

theorem take_C {w : World} {A : Option Addr} {l : List Int} (n : Nat) (h : (Kd.int .i64).C w A l.length l) (hn : n ≤ l.length) : (Kd.int .i64).C w A (l.take n).length (l.take n) := by
  refine ⟨rfl, ?_, fun h0 => ?_⟩
  · have := h.2.1; rw [List.length_take]; omega
  · obtain ⟨ad, e, hc⟩ := h.2.2 (by rw [List.length_take] at h0; omega)
    refine ⟨ad, e, fun j p hp => hc j p ?_⟩
    rw [List.getElem?_take] at hp
    split at hp
    · exact hp
    · cases hp
set_option maxHeartbeats 1000000 in
set_option maxRecDepth 100000 in
theorem begins_calls {w : World} {A0 A1 : Option Addr} {c0 c1 : Nat} {a b : List Int} (ha : (Kd.int .i64).C w A0 a.length a) (hb : (Kd.int .i64).C w A1 b.length b) (hc1 : b.length ≤ c1) :
    Calls Try.prog 13 #[.slice A0 a.length c0, .slice A1 b.length c1] w fun e w' => e = .returned (.bool (begP a b)) ∧ ∃ n, w' = w.drewN n := by
  have hm := Kd.C_max ha
  have hm2 := Kd.C_max hb
  refine calls_k fun R hR => ?_
  by_cases hl : a.length ≤ b.length
  · have hlen : (b.take a.length).length = a.length := by rw [List.length_take]; omega
    have HE : Hid (∀ n c, Calls Try.prog 41 #[.slice A0 a.length c0, .slice A1 a.length c] (w.drewN n) fun e w' => e = .returned (.bool (begP a b)) ∧ ∃ m, w' = w.drewN m) := by
      intro n c
      have h2 := take_C a.length hb hl
      have := equal_calls (w := w.drewN n) (c0 := c0) (c1 := c) (Kd.C_drewN ha n) (Kd.C_drewN h2 n)
      rw [hlen] at this
      refine this.mono ?_
      rintro e w' ⟨rfl, m, rfl⟩
      refine ⟨?_, drew2 _ _ _⟩
      unfold begP
      rw [decide_eq_decide.2 (show (a = List.take a.length b) ↔ (a.length ≤ b.length ∧ a = List.take a.length b) from ⟨fun h => ⟨hl, h⟩, fun h => h.2⟩)]
    have HE0 := Lib.hid (fun c => HE.out 0 c)
    have hc2 : a.length ≤ c1 := by omega
    clear ha hb hlen
    go_enter Try.func13, Try.ntmps13
    go_wp2_with (go_at_call 41; first | (refine (HE0.out _).mono ?_; rintro e w1 ⟨rfl, n, rfl⟩) | (refine (HE.out _ _).mono ?_; rintro e w1 ⟨rfl, n, rfl⟩))
    exact hR.out _ _ ⟨rfl, _, rfl⟩
  · have hd : begP a b = false := decide_eq_false (fun h => hl h.1)
    rw [hd] at hR
    clear ha hb hd
    go_enter Try.func13, Try.ntmps13
    go_wp2
    exact hR.out _ _ ⟨rfl, 0, rfl⟩
end Go.Np.Try
