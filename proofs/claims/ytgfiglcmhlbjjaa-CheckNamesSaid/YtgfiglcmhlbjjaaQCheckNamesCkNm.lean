/- What CheckNames needs. -/
import Derived.Test.YtgfiglcmhlbjjaaQCheckNamesCkTk
import Derived.Test.YtgfiglcmhlbjjaaQCheckNamesCkEv
import Derived.Test.YtgfiglcmhlbjjaaQCheckNamesCkD
set_option linter.unusedVariables false
set_option linter.unusedSimpArgs false
namespace Go.Np.Try
open Go.RowKit Go.Proofs Go.Proofs.Ytgfiglcmhlbjjaa.PX Go.Proofs.YtgfiglcmhlbjjaaW.PrintWords
theorem new_ok {me : Int} {st : List Int} (hst : okS st) (hme : 0 ≤ me ∧ me < st.length) (base most : Int) : (Co.new me st base most).Ok ∧ (Co.new me st base most).Wf :=
  ⟨⟨hst, hme, by simp [Co.new], by simp [Co.new], Good.nil _⟩, ⟨fun q hq => by simp [Co.new] at hq, Co.wf_m1, by simp [Co.new]⟩⟩
theorem C_block {w : World} {g : Nat} {l : List Int} (hb : w.heap[g]? = some (.cells (l.map (Value.int .i64)).toArray 3 (0, 0))) (hl : l.length < 1000000) (hne : l ≠ []) : (Kd.int .i64).C w (some ⟨g, 0, none⟩) l.length l := by
  have h : w.ownsRow 0 3 1 (.slice (some ⟨g, 0, none⟩) l.length l.length) l.length (l.map (Value.int .i64)) :=
    ⟨by simp, .inr ⟨g, l.length, (l.map (Value.int .i64)).toArray, rfl, Nat.zero_le _, hb, Nat.le_refl _, by unfold maxLen; omega, by simp, by simp only [Nat.mul_one]; exact List.take_of_length_le (by simp)⟩⟩
  obtain ⟨A4, c4, he4, h6, h7⟩ := Kd.R_reads (Kd.R_of_own (ok := fun _ => True) h (fun _ _ => trivial))
  injection he4 with e1 e2 e3
  rw [e1]
  exact h7
theorem al_tick {w W1 w2 : World} {p : Nat} (h : CoAt (fun k => k < W1.heap.size) w2 p (Co.new 0 [1] 2 8)) (h0 : Fr [] w W1) (hf : Fr [] W1 w2) :
    Calls Try.prog 12 #[.pointer (some ⟨p, 0, none⟩), .slice (some ⟨w2.heap.size, 0, none⟩) 1 1, .int .i64 65536] (w2.alloc (.cells #[.int .i64 65536] 3)) fun e w' => ∃ g d, e = .returned (.slice (some ⟨g, 0, none⟩) 4 d) ∧ (∃ Y, CoAt Y w' p alC4.flush) ∧ (w'.cell? ⟨g, 1, none⟩ = some (.int .i64 3) ∧ w'.cell? ⟨g, 15, none⟩ = some (.int .i64 4) ∧ w'.cell? ⟨g, 29, none⟩ = some (.int .i64 5) ∧ w'.cell? ⟨g, 43, none⟩ = some (.int .i64 6)) ∧ Fr [] w w' := by
  obtain ⟨b, h⟩ := h
  have h1 : CoIn (fun k => k < W1.heap.size ∨ k = w2.heap.size) w2 p (Co.new 0 [1] 2 8) b := h.x (fun k hk hx => by
    rcases hx with hx | hx
    · exact hx
    · omega)
  have hF3 : Fr [] w2 (w2.alloc (.cells #[.int .i64 65536] 3)) := (Fr.refl _ _).alloc _
  have hsz : (w2.alloc (.cells #[.int .i64 65536] 3)).heap.size = w2.heap.size + 1 := by simp
  have hnb := heap_alloc_new w2 (.cells #[.int .i64 65536] 3)
  obtain ⟨o1, o2⟩ := new_ok (me := 0) (st := [1]) (by unfold okS; decide) (by decide) 2 8
  have h2 := c_tick (h1.fr hF3) (fun k hk => by rw [hsz]; have := hf.size; rcases hk with hk | hk <;> omega) o1 o2 (by simp [Co.new]) (A := some ⟨w2.heap.size, 0, none⟩) (dn := 1) (known := [65536]) (fun W hW => ?_) 65536 (fun W d b0 b' hd hs => ?_)
  · refine h2.mono ?_
    rintro e w' ⟨c', l, B, d, he, ht, hc, hr, hfx⟩
    obtain ⟨rfl, rfl⟩ := al_ticks ht
    obtain ⟨g, hB, k1⟩ := row_atN hr 1 (.int .i64 3) rfl
    obtain ⟨g2, hB2, k2⟩ := row_atN hr 15 (.int .i64 4) rfl
    obtain ⟨g3, hB3, k3⟩ := row_atN hr 29 (.int .i64 5) rfl
    obtain ⟨g4, hB4, k4⟩ := row_atN hr 43 (.int .i64 6) rfl
    subst hB
    injection hB2 with e2
    injection hB3 with e3
    injection hB4 with e4
    injection e2 with e2
    injection e3 with e3
    injection e4 with e4
    subst e2 e3 e4
    exact ⟨g, d, he, ⟨_, hc⟩, ⟨k1, k2, k3, k4⟩, hfx.keep (fun k hk => .inl (Nat.lt_of_lt_of_le hk h0.size)) ((h0.trans hf (by simp)).trans hF3 (by simp))⟩
  · have hb := (hW.block (by rw [hsz]; omega) (.inr rfl)).trans hnb
    exact C_block (l := [65536]) hb (by decide) (by simp)
  · exact absurd (by rw [al_e0] at hd; rw [al_settles hd]; rfl) hs
set_option maxHeartbeats 8000000 in
set_option maxRecDepth 100000 in
theorem c_alive (w : World) : Calls Try.prog 6 #[] w fun e w' => e = .returned (.bool true) ∧ Fr [] w w' := by
  obtain ⟨W1, hW1⟩ : ∃ W1, W1 = w.alloc (.cells #[.int .i64 1] 3) := ⟨_, rfl⟩
  have hF1 : Fr [] w W1 := by rw [hW1]; exact (Fr.refl _ _).alloc _
  have hC1 : (Kd.int .i64).C W1 (some ⟨w.heap.size, 0, none⟩) 1 [1] := by rw [hW1]; exact made_C w [1] (by decide) (by simp)
  have HNW : Hid (Calls Try.prog 4 #[.int .i64 0, .slice (some ⟨w.heap.size, 0, none⟩) 1 1, .int .i64 2, .int .i64 8] W1 fun e w' => ∃ p, e = .returned (.pointer (some ⟨p, 0, none⟩)) ∧ CoAt (fun k => k < W1.heap.size) w' p (Co.new 0 [1] 2 8) ∧ Fr [] W1 w' ∧ W1.heap.size ≤ p) := c_new (c0 := 1) (st := [1]) hC1 (by decide) 0 2 8
  have HTK : Hid (∀ (w2 : World) (p : Nat), CoAt (fun k => k < W1.heap.size) w2 p (Co.new 0 [1] 2 8) → Fr [] W1 w2 → Calls Try.prog 12 #[.pointer (some ⟨p, 0, none⟩), .slice (some ⟨w2.heap.size, 0, none⟩) 1 1, .int .i64 65536] (w2.alloc (.cells #[.int .i64 65536] 3)) fun e w' => ∃ g d, e = .returned (.slice (some ⟨g, 0, none⟩) 4 d) ∧ (∃ Y, CoAt Y w' p alC4.flush) ∧ (w'.cell? ⟨g, 1, none⟩ = some (.int .i64 3) ∧ w'.cell? ⟨g, 15, none⟩ = some (.int .i64 4) ∧ w'.cell? ⟨g, 29, none⟩ = some (.int .i64 5) ∧ w'.cell? ⟨g, 43, none⟩ = some (.int .i64 6)) ∧ Fr [] w w') := fun w2 p h hf => al_tick h hF1 hf
  have HDE : Hid (∀ (Y : Nat → Prop) (W : World) (p : Nat) (b : Pl), CoIn Y W p alC4.flush b → Calls Try.prog 14 #[.pointer (some ⟨p, 0, none⟩)] W fun e w' => ∃ A d, e = .returned (.slice A 1 d) ∧ OwnI W.heap.size w' (.slice A 1 d) [65536] ∧ Fr [] W w') := fun Y W p b h => c_decisions h (by decide)
  have HSM : Hid (∀ (n : Nat) (W : World) (A : Option Addr) (d : Nat), OwnI n W (.slice A 1 d) [65536] → Calls Try.prog 13 #[.slice A 1 d, .slice (some ⟨W.heap.size, 0, none⟩) 1 1] (W.alloc (.cells #[.int .i64 65536] 3)) fun e w' => e = .returned (.bool true) ∧ Fr [] W w') := fun n W A d h => by
    obtain ⟨A', d', hv', _, hk⟩ := (h.fr ((Fr.refl [] W).alloc (.cells #[.int .i64 65536] 3)) (by simp)).sl
    injection hv' with e1 e2 e3
    subst e1
    refine (same_calls (c0 := d) (c1 := 1) hk (made_C W [65536] (by decide) (by simp))).mono ?_
    rintro e w' ⟨rfl, n, rfl⟩
    exact ⟨rfl, ((Fr.refl [] W).alloc _).drewN _⟩
  have HIX : Hid (∀ (Y : Nat → Prop) (W : World) (p : Nat) (b : Pl), CoIn Y W p alC4.flush b → Calls Try.prog 7 #[.pointer (some ⟨p, 0, none⟩)] W fun e w' => e = .returned (.int .i64 1) ∧ w' = W) := fun Y W p b h => c_index h
  have HSP : Hid (∀ (Y : Nat → Prop) (W : World) (p : Nat) (b : Pl), CoIn Y W p alC4.flush b → Calls Try.prog 9 #[.pointer (some ⟨p, 0, none⟩)] W fun e w' => e = .returned (.int .i64 0) ∧ ∃ n, w' = W.drewN n) := fun Y W p b h => c_step h
  refine calls_k fun R hR => ?_
  clear hC1
  have HF1 := Lib.hid hF1
  clear hF1
  go_enter Try.func6, Try.ntmps6
  go_upto_region 1 with (fail)
  rw [hW1] at HNW HTK HF1
  clear hW1
  go_upto_region 5 with (first
    | (go_at_call 4; refine HNW.out.mono ?_; rintro e w2 ⟨p, rfl, h2, hf2, _⟩; have HT := Lib.hid (HTK.out _ _ h2 hf2); clear h2 hf2 HNW HTK)
    | (go_at_call 12; refine HT.out.mono ?_; rintro e w3 ⟨g, d, rfl, ⟨Y, ⟨b3, h3⟩⟩, ⟨k1, k2, k3, k4⟩, hf3⟩; have H3 := Lib.hid h3; have HF3 := Lib.hid hf3; have HD := Lib.hid (HDE.out _ _ _ _ h3); clear h3 hf3 HT HDE))
  go_wp2_with (first
    | (go_at_call 14; refine HD.out.mono ?_; rintro e w4 ⟨A4, d4, rfl, h4, hf4⟩; have HS4 := Lib.hid (HSM.out _ _ _ _ h4); have HF4 := Lib.hid hf4; clear h4 hf4 HD HSM)
    | (go_at_call 13; refine HS4.out.mono ?_; rintro e w5 ⟨rfl, hf5⟩; have HF5 : Hid (Fr [] w3 w5) := HF4.out.trans hf5 (by simp); have HI5 := Lib.hid (HIX.out _ _ _ _ (H3.out.fr HF5.out)); have HP5 := Lib.hid (HSP.out _ _ _ _ (H3.out.fr HF5.out)); clear hf5 HS4 HIX HSP)
    | (go_at_call 7; refine HI5.out.mono ?_; rintro e w6 ⟨rfl, rfl⟩; clear HI5)
    | (go_at_call 9; refine HP5.out.mono ?_; rintro e w7 ⟨rfl, n, rfl⟩; clear HP5))
  exact hR.out _ _ ⟨rfl, (HF3.out.trans HF5.out (by simp)).drewN _⟩
set_option maxHeartbeats 8000000 in
set_option maxRecDepth 100000 in
theorem CheckNames_walk (w : World) : Calls Try.prog 3 #[] w fun e w' => e = .returned (.bool true) ∧ Fr [] w w' := by
  obtain ⟨W1, hW1⟩ : ∃ W1, W1 = w.alloc (.cells #[.int .i64 1, .int .i64 1] 3) := ⟨_, rfl⟩
  have hF1 : Fr [] w W1 := by rw [hW1]; exact (Fr.refl _ _).alloc _
  have hC1 : (Kd.int .i64).C W1 (some ⟨w.heap.size, 0, none⟩) 2 [1, 1] := by rw [hW1]; exact made_C w [1, 1] (by decide) (by simp)
  have HNW : Hid (Calls Try.prog 4 #[.int .i64 1, .slice (some ⟨w.heap.size, 0, none⟩) 2 2, .int .i64 2, .int .i64 8] W1 fun e w' => ∃ p, e = .returned (.pointer (some ⟨p, 0, none⟩)) ∧ CoAt (fun k => k < W1.heap.size) w' p (Co.new 1 [1, 1] 2 8) ∧ Fr [] W1 w' ∧ W1.heap.size ≤ p) := c_new (c0 := 2) (st := [1, 1]) hC1 (by decide) 1 2 8
  have HLO : Hid (∀ (Y : Nat → Prop) (W : World) (p : Nat) (b : Pl), CoIn Y W p (Co.new 1 [1, 1] 2 8) b → Calls Try.prog 5 #[.pointer (some ⟨p, 0, none⟩)] W fun e w' => e = .returned (.tuple #[.int .i64 0, .int .i64 (-1)]) ∧ ∃ n, w' = W.drewN n) := fun Y W p b h => c_lock h
  have HIX : Hid (∀ (Y : Nat → Prop) (W : World) (p : Nat) (b : Pl), CoIn Y W p (Co.new 1 [1, 1] 2 8) b → Calls Try.prog 7 #[.pointer (some ⟨p, 0, none⟩)] W fun e w' => e = .returned (.int .i64 0) ∧ w' = W) := fun Y W p b h => c_index h
  have HVW : Hid (∀ (Y : Nat → Prop) (W : World) (p : Nat) (b : Pl), CoIn Y W p (Co.new 1 [1, 1] 2 8) b → Calls Try.prog 8 #[.pointer (some ⟨p, 0, none⟩)] W fun e w' => e = .returned (.int .i64 0) ∧ ∃ n, w' = W.drewN n) := fun Y W p b h => c_view h
  have HSP : Hid (∀ (Y : Nat → Prop) (W : World) (p : Nat) (b : Pl), CoIn Y W p (Co.new 1 [1, 1] 2 8) b → Calls Try.prog 9 #[.pointer (some ⟨p, 0, none⟩)] W fun e w' => e = .returned (.int .i64 0) ∧ ∃ n, w' = W.drewN n) := fun Y W p b h => c_step h
  have HAL := fun w => Lib.hid (c_alive w)
  refine calls_k fun R hR => ?_
  clear hC1
  have HF1 := Lib.hid hF1
  clear hF1
  go_enter Try.func3, Try.ntmps3
  go_upto_region 1 with (fail)
  rw [hW1] at HNW HF1
  clear hW1
  go_wp2_with (first
    | (go_at_call 4; refine HNW.out.mono ?_; rintro e w2 ⟨p, rfl, ⟨b2, h2⟩, hf2, _⟩; have H2 := Lib.hid h2; have HF2 : Hid (Fr [] w w2) := HF1.out.trans hf2 (by simp); have HL2 := Lib.hid (HLO.out _ _ _ _ h2); clear h2 hf2 HNW HLO HF1)
    | (go_at_call 5; refine HL2.out.mono ?_; rintro e w3 ⟨rfl, n3, rfl⟩; have HF3 : Hid (Fr [] w2 (w2.drewN n3)) := (Fr.refl _ _).drewN _; clear HL2)
    | (go_at_call 6; refine (HAL _).out.mono ?_; rintro e w4 ⟨rfl, hf4⟩; have HF4 : Hid (Fr [] w2 w4) := HF3.out.trans hf4 (by simp); have HI4 := Lib.hid (HIX.out _ _ _ _ (H2.out.fr HF4.out)); have HV4 := Lib.hid (HVW.out _ _ _ _ (H2.out.fr HF4.out)); clear hf4 HIX HVW)
    | (go_at_call 7; refine HI4.out.mono ?_; rintro e w5 ⟨rfl, rfl⟩; clear HI4)
    | (go_at_call 8; refine HV4.out.mono ?_; rintro e w6 ⟨rfl, n6, rfl⟩; have HP6 := Lib.hid (HSP.out _ _ _ _ (H2.out.fr (HF4.out.drewN n6))); clear HV4 HSP)
    | (go_at_call 9; refine HP6.out.mono ?_; rintro e w7 ⟨rfl, n7, rfl⟩; clear HP6))
  exact hR.out _ _ ⟨rfl, (HF2.out.trans HF4.out (by simp)).drewN _⟩
end Go.Np.Try
