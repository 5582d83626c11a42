/- What CheckNames needs. -/
import Derived.Test.YtgfiglcmhlbjjaaQCheckNamesCkH
import Derived.Test.YtgfiglcmhlbjjaaQCheckNamesPXx1
set_option linter.unusedVariables false
set_option linter.unusedSimpArgs false
namespace Go.Np.Try
open Go.RowKit Go.Proofs Go.Proofs.Ytgfiglcmhlbjjaa.PX Go.Proofs.YtgfiglcmhlbjjaaW.PrintWords
section
variable {X : Nat → Prop} {w w' : World} {p : Nat} {c c' : Co} {a a' : Pl}
theorem CoIn.dv (h : CoIn X w p c a) : ∃ A d, a.dv = .slice A c.decs.length d ∧ w.cell? ⟨p, 4, none⟩ = some (.slice A c.decs.length d) := by
  obtain ⟨A, d, e⟩ := h.dec.form
  exact ⟨A, d, e, by rw [h.cells 4, ← e]; rfl⟩
theorem CoIn.sv (h : CoIn X w p c a) : ∃ A d, a.sv = .slice A c.st.length d ∧ w.cell? ⟨p, 1, none⟩ = some (.slice A c.st.length d) := by
  obtain ⟨A, d, e⟩ := h.st.form
  exact ⟨A, d, e, by rw [h.cells 1, ← e]; rfl⟩
set_option maxHeartbeats 1000000 in
set_option maxRecDepth 100000 in
theorem c_index (h : CoIn X w p c a) : Calls Try.prog 7 #[.pointer (some ⟨p, 0, none⟩)] w fun e w' => e = .returned (.int .i64 c.idx) ∧ w' = w := by
  obtain ⟨A, d, _, hc⟩ := h.dv
  unfold Co.idx
  refine calls_k fun R hR => ?_
  clear h
  go_enter Try.func7, Try.ntmps7
  go_wp2
  exact hR.out _ _ ⟨rfl, rfl⟩
set_option maxHeartbeats 1000000 in
set_option maxRecDepth 100000 in
theorem c_over (h : CoIn X w p c a) : Calls Try.prog 17 #[.pointer (some ⟨p, 0, none⟩)] w fun e w' => e = .returned (.bool (decide (1000 < c.idx))) ∧ ∃ n, w' = w.drewN n := by
  have HI := Lib.hid (c_index h)
  refine calls_k fun R hR => ?_
  clear h
  go_enter Try.func17, Try.ntmps17
  go_wp2_with (go_at_call 7; refine HI.out.mono ?_; rintro e w1 ⟨rfl, rfl⟩; clear HI)
  exact hR.out _ _ ⟨rfl, 0, rfl⟩
set_option maxHeartbeats 1000000 in
set_option maxRecDepth 100000 in
theorem c_view (h : CoIn X w p c a) : Calls Try.prog 8 #[.pointer (some ⟨p, 0, none⟩)] w fun e w' => e = .returned (.int .i64 c.view) ∧ ∃ n, w' = w.drewN n := by
  have hc : w.cell? ⟨p, 5, none⟩ = some (.int .i64 c.view) := h.cells 5
  refine calls_k fun R hR => ?_
  clear h
  go_enter Try.func8, Try.ntmps8
  go_wp2
  exact hR.out _ _ ⟨rfl, 0, rfl⟩
set_option maxHeartbeats 1000000 in
set_option maxRecDepth 100000 in
theorem c_step (h : CoIn X w p c a) : Calls Try.prog 9 #[.pointer (some ⟨p, 0, none⟩)] w fun e w' => e = .returned (.int .i64 c.step) ∧ ∃ n, w' = w.drewN n := by
  have hc : w.cell? ⟨p, 6, none⟩ = some (.int .i64 c.step) := h.cells 6
  refine calls_k fun R hR => ?_
  clear h
  go_enter Try.func9, Try.ntmps9
  go_wp2
  exact hR.out _ _ ⟨rfl, 0, rfl⟩
set_option maxHeartbeats 1000000 in
set_option maxRecDepth 100000 in
theorem c_lock (h : CoIn X w p c a) : Calls Try.prog 5 #[.pointer (some ⟨p, 0, none⟩)] w fun e w' => e = .returned (.tuple #[.int .i64 c.lock.1, .int .i64 c.lock.2]) ∧ ∃ n, w' = w.drewN n := by
  have hc : w.cell? ⟨p, 12, none⟩ = some (.int .i64 c.lock.1) := h.cells 12
  have hd : w.cell? ⟨p, 13, none⟩ = some (.int .i64 c.lock.2) := h.cells 13
  obtain ⟨l1, hl1⟩ : ∃ l1, c.lock.1 = l1 := ⟨_, rfl⟩
  obtain ⟨l2, hl2⟩ : ∃ l2, c.lock.2 = l2 := ⟨_, rfl⟩
  rw [hl1] at hc
  rw [hl2] at hd
  rw [hl1, hl2]
  refine calls_k fun R hR => ?_
  clear h hl1 hl2
  go_enter Try.func5, Try.ntmps5
  go_upto_region 1 with (fail)
  go_quiet (fail)
  go_wp2
  exact hR.out _ _ ⟨rfl, _, rfl⟩
theorem drawn_n {w w' : World} (h : Drawn0 w w') : ∃ n, w' = w.drewN n := by obtain ⟨n, rfl⟩ := h; exact ⟨n, rfl⟩
theorem leader_ev (i v n : Int) (hn : n ≤ 7) : view_Leader.f i v n = some (leaderN i v n) := by
  unfold view_Leader.f leaderN
  by_cases h1 : i < 0
  · simp [h1]
  by_cases h2 : i > 1000
  · simp [h1, h2]
  by_cases h3 : v < 0
  · simp [h1, h2, h3]
  by_cases h4 : v > 1000
  · simp [h1, h2, h3, h4]
  by_cases h5 : n < 1
  · simp [h1, h2, h3, h4, h5]
  have h6 : ¬ n > 7 := by omega
  have h7 : ¬ n = 0 := by omega
  rw [if_neg h1, if_neg h2, if_neg h3, if_neg h4, if_neg h5, if_neg h6, if_neg h7, if_neg (by omega), w64 (by omega) (by omega)]
set_option maxHeartbeats 2000000 in
set_option maxRecDepth 100000 in
theorem c_leads (h : CoIn X w p c a) (hn : c.st.length ≤ 7) (node v : Int) : Calls Try.prog 25 #[.pointer (some ⟨p, 0, none⟩), .int .i64 node, .int .i64 v] w fun e w' => e = .returned (.bool (c.leads node v)) ∧ ∃ n, w' = w.drewN n := by
  obtain ⟨A, d, _, hc⟩ := h.sv
  have HI := Lib.hid (fun n => c_index (h.fr ((Fr.refl [] w).drewN n)))
  have HL := Lib.hid (fun W => (view_Leader.calls c.idx v c.st.length _ W (leader_ev c.idx v c.st.length (by omega))).mono (fun e w' (h : _ ∧ Drawn0 W w') => show e = .returned (.int .i64 (leaderN c.idx v c.st.length)) ∧ ∃ n, w' = W.drewN n from ⟨h.1, drawn_n h.2⟩))
  obtain ⟨n, hn'⟩ : ∃ n, c.st.length = n := ⟨_, rfl⟩
  obtain ⟨L, hL⟩ : ∃ L, leaderN c.idx v c.st.length = L := ⟨_, rfl⟩
  have he : c.leads node v = decide (L = node) := by unfold Co.leads; rw [hL]
  rw [he]
  rw [hL] at HL
  rw [hn'] at HL hc
  refine calls_k fun R hR => ?_
  have hb : (L == node) = decide (L = node) := by by_cases e : L = node <;> simp [e]
  clear h hL he hn hn'
  go_enter Try.func25, Try.ntmps25
  go_upto_region 1 with (fail)
  go_quiet (first
    | (go_at_call 7; exact Calls.quiet_of_same (HI.out _))
    | (go_at_call 41; exact Calls.quiet_of (HL.out _)))
  go_wp2
  exact hR.out _ _ ⟨rfl, nq, rfl⟩
end
end Go.Np.Try
