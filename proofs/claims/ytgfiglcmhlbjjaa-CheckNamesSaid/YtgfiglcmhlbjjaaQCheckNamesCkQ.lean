/- What CheckNames needs. -/
import Derived.Test.YtgfiglcmhlbjjaaQCheckNamesCkP
set_option linter.unusedVariables false
set_option linter.unusedSimpArgs false
namespace Go.Np.Try
open Go.RowKit Go.Proofs.Ytgfiglcmhlbjjaa.PX Go.Proofs.YtgfiglcmhlbjjaaW.PrintWords
theorem wfI {x : Int} (h : -9223372036854775808 ≤ x) (h2 : x ≤ 9223372036854775807) : wf64 x := by
  show (Lit.int .i64 x).wf = true
  simp [Lit.wf, IntKind.min, IntKind.max, IntKind.signed, IntKind.bits]; omega
theorem Good.nil (n : Nat) : Good n [] := ⟨[], rfl, Inv.nil n⟩
theorem addR_ok {n : Nat} {m : List S41} {q : S41} (h : addR n m q = true) : (q.f0 = 4 ∨ q.f0 = 5) ∧ 0 ≤ q.f1 ∧ q.f1 ≤ 1000 ∧ 0 ≤ q.f2 ∧ q.f2 < n ∧ -1 ≤ q.f3 := by
  unfold addR at h
  simp only [Bool.and_eq_true, Bool.or_eq_true, decide_eq_true_eq] at h
  obtain ⟨⟨⟨⟨⟨⟨_, h1⟩, h2⟩, h3⟩, h4⟩, h5⟩, h6⟩ := h
  exact ⟨h1, h2, h3, h4, h5, h6⟩
theorem Good.add {st : List Int} {m : List S41} {q : S41} (hst : okS st) (h : Good st.length m) (ha : addR st.length m q = true) : Good st.length (m ++ [q]) := by
  obtain ⟨l, rfl, hi⟩ := h
  obtain ⟨K, V, F, x⟩ := q
  obtain ⟨h1, h2, h3, h4, h5, h6⟩ := addR_ok ha
  simp only at h1 h2 h3 h4 h5 h6
  have hn := hst.2.1
  have hwf : wf64 K ∧ wf64 V ∧ wf64 F := by
    rcases h1 with rfl | rfl <;> exact ⟨by decide, wfI (by omega) (by omega), wfI (by omega) (by omega)⟩
  refine ⟨l ++ [(⟨(K, V, F), hwf⟩, x)], by simp [toS], hi.add ?_⟩
  rw [addB_eq]
  exact ha
theorem ahv_fold (st : List Int) (m : List S41) : ∀ (l : List S41) (b : Int), l.foldl (ahStep st m) b = b ∨ ∃ q ∈ l, l.foldl (ahStep st m) b = q.f1 := by
  intro l
  induction l with
  | nil => intro b; exact .inl rfl
  | cons q l ih =>
    intro b
    rw [List.foldl_cons]
    rcases ih (ahStep st m b q) with h | ⟨u, hu, h⟩
    · rw [h]
      unfold ahStep
      split
      · exact .inr ⟨q, by simp, rfl⟩
      · exact .inl rfl
    · exact .inr ⟨u, by simp [hu], h⟩
theorem Good.view {n : Nat} {m : List S41} (h : Good n m) : ∀ q ∈ m, 0 ≤ q.f1 ∧ q.f1 ≤ 1000 := by
  obtain ⟨l, rfl, hi⟩ := h
  intro q hq
  obtain ⟨x, hx, rfl⟩ := List.mem_map.1 hq
  exact ⟨(hi.ok x hx).2.1, (hi.ok x hx).2.2.1⟩
theorem ahR_view {n : Nat} {st : List Int} {m : List S41} (h : Good n m) {v : Int} (hv : v < ahR st m v) : ahR st m v ≤ 1000 := by
  rcases ahv_fold st m m v with e | ⟨q, hq, e⟩
  · unfold ahR at hv; omega
  · unfold ahR; rw [e]; exact (h.view q hq).2
namespace Co
variable {c c' : Co} {known : List Int}
theorem Ok.cast (h : Ok c) (k x : Int) : Ok (c.cast k x) := by
  unfold Co.cast
  split
  · rename_i ha; exact ⟨h.st, h.me, h.view, h.step, h.votes.add h.st ha⟩
  · exact h
theorem cast_same (c : Co) (k x : Int) : (c.cast k x).st = c.st ∧ (c.cast k x).me = c.me ∧ (c.cast k x).view = c.view ∧ (c.cast k x).step = c.step ∧ (c.cast k x).decs = c.decs := by
  unfold Co.cast; split <;> exact ⟨rfl, rfl, rfl, rfl, rfl⟩
theorem Ok.toS (h : Ok c) {s : Int} (hs : 0 ≤ s ∧ s ≤ 3) : Ok (c.toS s) := ⟨h.st, h.me, h.view, hs, h.votes⟩
theorem Ok.enter (h : Ok c) {v : Int} (hv : 0 ≤ v ∧ v ≤ 1000) : Ok (c.enter v) := by
  unfold Co.enter
  split
  · exact ⟨h.st, h.me, hv, by simp, h.votes⟩
  · exact ⟨h.st, h.me, hv, by simp [Co.send], h.votes⟩
theorem enter_same (c : Co) (v : Int) : (c.enter v).decs = c.decs ∧ (c.enter v).view = v ∧ (c.enter v).step = 1 := by
  unfold Co.enter; split <;> exact ⟨rfl, rfl, rfl⟩
theorem Ok.decide1 (h : Ok c) (v : Int) : Ok (c.decide1 v) := ⟨h.st, h.me, by simp [Co.decide1, Co.rest], by simp [Co.decide1, Co.rest], Good.nil _⟩
theorem Ok.next (h : Ok c) (known : List Int) : Ok (c.next known).1 := by
  unfold Co.next
  by_cases h1 : 1000 < c.idx
  · rw [if_pos h1]; exact h
  rw [if_neg h1]
  by_cases h2 : c.agreed.2 = true
  · rw [if_pos h2]; exact h.decide1 _
  rw [if_neg h2]
  by_cases h3 : c.step = 0
  · rw [if_pos h3]; exact h
  rw [if_neg h3]
  by_cases h4 : c.view < ahR c.st c.m c.view
  · rw [if_pos h4]
    have hv := h.view
    have hb := ahR_view h.votes h4
    exact h.enter ⟨by omega, hb⟩
  rw [if_neg h4]
  by_cases h5 : c.step = 1
  · rw [if_pos h5]
    split
    · exact h
    · split
      · exact h
      · exact (h.cast _ _).toS (by omega)
  rw [if_neg h5]
  split
  · exact h
  split
  · dsimp only
    split
    · exact (h.cast _ _).toS (by omega)
    · refine Ok.toS (s := 3) (Ok.cast ?_ _ _) (by omega)
      exact ⟨h.st, h.me, h.view, h.step, h.votes⟩
  split
  · exact ⟨h.st, h.me, h.view, h.step, h.votes⟩
  · exact h
theorem next_mu (h : Ok c) (hn : (c.next known).2 = true) : (c.next known).1.mu < c.mu := by
  have hv := h.view
  have hs := h.step
  unfold Co.next at hn ⊢
  split
  · rename_i h1; rw [if_pos h1] at hn; cases hn
  rename_i h1
  rw [if_neg h1] at hn
  split
  · rename_i h2
    unfold Co.decide1 Co.rest Co.send Co.mu
    unfold Co.idx at h1
    simp only [List.length_append, List.length_singleton]
    omega
  rename_i h2
  rw [if_neg h2] at hn
  split
  · rename_i h3; rw [if_pos h3] at hn; cases hn
  rename_i h3
  rw [if_neg h3] at hn
  split
  · rename_i h4
    have hb := ahR_view h.votes h4
    obtain ⟨e1, e2, e3⟩ := enter_same c (ahR c.st c.m c.view)
    unfold Co.mu
    rw [e1, e2, e3]
    omega
  rename_i h4
  rw [if_neg h4] at hn
  split
  · rename_i h5
    rw [if_pos h5] at hn
    split
    · rename_i h6; rw [h6] at hn; cases hn
    · rename_i p h6
      rw [h6] at hn
      simp only at hn
      split
      · rename_i h7; rw [if_pos h7] at hn; cases hn
      · obtain ⟨e1, e2, e3, e4, e5⟩ := cast_same c 4 (c.judge p).1
        unfold Co.mu Co.toS
        simp only
        rw [e3, e5]
        omega
  rename_i h5
  rw [if_neg h5] at hn
  split
  · rename_i h6; rw [if_pos h6] at hn; cases hn
  rename_i h6
  rw [if_neg h6] at hn
  split
  · rename_i h7
    dsimp only
    have key : ∀ d : Co, d.view = c.view → d.decs = c.decs → ((d.cast 5 (mostR c.st c.m 4 c.view).1).toS 3).mu < c.mu := by
      intro d e1 e2
      obtain ⟨_, _, f3, _, f5⟩ := cast_same d 5 (mostR c.st c.m 4 c.view).1
      unfold Co.mu Co.toS
      simp only
      rw [f3, f5, e1, e2]
      omega
    split
    · exact key _ rfl rfl
    · exact key _ rfl rfl
  rename_i h7
  rw [if_neg h7] at hn
  split
  · rename_i h8; rw [if_pos h8] at hn; cases hn
  · rename_i h8; rw [if_neg h8] at hn; cases hn
theorem Settles.ok {d : Co} (h : Settles known c d) (hc : Ok c) : Ok d := by
  induction h with
  | stop e => have := hc.next known; rw [e] at this; exact this
  | go e _ ih => have := hc.next known; rw [e] at this; exact ih this
end Co
end Go.Np.Try
