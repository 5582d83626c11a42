/- What CheckNames needs. -/
import Derived.Test.YtgfiglcmhlbjjaaQCheckNamesCkQ
set_option linter.unusedVariables false
set_option linter.unusedSimpArgs false
namespace Go.Np.Try
open Go.RowKit Go.Proofs.Ytgfiglcmhlbjjaa.PX Go.Proofs.YtgfiglcmhlbjjaaW.PrintWords
theorem pigeon : ∀ (N : Nat) (l : List Nat), l.Nodup → (∀ x ∈ l, x < N) → l.length ≤ N := by
  intro N
  induction N with
  | zero =>
    intro l _ h
    cases l with
    | nil => simp
    | cons x l => exact absurd (h x (by simp)) (by omega)
  | succ N ih =>
    intro l hn h
    have h1 := ih (l.erase N) (hn.erase N) (fun x hx => by
      have h2 := h x (List.mem_of_mem_erase hx)
      have h3 : x ≠ N := fun e => by subst e; exact (hn.not_mem_erase) hx
      omega)
    have h2 : l.length ≤ (l.erase N).length + 1 := by
      by_cases hm : N ∈ l
      · rw [List.length_erase_of_mem hm]; omega
      · rw [List.erase_of_not_mem hm]; omega
    omega
theorem Good.len {n : Nat} {m : List S41} (h : Good n m) (hn : n ≤ 7) : m.length ≤ 14014 := by
  obtain ⟨l, rfl, hi⟩ := h
  rw [List.length_map]
  have h1 : ((l.map fun q => q.1.1).map fun k : Int × Int × Int => ((k.1 - 4) * 7007 + k.2.1 * 7 + k.2.2).toNat).Nodup := by
    rw [List.nodup_iff_pairwise_ne, List.pairwise_map]
    have h2 := hi.nd
    rw [List.nodup_iff_pairwise_ne] at h2
    refine List.Pairwise.imp_of_mem ?_ h2
    intro a b ha hb hne he
    obtain ⟨q, hq, rfl⟩ := List.mem_map.1 ha
    obtain ⟨u, hu, rfl⟩ := List.mem_map.1 hb
    have p1 := hi.ok q hq
    have p2 := hi.ok u hu
    obtain ⟨⟨⟨K, V, F⟩, hw⟩, x⟩ := q
    obtain ⟨⟨⟨K', V', F'⟩, hw'⟩, x'⟩ := u
    simp only at p1 p2 he hne
    apply hne
    have hn' : (n : Int) ≤ 7 := by omega
    have e1 : K = K' := by omega
    have e2 : V = V' := by omega
    have e3 : F = F' := by omega
    rw [e1, e2, e3]
  have h3 := pigeon 14014 _ h1 (fun x hx => by
    obtain ⟨k, hk, rfl⟩ := List.mem_map.1 hx
    obtain ⟨q, hq, rfl⟩ := List.mem_map.1 hk
    have p1 := hi.ok q hq
    omega)
  simpa using h3
namespace Co
variable {c c' : Co} {known : List Int}
theorem cast_out (c : Co) (k x : Int) : (c.cast k x).out.length ≤ c.out.length + 1 := by
  unfold Co.cast; split <;> simp [Co.send]
theorem enter_out (c : Co) (v : Int) : (c.enter v).out.length ≤ c.out.length + 1 := by
  unfold Co.enter; split <;> simp [Co.send]
theorem next_out (c : Co) (known : List Int) : (c.next known).1.out.length ≤ c.out.length + 1 := by
  unfold Co.next
  repeat' split
  all_goals first
    | exact Nat.le_succ _
    | (exact enter_out _ _)
    | (exact cast_out _ _ _)
    | (simp [Co.decide1, Co.rest, Co.send]; done)
    | (refine Nat.le_trans (cast_out _ _ _) ?_; split <;> exact Nat.le_refl _)
theorem Ok.mu_le (h : Ok c) : c.mu ≤ 10014018 := by
  have := h.view
  have := h.step
  unfold Co.mu
  omega
structure Wf (c : Co) : Prop where
  props : ∀ q ∈ c.props, wf64 q.2.2
  valid : wf64 c.valid.2
  said : c.said.length ≤ 1000
theorem wf_m1 : wf64 (-1) := by decide
theorem Wf.cast (h : Wf c) (k x : Int) : Wf (c.cast k x) := by
  unfold Co.cast; split
  · exact ⟨h.props, h.valid, h.said⟩
  · exact h
theorem Wf.toS (h : Wf c) (s : Int) : Wf (c.toS s) := ⟨h.props, h.valid, h.said⟩
theorem aput_sub {α : Type} (m : List (Int × α)) (k : Int) (x : α) : ∀ q ∈ aput m k x, q ∈ m ∨ q = (k, x) := by
  induction m with
  | nil => intro q hq; simp [aput] at hq; exact .inr hq
  | cons a m ih =>
    intro q hq
    obtain ⟨u, v⟩ := a
    by_cases h : u = k
    · simp [aput, h] at hq
      rcases hq with hq | hq
      · exact .inr hq
      · exact .inl (by simp [hq])
    · simp [aput, h] at hq
      rcases hq with hq | hq
      · exact .inl (by simp [hq])
      · rcases ih q hq with h1 | h1
        · exact .inl (by simp [h1])
        · exact .inr h1
theorem Wf.enter (h : Wf c) (v : Int) : Wf (c.enter v) := by
  unfold Co.enter
  split
  · exact ⟨h.props, h.valid, h.said⟩
  · refine ⟨fun q hq => ?_, h.valid, h.said⟩
    rcases aput_sub _ _ _ q hq with h1 | h1
    · exact h.props q h1
    · rw [h1]
      unfold Co.bid
      split
      · exact h.valid
      · exact wf_m1
theorem Wf.decide1 (c : Co) (v : Int) : Wf (c.decide1 v) := ⟨fun q hq => by simp [Co.decide1, Co.rest] at hq, wf_m1, by simp [Co.decide1, Co.rest]⟩
theorem Wf.next (h : Wf c) (ho : Ok c) (known : List Int) : Wf (c.next known).1 := by
  have hvw : wf64 c.view := wfI (by have := ho.view; omega) (by have := ho.view; omega)
  unfold Co.next
  by_cases h1 : 1000 < c.idx
  · rw [if_pos h1]; exact h
  rw [if_neg h1]
  by_cases h2 : c.agreed.2 = true
  · rw [if_pos h2]; exact Wf.decide1 _ _
  rw [if_neg h2]
  by_cases h3 : c.step = 0
  · rw [if_pos h3]; exact h
  rw [if_neg h3]
  by_cases h4 : c.view < ahR c.st c.m c.view
  · rw [if_pos h4]; exact h.enter _
  rw [if_neg h4]
  by_cases h5 : c.step = 1
  · rw [if_pos h5]
    split
    · exact h
    · split
      · exact h
      · exact (h.cast _ _).toS _
  rw [if_neg h5]
  split
  · exact h
  split
  · dsimp only
    split
    · exact (h.cast _ _).toS _
    · refine Wf.toS (Wf.cast ?_ _ _) _
      exact ⟨h.props, hvw, h.said⟩
  split
  · exact ⟨h.props, hvw, h.said⟩
  · exact h
end Co
end Go.Np.Try
