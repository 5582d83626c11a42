/- What CheckNames needs. -/
import Derived.Test.YtgfiglcmhlbjjaaQCheckNamesCkQ
set_option linter.unusedVariables false
set_option linter.unusedSimpArgs false
namespace Go.Np.Try
open Go.RowKit Go.Proofs Go.Shelf Go.Sort Go.Lib Go.Proofs.Ytgfiglcmhlbjjaa.PX Go.Proofs.YtgfiglcmhlbjjaaW.PrintWords
def FrX (X : Nat → Prop) (w w' : World) : Prop := ∃ S : List Nat, Fr S w w' ∧ ∀ k ∈ S, ¬ X k
theorem FrX.of0 {X : Nat → Prop} {w w' : World} (h : Fr [] w w') : FrX X w w' := ⟨[], h, by simp⟩
theorem FrX.trans {X : Nat → Prop} {a b c : World} (h : FrX X a b) (k : FrX X b c) : FrX X a c := by
  obtain ⟨S, h1, h2⟩ := h
  obtain ⟨T, k1, k2⟩ := k
  exact ⟨S ++ T, (h1.mono (fun x hx => .inl (by simp [hx]))).trans (k1.mono (fun x hx => .inl (List.mem_append_right S hx))) (fun x hx => .inl hx), fun x hx => by
    rcases List.mem_append.1 hx with hx | hx
    · exact h2 x hx
    · exact k2 x hx⟩
theorem FrX.size {X : Nat → Prop} {a b : World} (h : FrX X a b) : a.heap.size ≤ b.heap.size := by obtain ⟨S, h1, _⟩ := h; exact h1.size
theorem FrX.block {X : Nat → Prop} {a b : World} (h : FrX X a b) {k : Nat} (hk : k < a.heap.size) (hx : X k) : b.heap[k]? = a.heap[k]? := by obtain ⟨S, h1, h2⟩ := h; exact h1.block k hk (fun hm => h2 k hm hx)
theorem FrX.weak {X Y : Nat → Prop} {a b : World} (h : FrX X a b) (hY : ∀ k, Y k → X k) : FrX Y a b := by obtain ⟨S, h1, h2⟩ := h; exact ⟨S, h1, fun k hk hy => h2 k hk (hY k hy)⟩
theorem FrX.old {w w1 w' : World} (h : FrX (fun k => k < w.heap.size) w1 w') (h0 : Fr [] w w1) : Fr [] w w' := by
  obtain ⟨S, h1, h2⟩ := h
  exact h0.trans h1 (fun x hx => .inr (Nat.le_of_not_lt (h2 x hx))) |>.mono (fun x hx => by simp at hx)
theorem FrX.keep {X : Nat → Prop} {w w1 w' : World} (h : FrX X w1 w') (hX : ∀ k, k < w.heap.size → X k) (h0 : Fr [] w w1) : Fr [] w w' := by
  obtain ⟨S, h1, h2⟩ := h
  exact (h0.trans h1 (fun x hx => .inr (Nat.le_of_not_lt (fun hl => h2 x hx (hX x hl))))).mono (fun x hx => by simp at hx)
def OwnI (base : Nat) (w : World) (v : Value) (l : List Int) : Prop := w.ownsRow 0 3 1 v l.length (l.map (Value.int .i64)) ∧ ∀ k ∈ v.ownBlock.toList, base ≤ k
theorem OwnI.fr {base : Nat} {w w' : World} {v : Value} {l : List Int} {S : List Nat} (h : OwnI base w v l) (hf : Fr S w w') (hd : ∀ k ∈ v.ownBlock.toList, k ∉ S) : OwnI base w' v l := ⟨row_fr h.1 hf hd, h.2⟩
theorem OwnI.nil (base : Nat) (w : World) : OwnI base w (.slice none 0 0) [] := ⟨World.ownsRow_nil _ _ _ _, by simp [Value.ownBlock]⟩
def SlI (w : World) (v : Value) (l : List Int) : Prop := ∃ A c, v = .slice A l.length c ∧ l.length ≤ c ∧ (Kd.int .i64).C w A l.length l
theorem OwnI.sl {base : Nat} {w : World} {v : Value} {l : List Int} (h : OwnI base w v l) : SlI w v l := by
  have hr : Reps (fun (q : Int) cs => cs = [Value.int .i64 q]) 1 l (l.map (Value.int .i64)) := by
    have : ∀ l : List Int, Reps (fun (q : Int) cs => cs = [Value.int .i64 q]) 1 l (l.map (Value.int .i64)) := by
      intro l
      induction l with
      | nil => exact Reps.none _ _
      | cons q l ih =>
        have h1 : Reps (fun (q : Int) cs => cs = [Value.int .i64 q]) 1 [q] [Value.int .i64 q] := by simpa using (Reps.none (fun (q : Int) cs => cs = [Value.int .i64 q]) 1).snoc (p := q) rfl rfl
        have := Kd.reps_append h1 ih
        simpa using this
    exact this l
  obtain ⟨A, c, he, hl, hc⟩ := OwnRow.reads (R := fun (q : Int) cs => cs = [Value.int .i64 q]) ⟨_, h.1, hr⟩
  exact ⟨A, c, he, hl, hc.imp_ (Below.refl _ _) (fun q cs hq => by subst hq; rfl)⟩
theorem OwnI.lt {base : Nat} {w : World} {v : Value} {l : List Int} (h : OwnI base w v l) : ∀ k ∈ v.ownBlock.toList, k < w.heap.size := fun k hk => row_lt h.1 k hk
theorem OwnI.of_base {base : Nat} {w : World} {v : Value} {l : List Int} {n : Nat} (h : w.ownsRow base 3 1 v n (l.map (Value.int .i64))) : OwnI base w v l := by
  have hn : n = l.length := by have := h.1; simp at this; omega
  subst hn
  refine ⟨⟨h.1, ?_⟩, fun k hk => Go.Proofs.YtgfiglcmhlbjjaaW.PrintWords.own_base h k (by simpa using hk)⟩
  rcases h.2 with h2 | ⟨g, cap, cur, h3, _, h4⟩
  · exact .inl h2
  · exact .inr ⟨g, cap, cur, h3, Nat.zero_le _, h4⟩
theorem OwnI.base {base : Nat} {w : World} {v : Value} {l : List Int} (h : OwnI base w v l) : w.ownsRow base 3 1 v l.length (l.map (Value.int .i64)) := by
  refine ⟨h.1.1, ?_⟩
  rcases h.1.2 with h2 | ⟨g, cap, cur, rfl, _, h4⟩
  · exact .inl h2
  · exact .inr ⟨g, cap, cur, rfl, h.2 g (by simp [Value.ownBlock]), h4⟩
theorem OwnI.form {base : Nat} {w : World} {v : Value} {l : List Int} (h : OwnI base w v l) : ∃ A c, v = .slice A l.length c := slice_form h.1
theorem OwnI.formN {base : Nat} {w : World} {v : Value} {l : List Int} {N : Nat} (h : OwnI base w v l) (hN : l.length = N) : ∃ A c, v = .slice A N c := by subst hN; exact slice_form h.1
theorem clone_own {w : World} {A : Option Addr} {c : Nat} {l : List Int} (h : (Kd.int .i64).C w A l.length l) (hb : l.length < 17592186044416) :
    Calls Try.prog 10 #[.slice A l.length c] w fun e w' => ∃ v, e = .returned v ∧ OwnI w.heap.size w' v l ∧ Fr [] w w' := by
  cases A with
  | none =>
    have hl : l = [] := by
      cases l with
      | nil => rfl
      | cons x l => obtain ⟨ad, e, _⟩ := int_at h 0 (by simp); cases e
    subst hl
    refine (Try.slices_Clone_int_nil _ c w).mono ?_
    rintro e w' ⟨rfl, rfl⟩
    exact ⟨_, rfl, OwnI.nil _ _, Fr.refl _ _⟩
  | some ad =>
    by_cases hl : l.length = 0
    · obtain rfl := List.eq_nil_of_length_eq_zero hl
      refine (Try.slices_Clone_int_zero ad c w).mono ?_
      rintro e w' ⟨v, rfl, h1, _, h2⟩
      exact ⟨v, rfl, OwnI.of_base h1, Fr.of_below [] h2⟩
    · have hs : ad.spot = none := by
        obtain ⟨ad', e, hc⟩ := int_at h 0 (by omega)
        injection e with e
        subst e
        have h0 : ad.add 0 = ad := by simp [Addr.add]
        rw [h0] at hc
        obtain ⟨b, o, s⟩ := ad
        exact cell_spot hc
      obtain ⟨b, o, s⟩ := ad
      simp only at hs
      subst hs
      refine (Try.slices_Clone_int b o l.length c l w (Nat.le_refl _) (by omega) (fun j hj => ?_)).mono ?_
      · obtain ⟨ad', e, hc⟩ := int_at h j hj
        injection e with e
        rw [← e, addr_add _ _ rfl] at hc
        exact hc
      · rintro e w' ⟨v, rfl, h1, _, h2⟩
        rw [List.take_length] at h1
        exact ⟨v, rfl, OwnI.of_base h1, Fr.of_below [] h2⟩
end Go.Np.Try
