/- net.Bag[int] in the hands of the one who made it; netAlive. -/
import Derived.Test.YtiieflbggcgckaaBag
set_option linter.unusedVariables false
set_option linter.unusedSimpArgs false
namespace Go.Np.Try
open Go.RowKit Go.Proofs Go.Conc

/-- A bag that was made since w0, and nothing of w0 has turned. -/
def Own (w0 w : World) (p : Nat) (l : List Int) : Prop := ∃ F, BagAt w p F l ∧ Fr [] w0 w ∧ Fresh [] F w0
theorem Own.fr {w0 w : World} {p : Nat} {l : List Int} (h : Own w0 w p l) : Fr [] w0 w := by obtain ⟨_, _, h, _⟩ := h; exact h
theorem Own.len {w0 w : World} {p : Nat} {l : List Int} (h : Own w0 w p l) : l.length ≤ 4000 := by obtain ⟨_, h, _, _⟩ := h; exact h.len
theorem Own.alloc {w0 w : World} {p : Nat} {l : List Int} (h : Own w0 w p l) (o : Obj) : Own w0 (w.alloc o) p l := by
  obtain ⟨F, h1, h2, h3⟩ := h
  exact ⟨F, h1.fr (S := []) ((Fr.refl _ w).alloc o) (by simp), h2.alloc o, h3⟩
theorem Own.drewN {w0 w : World} {p : Nat} {l : List Int} (h : Own w0 w p l) (n : Nat) : Own w0 (w.drewN n) p l := by
  obtain ⟨F, h1, h2, h3⟩ := h
  exact ⟨F, h1.fr (S := []) ((Fr.refl _ w).drewN n) (by simp), h2.drewN n, h3⟩
/-- Something else that was made since w0 is written. -/
theorem Own.other {w0 w w' : World} {p : Nat} {l : List Int} {S : List Nat} (h : Own w0 w p l) (hf : Fr S w w') (hS : ∀ k ∈ S, w0.heap.size ≤ k) (hd : ∀ F, BagAt w p F l → ∀ k ∈ F, k ∉ S) : Own w0 w' p l := by
  obtain ⟨F, h1, h2, h3⟩ := h
  exact ⟨F, h1.fr hf (hd F h1), h2.trans hf (fun k hk => .inr (hS k hk)), h3⟩
theorem Own.step {w0 w w' : World} {p : Nat} {F F' : List Nat} {l' : List Int} (h2 : Fr [] w0 w) (h3 : Fresh [] F w0) (hB : BagAt w' p F' l') (hF : Fr F w w') (hN : Fresh F F' w) : Own w0 w' p l' :=
  ⟨F', hB, h2.trans hF h3, h3.trans hN h2.size⟩

theorem Own.base {w0 w1 w : World} {p : Nat} {l : List Int} (h : Own w1 w p l) (hf : Fr [] w0 w1) : Own w0 w p l := by
  obtain ⟨F, h1, h2, h3⟩ := h
  exact ⟨F, h1, hf.trans h2 (by simp), fun k hk => .inr (by rcases h3 k hk with h4 | h4; simp at h4; have := hf.size; omega)⟩
theorem new_own (w : World) : Calls Try.prog 28 #[] w fun e w' => ∃ p, e = .returned (.pointer (some ⟨p, 0, none⟩)) ∧ Own w w' p [] :=
  (new_calls w).mono fun e w' ⟨p, F, h1, h2, h3, h4⟩ => ⟨p, h1, F, h2, h3, h4⟩
theorem put_own {w0 w : World} {p : Nat} {l : List Int} (x : Int) (h : Own w0 w p l) (hl : l.length < 4000) :
    Calls Try.prog 29 #[.pointer (some ⟨p, 0, none⟩), .int .i64 x] w fun e w' => e = .returned (.bool true) ∧ Own w0 w' p (l ++ [x]) := by
  obtain ⟨F, h1, h2, h3⟩ := h
  refine (put_calls x h1).mono fun e w' ⟨g1, g2, g3⟩ => ?_
  rw [if_pos hl] at g2
  exact ⟨by rw [g1, decide_eq_true hl], .step h2 h3 g2 g3 (Fresh.refl _ _)⟩
theorem put_full {w0 w : World} {p : Nat} {l : List Int} (x : Int) (h : Own w0 w p l) (hl : ¬ l.length < 4000) :
    Calls Try.prog 29 #[.pointer (some ⟨p, 0, none⟩), .int .i64 x] w fun e w' => e = .returned (.bool false) ∧ Own w0 w' p l := by
  obtain ⟨F, h1, h2, h3⟩ := h
  refine (put_calls x h1).mono fun e w' ⟨g1, g2, g3⟩ => ?_
  rw [if_neg hl] at g2
  exact ⟨by rw [g1, decide_eq_false hl], .step h2 h3 g2 g3 (Fresh.refl _ _)⟩
theorem at_own {w0 w : World} {p : Nat} {l : List Int} (i : Int) (h : Own w0 w p l) :
    Calls Try.prog 30 #[.pointer (some ⟨p, 0, none⟩), .int .i64 i] w fun e w' => e = .returned (.tuple #[.int .i64 (atP l i).1, .bool (atP l i).2]) ∧ Own w0 w' p l := by
  have hl := h.len
  obtain ⟨F, h1, h2, h3⟩ := h
  exact (at_calls i h1).mono fun e w' ⟨c, v, s, r, g1, g2, g3, g4⟩ => ⟨g1, .step h2 h3 (g2.at_ hl) g3 g4⟩
theorem take_own {w0 w : World} {p : Nat} {l : List Int} (i : Int) (h : Own w0 w p l) :
    Calls Try.prog 31 #[.pointer (some ⟨p, 0, none⟩), .int .i64 i] w fun e w' => e = .returned (.tuple #[.int .i64 (atP l i).1, .bool (atP l i).2]) ∧ Own w0 w' p (if (atP l i).2 then l.eraseIdx i.toNat else l) := by
  obtain ⟨F, h1, h2, h3⟩ := h
  exact (take_calls i h1).mono fun e w' ⟨F', g1, g2, g3, g4⟩ => ⟨g1, .step h2 h3 g2 g3 g4⟩
theorem double_own {w0 w : World} {p : Nat} {l : List Int} (i : Int) (h : Own w0 w p l) :
    Calls Try.prog 36 #[.pointer (some ⟨p, 0, none⟩), .int .i64 i] w fun e w' => e = .returned (.bool ((atP l i).2 && decide (l.length < 4000))) ∧ Own w0 w' p (if (atP l i).2 && decide (l.length < 4000) then l ++ [(atP l i).1] else l) := by
  obtain ⟨F, h1, h2, h3⟩ := h
  exact (double_calls i h1).mono fun e w' ⟨F', g1, g2, g3, g4⟩ => ⟨g1, .step h2 h3 g2 g3 g4⟩
theorem len_own {w0 w : World} {p : Nat} {l : List Int} (h : Own w0 w p l) :
    Calls Try.prog 32 #[.pointer (some ⟨p, 0, none⟩)] w fun e w' => e = .returned (.int .i64 (l.length : Int)) ∧ Own w0 w' p l ∧ ∃ n, w' = w.drewN n := by
  have hl := h.len
  have h' := h
  obtain ⟨F, ⟨c, v, items, buf, s, r, rfl, hB, _, _⟩, h2, h3⟩ := h
  refine (len_calls hB (by simp at hl; omega)).mono ?_
  rintro e w' ⟨rfl, n, rfl⟩
  exact ⟨by simp, h'.drewN n, n, rfl⟩

/-- A bag and a row of one's own beside it. -/
def Two (w0 w : World) (p : Nat) (l : List Int) (v : Value) (xs : List Int) : Prop :=
  ∃ F, BagAt w p F l ∧ Fr [] w0 w ∧ Fresh [] F w0 ∧ w.ownsRow 0 3 1 v xs.length (xs.map encI) ∧ Fresh [] v.ownBlock.toList w0 ∧ ∀ k ∈ v.ownBlock.toList, k ∉ F
theorem Two.fr {w0 w : World} {p : Nat} {l xs : List Int} {v : Value} (h : Two w0 w p l v xs) : Fr [] w0 w := by obtain ⟨_, _, h, _⟩ := h; exact h
theorem Two.row {w0 w : World} {p : Nat} {l xs : List Int} {v : Value} (h : Two w0 w p l v xs) : w.ownsRow 0 3 1 v xs.length (xs.map encI) := by obtain ⟨_, _, _, _, h, _⟩ := h; exact h
theorem Two.len {w0 w : World} {p : Nat} {l xs : List Int} {v : Value} (h : Two w0 w p l v xs) : l.length ≤ 4000 := by obtain ⟨_, h, _⟩ := h; exact h.len
theorem Two.step {w0 w w' : World} {p : Nat} {l' xs : List Int} {v : Value} {F F' : List Nat} (h2 : Fr [] w0 w) (h3 : Fresh [] F w0) (h4 : w.ownsRow 0 3 1 v xs.length (xs.map encI)) (h5 : Fresh [] v.ownBlock.toList w0) (h6 : ∀ k ∈ v.ownBlock.toList, k ∉ F)
    (hB : BagAt w' p F' l') (hF : Fr F w w') (hN : Fresh F F' w) : Two w0 w' p l' v xs :=
  ⟨F', hB, h2.trans hF h3, h3.trans hN h2.size, row_fr h4 hF h6, h5, fun k hk hk' => by
    rcases hN k hk' with h7 | h7
    · exact h6 k hk h7
    · have := row_lt h4 k hk; omega⟩
theorem Two.drewN {w0 w : World} {p : Nat} {l xs : List Int} {v : Value} (h : Two w0 w p l v xs) (n : Nat) : Two w0 (w.drewN n) p l v xs := by
  obtain ⟨F, h1, h2, h3, h4, h5, h6⟩ := h
  exact Two.step h2 h3 h4 h5 h6 (h1.fr (S := []) ((Fr.refl _ w).drewN n) (by simp)) ((Fr.refl _ w).drewN n) (Fresh.refl _ _)
theorem Two.alloc {w0 w : World} {p : Nat} {l xs : List Int} {v : Value} (h : Two w0 w p l v xs) (o : Obj) : Two w0 (w.alloc o) p l v xs := by
  obtain ⟨F, h1, h2, h3, h4, h5, h6⟩ := h
  exact Two.step h2 h3 h4 h5 h6 (h1.fr (S := []) ((Fr.refl _ w).alloc o) (by simp)) ((Fr.refl _ w).alloc o) (Fresh.refl _ _)
theorem Two.grow {w0 w w' : World} {p : Nat} {l xs xs' : List Int} {v v' : Value} (h : Two w0 w p l v xs) (hr : w'.ownsRow 0 3 1 v' xs'.length (xs'.map encI)) (hF : Fr v.ownBlock.toList w w') (hN : Fresh v.ownBlock.toList v'.ownBlock.toList w) : Two w0 w' p l v' xs' := by
  obtain ⟨F, h1, h2, h3, h4, h5, h6⟩ := h
  refine ⟨F, h1.fr hF (fun k hk hk' => h6 k hk' hk), h2.trans hF h5, h3, hr, h5.trans hN h2.size, fun k hk hk' => ?_⟩
  rcases hN k hk with h7 | h7
  · exact h6 k h7 hk'
  · have := h1.lt k hk'; omega
theorem Own.two {w0 w w' : World} {p : Nat} {l xs : List Int} {v : Value} (h : Own w0 w p l) (hr : w'.ownsRow 0 3 1 v xs.length (xs.map encI)) (hF : Fr [] w w') (hN : Fresh [] v.ownBlock.toList w) : Two w0 w' p l v xs := by
  obtain ⟨F, h1, h2, h3⟩ := h
  refine ⟨F, h1.fr hF (by simp), h2.trans hF (by simp), h3, hr, fun k hk => .inr (by rcases hN k hk with h4 | h4; simp at h4; have := h2.size; omega), fun k hk hk' => ?_⟩
  rcases hN k hk with h7 | h7
  · simp at h7
  · have := h1.lt k hk'; omega
theorem at_two {w0 w : World} {p : Nat} {l xs : List Int} {v : Value} (i : Int) (h : Two w0 w p l v xs) :
    Calls Try.prog 30 #[.pointer (some ⟨p, 0, none⟩), .int .i64 i] w fun e w' => e = .returned (.tuple #[.int .i64 (atP l i).1, .bool (atP l i).2]) ∧ Two w0 w' p l v xs := by
  have hl := h.len
  obtain ⟨F, h1, h2, h3, h4, h5, h6⟩ := h
  exact (at_calls i h1).mono fun e w' ⟨c, v, s, r, g1, g2, g3, g4⟩ => ⟨g1, Two.step h2 h3 h4 h5 h6 (g2.at_ hl) g3 g4⟩
theorem len_two {w0 w : World} {p : Nat} {l xs : List Int} {v : Value} (h : Two w0 w p l v xs) :
    Calls Try.prog 32 #[.pointer (some ⟨p, 0, none⟩)] w fun e w' => e = .returned (.int .i64 (l.length : Int)) ∧ Two w0 w' p l v xs ∧ ∃ n, w' = w.drewN n := by
  have h' := h
  obtain ⟨F, h1, h2, h3, h4, h5, h6⟩ := h
  refine (len_own (w0 := w0) ⟨F, h1, h2, h3⟩).mono ?_
  rintro e w' ⟨rfl, _, n, rfl⟩
  exact ⟨rfl, h'.drewN n, n, rfl⟩
theorem put_two {w0 w : World} {p : Nat} {l xs : List Int} {v : Value} (x : Int) (h : Two w0 w p l v xs) :
    Calls Try.prog 29 #[.pointer (some ⟨p, 0, none⟩), .int .i64 x] w fun e w' => e = .returned (.bool (decide (l.length < 4000))) ∧ Two w0 w' p (if l.length < 4000 then l ++ [x] else l) v xs := by
  obtain ⟨F, h1, h2, h3, h4, h5, h6⟩ := h
  exact (put_calls x h1).mono fun e w' ⟨g1, g2, g3⟩ => ⟨g1, Two.step h2 h3 h4 h5 h6 g2 g3 (Fresh.refl _ _)⟩
theorem take_two {w0 w : World} {p : Nat} {l xs : List Int} {v : Value} (i : Int) (h : Two w0 w p l v xs) :
    Calls Try.prog 31 #[.pointer (some ⟨p, 0, none⟩), .int .i64 i] w fun e w' => e = .returned (.tuple #[.int .i64 (atP l i).1, .bool (atP l i).2]) ∧ Two w0 w' p (if (atP l i).2 then l.eraseIdx i.toNat else l) v xs := by
  obtain ⟨F, h1, h2, h3, h4, h5, h6⟩ := h
  exact (take_calls i h1).mono fun e w' ⟨F', g1, g2, g3, g4⟩ => ⟨g1, Two.step h2 h3 h4 h5 h6 g2 g3 g4⟩
theorem double_two {w0 w : World} {p : Nat} {l xs : List Int} {v : Value} (i : Int) (h : Two w0 w p l v xs) :
    Calls Try.prog 36 #[.pointer (some ⟨p, 0, none⟩), .int .i64 i] w fun e w' => e = .returned (.bool ((atP l i).2 && decide (l.length < 4000))) ∧ Two w0 w' p (if (atP l i).2 && decide (l.length < 4000) then l ++ [(atP l i).1] else l) v xs := by
  obtain ⟨F, h1, h2, h3, h4, h5, h6⟩ := h
  exact (double_calls i h1).mono fun e w' ⟨F', g1, g2, g3, g4⟩ => ⟨g1, Two.step h2 h3 h4 h5 h6 g2 g3 g4⟩

set_option maxHeartbeats 2000000 in
set_option maxRecDepth 100000 in
theorem netAlive_calls (w : World) : Calls Try.prog 27 #[] w fun e w' => e = .returned (.bool true) ∧ Fr [] w w' := by
  refine calls_k fun R hR => ?_
  go_enter Try.func27, Try.ntmps27
  go_wp2_with (first
    | (go_at_call 28; refine (new_own _).mono ?_; rintro e w0 ⟨p, rfl, hO⟩)
    | (go_at_call 29; refine (put_own (w0 := w) _ (by assumption) (by decide)).mono ?_; rintro e w1 ⟨rfl, hO⟩; simp only [List.nil_append, List.cons_append] at hO)
    | (go_at_call 31; refine (take_own (w0 := w) _ (by assumption)).mono ?_; rintro e w1 ⟨rfl, hO⟩; simp only [atP, List.length_cons, List.length_nil] at hO ⊢)
    | (go_at_call 30; refine (at_own (w0 := w) _ (by assumption)).mono ?_; rintro e w1 ⟨rfl, hO⟩; simp only [atP, List.length_cons, List.length_nil] at hO ⊢)
    | (go_at_call 32; refine (len_own (w0 := w) (by assumption)).mono ?_; rintro e w1 ⟨rfl, hO, _⟩))
  exact hR.out _ _ ⟨rfl, hO.fr⟩
end Go.Np.Try
