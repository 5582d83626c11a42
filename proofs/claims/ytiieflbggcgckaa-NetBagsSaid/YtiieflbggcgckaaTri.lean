/- A bag, a row of one's own and a block that stays; the document's answers over the row. -/
import Derived.Test.YtiieflbggcgckaaBagOwn
import Derived.Test.YtiieflbggcgckaaSame
import Derived.Test.YtiieflbggcgckaaPXx8
import Derived.Test.YtiieflbggcgckaaWKept
set_option linter.unusedVariables false
set_option linter.unusedSimpArgs false
namespace Go.Np.Try
open Go.RowKit Go.Proofs Go.Conc Go.Proofs.YtiieflbggcgckaaW.PrintWords Go.Proofs.Ytiieflbggcgckaa.PX Go.Proofs.YtiieflbggcgckaaW.PrintMore

def Tri (w0 w : World) (p : Nat) (l : List Int) (v : Value) (xs : List Int) (g : Nat) (o : Obj) : Prop :=
  ∃ F, BagAt w p F l ∧ Fr [] w0 w ∧ Fresh [] F w0 ∧ w.ownsRow 0 3 1 v xs.length (xs.map encI) ∧ Fresh [] v.ownBlock.toList w0 ∧ (∀ k ∈ v.ownBlock.toList, k ∉ F) ∧ w.heap[g]? = some o ∧ g ∉ F ∧ g ∉ v.ownBlock.toList
section
variable {w0 w w' : World} {p g : Nat} {l l' xs xs' : List Int} {v v' : Value} {o : Obj}
theorem Tri.two (h : Tri w0 w p l v xs g o) : Two w0 w p l v xs := by
  obtain ⟨F, h1, h2, h3, h4, h5, h6, _⟩ := h; exact ⟨F, h1, h2, h3, h4, h5, h6⟩
theorem Tri.obj (h : Tri w0 w p l v xs g o) : w.heap[g]? = some o := by obtain ⟨F, h1, h2, h3, h4, h5, h6, h7, _⟩ := h; exact h7
theorem Tri.bag {F F' : List Nat} (h2 : Fr [] w0 w) (h3 : Fresh [] F w0) (h4 : w.ownsRow 0 3 1 v xs.length (xs.map encI)) (h5 : Fresh [] v.ownBlock.toList w0) (h6 : ∀ k ∈ v.ownBlock.toList, k ∉ F) (h7 : w.heap[g]? = some o) (h8 : g ∉ F) (h9 : g ∉ v.ownBlock.toList)
    (hB : BagAt w' p F' l') (hF : Fr F w w') (hN : Fresh F F' w) : Tri w0 w' p l' v xs g o := by
  have hg : g < w.heap.size := (Array.getElem?_eq_some_iff.1 h7).1
  refine ⟨F', hB, h2.trans hF h3, h3.trans hN h2.size, row_fr h4 hF h6, h5, fun k hk hk' => ?_, (hF.block g hg h8).trans h7, fun hk => ?_, h9⟩
  · rcases hN k hk' with h10 | h10
    · exact h6 k hk h10
    · have := row_lt h4 k hk; omega
  · rcases hN g hk with h10 | h10
    · exact h8 h10
    · omega
theorem Tri.row (h : Tri w0 w p l v xs g o) (hr : w'.ownsRow 0 3 1 v' xs'.length (xs'.map encI)) (hF : Fr v.ownBlock.toList w w') (hN : Fresh v.ownBlock.toList v'.ownBlock.toList w) : Tri w0 w' p l v' xs' g o := by
  obtain ⟨F, h1, h2, h3, h4, h5, h6, h7, h8, h9⟩ := h
  have hg : g < w.heap.size := (Array.getElem?_eq_some_iff.1 h7).1
  refine ⟨F, h1.fr hF (fun k hk hk' => h6 k hk' hk), h2.trans hF h5, h3, hr, h5.trans hN h2.size, fun k hk hk' => ?_, (hF.block g hg h9).trans h7, h8, fun hk => ?_⟩
  · rcases hN k hk with h10 | h10
    · exact h6 k h10 hk'
    · have := h1.lt k hk'; omega
  · rcases hN g hk with h10 | h10
    · exact h9 h10
    · omega
theorem Two.tri (h : Two w0 w p l v xs) (o : Obj) : Tri w0 (w.alloc o) p l v xs w.heap.size o := by
  obtain ⟨F, h1, h2, h3, h4, h5, h6⟩ := h
  have hF := (Fr.refl ([] : List Nat) w).alloc o
  refine ⟨F, h1.fr hF (by simp), h2.alloc o, h3, row_fr h4 hF (by simp), h5, h6, heap_alloc_new w o, fun hk => ?_, fun hk => ?_⟩
  · have := h1.lt _ hk; omega
  · have := row_lt h4 _ hk; omega
theorem Tri.drewN (h : Tri w0 w p l v xs g o) (n : Nat) : Tri w0 (w.drewN n) p l v xs g o := by
  obtain ⟨F, h1, h2, h3, h4, h5, h6, h7, h8, h9⟩ := h
  exact Tri.bag h2 h3 h4 h5 h6 h7 h8 h9 (h1.fr (S := []) ((Fr.refl _ w).drewN n) (by simp)) ((Fr.refl _ w).drewN n) (Fresh.refl _ _)
theorem tri_put (x : Int) (h : Tri w0 w p l v xs g o) :
    Calls Try.prog 29 #[.pointer (some ⟨p, 0, none⟩), .int .i64 x] w fun e w' => e = .returned (.bool (decide (l.length < 4000))) ∧ Tri w0 w' p (if l.length < 4000 then l ++ [x] else l) v xs g o := by
  obtain ⟨F, h1, h2, h3, h4, h5, h6, h7, h8, h9⟩ := h
  exact (put_calls x h1).mono fun e w' ⟨g1, g2, g3⟩ => ⟨g1, Tri.bag h2 h3 h4 h5 h6 h7 h8 h9 g2 g3 (Fresh.refl _ _)⟩
theorem tri_take (i : Int) (h : Tri w0 w p l v xs g o) :
    Calls Try.prog 31 #[.pointer (some ⟨p, 0, none⟩), .int .i64 i] w fun e w' => e = .returned (.tuple #[.int .i64 (atP l i).1, .bool (atP l i).2]) ∧ Tri w0 w' p (if (atP l i).2 then l.eraseIdx i.toNat else l) v xs g o := by
  obtain ⟨F, h1, h2, h3, h4, h5, h6, h7, h8, h9⟩ := h
  exact (take_calls i h1).mono fun e w' ⟨F', g1, g2, g3, g4⟩ => ⟨g1, Tri.bag h2 h3 h4 h5 h6 h7 h8 h9 g2 g3 g4⟩
theorem tri_double (i : Int) (h : Tri w0 w p l v xs g o) :
    Calls Try.prog 36 #[.pointer (some ⟨p, 0, none⟩), .int .i64 i] w fun e w' => e = .returned (.bool ((atP l i).2 && decide (l.length < 4000))) ∧ Tri w0 w' p (if (atP l i).2 && decide (l.length < 4000) then l ++ [(atP l i).1] else l) v xs g o := by
  obtain ⟨F, h1, h2, h3, h4, h5, h6, h7, h8, h9⟩ := h
  exact (double_calls i h1).mono fun e w' ⟨F', g1, g2, g3, g4⟩ => ⟨g1, Tri.bag h2 h3 h4 h5 h6 h7 h8 h9 g2 g3 g4⟩
theorem tri_at (i : Int) (h : Tri w0 w p l v xs g o) :
    Calls Try.prog 30 #[.pointer (some ⟨p, 0, none⟩), .int .i64 i] w fun e w' => e = .returned (.tuple #[.int .i64 (atP l i).1, .bool (atP l i).2]) ∧ Tri w0 w' p l v xs g o := by
  have hl := h.two.len
  obtain ⟨F, h1, h2, h3, h4, h5, h6, h7, h8, h9⟩ := h
  exact (at_calls i h1).mono fun e w' ⟨c, v, s, r, g1, g2, g3, g4⟩ => ⟨g1, Tri.bag h2 h3 h4 h5 h6 h7 h8 h9 (g2.at_ hl) g3 g4⟩
theorem tri_len (h : Tri w0 w p l v xs g o) :
    Calls Try.prog 32 #[.pointer (some ⟨p, 0, none⟩)] w fun e w' => e = .returned (.int .i64 (l.length : Int)) ∧ Tri w0 w' p l v xs g o := by
  refine (len_two h.two).mono ?_
  rintro e w' ⟨rfl, _, n, rfl⟩
  exact ⟨rfl, h.drewN n⟩

/-! ### the document's answers over the row -/
theorem own_raise {base : Nat} {e : TypeId} {sz n : Nat} {ys : List Value} (h : w.ownsRow 0 e sz v n ys) (hb : ∀ k ∈ v.ownBlock.toList, base ≤ k) : w.ownsRow base e sz v n ys := by
  obtain ⟨h1, h2⟩ := h
  refine ⟨h1, ?_⟩
  rcases h2 with h2 | ⟨g, cap, cur, rfl, hg, r⟩
  · exact .inl h2
  · exact .inr ⟨g, cap, cur, rfl, hb g (by simp [Value.ownBlock]), r⟩
theorem fresh_ge (h : Fresh [] v.ownBlock.toList w0) : ∀ k ∈ v.ownBlock.toList, w0.heap.size ≤ k := fun k hk => by
  rcases h k hk with h1 | h1
  · simp at h1
  · exact h1
theorem rput_f (x : Int) (hl : xs.length ≤ 4000) : neaptideref19_Put.f xs x = some (if xs.length < 4000 then xs ++ [x] else xs, decide (xs.length < 4000)) := by
  unfold neaptideref19_Put.f
  by_cases h : xs.length < 4000
  · rw [if_neg (by omega), if_pos h, decide_eq_true h]
    simp only [Option.bind_some]
    rw [if_pos (by simp; omega), if_pos (by simp; omega)]
    simp
  · rw [if_pos (by omega), if_neg h, decide_eq_false h]
theorem rat_f (i : Int) : neaptideref19_At.f xs i = some (atP xs i) := by
  unfold neaptideref19_At.f atP
  by_cases h : 0 ≤ i ∧ i < xs.length
  · rw [if_neg (by omega), if_neg (by omega), if_pos h.1, if_pos h.2, if_pos h]; rfl
  · rw [if_neg h]
    by_cases h1 : i < 0
    · rw [if_pos h1]
    · rw [if_neg h1, if_pos (by omega)]
theorem rtake_f (i : Int) (hl : xs.length ≤ 4000) : neaptideref19_Take.f xs i = some (if (atP xs i).2 then xs.eraseIdx i.toNat else xs, (atP xs i).1, (atP xs i).2) := by
  unfold neaptideref19_Take.f
  rw [rat_f]
  simp only [Option.bind_some]
  by_cases h : 0 ≤ i ∧ i < xs.length
  · have ha : atP xs i = (xs.getD i.toNat 0, true) := if_pos h
    have hw : wrap64 (i + 1) = i + 1 := by unfold wrap64; omega
    have c1 : (xs.take i.toNat).length < 17592186044416 := by rw [List.length_take]; omega
    have c2 : (0 : Int) ≤ i + 1 := by omega
    have c3 : i + 1 ≤ (xs.length : Int) := by omega
    have c4 : (xs.take i.toNat).length + (xs.drop (i + 1).toNat).length < 17592186044416 := by rw [List.length_take, List.length_drop]; omega
    have c5 : i ≤ (xs.length : Int) := by omega
    rw [ha, hw]
    simp only [Option.bind_some, List.nil_append, List.length_nil, Nat.zero_add, if_pos c1, if_pos c2, if_pos c3, if_pos c4, if_pos c5, if_pos h.1, if_true]
    rw [List.eraseIdx_eq_take_drop_succ, show (i + 1).toNat = i.toNat + 1 by omega]
  · have ha : atP xs i = (0, false) := if_neg h
    rw [ha]; rfl
theorem row_made {P0 : Nat → Prop} (h : Tri w0 w p l v xs g o) (hP : ∀ k, P0 k ↔ v.ownBlock = some k)
    (hR : Kd.R (Kd.int .i64) 3 w' w0.heap.size (fun k => P0 k ∨ w.heap.size ≤ k) v' xs') (hB : Below w0.heap.size w0 w') (hk : Kept w w' P0) : Tri w0 w' p l v' xs' g o := by
  have hr0 := own_weaken (Kd.own_of_R hR) (Nat.zero_le _)
  have hfr := h.two.fr
  refine h.row hr0 ⟨hB.os.trans hfr.os.symm, hB.tape.trans hfr.tape.symm, hB.output.trans hfr.output.symm, hk.1, fun k hk1 hk2 => hk.2 k hk1 (fun hp => hk2 (by simp [(hP k).1 hp]))⟩ (fun k hk1 => ?_)
  rcases hR.1 k (by simpa using hk1) with h1 | h1
  · exact .inl (by simp [(hP k).1 h1])
  · exact .inr h1
theorem row_in (h : Tri w0 w p l v xs g o) : Kd.R (Kd.int .i64) 3 w w0.heap.size (fun k => v.ownBlock = some k) v xs := by
  obtain ⟨F, h1, h2, h3, h4, h5, _⟩ := h
  exact Kd.R_of_own (own_raise h4 (fresh_ge h5)) (fun k hk => hk)
theorem tri_rput (x : Int) (h : Tri w0 w p l v xs g o) (hl : xs.length ≤ 4000) :
    Calls Try.prog 34 #[v, .int .i64 x] w fun e w' => ∃ A c, e = .returned (.tuple #[.slice A (if xs.length < 4000 then xs ++ [x] else xs).length c, .bool (decide (xs.length < 4000))]) ∧ Tri w0 w' p l (.slice A (if xs.length < 4000 then xs ++ [x] else xs).length c) (if xs.length < 4000 then xs ++ [x] else xs) g o := by
  refine (neaptideref19_Put.calls (fun k => v.ownBlock = some k) v xs x _ _ w0 w h.two.fr.below (row_in h) (rput_f x hl)).mono ?_
  rintro e w' ⟨v', he, h1, h2, h3⟩
  have ht := row_made h (fun k => Iff.rfl) h1 h2 h3
  obtain ⟨A, c, rfl⟩ := slice_form ht.two.row
  exact ⟨A, c, he, ht⟩
theorem tri_rtake (i : Int) (h : Tri w0 w p l v xs g o) (hl : xs.length ≤ 4000) :
    Calls Try.prog 35 #[v, .int .i64 i] w fun e w' => ∃ A c, e = .returned (.tuple #[.slice A (if (atP xs i).2 then xs.eraseIdx i.toNat else xs).length c, .int .i64 (atP xs i).1, .bool (atP xs i).2]) ∧ Tri w0 w' p l (.slice A (if (atP xs i).2 then xs.eraseIdx i.toNat else xs).length c) (if (atP xs i).2 then xs.eraseIdx i.toNat else xs) g o := by
  refine (neaptideref19_Take.calls (fun k => v.ownBlock = some k) v xs i _ _ _ w0 w h.two.fr.below (row_in h) (rtake_f i hl)).mono ?_
  rintro e w' ⟨v', he, h1, h2, h3⟩
  have ht := row_made h (fun k => Iff.rfl) h1 h2 h3
  obtain ⟨A, c, rfl⟩ := slice_form ht.two.row
  exact ⟨A, c, he, ht⟩
theorem tri_rat {A : Option Addr} {c : Nat} (i : Int) (h : Tri w0 w p l (.slice A xs.length c) xs g o) :
    Calls Try.prog 37 #[.slice A xs.length c, .int .i64 i] w fun e w' => e = .returned (.tuple #[.int .i64 (atP xs i).1, .bool (atP xs i).2]) ∧ Tri w0 w' p l (.slice A xs.length c) xs g o := by
  obtain ⟨h1, h2, h3⟩ := Kd.R_reads' (row_in h)
  refine (neaptideref19_At.calls A c xs i _ _ w h3 h2 (rat_f i)).mono ?_
  rintro e w' ⟨he, hd⟩
  exact ⟨he, by obtain ⟨⟨n, rfl⟩⟩ := hd; exact h.drewN n⟩
end
end Go.Np.Try
