/- A text that the row of LedgerCleans needs. (Pruned by tools/prune.py.) -/
import Derived.Test.YtlllhpnpgcphcaaQLedgerCleansLedl
set_option linter.unusedVariables false
set_option linter.unusedSimpArgs false
namespace Go.Np.Try
open Go.RowKit Go.Proofs Go.Proofs.Ytlllhpnpgcphcaa.PX Go.Proofs.YtlllhpnpgcphcaaW.PrintWords
theorem SlI.of_C {w : World} {A : Option Addr} {c : Nat} {l : List Int} (h : (Kd.int .i64).C w A l.length l) (hc : l.length ≤ c) : SlI w (.slice A l.length c) l := ⟨A, c, rfl, hc, h⟩
theorem N_own {w : World} {base : Nat} {ok : Nat → Prop} {v : Value} {xs : List Int} (h : Kd.N (Kd.int .i64) 3 w base ok v xs) : OwnI base w v xs := by
  have h' := h
  obtain ⟨A, c, rfl⟩ := Kd.N_slice h
  obtain ⟨h0, rows, hlen, ⟨_, inner, ho, hr⟩, hf⟩ := h
  obtain ⟨hi, ho⟩ := ho
  rcases ho with hnone | ⟨g, cap, cells, e, hb, hh, hle, hmx, hsz, htk⟩
  · have e1 := hnone.1
    injection e1 with e1 e2 e3
    obtain rfl : xs = [] := List.eq_nil_of_length_eq_zero e2
    subst e1 e3
    exact OwnI.nil _ _
  · rcases N_block2 h' with ⟨rfl, c', e'⟩ | ⟨r, c', cs, e', hbr, hr', hs, hcm, hlc, hcs, hC⟩
    · rw [e] at e'; cases e'
    · injection e' with e1 e2 e3
      subst e1 e3
      exact ⟨(own_of_cells hr' hs hcm hlc hcs).1, fun k hk => by simp [Value.ownBlock] at hk; omega⟩
theorem N_empty (w : World) : Kd.N (Kd.int .i64) 3 (w.alloc (.cells #[] 3)) w.heap.size (fun _ => True) (.slice (some ⟨w.heap.size, 0, none⟩) 0 0) [] :=
  Kd.R_N ⟨fun k hk => trivial, [], ⟨rfl, .inr ⟨w.heap.size, 0, #[], rfl, Nat.le_refl _, heap_alloc_new _ _, Nat.le_refl _, Nat.zero_le _, by simp, by simp⟩⟩, Reps.none _ _⟩
section
variable {ops : Array Oper} {rest : List Oper} {o : Oper} {a : Act} {Q : Exit → Act → World → Prop}
theorem wp_moreI {w0 w : World} (hgd : o.guard = none) (s x : Operand)
    (ho : o.op = .call { callee := .builtin .append, args := #[s, x], argTypes := #[39, 39] })
    {xs ys : List Int} {v : Value} {A : Option Addr} {c : Nat} (hs : a.eval s = v) (hx : a.eval x = .slice A ys.length c) (HN : Kd.N (Kd.int .i64) 3 w w0.heap.size (fun _ => True) v xs) (hO : ∀ k, v.ownBlock = some k → w0.heap.size ≤ k) (HB : Below w0.heap.size w0 w) (HR : (Kd.int .i64).C w0 A ys.length ys) (hl : xs.length + ys.length ≤ 1000000)
    (h : ∀ A1 c1 w1, Kd.N (Kd.int .i64) 3 w1 w0.heap.size (fun _ => True) (.slice A1 (xs ++ ys).length c1) (xs ++ ys) → (∀ k, (Value.slice A1 (xs ++ ys).length c1).ownBlock = some k → w0.heap.size ≤ k) → Below w0.heap.size w0 w1 → wpList Try.prog ops Q rest (a.put o.dst (.slice A1 (xs ++ ys).length c1)) w1) :
    wpList Try.prog ops Q (o :: rest) a w := by
  refine Kd.N_append_rows (Kd.int .i64) (w0 := w0) w0.heap.size hgd s x 39 3 _ 8 ho Try.underlying39 infoI rfl (by decide) (by omega) v xs ys A ys.length c (fun _ => True) (fun k => k < w0.heap.size) hs hx HN (Kd.F_below (ints_F HR) HB)
    (fun k hk => ⟨trivial, fun he => by have h2 := hO k he.symm; omega⟩) (fun _ _ => trivial) HB HB.size (by omega) ?_
  intro v1 w1 h1 h2 h3 h4
  obtain ⟨A1, c1, rfl⟩ := Kd.N_slice h1
  refine h A1 c1 w1 h1 (fun k hk => ?_) h2
  rcases h4 with h4 | ⟨b, h4, h5⟩
  · exact hO k (h4.symm.trans hk)
  · rw [h4] at hk; injection hk with hk; subst hk; exact Nat.le_trans HB.size h5
end
end Go.Np.Try
