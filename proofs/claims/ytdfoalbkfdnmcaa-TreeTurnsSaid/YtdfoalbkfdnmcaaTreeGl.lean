/- What the walks of the tree's laws share (as in TreeGr). -/
import Derived.Test.YtdfoalbkfdnmcaaTreeY
set_option linter.unusedVariables false
set_option linter.unusedSimpArgs false
namespace Go.Np
open Go.RowKit
theorem FrX.keep {X : Nat → Prop} {w w1 w' : World} (h : FrX X w1 w') (hX : ∀ k, k < w.heap.size → X k) (h0 : Fr [] w w1) : Fr [] w w' := by
  obtain ⟨S, h1, h2⟩ := h
  exact (h0.trans h1 (fun x hx => .inr (Nat.le_of_not_lt (fun hl => h2 x hx (hX x hl))))).mono (fun x hx => by simp at hx)
end Go.Np
namespace Go.Np.Try
open Go.RowKit Go.Proofs Go.Proofs.Ytdfoalbkfdnmcaa.PX Go.Proofs.YtdfoalbkfdnmcaaW.PrintWords
/-- Not below w, and none of what was made between two worlds. -/
def XB (w wa wb : World) : Nat → Prop := fun k => k < w.heap.size ∨ (wa.heap.size ≤ k ∧ k < wb.heap.size)
theorem TrAt.xb {w wa wb : World} {p : Nat} {t : Tr} (h : TrAt (fun k => k < w.heap.size) wa p t) (hF : Fr [] wa wb) : TrAt (XB w wa wb) wb p t := h.later hF (by simp)
theorem XB.lt {w wa wb : World} (h : w.heap.size ≤ wb.heap.size) : ∀ k, XB w wa wb k → k < wb.heap.size := fun k hk => by
  rcases hk with hk | hk
  · omega
  · exact hk.2
theorem XB.own {w wa wb wc : World} {v : Value} {l : List Int} {base : Nat} (h : OwnI base wc v l) (h1 : wa.heap.size ≤ base) (h2 : wc.heap.size ≤ wb.heap.size) : ∀ k ∈ v.ownBlock.toList, XB w wa wb k := fun k hk => .inr ⟨Nat.le_trans h1 (h.2 k hk), Nat.lt_of_lt_of_le (h.lt k hk) h2⟩
/-- A block's five cells. -/
def BlkIn (W : World) (g : Nat) (q : BV) : Prop := W.heap[g]? = some (.cells #[.int .i64 q.b.f0, .int .i64 q.b.f1, .int .i64 q.b.f2, .int .i64 q.b.f3, .slice q.A q.b.f4.length q.c] 28 (0, 0))
theorem BlkIn.cells {W : World} {g : Nat} {q : BV} (h : BlkIn W g q) : W.cell? ⟨g, 0, none⟩ = some (.int .i64 q.b.f0) ∧ W.cell? ⟨g, 1, none⟩ = some (.int .i64 q.b.f1) ∧ W.cell? ⟨g, 2, none⟩ = some (.int .i64 q.b.f2) ∧ W.cell? ⟨g, 3, none⟩ = some (.int .i64 q.b.f3) ∧ W.cell? ⟨g, 4, none⟩ = some (.slice q.A q.b.f4.length q.c) := by
  have e0 := cell_of h 0
  have e1 := cell_of h 1
  have e2 := cell_of h 2
  have e3 := cell_of h 3
  have e4 := cell_of h 4
  simp at e0 e1 e2 e3 e4
  exact ⟨e0, e1, e2, e3, e4⟩
theorem BlkIn.fr {W W' : World} {g : Nat} {q : BV} (h : BlkIn W g q) (hF : Fr [] W W') : BlkIn W' g q := (hF.block g (Array.getElem?_eq_some_iff.1 h).1 (by simp)).trans h
theorem BlkIn.frX {X : Nat → Prop} {W W' : World} {g : Nat} {q : BV} (h : BlkIn W g q) (hF : FrX X W W') (hx : X g) : BlkIn W' g q := (hF.block (Array.getElem?_eq_some_iff.1 h).1 hx).trans h
theorem BlkIn.made {w W : World} {q : BV} (hW : W = w.alloc (.cells #[.int .i64 q.b.f0, .int .i64 q.b.f1, .int .i64 q.b.f2, .int .i64 q.b.f3, .slice q.A q.b.f4.length q.c] 28)) : BlkIn W w.heap.size q := by rw [hW]; exact heap_alloc_new _ _
/-- Copy, with its row of transactions. -/
theorem copy_C {w : World} (q : BV) (h : k59.C w q.A q.b.f4.length q.b.f4) (hl : q.b.f4.length ≤ 8796093022208) :
    Calls Try.prog 17 #[.agg #[.int .i64 q.b.f0, .int .i64 q.b.f1, .int .i64 q.b.f2, .int .i64 q.b.f3, .slice q.A q.b.f4.length q.c]] w fun e w' => ∃ A' c', e = .returned (.agg #[.int .i64 q.b.f0, .int .i64 q.b.f1, .int .i64 q.b.f2, .int .i64 q.b.f3, .slice A' q.b.f4.length c']) ∧ q.b.f4.length ≤ c' ∧ k59.C w' A' q.b.f4.length q.b.f4 ∧ Fr [] w w' := by
  refine (copy_calls q h hl).mono ?_
  rintro e w' ⟨A', c', rfl, h1, h2, h3⟩
  obtain ⟨B, d, e, h4, h5⟩ := flatT_C h1
  injection e with e1 _ e3
  subst e1 e3
  exact ⟨_, _, rfl, h4, h5, h3⟩
/-- Add, with the numbers as a slice. -/
theorem add_C {X : Nat → Prop} {w : World} {p : Nat} {t t' : Tr} {L : List Int} {ok : Bool} (h : TrAt X w p t) (hG : t.Good) (b : Blk) {A : Option Addr} {c : Nat} (hC : k59.C w A b.f4.length b.f4) (hc : b.f4.length ≤ c) (hXw : ∀ k, X k → k < w.heap.size) (ha : t.add b = (t', L, ok)) :
    Calls Try.prog 16 #[.pointer (some ⟨p, 0, none⟩), .agg #[.int .i64 b.f0, .int .i64 b.f1, .int .i64 b.f2, .int .i64 b.f3, .slice A b.f4.length c]] w fun e w' =>
      ∃ D d, e = .returned (.tuple #[.slice D L.length d, .bool ok]) ∧ OwnI w.heap.size w' (.slice D L.length d) L ∧ TrAt X w' p t' ∧ FrX X w w' :=
  (add_calls h hG ⟨b, A, c⟩ hC hc hXw).mono (fun e w' h => add_step h ha)
theorem Tr.Good.kn {t : Tr} (h : t.Good) : t.known.length ≤ 100000 := Nat.le_trans h.ok.few (by decide)
theorem Tr.Good.wt {t : Tr} (h : t.Good) : t.wait.length ≤ 100000 := Nat.le_trans h.wl (by decide)
end Go.Np.Try
