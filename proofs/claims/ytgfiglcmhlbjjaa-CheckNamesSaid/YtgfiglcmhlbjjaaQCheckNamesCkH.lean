/- What CheckNames needs. -/
import Derived.Test.YtgfiglcmhlbjjaaQCheckNamesCkO
set_option linter.unusedVariables false
set_option linter.unusedSimpArgs false
namespace Go.Np.Try
open Go.RowKit Go.Proofs Go.Proofs.Ytgfiglcmhlbjjaa.PX Go.Proofs.YtgfiglcmhlbjjaaW.PrintWords
def Am.cells (a : Am) : List Value := [.int .i64 a.too, .int .i64 a.kd, .int .i64 a.fr, .int .i64 a.ix, .int .i64 a.vw, .int .i64 a.vl, .int .i64 a.pr, .int .i64 0, .int .i64 0, .int .i64 0, .int .i64 0, .int .i64 0, .int .i64 0, .slice none 0 0]
def Am.msg (a : Am) : Value := .agg #[.int .i64 a.kd, .int .i64 a.fr, .int .i64 a.ix, .int .i64 a.vw, .int .i64 a.vl, .int .i64 a.pr, .int .i64 0, .int .i64 0, .int .i64 0, .int .i64 0, .int .i64 0, .int .i64 0, .slice none 0 0]
def flatA (l : List Am) : List Value := l.flatMap Am.cells
theorem flatA_add (l k : List Am) : flatA (l ++ k) = flatA l ++ flatA k := by unfold flatA; rw [List.flatMap_append]
def propE (q : Int × (Int × Int)) : Int × Value := (q.1, .agg #[.int .i64 q.2.1, .int .i64 q.2.2])
def saidE (q : Int × Int) : Int × Value := (q.1, .int .i64 q.2)
structure Pl where
  left : Int
  (sv tv dv ov : Value)
  (pt bt bp bs : Nat)
def Pl.own (a : Pl) (p : Nat) : List Nat := p :: a.pt :: a.bt :: a.bp :: a.bs :: (a.sv.ownBlock.toList ++ (a.tv.ownBlock.toList ++ (a.dv.ownBlock.toList ++ a.ov.ownBlock.toList)))
def coreV (c : Co) (a : Pl) : Array Value := #[.int .i64 c.me, a.sv, .int .i64 c.base, .int .i64 c.most, a.dv, .int .i64 c.view, .int .i64 c.step, .int .i64 a.left, .int .i64 c.tip, .pointer (some ⟨a.pt, 0, none⟩), .map (some a.bp), .map (some a.bs), .int .i64 c.lock.1, .int .i64 c.lock.2, .int .i64 c.valid.1, .int .i64 c.valid.2, a.ov]
structure CoIn (X : Nat → Prop) (w : World) (p : Nat) (c : Co) (a : Pl) : Prop where
  box : w.heap[p]? = some (.cells (coreV c a) 41 (0, 0))
  tal : w.heap[a.pt]? = some (.cells #[a.tv, .map (some a.bt)] 61 (0, 0))
  st : OwnI 0 w a.sv c.st
  tst : OwnI 0 w a.tv c.st
  dec : OwnI 0 w a.dv c.decs
  out : w.ownsRow 0 51 14 a.ov c.out.length (flatA c.out)
  vts : ∃ m, m.map toS = c.m ∧ MapIs balE w a.bt (m.map encV) ∧ Inv c.st.length m
  prs : MapIs keyE w a.bp (c.props.map propE)
  sds : MapIs keyE w a.bs (c.said.map saidE)
  nd : (a.own p).Nodup
  nX : ∀ k ∈ a.own p, ¬ X k
def CoAt (X : Nat → Prop) (w : World) (p : Nat) (c : Co) : Prop := ∃ a, CoIn X w p c a
section
variable {X : Nat → Prop} {w w' : World} {p : Nat} {c c' : Co} {a a' : Pl}
theorem CoIn.lt (h : CoIn X w p c a) : ∀ k ∈ a.own p, k < w.heap.size := by
  obtain ⟨m, _, hm, _⟩ := h.vts
  have e1 := (Array.getElem?_eq_some_iff.1 h.box).1
  have e2 := (Array.getElem?_eq_some_iff.1 h.tal).1
  have e3 := hm.lt
  have e4 := h.prs.lt
  have e5 := h.sds.lt
  intro k hk
  unfold Pl.own at hk
  simp only [List.mem_cons, List.mem_append] at hk
  rcases hk with rfl | rfl | rfl | rfl | rfl | hk | hk | hk | hk
  · exact e1
  · exact e2
  · exact e3
  · exact e4
  · exact e5
  · exact row_lt h.st.1 k hk
  · exact row_lt h.tst.1 k hk
  · exact row_lt h.dec.1 k hk
  · exact row_lt h.out k hk
theorem OwnI.move0 {v : Value} {l : List Int} (h : OwnI 0 w v l) (hk : ∀ k ∈ v.ownBlock.toList, w'.heap[k]? = w.heap[k]?) : OwnI 0 w' v l := ⟨row_move h.1 (fun k e => hk k (by simp [e])), h.2⟩
theorem CoIn.scal (h : CoIn X w p c a) (hb : w'.heap[p]? = some (.cells (coreV c' { a with left := a'.left }) 41 (0, 0))) (hk : ∀ k ∈ a.own p, k ≠ p → w'.heap[k]? = w.heap[k]?)
    (e1 : c'.st = c.st) (e2 : c'.m = c.m) (e3 : c'.props = c.props) (e4 : c'.said = c.said) (e5 : c'.decs = c.decs) (e6 : c'.out = c.out) : CoIn X w' p c' { a with left := a'.left } := by
  have hnd := h.nd
  unfold Pl.own at hnd
  simp only [List.nodup_cons, List.mem_cons, List.mem_append, not_or] at hnd
  obtain ⟨⟨n1, n2, n3, n4, n5, n6, n7, n8⟩, _⟩ := hnd
  have hm : ∀ k, k ∈ a.own p ↔ k = p ∨ k = a.pt ∨ k = a.bt ∨ k = a.bp ∨ k = a.bs ∨ k ∈ a.sv.ownBlock.toList ∨ k ∈ a.tv.ownBlock.toList ∨ k ∈ a.dv.ownBlock.toList ∨ k ∈ a.ov.ownBlock.toList := fun k => by
    unfold Pl.own; simp only [List.mem_cons, List.mem_append]
  obtain ⟨m, hm1, hm2, hm3⟩ := h.vts
  refine ⟨hb, (hk _ ((hm _).2 (by simp)) (Ne.symm n1)).trans h.tal, ?_, ?_, ?_, ?_, ⟨m, hm1.trans e2.symm, hm2.move (hk _ ((hm _).2 (by simp)) (Ne.symm n2)), by rw [e1]; exact hm3⟩, ?_, ?_, h.nd, h.nX⟩
  · rw [e1]; exact h.st.move0 (fun k hk' => hk k ((hm _).2 (by simp only [hk', or_true, true_or])) (fun e => n5 (e ▸ hk')))
  · rw [e1]; exact h.tst.move0 (fun k hk' => hk k ((hm _).2 (by simp only [hk', or_true, true_or])) (fun e => n6 (e ▸ hk')))
  · rw [e5]; exact h.dec.move0 (fun k hk' => hk k ((hm _).2 (by simp only [hk', or_true, true_or])) (fun e => n7 (e ▸ hk')))
  · rw [e6]; exact row_move h.out (fun k e => by
      have hk' : k ∈ a.ov.ownBlock.toList := by simp [e]
      exact hk k ((hm _).2 (by simp only [hk', or_true])) (fun e => n8 (e ▸ hk')))
  · rw [e3]; exact h.prs.move (hk _ ((hm _).2 (by simp)) (Ne.symm n3))
  · rw [e4]; exact h.sds.move (hk _ ((hm _).2 (by simp)) (Ne.symm n4))
theorem CoIn.keep (h : CoIn X w p c a) (hk : ∀ k ∈ a.own p, w'.heap[k]? = w.heap[k]?) : CoIn X w' p c a :=
  h.scal (a' := a) ((hk p (by simp [Pl.own])).trans h.box) (fun k h1 _ => hk k h1) rfl rfl rfl rfl rfl rfl
theorem CoIn.frX {S : List Nat} (h : CoIn X w p c a) (hf : Fr S w w') (hS : ∀ k ∈ S, X k ∨ w.heap.size ≤ k) : CoIn X w' p c a :=
  h.keep (fun k hk => hf.block k (h.lt k hk) (fun hm => (hS k hm).elim (h.nX k hk) (fun h2 => absurd (h.lt k hk) (by omega))))
theorem CoIn.fr (h : CoIn X w p c a) (hf : Fr [] w w') : CoIn X w' p c a := h.frX hf (by simp)
theorem CoIn.x {X' : Nat → Prop} (h : CoIn X w p c a) (hX : ∀ k, k < w.heap.size → X' k → X k) : CoIn X' w p c a :=
  ⟨h.box, h.tal, h.st, h.tst, h.dec, h.out, h.vts, h.prs, h.sds, h.nd, fun k hk hx => h.nX k hk (hX k (h.lt k hk) hx)⟩
theorem CoIn.cells (h : CoIn X w p c a) : ∀ i, w.cell? ⟨p, i, none⟩ = (coreV c a)[i]? := fun i => cell_of h.box i
theorem CoIn.set (h : CoIn X w p c a) (i : Nat) (u : Value) (hb : (coreV c a).setIfInBounds i u = coreV c' { a with left := a'.left })
    (e1 : c'.st = c.st) (e2 : c'.m = c.m) (e3 : c'.props = c.props) (e4 : c'.said = c.said) (e5 : c'.decs = c.decs) (e6 : c'.out = c.out) : CoIn X (w.setCell ⟨p, i, none⟩ u) p c' { a with left := a'.left } := by
  refine h.scal ?_ (fun k _ hk => set_far w hk u) e1 e2 e3 e4 e5 e6
  rw [obj_set h.box i u, hb]
theorem CoIn.pX (h : CoIn X w p c a) : ¬ X p := h.nX p (by simp [Pl.own])
theorem CoIn.setX (h : CoIn X w p c a) (i : Nat) (u : Value) : FrX X w (w.setCell ⟨p, i, none⟩ u) := ⟨[p], (Fr.refl _ _).setCell (.inl (by simp)) _, fun k hk => by simp at hk; subst hk; exact h.pX⟩
def bare (w : World) : World := { w with heap := #[] }
theorem fr_bare (w : World) : Fr [] (bare w) w := ⟨rfl, rfl, rfl, Nat.zero_le _, fun k hk => absurd hk (by simp [bare])⟩
theorem CoIn.tz (h : CoIn X w p c a) (hst : okS c.st) (hl : c.m.length < 1000000) : Tz (bare w) w a.pt a.bt c.st c.m := by
  obtain ⟨m, hm1, hm2, hm3⟩ := h.vts
  obtain ⟨A, d, he, hd, hc⟩ := h.tst.sl
  refine ⟨m, A, d, hm1, ⟨?_, hm2, hc, hd, fr_bare w, Nat.zero_le _, Nat.zero_le _⟩, hm3, hst, by rw [← hm1] at hl; simpa using hl⟩
  have := h.tal
  rw [he] at this
  exact this
end
end Go.Np.Try
