/- What CheckTold needs. -/
import Derived.Test.YtgfiglcmhlbjjaaGreatQCheckToldCkOp
section
set_option linter.unusedVariables false
set_option linter.unusedSimpArgs false
namespace Go.Np.Tryz
open Go.RowKit Go.Proofs Go.Shelf Go.Sort Go.Lib Go.Proofs.YtgfiglcmhlbjjaaGreat.PX Go.Proofs.YtgfiglcmhlbjjaaGreatW.PrintWords
def FrX (X : Nat → Prop) (w w' : World) : Prop := ∃ S : List Nat, Fr S w w' ∧ ∀ k ∈ S, ¬ X k
theorem FrX.of0 {X : Nat → Prop} {w w' : World} (h : Fr [] w w') : FrX X w w' := ⟨[], h, by simp⟩
theorem FrX.trans {X : Nat → Prop} {a b c : World} (h : FrX X a b) (k : FrX X b c) : FrX X a c := by
  obtain ⟨S, h1, h2⟩ := h
  obtain ⟨T, k1, k2⟩ := k
  exact ⟨S ++ T, (h1.mono (fun x hx => .inl (by simp [hx]))).trans (k1.mono (fun x hx => .inl (List.mem_append_right S hx))) (fun x hx => .inl hx), fun x hx => by
    rcases List.mem_append.1 hx with hx | hx
    · exact h2 x hx
    · exact k2 x hx⟩
theorem FrX.size {X : Nat → Prop} {a b : World} (h : FrX X a b) : a.heap.size ≤ b.heap.size := by obtain ⟨S, h1, _⟩ := h; exact h1.size
theorem FrX.block {X : Nat → Prop} {a b : World} (h : FrX X a b) {k : Nat} (hk : k < a.heap.size) (hx : X k) : b.heap[k]? = a.heap[k]? := by obtain ⟨S, h1, h2⟩ := h; exact h1.block k hk (fun hm => h2 k hm hx)
theorem FrX.weak {X Y : Nat → Prop} {a b : World} (h : FrX X a b) (hY : ∀ k, Y k → X k) : FrX Y a b := by obtain ⟨S, h1, h2⟩ := h; exact ⟨S, h1, fun k hk hy => h2 k hk (hY k hy)⟩
theorem FrX.own {w w' : World} (h : FrX (fun k => k < w.heap.size) w w') : Fr [] w w' := by
  obtain ⟨S, h1, h2⟩ := h
  exact h1.mono (fun x hx => .inr (Nat.le_of_not_lt (h2 x hx)))
theorem FrX.old {w w1 w' : World} (h : FrX (fun k => k < w.heap.size) w1 w') (h0 : Fr [] w w1) : Fr [] w w' := by
  obtain ⟨S, h1, h2⟩ := h
  exact h0.trans h1 (fun x hx => .inr (Nat.le_of_not_lt (h2 x hx))) |>.mono (fun x hx => by simp at hx)
theorem FrX.keep {X : Nat → Prop} {w w1 w' : World} (h : FrX X w1 w') (hX : ∀ k, k < w.heap.size → X k) (h0 : Fr [] w w1) : Fr [] w w' := by
  obtain ⟨S, h1, h2⟩ := h
  exact (h0.trans h1 (fun x hx => .inr (Nat.le_of_not_lt (fun hl => h2 x hx (hX x hl))))).mono (fun x hx => by simp at hx)
def OwnI (base : Nat) (w : World) (v : Value) (l : List Int) : Prop := w.ownsRow 0 3 1 v l.length (l.map (Value.int .i64)) ∧ ∀ k ∈ v.ownBlock.toList, base ≤ k
theorem OwnI.fr {base : Nat} {w w' : World} {v : Value} {l : List Int} {S : List Nat} (h : OwnI base w v l) (hf : Fr S w w') (hd : ∀ k ∈ v.ownBlock.toList, k ∉ S) : OwnI base w' v l := ⟨row_fr h.1 hf hd, h.2⟩
theorem OwnI.nil (base : Nat) (w : World) : OwnI base w (.slice none 0 0) [] := ⟨World.ownsRow_nil _ _ _ _, by simp [Value.ownBlock]⟩
def SlI (w : World) (v : Value) (l : List Int) : Prop := ∃ A c, v = .slice A l.length c ∧ l.length ≤ c ∧ (Kd.int .i64).C w A l.length l
theorem OwnI.sl {base : Nat} {w : World} {v : Value} {l : List Int} (h : OwnI base w v l) : SlI w v l := by
  have hr : Reps (fun (q : Int) cs => cs = [Value.int .i64 q]) 1 l (l.map (Value.int .i64)) := by
    have : ∀ l : List Int, Reps (fun (q : Int) cs => cs = [Value.int .i64 q]) 1 l (l.map (Value.int .i64)) := by
      intro l
      induction l with
      | nil => exact Reps.none _ _
      | cons q l ih =>
        have h1 : Reps (fun (q : Int) cs => cs = [Value.int .i64 q]) 1 [q] [Value.int .i64 q] := by simpa using (Reps.none (fun (q : Int) cs => cs = [Value.int .i64 q]) 1).snoc (p := q) rfl rfl
        have := Kd.reps_append h1 ih
        simpa using this
    exact this l
  obtain ⟨A, c, he, hl, hc⟩ := OwnRow.reads (R := fun (q : Int) cs => cs = [Value.int .i64 q]) ⟨_, h.1, hr⟩
  exact ⟨A, c, he, hl, hc.imp_ (Below.refl _ _) (fun q cs hq => by subst hq; rfl)⟩
theorem OwnI.lt {base : Nat} {w : World} {v : Value} {l : List Int} (h : OwnI base w v l) : ∀ k ∈ v.ownBlock.toList, k < w.heap.size := fun k hk => row_lt h.1 k hk
theorem OwnI.of_base {base : Nat} {w : World} {v : Value} {l : List Int} {n : Nat} (h : w.ownsRow base 3 1 v n (l.map (Value.int .i64))) : OwnI base w v l := by
  have hn : n = l.length := by have := h.1; simp at this; omega
  subst hn
  refine ⟨⟨h.1, ?_⟩, fun k hk => Go.Proofs.YtgfiglcmhlbjjaaGreatW.PrintWords.own_base h k (by simpa using hk)⟩
  rcases h.2 with h2 | ⟨g, cap, cur, h3, _, h4⟩
  · exact .inl h2
  · exact .inr ⟨g, cap, cur, h3, Nat.zero_le _, h4⟩
theorem OwnI.base {base : Nat} {w : World} {v : Value} {l : List Int} (h : OwnI base w v l) : w.ownsRow base 3 1 v l.length (l.map (Value.int .i64)) := by
  refine ⟨h.1.1, ?_⟩
  rcases h.1.2 with h2 | ⟨g, cap, cur, rfl, _, h4⟩
  · exact .inl h2
  · exact .inr ⟨g, cap, cur, rfl, h.2 g (by simp [Value.ownBlock]), h4⟩
theorem OwnI.form {base : Nat} {w : World} {v : Value} {l : List Int} (h : OwnI base w v l) : ∃ A c, v = .slice A l.length c := slice_form h.1
theorem OwnI.formN {base : Nat} {w : World} {v : Value} {l : List Int} {N : Nat} (h : OwnI base w v l) (hN : l.length = N) : ∃ A c, v = .slice A N c := by subst hN; exact slice_form h.1
theorem clone_own {w : World} {A : Option Addr} {c : Nat} {l : List Int} (h : (Kd.int .i64).C w A l.length l) (hb : l.length < 17592186044416) :
    Calls Tryz.prog 27 #[.slice A l.length c] w fun e w' => ∃ v, e = .returned v ∧ OwnI w.heap.size w' v l ∧ Fr [] w w' := by
  cases A with
  | none =>
    have hl : l = [] := by
      cases l with
      | nil => rfl
      | cons x l => obtain ⟨ad, e, _⟩ := int_at h 0 (by simp); cases e
    subst hl
    refine (Tryz.slices_Clone_int_nil _ c w).mono ?_
    rintro e w' ⟨rfl, rfl⟩
    exact ⟨_, rfl, OwnI.nil _ _, Fr.refl _ _⟩
  | some ad =>
    by_cases hl : l.length = 0
    · obtain rfl := List.eq_nil_of_length_eq_zero hl
      refine (Tryz.slices_Clone_int_zero ad c w).mono ?_
      rintro e w' ⟨v, rfl, h1, _, h2⟩
      exact ⟨v, rfl, OwnI.of_base h1, Fr.of_below [] h2⟩
    · have hs : ad.spot = none := by
        obtain ⟨ad', e, hc⟩ := int_at h 0 (by omega)
        injection e with e
        subst e
        have h0 : ad.add 0 = ad := by simp [Addr.add]
        rw [h0] at hc
        obtain ⟨b, o, s⟩ := ad
        exact cell_spot hc
      obtain ⟨b, o, s⟩ := ad
      simp only at hs
      subst hs
      refine (Tryz.slices_Clone_int b o l.length c l w (Nat.le_refl _) (by omega) (fun j hj => ?_)).mono ?_
      · obtain ⟨ad', e, hc⟩ := int_at h j hj
        injection e with e
        rw [← e, addr_add _ _ rfl] at hc
        exact hc
      · rintro e w' ⟨v, rfl, h1, _, h2⟩
        rw [List.take_length] at h1
        exact ⟨v, rfl, OwnI.of_base h1, Fr.of_below [] h2⟩
end Go.Np.Tryz
end
section
set_option linter.unusedVariables false
set_option linter.unusedSimpArgs false
namespace Go.Np.Tryz
open Go.RowKit Go.Proofs Go.Proofs.YtgfiglcmhlbjjaaGreat.PX Go.Proofs.YtgfiglcmhlbjjaaGreatW.PrintWords
def Am.cells (a : Am) : List Value := [.int .i64 a.too, .int .i64 a.kd, .int .i64 a.fr, .int .i64 a.ix, .int .i64 a.vw, .int .i64 a.vl, .int .i64 a.pr, .int .i64 0, .int .i64 0, .int .i64 0, .int .i64 0, .int .i64 0, .int .i64 0, .slice none 0 0]
def Am.msg (a : Am) : Value := .agg #[.int .i64 a.kd, .int .i64 a.fr, .int .i64 a.ix, .int .i64 a.vw, .int .i64 a.vl, .int .i64 a.pr, .int .i64 0, .int .i64 0, .int .i64 0, .int .i64 0, .int .i64 0, .int .i64 0, .slice none 0 0]
def flatA (l : List Am) : List Value := l.flatMap Am.cells
theorem flatA_add (l k : List Am) : flatA (l ++ k) = flatA l ++ flatA k := by unfold flatA; rw [List.flatMap_append]
def propE (q : Int × (Int × Int)) : Int × Value := (q.1, .agg #[.int .i64 q.2.1, .int .i64 q.2.2])
def saidE (q : Int × Int) : Int × Value := (q.1, .int .i64 q.2)
structure Pl where
  left : Int
  (sv tv dv ov : Value)
  (pt bt bp bs : Nat)
def Pl.own (a : Pl) (p : Nat) : List Nat := p :: a.pt :: a.bt :: a.bp :: a.bs :: (a.sv.ownBlock.toList ++ (a.tv.ownBlock.toList ++ (a.dv.ownBlock.toList ++ a.ov.ownBlock.toList)))
def coreV (c : Co) (a : Pl) : Array Value := #[.int .i64 c.me, a.sv, .int .i64 c.base, .int .i64 c.most, a.dv, .int .i64 c.view, .int .i64 c.step, .int .i64 a.left, .int .i64 c.tip, .pointer (some ⟨a.pt, 0, none⟩), .map (some a.bp), .map (some a.bs), .int .i64 c.lock.1, .int .i64 c.lock.2, .int .i64 c.valid.1, .int .i64 c.valid.2, a.ov]
structure CoIn (X : Nat → Prop) (w : World) (p : Nat) (c : Co) (a : Pl) : Prop where
  box : w.heap[p]? = some (.cells (coreV c a) 78 (0, 0))
  tal : w.heap[a.pt]? = some (.cells #[a.tv, .map (some a.bt)] 116 (0, 0))
  st : OwnI 0 w a.sv c.st
  tst : OwnI 0 w a.tv c.st
  dec : OwnI 0 w a.dv c.decs
  out : w.ownsRow 0 48 14 a.ov c.out.length (flatA c.out)
  vts : ∃ m, m.map toS = c.m ∧ MapIs balE w a.bt (m.map encV) ∧ Inv c.st.length m
  prs : MapIs keyE w a.bp (c.props.map propE)
  sds : MapIs keyE w a.bs (c.said.map saidE)
  nd : (a.own p).Nodup
  nX : ∀ k ∈ a.own p, ¬ X k
def CoAt (X : Nat → Prop) (w : World) (p : Nat) (c : Co) : Prop := ∃ a, CoIn X w p c a
section
variable {X : Nat → Prop} {w w' : World} {p : Nat} {c c' : Co} {a a' : Pl}
theorem CoIn.lt (h : CoIn X w p c a) : ∀ k ∈ a.own p, k < w.heap.size := by
  obtain ⟨m, _, hm, _⟩ := h.vts
  have e1 := (Array.getElem?_eq_some_iff.1 h.box).1
  have e2 := (Array.getElem?_eq_some_iff.1 h.tal).1
  have e3 := hm.lt
  have e4 := h.prs.lt
  have e5 := h.sds.lt
  intro k hk
  unfold Pl.own at hk
  simp only [List.mem_cons, List.mem_append] at hk
  rcases hk with rfl | rfl | rfl | rfl | rfl | hk | hk | hk | hk
  · exact e1
  · exact e2
  · exact e3
  · exact e4
  · exact e5
  · exact row_lt h.st.1 k hk
  · exact row_lt h.tst.1 k hk
  · exact row_lt h.dec.1 k hk
  · exact row_lt h.out k hk
theorem OwnI.move0 {v : Value} {l : List Int} (h : OwnI 0 w v l) (hk : ∀ k ∈ v.ownBlock.toList, w'.heap[k]? = w.heap[k]?) : OwnI 0 w' v l := ⟨row_move h.1 (fun k e => hk k (by simp [e])), h.2⟩
theorem CoIn.scal (h : CoIn X w p c a) (hb : w'.heap[p]? = some (.cells (coreV c' { a with left := a'.left }) 78 (0, 0))) (hk : ∀ k ∈ a.own p, k ≠ p → w'.heap[k]? = w.heap[k]?)
    (e1 : c'.st = c.st) (e2 : c'.m = c.m) (e3 : c'.props = c.props) (e4 : c'.said = c.said) (e5 : c'.decs = c.decs) (e6 : c'.out = c.out) : CoIn X w' p c' { a with left := a'.left } := by
  have hnd := h.nd
  unfold Pl.own at hnd
  simp only [List.nodup_cons, List.mem_cons, List.mem_append, not_or] at hnd
  obtain ⟨⟨n1, n2, n3, n4, n5, n6, n7, n8⟩, _⟩ := hnd
  have hm : ∀ k, k ∈ a.own p ↔ k = p ∨ k = a.pt ∨ k = a.bt ∨ k = a.bp ∨ k = a.bs ∨ k ∈ a.sv.ownBlock.toList ∨ k ∈ a.tv.ownBlock.toList ∨ k ∈ a.dv.ownBlock.toList ∨ k ∈ a.ov.ownBlock.toList := fun k => by
    unfold Pl.own; simp only [List.mem_cons, List.mem_append]
  obtain ⟨m, hm1, hm2, hm3⟩ := h.vts
  refine ⟨hb, (hk _ ((hm _).2 (by simp)) (Ne.symm n1)).trans h.tal, ?_, ?_, ?_, ?_, ⟨m, hm1.trans e2.symm, hm2.move (hk _ ((hm _).2 (by simp)) (Ne.symm n2)), by rw [e1]; exact hm3⟩, ?_, ?_, h.nd, h.nX⟩
  · rw [e1]; exact h.st.move0 (fun k hk' => hk k ((hm _).2 (by simp only [hk', or_true, true_or])) (fun e => n5 (e ▸ hk')))
  · rw [e1]; exact h.tst.move0 (fun k hk' => hk k ((hm _).2 (by simp only [hk', or_true, true_or])) (fun e => n6 (e ▸ hk')))
  · rw [e5]; exact h.dec.move0 (fun k hk' => hk k ((hm _).2 (by simp only [hk', or_true, true_or])) (fun e => n7 (e ▸ hk')))
  · rw [e6]; exact row_move h.out (fun k e => by
      have hk' : k ∈ a.ov.ownBlock.toList := by simp [e]
      exact hk k ((hm _).2 (by simp only [hk', or_true])) (fun e => n8 (e ▸ hk')))
  · rw [e3]; exact h.prs.move (hk _ ((hm _).2 (by simp)) (Ne.symm n3))
  · rw [e4]; exact h.sds.move (hk _ ((hm _).2 (by simp)) (Ne.symm n4))
theorem CoIn.keep (h : CoIn X w p c a) (hk : ∀ k ∈ a.own p, w'.heap[k]? = w.heap[k]?) : CoIn X w' p c a :=
  h.scal (a' := a) ((hk p (by simp [Pl.own])).trans h.box) (fun k h1 _ => hk k h1) rfl rfl rfl rfl rfl rfl
theorem CoIn.frX {S : List Nat} (h : CoIn X w p c a) (hf : Fr S w w') (hS : ∀ k ∈ S, X k ∨ w.heap.size ≤ k) : CoIn X w' p c a :=
  h.keep (fun k hk => hf.block k (h.lt k hk) (fun hm => (hS k hm).elim (h.nX k hk) (fun h2 => absurd (h.lt k hk) (by omega))))
theorem CoIn.fr (h : CoIn X w p c a) (hf : Fr [] w w') : CoIn X w' p c a := h.frX hf (by simp)
theorem CoAt.fr (h : CoAt X w p c) (hf : Fr [] w w') : CoAt X w' p c := by obtain ⟨a, h⟩ := h; exact ⟨a, h.fr hf⟩
theorem CoIn.x {X' : Nat → Prop} (h : CoIn X w p c a) (hX : ∀ k, k < w.heap.size → X' k → X k) : CoIn X' w p c a :=
  ⟨h.box, h.tal, h.st, h.tst, h.dec, h.out, h.vts, h.prs, h.sds, h.nd, fun k hk hx => h.nX k hk (hX k (h.lt k hk) hx)⟩
theorem CoIn.cells (h : CoIn X w p c a) : ∀ i, w.cell? ⟨p, i, none⟩ = (coreV c a)[i]? := fun i => cell_of h.box i
theorem CoIn.set (h : CoIn X w p c a) (i : Nat) (u : Value) (hb : (coreV c a).setIfInBounds i u = coreV c' { a with left := a'.left })
    (e1 : c'.st = c.st) (e2 : c'.m = c.m) (e3 : c'.props = c.props) (e4 : c'.said = c.said) (e5 : c'.decs = c.decs) (e6 : c'.out = c.out) : CoIn X (w.setCell ⟨p, i, none⟩ u) p c' { a with left := a'.left } := by
  refine h.scal ?_ (fun k _ hk => set_far w hk u) e1 e2 e3 e4 e5 e6
  rw [obj_set h.box i u, hb]
theorem CoIn.pX (h : CoIn X w p c a) : ¬ X p := h.nX p (by simp [Pl.own])
theorem CoIn.setX (h : CoIn X w p c a) (i : Nat) (u : Value) : FrX X w (w.setCell ⟨p, i, none⟩ u) := ⟨[p], (Fr.refl _ _).setCell (.inl (by simp)) _, fun k hk => by simp at hk; subst hk; exact h.pX⟩
def bare (w : World) : World := { w with heap := #[] }
theorem fr_bare (w : World) : Fr [] (bare w) w := ⟨rfl, rfl, rfl, Nat.zero_le _, fun k hk => absurd hk (by simp [bare])⟩
theorem CoIn.tz (h : CoIn X w p c a) (hst : okS c.st) (hl : c.m.length < 1000000) : Tz (bare w) w a.pt a.bt c.st c.m := by
  obtain ⟨m, hm1, hm2, hm3⟩ := h.vts
  obtain ⟨A, d, he, hd, hc⟩ := h.tst.sl
  refine ⟨m, A, d, hm1, ⟨?_, hm2, hc, hd, fr_bare w, Nat.zero_le _, Nat.zero_le _⟩, hm3, hst, by rw [← hm1] at hl; simpa using hl⟩
  have := h.tal
  rw [he] at this
  exact this
end
end Go.Np.Tryz
end
