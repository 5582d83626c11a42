/- What CheckNames needs. -/
import Derived.Test.YtgfiglcmhlbjjaaQCheckNamesCkT
set_option linter.unusedVariables false
set_option linter.unusedSimpArgs false
namespace Go.Np.Try
open Go.RowKit Go.Proofs Go.Proofs.Ytgfiglcmhlbjjaa.PX Go.Proofs.YtgfiglcmhlbjjaaW.PrintWords
set_option maxHeartbeats 2000000 in
set_option maxRecDepth 100000 in
theorem tnew_own {w : World} {A0 : Option Addr} {c0 : Nat} {l : List Int} (h : (Kd.int .i64).C w A0 l.length l) (hb : l.length < 17592186044416) :
    Calls Try.prog 15 #[.slice A0 l.length c0] w fun e w' => ∃ pt bt tv, e = .returned (.pointer (some ⟨pt, 0, none⟩)) ∧ w'.heap[pt]? = some (.cells #[tv, .map (some bt)] 61 (0, 0)) ∧ MapIs balE w' bt (([] : List (Bal × Int)).map encV) ∧ OwnI w.heap.size w' tv l ∧ w.heap.size ≤ bt ∧ bt < pt ∧ (∀ k ∈ tv.ownBlock.toList, k < bt) ∧ Fr [] w w' := by
  have hmm := @run_makeMap Try.prog
  have HC := Lib.hid (clone_own (c := c0) h hb)
  refine calls_k fun R hR => ?_
  clear h
  go_enter Try.func15, Try.ntmps15
  go_wp2_with (go_at_call 10; refine HC.out.mono ?_; rintro e w1 ⟨v, rfl, h1, h2⟩; obtain ⟨A, c, rfl⟩ := h1.form; have H1 := Lib.hid h1; have H2 := Lib.hid h2; clear h1 h2 HC)
  have hm0 : MapIs balE (w1.alloc (.map #[] 0)) w1.heap.size (([] : List (Bal × Int)).map encV) := MapIs.made w1
  have hsz : (w1.alloc (.map #[] 0)).heap.size = w1.heap.size + 1 := by simp
  have hF1 : Fr [] w1 ((w1.alloc (.map #[] 0)).alloc (.cells #[.slice A l.length c, .map (some w1.heap.size)] 61)) := ((Fr.refl _ _).alloc _).alloc _
  refine hR.out _ _ ⟨w1.heap.size + 1, w1.heap.size, .slice A l.length c, rfl, ?_, hm0.alloc _, H1.out.fr hF1 (by simp), H2.out.size, by omega, fun k hk => H1.out.lt k hk, H2.out.trans hF1 (by simp)⟩
  rw [← hsz]
  exact heap_alloc_new _ _
theorem none_calls (w : World) : Calls Try.prog 16 #[] w fun e w' => e = .returned (.agg #[.int .i64 0, .int .i64 (-1)]) ∧ Fr [] w w' := by
  refine (check_none.calls 0 (-1) w rfl).mono ?_
  rintro e w' ⟨h1, h2⟩
  exact ⟨h1, Fr.of_below [] h2⟩
structure CoBx (X : Nat → Prop) (w : World) (p : Nat) (c : Co) (left : Int) (sv dv ov : Value) (z5 z6 z9 z10 z11 z12 z13 z14 z15 : Value) : Prop where
  box : w.heap[p]? = some (.cells #[.int .i64 c.me, sv, .int .i64 c.base, .int .i64 c.most, dv, z5, z6, .int .i64 left, .int .i64 c.tip, z9, z10, z11, z12, z13, z14, z15, ov] 41 (0, 0))
  st : OwnI 0 w sv c.st
  dec : OwnI 0 w dv c.decs
  out : w.ownsRow 0 51 14 ov c.out.length (flatA c.out)
  nd : (p :: (sv.ownBlock.toList ++ (dv.ownBlock.toList ++ ov.ownBlock.toList))).Nodup
  nX : ∀ k ∈ p :: (sv.ownBlock.toList ++ (dv.ownBlock.toList ++ ov.ownBlock.toList)), ¬ X k
section
variable {X : Nat → Prop} {w w' w1 : World} {p : Nat} {c c' : Co} {a a' : Pl}
theorem CoIn.bx (h : CoIn X w p c a) : CoBx X w p c a.left a.sv a.dv a.ov (.int .i64 c.view) (.int .i64 c.step) (.pointer (some ⟨a.pt, 0, none⟩)) (.map (some a.bp)) (.map (some a.bs)) (.int .i64 c.lock.1) (.int .i64 c.lock.2) (.int .i64 c.valid.1) (.int .i64 c.valid.2) := by
  have hnd := h.nd
  have hnX := h.nX
  unfold Pl.own at hnd hnX
  simp only [List.nodup_cons, List.nodup_append, List.mem_cons, List.mem_append] at hnd hnX
  refine ⟨h.box, h.st, h.dec, h.out, ?_, ?_⟩
  · simp only [List.nodup_cons, List.nodup_append, List.mem_cons, List.mem_append]
    grind
  · simp only [List.mem_cons, List.mem_append]
    grind
theorem CoBx.lt {left : Int} {sv dv ov z5 z6 z9 z10 z11 z12 z13 z14 z15 : Value} (h : CoBx X w p c left sv dv ov z5 z6 z9 z10 z11 z12 z13 z14 z15) : p < w.heap.size ∧ (∀ k ∈ sv.ownBlock.toList, k < w.heap.size) ∧ (∀ k ∈ dv.ownBlock.toList, k < w.heap.size) ∧ (∀ k ∈ ov.ownBlock.toList, k < w.heap.size) :=
  ⟨(Array.getElem?_eq_some_iff.1 h.box).1, row_lt h.st.1, row_lt h.dec.1, row_lt h.out⟩
theorem CoBx.renew {left : Int} {sv dv ov z5 z6 z9 z10 z11 z12 z13 z14 z15 tv : Value} {pt bt bp bs : Nat} (h : CoBx X w p c left sv dv ov z5 z6 z9 z10 z11 z12 z13 z14 z15) (hX : ∀ k, X k → k < w.heap.size) (hf : Fr [p] w w')
    (hb : w'.heap[p]? = some (.cells (coreV c.rest ⟨left, sv, tv, dv, ov, pt, bt, bp, bs⟩) 41 (0, 0))) (tal : w'.heap[pt]? = some (.cells #[tv, .map (some bt)] 61 (0, 0))) (tst : OwnI w.heap.size w' tv c.st)
    (vts : MapIs balE w' bt (([] : List (Bal × Int)).map encV)) (prs : MapIs keyE w' bp ([] : List (Int × Value))) (sds : MapIs keyE w' bs ([] : List (Int × Value))) (h1 : w.heap.size ≤ bt) (h2 : bt < pt) (h3 : pt < bp) (h4 : bp < bs) (h5 : ∀ k ∈ tv.ownBlock.toList, k < bt) :
    CoIn X w' p c.rest ⟨left, sv, tv, dv, ov, pt, bt, bp, bs⟩ := by
  obtain ⟨l1, l2, l3, l4⟩ := h.lt
  have hnd := h.nd
  have hnX := h.nX
  have t1 := tst.2
  simp only [List.nodup_cons, List.nodup_append, List.mem_cons, List.mem_append] at hnd hnX
  have hm : ∀ {v : Value}, (∀ k ∈ v.ownBlock.toList, k < w.heap.size) → (∀ k ∈ v.ownBlock.toList, k ≠ p) → ∀ k ∈ v.ownBlock.toList, w'.heap[k]? = w.heap[k]? := fun g1 g2 k hk => hf.block k (g1 k hk) (by simpa using g2 k hk)
  refine ⟨hb, tal, ?_, ⟨tst.1, fun _ _ => Nat.zero_le _⟩, ?_, ?_, ⟨[], rfl, vts, Inv.nil _⟩, prs, sds, ?_, ?_⟩
  · exact h.st.move0 (hm l2 (by grind))
  · exact h.dec.move0 (hm l3 (by grind))
  · exact row_move h.out (fun k e => hm l4 (by grind) k (by simp [e]))
  · have ho := opt_nodup tv.ownBlock
    unfold Pl.own
    simp only [List.nodup_cons, List.nodup_append, List.mem_cons, List.mem_append]
    clear hm hf hb tal tst vts prs sds hX hnX h
    refine ⟨?_, ?_, ?_, ?_, ?_, ?_⟩
    · rintro (e | e | e | e | e | e | e | e)
      · omega
      · omega
      · omega
      · omega
      · grind
      · have := t1 _ e; omega
      · grind
      · grind
    · rintro (e | e | e | e | e | e | e)
      · omega
      · omega
      · omega
      · have := l2 _ e; omega
      · have := h5 _ e; omega
      · have := l3 _ e; omega
      · have := l4 _ e; omega
    · rintro (e | e | e | e | e | e)
      · omega
      · omega
      · have := l2 _ e; omega
      · have := h5 _ e; omega
      · have := l3 _ e; omega
      · have := l4 _ e; omega
    · rintro (e | e | e | e | e)
      · omega
      · have := l2 _ e; omega
      · have := h5 _ e; omega
      · have := l3 _ e; omega
      · have := l4 _ e; omega
    · rintro (e | e | e | e)
      · have := l2 _ e; omega
      · have := h5 _ e; omega
      · have := l3 _ e; omega
      · have := l4 _ e; omega
    · refine ⟨hnd.2.1, ⟨ho, hnd.2.2.1, ?_⟩, ?_⟩
      · intro x hx y hy e
        subst e
        rcases hy with hy | hy
        · have := t1 _ hx; have := l3 _ hy; omega
        · have := t1 _ hx; have := l4 _ hy; omega
      · intro x hx y hy e
        subst e
        rcases hy with hy | hy | hy
        · have := t1 _ hy; have := l2 _ hx; omega
        · exact hnd.2.2.2 _ hx _ (.inl hy) rfl
        · exact hnd.2.2.2 _ hx _ (.inr hy) rfl
  · unfold Pl.own
    simp only [List.mem_cons, List.mem_append]
    intro k hk hx
    have := hX k hx
    grind
end
end Go.Np.Try
