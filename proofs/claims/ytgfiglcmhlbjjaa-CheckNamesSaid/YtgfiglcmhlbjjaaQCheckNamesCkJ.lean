/- What CheckNames needs. -/
import Derived.Test.YtgfiglcmhlbjjaaQCheckNamesCkI
set_option linter.unusedVariables false
set_option linter.unusedSimpArgs false
namespace Go.Np.Try
open Go.RowKit Go.Proofs Go.Proofs.Ytgfiglcmhlbjjaa.PX Go.Proofs.YtgfiglcmhlbjjaaW.PrintWords
section
variable {X : Nat → Prop} {w w' w1 : World} {p : Nat} {c c' : Co} {a a' : Pl}
theorem opt_nodup (o : Option Nat) : o.toList.Nodup := by cases o <;> simp
theorem own_ov {p : Nat} {a : Pl} {ov' : Value} {N : Nat} (hnd : (a.own p).Nodup) (hlt : ∀ k ∈ a.own p, k < N) (hn : ∀ k ∈ ov'.ownBlock.toList, k ∈ a.ov.ownBlock.toList ∨ N ≤ k) :
    (({ a with ov := ov' } : Pl).own p).Nodup ∧ ∀ k ∈ ({ a with ov := ov' } : Pl).own p, k ∈ a.own p ∨ N ≤ k := by
  have ho := opt_nodup ov'.ownBlock
  unfold Pl.own at *
  simp only [List.nodup_cons, List.nodup_append, List.mem_cons, List.mem_append] at *
  refine ⟨?_, ?_⟩
  · grind
  · grind
theorem own_dv {p : Nat} {a : Pl} {dv' : Value} {N : Nat} (hnd : (a.own p).Nodup) (hlt : ∀ k ∈ a.own p, k < N) (hn : ∀ k ∈ dv'.ownBlock.toList, k ∈ a.dv.ownBlock.toList ∨ N ≤ k) :
    (({ a with dv := dv' } : Pl).own p).Nodup ∧ ∀ k ∈ ({ a with dv := dv' } : Pl).own p, k ∈ a.own p ∨ N ≤ k := by
  have ho := opt_nodup dv'.ownBlock
  unfold Pl.own at *
  simp only [List.nodup_cons, List.nodup_append, List.mem_cons, List.mem_append] at *
  refine ⟨?_, ?_⟩
  · grind
  · grind
theorem CoIn.sent (h : CoIn X w p c a) (hX : ∀ k, X k → k < w.heap.size) {ov' : Value} (m : Am) (hf : Fr a.ov.ownBlock.toList w w1) (hr : w1.ownsRow 0 51 14 ov' (c.out ++ [m]).length (flatA (c.out ++ [m])))
    (hn : ∀ k ∈ ov'.ownBlock.toList, k ∈ a.ov.ownBlock.toList ∨ w.heap.size ≤ k) : CoIn X (w1.setCell ⟨p, 16, none⟩ ov') p (c.send m) { a with ov := ov' } := by
  obtain ⟨n1, n2⟩ := own_ov h.nd h.lt hn
  have hlt := h.lt
  have hnd := h.nd
  have hm : ∀ k, k ∈ a.own p ↔ k = p ∨ k = a.pt ∨ k = a.bt ∨ k = a.bp ∨ k = a.bs ∨ k ∈ a.sv.ownBlock.toList ∨ k ∈ a.tv.ownBlock.toList ∨ k ∈ a.dv.ownBlock.toList ∨ k ∈ a.ov.ownBlock.toList := fun k => by
    unfold Pl.own; simp only [List.mem_cons, List.mem_append]
  have hk : ∀ k ∈ a.own p, k ∉ a.ov.ownBlock.toList → k ≠ p → (w1.setCell ⟨p, 16, none⟩ ov').heap[k]? = w.heap[k]? := fun k h1 h2 h3 => (set_far w1 h3 ov').trans (hf.block k (h.lt k h1) h2)
  have hq : ∀ k ∈ a.own p, k ∉ a.ov.ownBlock.toList ∨ k ∈ a.ov.ownBlock.toList := fun k _ => (Classical.em _).symm
  unfold Pl.own at hnd
  simp only [List.nodup_cons, List.nodup_append, List.mem_cons, List.mem_append, not_or] at hnd
  have b1 : w1.heap[p]? = some (.cells (coreV c a) 41 (0, 0)) := (hf.block p (h.lt p ((hm p).2 (.inl rfl))) (by grind)).trans h.box
  have hb : (w1.setCell ⟨p, 16, none⟩ ov').heap[p]? = some (.cells (coreV (c.send m) { a with ov := ov' }) 41 (0, 0)) := by rw [obj_set b1 16 ov']; rfl
  obtain ⟨q, hm1, hm2, hm3⟩ := h.vts
  refine ⟨hb, (hk _ ((hm _).2 (by grind)) (by grind) (by grind)).trans h.tal, ?_, ?_, ?_, ?_, ⟨q, hm1, hm2.move (hk _ ((hm _).2 (by grind)) (by grind) (by grind)), hm3⟩, h.prs.move (hk _ ((hm _).2 (by grind)) (by grind) (by grind)), h.sds.move (hk _ ((hm _).2 (by grind)) (by grind) (by grind)), n1, fun k hk' hx => ?_⟩
  · exact h.st.move0 (fun k h1 => hk k ((hm _).2 (by grind)) (by grind) (by grind))
  · exact h.tst.move0 (fun k h1 => hk k ((hm _).2 (by grind)) (by grind) (by grind))
  · exact h.dec.move0 (fun k h1 => hk k ((hm _).2 (by grind)) (by grind) (by grind))
  · refine row_move hr (fun k e => set_far w1 (fun e' => ?_) ov')
    have h1 : p ∈ ov'.ownBlock.toList := by have e2 : k = p := e'; rw [← e2]; simp [e]
    have h2 := n1
    unfold Pl.own at h2
    simp only [List.nodup_cons, List.nodup_append, List.mem_cons, List.mem_append, not_or] at h2
    grind
  · rcases n2 k hk' with h1 | h1
    · exact h.nX k h1 hx
    · have := hX k hx; omega
theorem CoIn.decd (h : CoIn X w p c a) (hX : ∀ k, X k → k < w.heap.size) {dv' : Value} (v : Int) (hf : Fr a.dv.ownBlock.toList w w1) (hr : w1.ownsRow 0 3 1 dv' (c.decs ++ [v]).length ((c.decs ++ [v]).map (Value.int .i64)))
    (hn : ∀ k ∈ dv'.ownBlock.toList, k ∈ a.dv.ownBlock.toList ∨ w.heap.size ≤ k) : CoIn X (w1.setCell ⟨p, 4, none⟩ dv') p { c with decs := c.decs ++ [v] } { a with dv := dv' } := by
  obtain ⟨n1, n2⟩ := own_dv h.nd h.lt hn
  have hlt := h.lt
  have hnd := h.nd
  have hm : ∀ k, k ∈ a.own p ↔ k = p ∨ k = a.pt ∨ k = a.bt ∨ k = a.bp ∨ k = a.bs ∨ k ∈ a.sv.ownBlock.toList ∨ k ∈ a.tv.ownBlock.toList ∨ k ∈ a.dv.ownBlock.toList ∨ k ∈ a.ov.ownBlock.toList := fun k => by
    unfold Pl.own; simp only [List.mem_cons, List.mem_append]
  have hk : ∀ k ∈ a.own p, k ∉ a.dv.ownBlock.toList → k ≠ p → (w1.setCell ⟨p, 4, none⟩ dv').heap[k]? = w.heap[k]? := fun k h1 h2 h3 => (set_far w1 h3 dv').trans (hf.block k (h.lt k h1) h2)
  unfold Pl.own at hnd
  simp only [List.nodup_cons, List.nodup_append, List.mem_cons, List.mem_append, not_or] at hnd
  have b1 : w1.heap[p]? = some (.cells (coreV c a) 41 (0, 0)) := (hf.block p (h.lt p ((hm p).2 (.inl rfl))) (by grind)).trans h.box
  have hb : (w1.setCell ⟨p, 4, none⟩ dv').heap[p]? = some (.cells (coreV { c with decs := c.decs ++ [v] } { a with dv := dv' }) 41 (0, 0)) := by rw [obj_set b1 4 dv']; rfl
  obtain ⟨q, hm1, hm2, hm3⟩ := h.vts
  refine ⟨hb, (hk _ ((hm _).2 (by grind)) (by grind) (by grind)).trans h.tal, ?_, ?_, ⟨row_move hr (fun k e => set_far w1 (fun e' => ?_) dv'), fun _ _ => Nat.zero_le _⟩, ?_, ⟨q, hm1, hm2.move (hk _ ((hm _).2 (by grind)) (by grind) (by grind)), hm3⟩, h.prs.move (hk _ ((hm _).2 (by grind)) (by grind) (by grind)), h.sds.move (hk _ ((hm _).2 (by grind)) (by grind) (by grind)), n1, fun k hk' hx => ?_⟩
  · exact h.st.move0 (fun k h1 => hk k ((hm _).2 (by grind)) (by grind) (by grind))
  · exact h.tst.move0 (fun k h1 => hk k ((hm _).2 (by grind)) (by grind) (by grind))
  · have h1 : p ∈ dv'.ownBlock.toList := by have e2 : k = p := e'; rw [← e2]; simp [e]
    have h2 := n1
    unfold Pl.own at h2
    simp only [List.nodup_cons, List.nodup_append, List.mem_cons, List.mem_append, not_or] at h2
    grind
  · exact row_move h.out (fun k e => by
      have h1 : k ∈ a.ov.ownBlock.toList := by simp [e]
      exact hk k ((hm _).2 (by grind)) (by grind) (by grind))
  · rcases n2 k hk' with h1 | h1
    · exact h.nX k h1 hx
    · have := hX k hx; omega
theorem aput_map {α β : Type} (f : Int × α → Int × β) (g : α → β) (hf : ∀ q, f q = (q.1, g q.2)) (m : List (Int × α)) (k : Int) (x : α) : (aput m k x).map f = aput (m.map f) k (g x) := by
  induction m with
  | nil => simp [aput, hf]
  | cons q m ih =>
    obtain ⟨a, v⟩ := q
    by_cases h : a = k
    · simp [aput, hf, h]
    · simp [aput, hf, h, ih]
theorem alook_map {α β : Type} (f : Int × α → Int × β) (g : α → β) (hf : ∀ q, f q = (q.1, g q.2)) (m : List (Int × α)) (k : Int) : alook (m.map f) k = (alook m k).map g := by
  induction m with
  | nil => rfl
  | cons q m ih =>
    obtain ⟨a, v⟩ := q
    by_cases h : a = k
    · simp [alook, hf, h]
    · simp [alook, hf, h, ih]
theorem CoIn.voted (h : CoIn X w p c a) {m' : List S41} (hf : Fr [a.bt] w w') (ht : Tz (bare w) w' a.pt a.bt c.st m') : CoIn X w' p { c with m := m' } a := by
  have hlt := h.lt
  have hnd := h.nd
  have hm : ∀ k, k ∈ a.own p ↔ k = p ∨ k = a.pt ∨ k = a.bt ∨ k = a.bp ∨ k = a.bs ∨ k ∈ a.sv.ownBlock.toList ∨ k ∈ a.tv.ownBlock.toList ∨ k ∈ a.dv.ownBlock.toList ∨ k ∈ a.ov.ownBlock.toList := fun k => by
    unfold Pl.own; simp only [List.mem_cons, List.mem_append]
  have hk : ∀ k ∈ a.own p, k ≠ a.bt → w'.heap[k]? = w.heap[k]? := fun k h1 h2 => hf.block k (h.lt k h1) (by simpa using h2)
  unfold Pl.own at hnd
  simp only [List.nodup_cons, List.nodup_append, List.mem_cons, List.mem_append, not_or] at hnd
  obtain ⟨q, A, d, hm1, hm2, hm3, _⟩ := ht
  exact ⟨(hk _ ((hm _).2 (by grind)) (by grind)).trans h.box, (hk _ ((hm _).2 (by grind)) (by grind)).trans h.tal, h.st.move0 (fun k h1 => hk k ((hm _).2 (by grind)) (by grind)), h.tst.move0 (fun k h1 => hk k ((hm _).2 (by grind)) (by grind)), h.dec.move0 (fun k h1 => hk k ((hm _).2 (by grind)) (by grind)), row_move h.out (fun k e => by
      have h1 : k ∈ a.ov.ownBlock.toList := by simp [e]
      exact hk k ((hm _).2 (by grind)) (by grind)), ⟨q, hm1, hm2.map, hm3⟩, h.prs.move (hk _ ((hm _).2 (by grind)) (by grind)), h.sds.move (hk _ ((hm _).2 (by grind)) (by grind)), h.nd, h.nX⟩
theorem CoIn.proposed (h : CoIn X w p c a) {v : Int} {x : Int × Int} (hf : Fr [a.bp] w w') (ht : MapIs keyE w' a.bp (aput (c.props.map propE) v (.agg #[.int .i64 x.1, .int .i64 x.2]))) : CoIn X w' p { c with props := aput c.props v x } a := by
  have hlt := h.lt
  have hnd := h.nd
  have hm : ∀ k, k ∈ a.own p ↔ k = p ∨ k = a.pt ∨ k = a.bt ∨ k = a.bp ∨ k = a.bs ∨ k ∈ a.sv.ownBlock.toList ∨ k ∈ a.tv.ownBlock.toList ∨ k ∈ a.dv.ownBlock.toList ∨ k ∈ a.ov.ownBlock.toList := fun k => by
    unfold Pl.own; simp only [List.mem_cons, List.mem_append]
  have hk : ∀ k ∈ a.own p, k ≠ a.bp → w'.heap[k]? = w.heap[k]? := fun k h1 h2 => hf.block k (h.lt k h1) (by simpa using h2)
  unfold Pl.own at hnd
  simp only [List.nodup_cons, List.nodup_append, List.mem_cons, List.mem_append, not_or] at hnd
  obtain ⟨q, hm1, hm2, hm3⟩ := h.vts
  refine ⟨(hk _ ((hm _).2 (by grind)) (by grind)).trans h.box, (hk _ ((hm _).2 (by grind)) (by grind)).trans h.tal, h.st.move0 (fun k h1 => hk k ((hm _).2 (by grind)) (by grind)), h.tst.move0 (fun k h1 => hk k ((hm _).2 (by grind)) (by grind)), h.dec.move0 (fun k h1 => hk k ((hm _).2 (by grind)) (by grind)), row_move h.out (fun k e => by
      have h1 : k ∈ a.ov.ownBlock.toList := by simp [e]
      exact hk k ((hm _).2 (by grind)) (by grind)), ⟨q, hm1, hm2.move (hk _ ((hm _).2 (by grind)) (by grind)), hm3⟩, ?_, h.sds.move (hk _ ((hm _).2 (by grind)) (by grind)), h.nd, h.nX⟩
  rw [aput_map propE (fun x => .agg #[.int .i64 x.1, .int .i64 x.2]) (fun q => rfl)]
  exact ht
theorem CoIn.own1 (h : CoIn X w p c a) : a.pt ∈ a.own p ∧ a.bt ∈ a.own p ∧ a.bp ∈ a.own p ∧ a.bs ∈ a.own p := by unfold Pl.own; simp
theorem CoIn.frOf (h : CoIn X w p c a) {b : Nat} (hb : b ∈ a.own p) (hf : Fr [b] w w') : FrX X w w' := ⟨[b], hf, fun k hk => by simp at hk; subst hk; exact h.nX k hb⟩
end
end Go.Np.Try
