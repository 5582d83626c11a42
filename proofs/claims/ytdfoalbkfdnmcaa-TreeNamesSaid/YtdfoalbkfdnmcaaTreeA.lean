/- The tree in memory; Has, Height, ready. -/
import Derived.Test.YtdfoalbkfdnmcaaTreeR
import Derived.Test.YtdfoalbkfdnmcaaNpB
set_option linter.unusedVariables false
set_option linter.unusedSimpArgs false
namespace Go.Np.Try
open Go.RowKit Go.Proofs Go.Proofs.Ytdfoalbkfdnmcaa.PX Go.Proofs.YtdfoalbkfdnmcaaW.PrintWords
/-- The transactions of a block, in a block of their own that nobody else (X) has. -/
def TxsAt (X : Nat → Prop) (w : World) (q : BV) : Prop := w.ownsRow 0 59 2 q.tv q.b.f4.length (flatT q.b.f4) ∧ ∀ k ∈ q.tv.ownBlock.toList, ¬ X k
theorem TxsAt.fr {X : Nat → Prop} {w w' : World} {S : List Nat} {q : BV} (h : TxsAt X w q) (hf : Fr S w w') (hd : ∀ k ∈ q.tv.ownBlock.toList, k ∉ S) : TxsAt X w' q := ⟨row_fr h.1 hf hd, h.2⟩
theorem TxsAt.C {X : Nat → Prop} {w : World} {q : BV} (h : TxsAt X w q) : q.b.f4.length ≤ q.c ∧ k59.C w q.A q.b.f4.length q.b.f4 := by
  obtain ⟨A, c, e, h1, h2⟩ := flatT_C h.1
  unfold BV.tv at e
  injection e with e1 _ e3
  subst e1 e3
  exact ⟨h1, h2⟩
theorem TxsAt.ne {X : Nat → Prop} {w : World} {q : BV} (h : TxsAt X w q) {p : Nat} {cs : Array Value} {t : TypeId} {fz : Nat × Nat} (hp : w.heap[p]? = some (.cells cs t fz)) (hne : 59 ≠ t) : p ∉ q.tv.ownBlock.toList := row_ne_obj h.1 hp hne
theorem TxsAt.ne_map {X : Nat → Prop} {w : World} {q : BV} (h : TxsAt X w q) {p : Nat} {es : Array MapEntry} {cl : Nat} (hp : w.heap[p]? = some (.map es cl)) : p ∉ q.tv.ownBlock.toList := (RowAt.of_own h.1).ne_map hp
theorem TxsAt.grow {X X' : Nat → Prop} {w : World} {q : BV} (h : TxsAt X w q) (hX : ∀ k, X' k → k < w.heap.size → X k) : TxsAt X' w q := ⟨h.1, fun k hk hx => h.2 k hk (hX k hx (row_lt h.1 k hk))⟩
/-- What the map has of one that is known. -/
def knV (q : BV) (h : Int) : Value := .agg #[.int .i64 q.b.f0, .int .i64 q.b.f1, .int .i64 q.b.f2, .int .i64 q.b.f3, .slice q.A q.b.f4.length q.c, .int .i64 h]
def mOf (ds : List (BV × Kn)) : List (Int × Value) := ds.map fun d => (d.2.name, knV d.1 d.2.way.length)
structure TrIn (X : Nat → Prop) (w : World) (p : Nat) (t : Tr) (b : Nat) (v : Value) (ds : List (BV × Kn)) (qs : List BV) : Prop where
  hp : w.heap[p]? = some (.cells #[.map (some b), v] 67 (0, 0))
  hM : MapIs (fun a : Int => Value.int .i64 a) w b (mOf ds)
  hds : ds.map (·.2) = t.known
  hd : ∀ d ∈ ds, d.1.b = d.2.blk ∧ TxsAt X w d.1
  hv : RowAt w 28 5 v qs.length (flatB qs)
  hqs : qs.map (·.b) = t.wait
  hq : ∀ q ∈ qs, TxsAt X w q
  hX : ¬ X p ∧ ¬ X b ∧ ∀ k ∈ v.ownBlock.toList, ¬ X k
/-- A tree in memory: none of its blocks is one of X. -/
def TrAt (X : Nat → Prop) (w : World) (p : Nat) (t : Tr) : Prop := ∃ b v ds qs, TrIn X w p t b v ds qs
section
variable {X : Nat → Prop} {w w' : World} {p b : Nat} {t : Tr} {v : Value} {ds : List (BV × Kn)} {qs : List BV}
theorem TrIn.plt (h : TrIn X w p t b v ds qs) : p < w.heap.size := (Array.getElem?_eq_some_iff.1 h.hp).1
theorem TrIn.fr0 (h : TrIn X w p t b v ds qs) (hf : Fr [] w w') : TrIn X w' p t b v ds qs :=
  ⟨(hf.block p h.plt (by simp)).trans h.hp, h.hM.fr hf (by simp), h.hds, fun d hd => ⟨(h.hd d hd).1, (h.hd d hd).2.fr hf (by simp)⟩, h.hv.fr hf (by simp), h.hqs, fun q hq => (h.hq q hq).fr hf (by simp), h.hX⟩
theorem TrAt.fr (h : TrAt X w p t) (hf : Fr [] w w') : TrAt X w' p t := by
  obtain ⟨b, v, ds, qs, h⟩ := h
  exact ⟨b, v, ds, qs, h.fr0 hf⟩
/-- Whatever is done elsewhere. -/
theorem TrIn.frX {S : List Nat} (h : TrIn X w p t b v ds qs) (hf : Fr S w w') (hS : ∀ k ∈ S, X k ∨ w.heap.size ≤ k) : TrIn X w' p t b v ds qs := by
  have hn : ∀ k, k < w.heap.size → ¬ X k → k ∉ S := fun k hk hx hm => by rcases hS k hm with h1 | h1; exact hx h1; omega
  exact ⟨(hf.block p h.plt (hn _ h.plt h.hX.1)).trans h.hp, h.hM.fr hf (hn _ h.hM.lt h.hX.2.1), h.hds, fun d hd => ⟨(h.hd d hd).1, (h.hd d hd).2.fr hf (fun k hk => hn k (row_lt (h.hd d hd).2.1 k hk) ((h.hd d hd).2.2 k hk))⟩,
    h.hv.fr hf (fun k hk => hn k (h.hv.lt k hk) (h.hX.2.2 k hk)), h.hqs, fun q hq => (h.hq q hq).fr hf (fun k hk => hn k (row_lt (h.hq q hq).1 k hk) ((h.hq q hq).2 k hk)), h.hX⟩
theorem TrAt.frX {S : List Nat} (h : TrAt X w p t) (hf : Fr S w w') (hS : ∀ k ∈ S, X k ∨ w.heap.size ≤ k) : TrAt X w' p t := by
  obtain ⟨b, v, ds, qs, h⟩ := h
  exact ⟨b, v, ds, qs, h.frX hf hS⟩
/-- More that is not the tree's. -/
theorem TrIn.grow {X' : Nat → Prop} (h : TrIn X w p t b v ds qs) (hX : ∀ k, X' k → k < w.heap.size → X k) : TrIn X' w p t b v ds qs :=
  ⟨h.hp, h.hM, h.hds, fun d hd => ⟨(h.hd d hd).1, (h.hd d hd).2.grow hX⟩, h.hv, h.hqs, fun q hq => (h.hq q hq).grow hX, fun hx => h.hX.1 (hX _ hx h.plt), fun hx => h.hX.2.1 (hX _ hx h.hM.lt), fun k hk hx => h.hX.2.2 k hk (hX _ hx (h.hv.lt k hk))⟩
theorem TrAt.grow {X' : Nat → Prop} (h : TrAt X w p t) (hX : ∀ k, X' k → k < w.heap.size → X k) : TrAt X' w p t := by
  obtain ⟨b, v, ds, qs, h⟩ := h
  exact ⟨b, v, ds, qs, h.grow hX⟩
/-- What was made meanwhile is not the tree's. -/
theorem TrAt.later {S : List Nat} (h : TrAt X w p t) (hf : Fr S w w') (hS : ∀ k ∈ S, X k ∨ w.heap.size ≤ k) : TrAt (fun k => X k ∨ (w.heap.size ≤ k ∧ k < w'.heap.size)) w' p t := by
  have h1 := h.grow (X' := fun k => X k ∨ (w.heap.size ≤ k ∧ k < w'.heap.size)) (fun k hx hl => by rcases hx with hx | hx; exact hx; omega)
  exact h1.frX hf (fun k hk => (hS k hk).imp .inl id)
theorem find_ds (n : Int) : ∀ {ds : List (BV × Kn)} {t : Tr}, ds.map (·.2) = t.known → t.find n = (ds.find? fun d => decide (d.2.name = n)).map (·.2) := by
  intro ds t h
  unfold Tr.find
  rw [← h, List.find?_map]
  rfl
theorem alook_ds (n : Int) : ∀ (ds : List (BV × Kn)), alook (mOf ds) n = (ds.find? fun d => decide (d.2.name = n)).map (fun d => knV d.1 d.2.way.length)
  | [] => rfl
  | d :: ds => by
    unfold mOf
    rw [List.map_cons, List.find?_cons]
    unfold alook
    by_cases h : d.2.name = n
    · simp [h]
    · simp only [h, if_false, decide_false]
      exact alook_ds n ds
theorem keyI' : KeyOk Try.prog 3 (fun a : Int => Value.int .i64 a) := keyOk_int Try.underlying3
def zBV : BV := ⟨z28, none, 0⟩
theorem zeroK (w : World) : (zeroValue 73).run Try.prog w = .ok (knV zBV 0) w := by kernel_rfl
/-- What the map says of a name. -/
theorem TrIn.look (h : TrIn X w p t b v ds qs) (n : Int) : ∃ (q : BV) (hh : Int), (∀ c : Bool, (Instr.lookup 63 (.map (some b)) (.int .i64 n) c).run Try.prog w = .ok (if c then .tuple #[knV q hh, .bool (t.has n)] else knV q hh) w) ∧
    (∀ e, t.find n = some e → q.b = e.blk ∧ hh = e.way.length ∧ TxsAt X w q) ∧ (t.find n = none → q = zBV ∧ hh = 0) ∧ q.b.f4.length ≤ q.c ∧ k59.C w q.A q.b.f4.length q.b.f4 := by
  have hl := fun c => h.hM.run_lookup keyI' Try.underlying63 (zeroK w) n c
  rw [alook_ds] at hl
  have hf := find_ds n h.hds
  unfold Tr.has
  rw [hf]
  cases hd : ds.find? fun d => decide (d.2.name = n) with
  | none =>
    rw [hd] at hl
    refine ⟨zBV, 0, fun c => by simpa using hl c, by simp, by simp, Nat.le_refl _, ⟨rfl, Nat.zero_le _, fun h => absurd h (Nat.lt_irrefl 0)⟩⟩
  | some d =>
    rw [hd] at hl
    have hm := List.mem_of_find?_eq_some hd
    refine ⟨d.1, d.2.way.length, fun c => by simpa using hl c, ?_, by simp, (h.hd d hm).2.C.1, (h.hd d hm).2.C.2⟩
    intro e he
    simp at he
    subst he
    exact ⟨(h.hd d hm).1, rfl, (h.hd d hm).2⟩
end
set_option maxHeartbeats 1000000 in
set_option maxRecDepth 100000 in
theorem has_calls {X : Nat → Prop} {w : World} {p : Nat} {t : Tr} (h : TrAt X w p t) (n : Int) :
    Calls Try.prog 19 #[.pointer (some ⟨p, 0, none⟩), .int .i64 n] w fun e w' => e = .returned (.bool (t.has n)) ∧ Fr [] w w' := by
  obtain ⟨b, v, ds, qs, h⟩ := h
  have hc := cell_of h.hp 0
  simp at hc
  obtain ⟨q, hh, hl, _⟩ := h.look n
  replace hl := hl true
  simp only [if_true, knV] at hl
  refine calls_k fun R hR => ?_
  clear h
  go_enter Try.func19, Try.ntmps19
  go_wp2
  refine hR.out _ _ ⟨rfl, ?_⟩
  repeat (first | refine Fr.setCell ?_ (.inr (Nat.le_refl _)) _ | refine Fr.alloc ?_ _ | exact Fr.refl _ _)
set_option maxHeartbeats 1000000 in
set_option maxRecDepth 100000 in
theorem height_calls {X : Nat → Prop} {w : World} {p : Nat} {t : Tr} (h : TrAt X w p t) (n : Int) :
    Calls Try.prog 14 #[.pointer (some ⟨p, 0, none⟩), .int .i64 n] w fun e w' => e = .returned (.int .i64 (t.high n)) ∧ Fr [] w w' := by
  obtain ⟨b, v, ds, qs, h⟩ := h
  have hc := cell_of h.hp 0
  simp at hc
  obtain ⟨q, hh, hl, hs, _⟩ := h.look n
  replace hl := hl true
  have hv : t.high n = (if n = 0 then 0 else if t.has n = true then hh else -1) := by
    unfold Tr.high
    by_cases h0 : n = 0
    · simp [h0]
    · rw [if_neg h0, if_neg h0]
      by_cases h1 : t.has n = true
      · rw [if_pos h1, if_pos h1]
        obtain ⟨e, he⟩ := Option.isSome_iff_exists.1 h1
        rw [show t.path n = e.way from by unfold Tr.path; rw [he], (hs e he).2.1]
      · rw [if_neg h1, if_neg h1]
  simp only [if_true, knV] at hl
  refine calls_k fun R hR => ?_
  rw [hv] at hR
  clear h hv hs
  generalize t.has n = B at *
  go_enter Try.func14, Try.ntmps14
  obtain ⟨W, hW⟩ : ∃ W, W = w.alloc (.cells #[.int .i64 q.b.f0, .int .i64 q.b.f1, .int .i64 q.b.f2, .int .i64 q.b.f3, .slice q.A q.b.f4.length q.c, .int .i64 hh] 73) := ⟨_, rfl⟩
  obtain ⟨g, hg⟩ : ∃ g, g = w.heap.size := ⟨_, rfl⟩
  have hbl : W.heap[g]? = some (.cells #[.int .i64 q.b.f0, .int .i64 q.b.f1, .int .i64 q.b.f2, .int .i64 q.b.f3, .slice q.A q.b.f4.length q.c, .int .i64 hh] 73 (0, 0)) := by rw [hW, hg]; exact heap_alloc_new _ _
  have c5 := cell_of hbl 5
  simp at c5
  have hF : Fr [] w W := by rw [hW]; exact (Fr.refl _ _).alloc _
  clear hbl
  go_upto_region 2 with (fail)
  rw [← hW, ← hg]
  clear hW hg hl hc
  by_cases h0 : n = 0
  · subst h0
    go_wp2
    exact hR.out _ _ ⟨rfl, hF⟩
  · have h0b : (n == 0) = false := by simpa using h0
    rw [if_neg h0] at hR
    clear h0
    cases B with
    | false =>
      go_wp2
      exact hR.out _ _ ⟨rfl, hF⟩
    | true =>
      go_wp2
      exact hR.out _ _ ⟨rfl, hF⟩
set_option maxHeartbeats 1000000 in
set_option maxRecDepth 100000 in
theorem ready_calls {X : Nat → Prop} {w : World} {p : Nat} {t : Tr} (h : TrAt X w p t) (bl : Blk) (A : Option Addr) (c : Nat) :
    Calls Try.prog 47 #[.pointer (some ⟨p, 0, none⟩), blkV bl A c] w fun e w' => e = .returned (.bool (t.ready bl)) ∧ Fr [] w w' := by
  refine calls_k fun R hR => ?_
  unfold blkV
  obtain ⟨W, hW⟩ : ∃ W, W = w.alloc (.cells #[.int .i64 bl.f0, .int .i64 bl.f1, .int .i64 bl.f2, .int .i64 bl.f3, .slice A bl.f4.length c] 28) := ⟨_, rfl⟩
  obtain ⟨g, hg⟩ : ∃ g, g = w.heap.size := ⟨_, rfl⟩
  have hbl : W.heap[g]? = some (.cells #[.int .i64 bl.f0, .int .i64 bl.f1, .int .i64 bl.f2, .int .i64 bl.f3, .slice A bl.f4.length c] 28 (0, 0)) := by rw [hW, hg]; exact heap_alloc_new _ _
  have c3 := cell_of hbl 3
  simp at c3
  have hF : Fr [] w W := by rw [hW]; exact (Fr.refl _ _).alloc _
  have hH := Lib.hid (has_calls (h.fr hF) bl.f3)
  clear hbl h
  go_enter Try.func47, Try.ntmps47
  go_upto_region 1 with (fail)
  rw [← hW, ← hg]
  clear hW hg
  unfold Tr.ready at hR
  by_cases h0 : bl.f3 = 0
  · simp only [h0, decide_true, Bool.true_or] at hR
    rw [h0] at c3
    clear h0 hH
    go_wp2
    exact hR.out _ _ ⟨rfl, hF⟩
  · have h0b : (bl.f3 == 0) = false := by simpa using h0
    simp only [h0, decide_false, Bool.false_or] at hR
    clear h0
    go_wp2_with (go_at_call 19; refine hH.out.mono ?_; rintro e w1 ⟨rfl, hF1⟩)
    exact hR.out _ _ ⟨rfl, hF.trans hF1 (by simp)⟩
end Go.Np.Try
