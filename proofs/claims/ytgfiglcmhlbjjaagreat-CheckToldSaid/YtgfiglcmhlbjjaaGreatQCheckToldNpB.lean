/- What CheckTold needs. -/
import Derived.Test.YtgfiglcmhlbjjaaGreatQCheckToldNpA
import Derived.Maps.RangeWalk
namespace Go.Np
open Go.RowKit Go.MapKept
open Go.ChangeMaps (setBlock heap_setBlock_same heap_setBlock_other)
section
set_option linter.unusedSectionVars false
variable {κ : Type} [DecidableEq κ] {P : Program} {k : TypeId} {kE : κ → Value} {w : World} {b : Nat} {m : List (κ × Value)}
theorem aput_entries (K : KeyOk P k kE) {a : κ} {v : Value} : ∀ {es : List MapEntry} {m : List (κ × Value)} {j : Nat} {e : MapEntry}, es.map (fun e => (e.key, e.val)) = m.map (fun p => (kE p.1, p.2)) → (m.map (·.1)).Nodup → es[j]? = some e → e.key = kE a →
    (es.set j { e with key := kE a, val := v }).map (fun e => (e.key, e.val)) = (aput m a v).map (fun p => (kE p.1, p.2))
  | [], m, j, e, _, _, hj, _ => by simp at hj
  | x :: es, [], j, e, h, _, _, _ => by simp at h
  | x :: es, (c, u) :: m, 0, e, h, hn, hj, hk => by
    simp only [List.map_cons, List.cons.injEq, Prod.mk.injEq] at h
    obtain rfl : x = e := by simpa using hj
    obtain rfl : c = a := K.inj (h.1.1.symm.trans hk)
    simp [aput, h.2]
  | x :: es, (c, u) :: m, j + 1, e, h, hn, hj, hk => by
    simp only [List.map_cons, List.cons.injEq, Prod.mk.injEq] at h
    simp only [List.map_cons, List.nodup_cons] at hn
    have hj' : es[j]? = some e := by simpa using hj
    have hne : c ≠ a := by
      rintro rfl
      have h1 : (e.key, e.val) ∈ m.map (fun p => (kE p.1, p.2)) := by rw [← h.2]; exact List.mem_map.2 ⟨_, List.mem_of_getElem? hj', rfl⟩
      obtain ⟨⟨y, z⟩, hp, hh⟩ := List.mem_map.1 h1
      simp only [Prod.mk.injEq] at hh
      obtain rfl : y = c := K.inj (hh.1.trans hk)
      exact hn.1 (List.mem_map.2 ⟨_, hp, rfl⟩)
    simp only [List.set_cons_succ, List.map_cons, aput, hne, if_false, aput_entries K h.2 hn.2 hj' hk, h.1.1, h.1.2]
theorem set_same {α : Type} {l : List α} {j : Nat} {x : α} (h : l[j]? = some x) : l.set j x = l := by
  apply List.ext_getElem?
  intro i
  rw [List.getElem?_set]
  split
  · rename_i e; subst e; obtain ⟨hl, h2⟩ := List.getElem?_eq_some_iff.1 h; simp [hl, h2]
  · rfl
theorem fr_setBlock {es : Array MapEntry} {clock : Nat} (hb : w.heap[b]? = some (.map es clock)) (o : Obj) : Fr [b] w (setBlock w b o) :=
  ⟨rfl, rfl, rfl, by simp [setBlock], fun i _ hi => heap_setBlock_other hb _ (fun e => hi (by simp [e]))⟩
theorem MapIs.run_update (h : MapIs kE w b m) (K : KeyOk P k kE) {t e : TypeId} (ht : P.underlying t = some (.map k e)) (a : κ) (v : Value) :
    ∃ w', (Instr.mapUpdate t (.map (some b)) (kE a) v).run P w = .ok () w' ∧ MapIs kE w' b (aput m a v) ∧ Fr [b] w w' ∧ w'.heap.size = w.heap.size := by
  obtain ⟨es, clock, hb, hm, hp, hc, hn⟩ := h
  obtain ⟨l1, l2⟩ := alook_entries K hm a
  rcases K.find w a es.toList (keys_entries hm) with ⟨h1, h2⟩ | ⟨j, e0, h1, h2, h3⟩
  · refine ⟨setBlock w b (.map (es.push { key := kE a, val := v, born := clock }) (clock + 1)), ?_, ⟨_, _, heap_setBlock_same hb _, ?_, ?_, ?_, aput_nodup hn a v⟩, fr_setBlock hb _, by simp [setBlock]⟩
    · simp [Instr.mapUpdate, run_underlying ht, getMap hb, K.check, h1, setObj, Sem.run, hb, Result.andThen, setBlock]
    · rw [aput_new (l1 h2)]; simp only [Array.toList_push, List.map_append, hm, List.map_cons, List.map_nil]
    · simp only [Array.toList_push, List.map_append, List.pairwise_append]
      refine ⟨hp, by simp, fun x hx y hy => ?_⟩
      obtain ⟨z, hz, rfl⟩ := List.mem_map.1 hx
      simp at hy; subst hy; exact hc z hz
    · intro x hx
      simp only [Array.toList_push, List.mem_append, List.mem_singleton] at hx
      rcases hx with hx | rfl
      · exact Nat.lt_succ_of_lt (hc x hx)
      · exact Nat.lt_succ_self _
  · have hj : es[j]? = some e0 := by rw [← Array.getElem?_toList]; exact h2
    have hset : (es.modify j fun e => { e with key := kE a, val := v }).toList = es.toList.set j { e0 with key := kE a, val := v } := by
      rw [Array.toList_modify]; exact Go.ChangeMaps.modify_eq_set _ _ _ _ h2
    have hborn : (es.toList.set j { e0 with key := kE a, val := v }).map (·.born) = es.toList.map (·.born) := by
      rw [List.map_set]
      refine set_same ?_
      rw [List.getElem?_map, h2]; rfl
    refine ⟨setBlock w b (.map (es.modify j fun e => { e with key := kE a, val := v }) clock), ?_, ⟨_, _, heap_setBlock_same hb _, ?_, ?_, ?_, aput_nodup hn a v⟩, fr_setBlock hb _, by simp [setBlock]⟩
    · simp [Instr.mapUpdate, run_underlying ht, getMap hb, K.check, h1, hj, h3, K.stays, setObj, Sem.run, hb, Result.andThen, setBlock]
    · rw [hset]; exact aput_entries K hm hn h2 h3
    · rw [hset, hborn]; exact hp
    · rw [hset]
      intro x hx
      have : x.born ∈ (es.toList.set j { e0 with key := kE a, val := v }).map (·.born) := List.mem_map.2 ⟨_, hx, rfl⟩
      rw [hborn] at this
      obtain ⟨y, hy, hh⟩ := List.mem_map.1 this
      rw [← hh]; exact hc y hy
section
variable {ops : Array Oper} {rest : List Oper} {o : Oper} {a : Act} {Q : Exit → Act → World → Prop}
theorem wp_store (hg : o.guard = none) (mo xo vo : Operand) (t e : TypeId) (hop : o.op = Op.mapUpdate t mo xo vo) (K : KeyOk P k kE) (ht : P.underlying t = some (.map k e))
    (hm : a.eval mo = .map (some b)) (h : MapIs kE w b m) (x : κ) (hx : a.eval xo = kE x) (v : Value) (hv : a.eval vo = v)
    (hK : ∀ w', MapIs kE w' b (aput m x v) → Fr [b] w w' → w'.heap.size = w.heap.size → wpList P ops Q rest (a.put o.dst undef) w') : wpList P ops Q (o :: rest) a w := by
  refine wpList_plain hg fun K' hK' => ?_
  obtain ⟨w', hrun, r1, r2, r3⟩ := h.run_update K ht x v
  unfold Oper.wp
  simp [execOp, hop, hm, hx, hv, hrun, Result.andThen]
  exact hK' _ _ (hK w' r1 r2 r3)
end
def IterIs (kE : κ → Value) (w : World) (r b : Nat) (left : List (κ × Value)) : Prop :=
  ∃ es clock since seen last, w.heap[b]? = some (.map es clock) ∧ w.heap[r]? = some (.mapIter (some b) since seen last) ∧ since ≤ last ∧ (∀ e ∈ es.toList, e.born < since) ∧
    (es.toList.map (·.born)).Pairwise (· < ·) ∧ (es.toList.filter (fun e => !seen.contains e.born)).map (fun e => (e.key, e.val)) = left.map (fun p => (kE p.1, p.2)) ∧ since ≤ clock
theorem IterIs.move {left : List (κ × Value)} {r : Nat} {w' : World} (h : IterIs kE w r b left) (h1 : w'.heap[b]? = w.heap[b]?) (h2 : w'.heap[r]? = w.heap[r]?) : IterIs kE w' r b left := by
  obtain ⟨es, clock, since, seen, last, a1, a2, a3⟩ := h
  exact ⟨es, clock, since, seen, last, h1.trans a1, h2.trans a2, a3⟩
theorem IterIs.lt {left : List (κ × Value)} {r : Nat} (h : IterIs kE w r b left) : b < w.heap.size ∧ r < w.heap.size := by
  obtain ⟨es, clock, since, seen, last, a1, a2, a3⟩ := h
  exact ⟨(Array.getElem?_eq_some_iff.1 a1).1, (Array.getElem?_eq_some_iff.1 a2).1⟩
theorem IterIs.fr {left : List (κ × Value)} {r : Nat} {w' : World} {S : List Nat} (h : IterIs kE w r b left) (hf : Fr S w w') (h1 : b ∉ S) (h2 : r ∉ S) : IterIs kE w' r b left :=
  h.move (hf.block b h.lt.1 h1) (hf.block r h.lt.2 h2)
theorem IterIs.begin (h : MapIs kE w b m) : ∃ o : Obj, (∀ t e : TypeId, P.underlying t = some (.map k e) → (Instr.range t (.map (some b))).run P w = .ok (.pointer (some ⟨w.heap.size, 0, none⟩)) (w.alloc o)) ∧ IterIs kE (w.alloc o) w.heap.size b m := by
  obtain ⟨es, clock, hb, hm, hp, hc, hn⟩ := h
  have hlt : b < w.heap.size := (Array.getElem?_eq_some_iff.1 hb).1
  refine ⟨.mapIter (some b) clock #[] clock, fun t e ht => ?_, es, clock, clock, #[], clock, ?_, (heap_alloc w _).1, Nat.le_refl _, hc, hp, ?_, Nat.le_refl _⟩
  · simp [Instr.range, run_underlying ht, getMap hb, Result.andThen, newObj, Sem.run]
  · rw [Below.heap_alloc _ _ _ hlt]; exact hb
  · rw [← hm, List.filter_eq_self.2 (fun _ _ => by simp)]
theorem IterIs.run_next {left : List (κ × Value)} {r : Nat} (h : IterIs kE w r b left) (ty : TypeId) :
    (left = [] ∧ (Instr.next (.pointer (some ⟨r, 0, none⟩)) false ty).run P w = .ok (.tuple #[.bool false]) w) ∨
    ∃ l1 x v l2 w', left = l1 ++ (x, v) :: l2 ∧ (Instr.next (.pointer (some ⟨r, 0, none⟩)) false ty).run P w = .ok (.tuple #[.bool true, kE x, v]) w' ∧ IterIs kE w' r b (l1 ++ l2) ∧ Fr [r] w w' ∧ w'.heap.size = w.heap.size ∧
      (Instr.entry (.pointer (some ⟨r, 0, none⟩))).run P w' = .ok (.tuple #[kE x, v]) w' := by
  obtain ⟨es, clock, since, seen, last, hb, hr, hsl, hold, hp, hl, hsc⟩ := h
  have hle : leftOf es seen = es.filter (fun e => !seen.contains e.born) := rfl
  rcases run_next_at (P := P) w ty r b since last seen es clock hr hb hold hsl with ⟨h0, hrun⟩ | ⟨e, he, w1, hw1, hrun⟩
  · left
    refine ⟨?_, hrun⟩
    have : (es.toList.filter (fun e => !seen.contains e.born)) = [] := by
      rw [← Array.toList_filter, ← hle]
      exact List.eq_nil_of_length_eq_zero (by simpa using h0)
    rw [this] at hl
    simpa using hl.symm
  · right
    have he' : e ∈ es.toList.filter (fun e => !seen.contains e.born) := by rw [← Array.toList_filter, ← hle]; exact he
    obtain ⟨s1, s2, hs⟩ := List.append_of_mem he'
    rw [hs, List.map_append, List.map_cons] at hl
    obtain ⟨l1, l3, rfl, hl1, hl3⟩ := List.map_eq_append_iff.1 hl.symm
    obtain ⟨⟨x, v⟩, l2, rfl, hx, hl2⟩ := List.map_eq_cons_iff.1 hl3
    simp only [Prod.mk.injEq] at hx
    obtain ⟨hx1, hx2⟩ := hx
    have hne : r ≠ b := fun e' => by subst e'; rw [hr] at hb; cases hb
    have hb1 : w1.heap[b]? = some (.map es clock) := by rcases hw1 with rfl | rfl <;> exact hb
    have hr1 : w1.heap[r]? = some (.mapIter (some b) since seen last) := by rcases hw1 with rfl | rfl <;> exact hr
    have hs1 : w1.heap.size = w.heap.size := by rcases hw1 with rfl | rfl <;> rfl
    have hrl : r < w1.heap.size := (Array.getElem?_eq_some_iff.1 hr1).1
    have hnd : (es.toList.map (·.born)).Nodup := hp.imp (fun h => Nat.ne_of_lt h)
    have g1 : (setBlock w1 r (.mapIter (some b) since (seen.push e.born) clock)).heap[b]? = some (.map es clock) := by
      simp only [setBlock, Array.getElem?_setIfInBounds]; rw [if_neg hne]; exact hb1
    have g2 : (setBlock w1 r (.mapIter (some b) since (seen.push e.born) clock)).heap[r]? = some (.mapIter (some b) since (seen.push e.born) clock) := by
      simp only [setBlock, Array.getElem?_setIfInBounds]; simp [hrl]
    refine ⟨l1, x, v, l2, setBlock w1 r (.mapIter (some b) since (seen.push e.born) clock), rfl, by rw [hrun, hx1, hx2], ⟨es, clock, since, _, clock, g1, g2, hsc, hold, hp, ?_, hsc⟩, ?_, by simp [setBlock, hs1], ?_⟩
    · have : es.toList.filter (fun e' => !(seen.push e.born).contains e'.born) = (es.toList.filter (fun e => !seen.contains e.born)).filter (fun e' => !(e'.born == e.born)) := by
        rw [List.filter_filter]
        refine List.filter_congr fun y _ => ?_
        by_cases hy : y.born = e.born <;> simp [hy]
      rw [this, hs, List.filter_append, List.filter_cons]
      have hnd2 : ((es.toList.filter (fun e => !seen.contains e.born)).map (·.born)).Nodup := hnd.sublist (List.filter_sublist.map _)
      rw [hs, List.map_append, List.map_cons, List.nodup_append] at hnd2
      obtain ⟨_, hn2, hn3⟩ := hnd2
      rw [List.nodup_cons] at hn2
      have f1 : s1.filter (fun e' => !(e'.born == e.born)) = s1 := List.filter_eq_self.2 fun y hy => by
        simp; exact hn3 _ (List.mem_map.2 ⟨_, hy, rfl⟩) _ (.head _)
      have f2 : s2.filter (fun e' => !(e'.born == e.born)) = s2 := List.filter_eq_self.2 fun y hy => by
        simp; exact fun e' => hn2.1 (e' ▸ List.mem_map.2 ⟨_, hy, rfl⟩)
      rw [f1, f2]
      simp [hl1, hl2]
    · refine ⟨?_, ?_, ?_, by simp [setBlock, hs1], fun i _ hi => ?_⟩
      · rcases hw1 with rfl | rfl <;> rfl
      · rcases hw1 with rfl | rfl <;> rfl
      · rcases hw1 with rfl | rfl <;> rfl
      · simp only [setBlock, Array.getElem?_setIfInBounds]
        rw [if_neg (fun e' => hi (by simp [e']))]
        rcases hw1 with rfl | rfl <;> rfl
    · rw [hx1, hx2]
      exact run_entry_at _ r b since seen es clock e g2 g1 (List.mem_filter.1 he').1 hnd
end
end Go.Np
