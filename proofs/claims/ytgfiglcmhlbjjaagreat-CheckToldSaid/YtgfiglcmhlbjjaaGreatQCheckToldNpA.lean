/- What CheckTold needs. -/
import Derived.Maps.Own
import Derived.Maps.RangeRun
import Derived.Deep.Draws
import Derived.WalkKit
namespace Go.Np
open Go.RowKit Go.MapKept
open Go.ChangeMaps (setBlock heap_setBlock_same heap_setBlock_other)
structure Fr (S : List Nat) (w w' : World) : Prop where
  os : w'.os = w.os
  tape : w'.tape = w.tape
  output : w'.output = w.output
  size : w.heap.size ≤ w'.heap.size
  block : ∀ k, k < w.heap.size → k ∉ S → w'.heap[k]? = w.heap[k]?
theorem Fr.refl (S : List Nat) (w : World) : Fr S w w := ⟨rfl, rfl, rfl, Nat.le_refl _, fun _ _ _ => rfl⟩
theorem Fr.trans {S T : List Nat} {a b c : World} (h : Fr S a b) (k : Fr T b c) (hT : ∀ x ∈ T, x ∈ S ∨ a.heap.size ≤ x) : Fr S a c :=
  ⟨k.os.trans h.os, k.tape.trans h.tape, k.output.trans h.output, Nat.le_trans h.size k.size, fun i hi hn =>
    (k.block i (Nat.lt_of_lt_of_le hi h.size) (fun hm => (hT i hm).elim hn (fun h1 => by omega))).trans (h.block i hi hn)⟩
theorem Fr.mono {S T : List Nat} {a b : World} (h : Fr S a b) (hS : ∀ x ∈ S, x ∈ T ∨ a.heap.size ≤ x) : Fr T a b :=
  ⟨h.os, h.tape, h.output, h.size, fun i hi hn => h.block i hi (fun hm => (hS i hm).elim hn (fun h1 => by omega))⟩
theorem Fr.drew {S : List Nat} {a w : World} (h : Fr S a w) : Fr S a w.drew := ⟨h.os, h.tape, h.output, h.size, h.block⟩
theorem Fr.drewN {S : List Nat} {a w : World} (h : Fr S a w) (n : Nat) : Fr S a (w.drewN n) := ⟨h.os, h.tape, h.output, h.size, h.block⟩
theorem Fr.alloc {S : List Nat} {a w : World} (h : Fr S a w) (o : Obj) : Fr S a (w.alloc o) :=
  ⟨h.os, h.tape, h.output, Nat.le_trans h.size (by simp), fun k hk hn => by
    rw [Below.heap_alloc _ _ _ (Nat.lt_of_lt_of_le hk h.size)]; exact h.block k hk hn⟩
theorem Fr.setCell {S : List Nat} {a w : World} (h : Fr S a w) {p : Addr} (hp : p.block ∈ S ∨ a.heap.size ≤ p.block) (u : Value) : Fr S a (w.setCell p u) :=
  ⟨h.os, h.tape, h.output, Nat.le_trans h.size (by simp [World.setCell]), fun k hk hn => by
    rw [Below.heap_setCell _ _ _ _ (fun e => hp.elim (fun h1 => hn (by rw [e]; exact h1)) (fun h1 => by omega))]; exact h.block k hk hn⟩
theorem Fr.below {w w' : World} (h : Fr [] w w') : Below w.heap.size w w' := ⟨h.os, h.tape, h.output, h.size, fun k hk => h.block k hk (by simp)⟩
theorem Fr.of_below {w w' : World} (S : List Nat) (h : Below w.heap.size w w') : Fr S w w' := ⟨h.os, h.tape, h.output, h.size, fun k hk _ => h.block k hk⟩
theorem Fr.grown {w w' : World} {row : Option Nat} (S : List Nat) (h : w.grownBy w' row) (hr : ∀ k, row = some k → k ∈ S ∨ w.heap.size ≤ k) : Fr S w w' :=
  ⟨h.os, h.tape, h.output, h.size, fun k hk hn => h.block k hk (fun e => (hr k e.symm).elim hn (fun h1 => by omega))⟩
theorem Fr.cell {S : List Nat} {w w' : World} (h : Fr S w w') {p : Addr} (hb : p.block < w.heap.size) (hn : p.block ∉ S) : w'.cell? p = w.cell? p := World.cell?_of_block (w := w) (h.block p.block hb hn)
theorem calls_k {P : Program} {f : FuncId} {args : Array Value} {w : World} {Q : Ending → World → Prop} (h : ∀ R : Ending → World → Prop, Hid (∀ e w', Q e w' → R e w') → Calls P f args w R) : Calls P f args w Q := h Q (fun _ _ h => h)
section
variable {κ ν : Type} [DecidableEq κ]
def alook : List (κ × ν) → κ → Option ν
  | [], _ => none
  | (a, v) :: l, k => if a = k then some v else alook l k
def aput : List (κ × ν) → κ → ν → List (κ × ν)
  | [], k, v => [(k, v)]
  | (a, u) :: l, k, v => if a = k then (a, v) :: l else (a, u) :: aput l k v
theorem alook_none {m : List (κ × ν)} {k : κ} : alook m k = none ↔ ∀ p ∈ m, p.1 ≠ k := by
  induction m with
  | nil => simp [alook]
  | cons p l ih => obtain ⟨a, v⟩ := p; by_cases h : a = k <;> simp [alook, h, ih]
theorem alook_mem {m : List (κ × ν)} {k : κ} {v : ν} (h : alook m k = some v) : (k, v) ∈ m := by
  induction m with
  | nil => simp [alook] at h
  | cons p l ih =>
    obtain ⟨a, u⟩ := p
    by_cases e : a = k
    · subst e; simp [alook] at h; simp [h]
    · simp [alook, e] at h; exact .tail _ (ih h)
theorem alook_of_mem {m : List (κ × ν)} (hn : (m.map (·.1)).Nodup) {k : κ} {v : ν} (h : (k, v) ∈ m) : alook m k = some v := by
  induction m with
  | nil => simp at h
  | cons p l ih =>
    obtain ⟨a, u⟩ := p
    simp only [List.map_cons, List.nodup_cons] at hn
    rcases List.mem_cons.1 h with e | e
    · cases e; simp [alook]
    · have hne : a ≠ k := fun e' => by subst e'; exact hn.1 (List.mem_map.2 ⟨_, e, rfl⟩)
      simp [alook, hne, ih hn.2 e]
theorem alook_aput (m : List (κ × ν)) (k j : κ) (v : ν) : alook (aput m k v) j = if k = j then some v else alook m j := by
  induction m with
  | nil => by_cases h : k = j <;> simp [aput, alook, h]
  | cons p l ih =>
    obtain ⟨a, u⟩ := p
    by_cases h : a = k
    · subst h; by_cases h2 : a = j <;> simp [aput, alook, h2]
    · by_cases h2 : a = j
      · subst h2; simp [aput, alook, h, Ne.symm h]
      · simp [aput, alook, h, h2, ih]
theorem aput_keys (m : List (κ × ν)) (k : κ) (v : ν) : (aput m k v).map (·.1) = if k ∈ m.map (·.1) then m.map (·.1) else m.map (·.1) ++ [k] := by
  induction m with
  | nil => simp [aput]
  | cons p l ih =>
    obtain ⟨a, u⟩ := p
    by_cases h : a = k
    · subst h; simp [aput]
    · simp only [aput, h, if_false, List.map_cons, ih, List.mem_cons, Ne.symm h, false_or]
      split <;> simp
theorem aput_nodup {m : List (κ × ν)} (hn : (m.map (·.1)).Nodup) (k : κ) (v : ν) : ((aput m k v).map (·.1)).Nodup := by
  rw [aput_keys]
  split
  · exact hn
  · rename_i h; rw [List.nodup_append]; exact ⟨hn, by simp, fun a ha b hb => by rw [List.mem_singleton.1 hb]; exact fun e => h (e ▸ ha)⟩
theorem aput_new {m : List (κ × ν)} {k : κ} (h : alook m k = none) (v : ν) : aput m k v = m ++ [(k, v)] := by
  induction m with
  | nil => rfl
  | cons p l ih =>
    obtain ⟨a, u⟩ := p
    by_cases e : a = k
    · simp [alook, e] at h
    · simp only [alook, e, if_false] at h; simp [aput, e, ih h]
end
structure KeyOk {κ : Type} (P : Program) (k : TypeId) (kE : κ → Value) : Prop where
  inj : ∀ {a b}, kE a = kE b → a = b
  check : ∀ (w : World) (em : Bool) (a : κ), (Instr.checkKey em 10000 k (kE a)).run P w = .ok () w
  find : ∀ (w : World) (a : κ) (es : List MapEntry), (∀ e ∈ es, ∃ b, e.key = kE b) →
    ((Instr.findKey k (kE a) es).run P w = .ok none w ∧ ∀ e ∈ es, e.key ≠ kE a) ∨ ∃ j e, (Instr.findKey k (kE a) es).run P w = .ok (some (j, e.val)) w ∧ es[j]? = some e ∧ e.key = kE a
  stays : ∀ (w : World) (a : κ), (Instr.keyThatStays (kE a) (kE a)).run P w = .ok (kE a) w
theorem keyOk_plain {κ : Type} {P : Program} {k : TypeId} {kE : κ → Value} {d : TypeDesc} (hk : P.underlying k = some d) (hd : ∀ a, IsKey d (kE a)) (inj : ∀ {a b}, kE a = kE b → a = b) : KeyOk P k kE where
  inj := inj
  check w em a := run_checkKey hk (hd a) em 9999
  find w a es hes := by
    have hks : ∀ y ∈ es, IsKey d y.key := fun y hy => by obtain ⟨b, hb⟩ := hes y hy; rw [hb]; exact hd b
    rcases findNow_spec (hd a) es 0 hks with ⟨h1, h2⟩ | ⟨j, e0, h1, h2, h3⟩
    · exact .inl ⟨run_findKey hk h1, h2⟩
    · exact .inr ⟨j, e0, by simpa using run_findKey hk h1, h2, h3⟩
  stays w a := run_keyThatStays (hd a)
theorem keyOk_int {P : Program} {k : TypeId} {q : IntKind} (hk : P.underlying k = some (.int q)) : KeyOk P k (fun a : Int => Value.int q a) :=
  keyOk_plain hk (fun a => by simp [IsKey]) (fun h => by injection h)
section
set_option linter.unusedSectionVars false
variable {κ : Type} [DecidableEq κ] {P : Program} {k : TypeId} {kE : κ → Value} {w : World} {b : Nat} {m : List (κ × Value)}
def MapIs (kE : κ → Value) (w : World) (b : Nat) (m : List (κ × Value)) : Prop :=
  ∃ es clock, w.heap[b]? = some (.map es clock) ∧ es.toList.map (fun e => (e.key, e.val)) = m.map (fun p => (kE p.1, p.2)) ∧
    (es.toList.map (·.born)).Pairwise (· < ·) ∧ (∀ e ∈ es.toList, e.born < clock) ∧ (m.map (·.1)).Nodup
theorem MapIs.lt (h : MapIs kE w b m) : b < w.heap.size := by
  obtain ⟨es, clock, hb, _⟩ := h
  exact (Array.getElem?_eq_some_iff.1 hb).1
theorem MapIs.move {w' : World} (h : MapIs kE w b m) (hb : w'.heap[b]? = w.heap[b]?) : MapIs kE w' b m := by
  obtain ⟨es, clock, h1, h2⟩ := h
  exact ⟨es, clock, hb.trans h1, h2⟩
theorem MapIs.fr {w' : World} {S : List Nat} (h : MapIs kE w b m) (hf : Fr S w w') (hn : b ∉ S) : MapIs kE w' b m := h.move (hf.block b h.lt hn)
theorem MapIs.alloc (h : MapIs kE w b m) (o : Obj) : MapIs kE (w.alloc o) b m := h.move (Below.heap_alloc _ _ _ h.lt)
theorem MapIs.setCell (h : MapIs kE w b m) {p : Addr} (hp : b ≠ p.block) (u : Value) : MapIs kE (w.setCell p u) b m := h.move (Below.heap_setCell _ _ _ _ hp)
theorem MapIs.made (w : World) : MapIs kE (w.alloc (.map #[] 0)) w.heap.size ([] : List (κ × Value)) :=
  ⟨#[], 0, (heap_alloc w _).1, rfl, by simp, by simp, by simp⟩
theorem alook_entries (K : KeyOk P k kE) {es : List MapEntry} {m : List (κ × Value)} (h : es.map (fun e => (e.key, e.val)) = m.map (fun p => (kE p.1, p.2))) (a : κ) :
    ((∀ e ∈ es, e.key ≠ kE a) → alook m a = none) ∧ ∀ (j : Nat) (e : MapEntry), (m.map (·.1)).Nodup → es[j]? = some e → e.key = kE a → alook m a = some e.val := by
  constructor
  · intro hne
    rw [alook_none]
    rintro ⟨x, v⟩ hp rfl
    have : (kE x, v) ∈ es.map (fun e => (e.key, e.val)) := by rw [h]; exact List.mem_map.2 ⟨_, hp, rfl⟩
    obtain ⟨e, he, hh⟩ := List.mem_map.1 this
    simp only [Prod.mk.injEq] at hh
    exact hne e he hh.1
  · intro j e hn hj hk
    have hm : (e.key, e.val) ∈ m.map (fun p => (kE p.1, p.2)) := by rw [← h]; exact List.mem_map.2 ⟨_, List.mem_of_getElem? hj, rfl⟩
    obtain ⟨⟨x, v⟩, hp, hh⟩ := List.mem_map.1 hm
    simp only [Prod.mk.injEq] at hh
    obtain rfl : x = a := K.inj (hh.1.trans hk)
    rw [← hh.2]
    exact alook_of_mem hn hp
theorem keys_entries {es : List MapEntry} {m : List (κ × Value)} (h : es.map (fun e => (e.key, e.val)) = m.map (fun p => (kE p.1, p.2))) : ∀ e ∈ es, ∃ b, e.key = kE b := by
  intro e he
  have hm : (e.key, e.val) ∈ m.map (fun p => (kE p.1, p.2)) := by rw [← h]; exact List.mem_map.2 ⟨_, he, rfl⟩
  obtain ⟨⟨x, v⟩, _, hh⟩ := List.mem_map.1 hm
  simp only [Prod.mk.injEq] at hh
  exact ⟨x, hh.1.symm⟩
theorem getMap {P : Program} {w : World} {r : Nat} {es : Array MapEntry} {clock : Nat} (hb : w.heap[r]? = some (.map es clock)) : (getObj r).run P w = .ok (.map es clock) w := by
  simp [getObj, Sem.run, hb]
theorem MapIs.run_lookup (h : MapIs kE w b m) (K : KeyOk P k kE) {t e : TypeId} (ht : P.underlying t = some (.map k e)) {z : Value} (hz : (zeroValue e).run P w = .ok z w) (a : κ) (c : Bool) :
    (Instr.lookup t (.map (some b)) (kE a) c).run P w = .ok (if c then .tuple #[(alook m a).getD z, .bool (alook m a).isSome] else (alook m a).getD z) w := by
  obtain ⟨es, clock, hb, hm, _, _, hn⟩ := h
  obtain ⟨l1, l2⟩ := alook_entries K hm a
  rcases K.find w a es.toList (keys_entries hm) with ⟨h1, h2⟩ | ⟨j, e0, h1, h2, h3⟩
  · rw [l1 h2]
    cases c <;> simp [Instr.lookup, run_underlying ht, getMap hb, K.check, h1, hz, Result.andThen]
  · rw [l2 j e0 hn h2 h3]
    cases c <;> simp [Instr.lookup, run_underlying ht, getMap hb, K.check, h1, Result.andThen]
end
end Go.Np
