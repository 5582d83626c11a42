/- The tree, plain: what Add keeps; slices.Contains. -/
import Derived.Test.YtdfoalbkfdnmcaaTreeT
set_option linter.unusedVariables false
set_option linter.unusedSimpArgs false
namespace Go.Np.Try
open Go.RowKit Go.Proofs Go.Proofs.Ytdfoalbkfdnmcaa.PX Go.Proofs.YtdfoalbkfdnmcaaW.PrintWords
/-- Ok, and small. -/
structure Tr.Good (t : Tr) : Prop where
  ok : t.Ok
  wl : t.wait.length ≤ 16
  short : ∀ e ∈ t.known, e.way.length ≤ t.known.length
theorem Tr.Good.path {t : Tr} (h : t.Good) (n : Int) : (t.path n).length ≤ t.known.length := by
  unfold Tr.path
  cases hf : t.find n with
  | none => simp
  | some e => exact h.short e (Tr.find_some hf).1
theorem Tr.Good.path400 {t : Tr} (h : t.Good) (n : Int) : (t.path n).length ≤ 400 := Nat.le_trans (h.path n) h.ok.few
theorem Tr.find_known {t s : Tr} (h : t.known = s.known) (n : Int) : t.find n = s.find n := by unfold Tr.find; rw [h]
theorem Tr.has_known {t s : Tr} (h : t.known = s.known) (n : Int) : t.has n = s.has n := by unfold Tr.has; rw [Tr.find_known h]
theorem Tr.path_known {t s : Tr} (h : t.known = s.known) (n : Int) : t.path n = s.path n := by unfold Tr.path; rw [Tr.find_known h]
theorem Tr.high_known {t s : Tr} (h : t.known = s.known) (n : Int) : t.high n = s.high n := by unfold Tr.high; rw [Tr.has_known h, Tr.path_known h]
theorem Tr.ready_known {t s : Tr} (h : t.known = s.known) (b : Blk) : t.ready b = s.ready b := by unfold Tr.ready; rw [Tr.has_known h]
/-- Other waiting ones. -/
theorem Tr.Good.wait {t : Tr} (h : t.Good) (l : List Blk) (hn : (l.map nameB).Nodup) (hd : ∀ b ∈ l, nameB b ≠ 0 ∧ nameB b ∉ t.known.map (·.name)) (hl : l.length ≤ 16) : (⟨t.known, l⟩ : Tr).Good := by
  have hk : (⟨t.known, l⟩ : Tr).known = t.known := rfl
  refine ⟨⟨?_, ?_, fun b hb => (hd b hb).1, h.ok.few⟩, hl, h.short⟩
  · have h1 := h.ok.nodup
    rw [List.nodup_append] at h1 ⊢
    refine ⟨h1.1, hn, fun x hx y hy => ?_⟩
    obtain ⟨b, hb, rfl⟩ := List.mem_map.1 hy
    intro he
    exact (hd b hb).2 (he ▸ hx)
  · intro e he
    obtain ⟨a1, a2, a3, a4⟩ := h.ok.known e he
    exact ⟨a1, a2, a3.imp id (fun x => by rw [Tr.has_known hk]; exact x), by rw [Tr.path_known hk]; exact a4⟩
theorem Tr.Good.waits {t : Tr} (h : t.Good) : (t.wait.map nameB).Nodup ∧ ∀ b ∈ t.wait, nameB b ≠ 0 ∧ nameB b ∉ t.known.map (·.name) := by
  have h1 := h.ok.nodup
  rw [List.nodup_append] at h1
  exact ⟨h1.2.1, fun b hb => ⟨h.ok.wait b hb, fun hm => h1.2.2 _ hm _ (List.mem_map.2 ⟨b, hb, rfl⟩) rfl⟩⟩
theorem Tr.Good.erase {t : Tr} (h : t.Good) (i : Nat) : (⟨t.known, t.wait.eraseIdx i⟩ : Tr).Good := by
  obtain ⟨h1, h2⟩ := h.waits
  refine h.wait _ ((h1.sublist ((List.eraseIdx_sublist _ _).map _))) (fun b hb => h2 b (List.mem_of_mem_eraseIdx hb)) (Nat.le_trans (List.length_eraseIdx_le _ _) h.wl)
theorem Tr.Good.push {t : Tr} (h : t.Good) {b : Blk} (hb : nameB b ≠ 0) (hk : t.has (nameB b) = false) (hw : nameB b ∉ t.wait.map nameB) : (⟨t.known, (t.wait ++ [b]).drop (t.wait.length + 1 - 16)⟩ : Tr).Good := by
  obtain ⟨h1, h2⟩ := h.waits
  have hk' : nameB b ∉ t.known.map (·.name) := by rw [← Tr.has_iff, hk]; simp
  refine h.wait _ (List.Nodup.sublist ((List.drop_sublist _ _).map _) ?_) (fun c hc => ?_) ?_
  · rw [List.map_append, List.nodup_append]
    refine ⟨h1, by simp, fun x hx y hy => ?_⟩
    simp at hy
    subst hy
    intro he; subst he; exact hw hx
  · rcases List.mem_append.1 (List.mem_of_mem_drop hc) with hc | hc
    · exact h2 c hc
    · have : c = b := by simpa using hc
      rw [this]; exact ⟨hb, hk'⟩
  · have := h.wl
    rw [List.length_drop, List.length_append]
    simp only [List.length_cons, List.length_nil]
    omega
theorem Tr.Good.grow {t : Tr} (h : t.Good) {b : Blk} (hn : nameB b ≠ 0) (hr : t.ready b = true) (hk : t.has (nameB b) = false) (hw : nameB b ∉ t.wait.map nameB) (hm : t.room = true) : (t.grow b).Good := by
  have hm' : t.known.length < 400 := by simpa [Tr.room] using hm
  refine ⟨h.ok.grow hn hr hk hw hm', h.wl, fun e he => ?_⟩
  have hl : (t.grow b).known.length = t.known.length + 1 := by simp [Tr.grow]
  rw [hl]
  have he' : e ∈ t.known ∨ e = ⟨nameB b, b, t.path b.f3 ++ [nameB b]⟩ := by simpa [Tr.grow] using he
  rcases he' with he' | rfl
  · exact Nat.le_succ_of_le (h.short e he')
  · have := h.path b.f3
    simp; omega
/-- What is taken out of the queue. -/
theorem Tr.Good.taken {t : Tr} (h : t.Good) {i : Nat} {b : Blk} (hb : t.wait[i]? = some b) : nameB b ≠ 0 ∧ t.has (nameB b) = false ∧ nameB b ∉ (t.wait.eraseIdx i).map nameB := by
  obtain ⟨h1, h2⟩ := h.waits
  have hm := List.mem_of_getElem? hb
  refine ⟨(h2 b hm).1, ?_, ?_⟩
  · rw [← Bool.not_eq_true, Tr.has_iff]; exact (h2 b hm).2
  · intro hc
    have hi := (List.getElem?_eq_some_iff.1 hb).1
    have e : t.wait = t.wait.take i ++ b :: t.wait.drop (i + 1) := by
      conv => lhs; rw [← List.take_append_drop i t.wait]
      rw [List.drop_eq_getElem_cons hi, (List.getElem?_eq_some_iff.1 hb).2]
    rw [List.eraseIdx_eq_take_drop_succ] at hc
    rw [e, List.map_append, List.map_cons, List.nodup_append] at h1
    obtain ⟨n1, n2, n3⟩ := h1
    rw [List.map_append, List.mem_append] at hc
    rcases hc with hc | hc
    · exact n3 _ hc (nameB b) (by simp) rfl
    · exact (List.nodup_cons.1 n2).1 hc
/-- One step of settling. -/
theorem Tr.settle_none {k : Nat} {t : Tr} {out : List Int} (h : t.wait.findIdx? t.ready = none) : Tr.settle (k + 1) t out = (t, out) := by
  unfold Tr.settle; rw [h]
theorem Tr.settle_some {k i : Nat} {t : Tr} {out : List Int} {b : Blk} (h : t.wait.findIdx? t.ready = some i) (hb : t.wait[i]? = some b) : Tr.settle (k + 1) t out =
    if (⟨t.known, t.wait.eraseIdx i⟩ : Tr).room then Tr.settle k ((⟨t.known, t.wait.eraseIdx i⟩ : Tr).grow b) (out ++ [nameB b]) else Tr.settle k ⟨t.known, t.wait.eraseIdx i⟩ out := by
  conv => lhs; unfold Tr.settle
  rw [h]
  simp only [List.getD_eq_getElem?_getD, hb, Option.getD_some]
theorem Tr.ready_at {t : Tr} {i : Nat} {b : Blk} (h : t.wait.findIdx? t.ready = some i) (hb : t.wait[i]? = some b) : t.ready b = true := by
  rw [List.findIdx?_eq_some_iff_getElem] at h
  obtain ⟨hi, h1, _⟩ := h
  rw [(List.getElem?_eq_some_iff.1 hb).2] at h1
  exact h1
theorem Tr.settle_good : ∀ (k : Nat) (t : Tr) (out : List Int), t.Good → (Tr.settle k t out).1.Good
  | 0, t, out, h => h
  | k + 1, t, out, h => by
    cases hf : t.wait.findIdx? t.ready with
    | none => rw [Tr.settle_none hf]; exact h
    | some i =>
      have hi : i < t.wait.length := (List.findIdx?_eq_some_iff_getElem.1 hf).1
      have hb := List.getElem?_eq_getElem hi
      rw [Tr.settle_some hf hb]
      obtain ⟨a1, a2, a3⟩ := h.taken hb
      have he := h.erase i
      split
      · rename_i hr
        exact Tr.settle_good k _ _ (he.grow a1 ((Tr.ready_known (s := t) rfl _).trans (Tr.ready_at hf hb)) ((Tr.has_known (s := t) rfl _).trans a2) a3 hr)
      · exact Tr.settle_good k _ _ he
theorem Tr.add_good {t : Tr} (h : t.Good) (b : Blk) : (t.add b).1.Good := by
  unfold Tr.add
  split
  · exact h
  · rename_i h0
    have h0' : nameB b ≠ 0 ∧ t.has (nameB b) = false ∧ nameB b ∉ t.wait.map nameB := by
      refine ⟨fun e => h0 (.inl e), ?_, fun e => h0 (.inr (.inr e))⟩
      rw [← Bool.not_eq_true]; exact fun e => h0 (.inr (.inl e))
    split
    · exact h.push h0'.1 h0'.2.1 h0'.2.2
    · rename_i hr
      split
      · exact h
      · rename_i hm
        exact Tr.settle_good _ _ _ (h.grow h0'.1 (by simpa using hr) h0'.2.1 h0'.2.2 (by simpa using hm))
theorem Tr.empty_good : (⟨[], []⟩ : Tr).Good := ⟨⟨by simp, by simp, by simp, by simp⟩, by simp, by simp⟩
/-! ### slices.Contains -/
theorem index_ev (l : List Int) (x : Int) (hl : l.length < 1000000000) : ∀ (n j : Nat), j + n = l.length → (∀ i, i < j → l.getD i 0 ≠ x) → ∀ k, n + 1 ≤ k → ∃ r, slices_Index_int_int.l0 k l x (l.length : Int) (j : Int) = some r ∧ (r ≥ 0 ↔ x ∈ l)
  | 0, j, hj, hp, k, hk => by
    obtain ⟨k, rfl⟩ : ∃ j, k = j + 1 := ⟨k - 1, by omega⟩
    unfold slices_Index_int_int.l0
    rw [if_neg (by omega)]
    refine ⟨_, rfl, ⟨fun h => absurd h (by decide), fun h => ?_⟩⟩
    obtain ⟨i, hi, he⟩ := List.mem_iff_getElem.1 h
    exact absurd (by simp [List.getD_eq_getElem?_getD, hi, he]) (hp i (by omega))
  | n + 1, j, hj, hp, k, hk => by
    obtain ⟨k, rfl⟩ : ∃ j, k = j + 1 := ⟨k - 1, by omega⟩
    unfold slices_Index_int_int.l0
    rw [if_pos (by omega), if_pos (by omega), if_pos (by omega)]
    have hrd : rd l (j : Int) = l.getD j 0 := by simp [rd]
    rw [hrd]
    by_cases h : x = l.getD j 0
    · rw [if_pos h]
      refine ⟨_, rfl, ⟨fun _ => ?_, fun _ => by omega⟩⟩
      rw [h, List.getD_eq_getElem?_getD, List.getElem?_eq_getElem (show j < l.length by omega)]
      exact List.getElem_mem _
    · rw [if_neg h, wr_in _ (by omega)]
      exact index_ev l x hl n (j + 1) (by omega) (fun i hi => by
        by_cases he : i = j
        · subst he; exact fun e => h e.symm
        · exact hp i (by omega)) k (by omega)
theorem contains_calls {w : World} {v : Value} {l : List Int} (x : Int) (h : SlI w v l) (hl : l.length < 1000000000) :
    Calls Try.prog 46 #[v, .int .i64 x] w fun e w' => e = .returned (.bool (decide (x ∈ l))) ∧ Fr [] w w' := by
  obtain ⟨A, c, rfl, hc, hC⟩ := h
  obtain ⟨r, h1, h2⟩ := index_ev l x hl l.length 0 (by omega) (by simp) (l.length + 1) (by omega)
  have hf : slices_Contains_int_int.f (l.length + 1) l x = some (decide (x ∈ l)) := by
    unfold slices_Contains_int_int.f slices_Index_int_int.f
    rw [show slices_Index_int_int.l0 (l.length + 1) l x (l.length : Int) 0 = some r from h1]
    simp only [Option.bind_some, h2]
  refine (slices_Contains_int_int.calls (l.length + 1) A c l x _ w hC hc hf).mono ?_
  rintro e w' ⟨rfl, hd⟩
  exact ⟨rfl, Fr.of_below [] hd.below⟩
end Go.Np.Try
