/- The tree, plain laws: what is known stays; the tip; what comes twice. -/
import Derived.Test.YtdfoalbkfdnmcaaTreeOp
set_option linter.unusedVariables false
set_option linter.unusedSimpArgs false
namespace Go.Np.Try
open Go.Proofs Go.Proofs.Ytdfoalbkfdnmcaa.PX
theorem Tr.settle_ext : ∀ (k : Nat) (t : Tr) (out : List Int), ∃ es, (Tr.settle k t out).1.known = t.known ++ es ∧ (Tr.settle k t out).2 = out ++ es.map (·.name)
  | 0, t, out => ⟨[], by simp [Tr.settle], by simp [Tr.settle]⟩
  | k + 1, t, out => by
    cases hf : t.wait.findIdx? t.ready with
    | none => rw [Tr.settle_none hf]; exact ⟨[], by simp, by simp⟩
    | some i =>
      have hi : i < t.wait.length := (List.findIdx?_eq_some_iff_getElem.1 hf).1
      rw [Tr.settle_some hf (List.getElem?_eq_getElem hi)]
      split
      · obtain ⟨es, h1, h2⟩ := Tr.settle_ext k ((⟨t.known, t.wait.eraseIdx i⟩ : Tr).grow t.wait[i]) (out ++ [nameB t.wait[i]])
        rw [h1, h2]
        exact ⟨⟨nameB t.wait[i], t.wait[i], (⟨t.known, t.wait.eraseIdx i⟩ : Tr).path t.wait[i].f3 ++ [nameB t.wait[i]]⟩ :: es, by simp [Tr.grow], by simp⟩
      · exact Tr.settle_ext k ⟨t.known, t.wait.eraseIdx i⟩ out
theorem Tr.add_ext (t : Tr) (b : Blk) : ∃ es, (t.add b).1.known = t.known ++ es ∧ (t.add b).2.1 = es.map (·.name) := by
  unfold Tr.add
  split
  · exact ⟨[], by simp, by simp⟩
  · split
    · exact ⟨[], by simp, by simp⟩
    · split
      · exact ⟨[], by simp, by simp⟩
      · obtain ⟨es, h1, h2⟩ := Tr.settle_ext (t.wait.length + 1) (t.grow b) [nameB b]
        simp only []
        rw [h1, h2]
        exact ⟨⟨nameB b, b, t.path b.f3 ++ [nameB b]⟩ :: es, by simp [Tr.grow], by simp⟩
section
variable {t s : Tr} {es : List Kn} {n : Int}
theorem Tr.find_ext (h : s.known = t.known ++ es) (hn : t.has n = true) : s.find n = t.find n := by
  unfold Tr.has at hn
  obtain ⟨e, he⟩ := Option.isSome_iff_exists.1 hn
  unfold Tr.find at he ⊢
  rw [h, List.find?_append, he]; rfl
theorem Tr.has_ext (h : s.known = t.known ++ es) (hn : t.has n = true) : s.has n = true := by
  unfold Tr.has
  rw [Tr.find_ext h hn]; exact hn
theorem Tr.path_ext (h : s.known = t.known ++ es) (hn : t.has n = true) : s.path n = t.path n := by
  unfold Tr.path
  rw [Tr.find_ext h hn]
theorem Tr.high_ext (h : s.known = t.known ++ es) (hn : t.has n = true) : s.high n = t.high n := by
  unfold Tr.high
  rw [Tr.path_ext h hn, Tr.has_ext h hn, hn]
end
theorem Tr.mem_names {t : Tr} {n : Int} : n ∈ t.names ↔ t.has n = true := by
  unfold Tr.names
  rw [uniq_mem, Tr.has_iff]
theorem Tr.high_has {t : Tr} {n : Int} (hO : t.Ok) (h : t.has n = true) : t.high n = ((t.path n).length : Int) := by
  unfold Tr.high
  rw [if_neg (fun e => by rw [e, hO.no_zero] at h; cases h), if_pos h]
theorem Tr.high_pos {t : Tr} {n : Int} (hO : t.Ok) (h : t.has n = true) : 1 ≤ t.high n := by
  rw [Tr.high_has hO h]
  unfold Tr.has at h
  obtain ⟨e, he⟩ := Option.isSome_iff_exists.1 h
  rw [hO.path_has he]
  simp; omega
/-! ### the tip -/
/-- u is no worse than y. -/
def Tr.better (t : Tr) (u y : Int) : Prop := t.high y < t.high u ∨ (t.high y = t.high u ∧ u ≤ y)
theorem Tr.better.trans {t : Tr} {a b c : Int} (h : t.better a b) (k : t.better b c) : t.better a c := by
  unfold Tr.better at *; omega
theorem Tr.better.refl (t : Tr) (a : Int) : t.better a a := .inr ⟨rfl, Int.le_refl _⟩
theorem Tr.low_better (t : Tr) (m y : Int) : (t.low m y = m ∨ t.low m y = y) ∧ t.better (t.low m y) m ∧ t.better (t.low m y) y := by
  unfold Tr.low
  by_cases h : t.cmp y m < 0
  · rw [if_pos h]
    rw [Tr.cmp_neg] at h
    refine ⟨.inr rfl, ?_, Tr.better.refl t y⟩
    unfold Tr.better; omega
  · rw [if_neg h]
    rw [Tr.cmp_neg] at h
    refine ⟨.inl rfl, Tr.better.refl t m, ?_⟩
    unfold Tr.better; omega
theorem Tr.fold_low (t : Tr) : ∀ (l : List Int) (x : Int), (l.foldl t.low x = x ∨ l.foldl t.low x ∈ l) ∧ t.better (l.foldl t.low x) x ∧ ∀ y ∈ l, t.better (l.foldl t.low x) y
  | [], x => ⟨.inl rfl, Tr.better.refl t x, by simp⟩
  | z :: l, x => by
    obtain ⟨h1, h2, h3⟩ := Tr.fold_low t l (t.low x z)
    obtain ⟨k1, k2, k3⟩ := t.low_better x z
    refine ⟨?_, h2.trans k2, ?_⟩
    · simp only [List.foldl_cons, List.mem_cons]
      rcases h1 with h1 | h1
      · rw [h1]; rcases k1 with k1 | k1
        · exact .inl k1
        · exact .inr (.inl k1)
      · exact .inr (.inr h1)
    · intro y hy
      rcases List.mem_cons.1 hy with rfl | hy
      · exact h2.trans k3
      · exact h3 y hy
theorem Tr.tip_spec {t : Tr} (h : t.names ≠ []) : t.tip ∈ t.names ∧ ∀ y ∈ t.names, t.better t.tip y := by
  unfold Tr.tip
  cases hn : t.names with
  | nil => exact absurd hn h
  | cons x l =>
    obtain ⟨h1, h2, h3⟩ := t.fold_low l x
    refine ⟨?_, ?_⟩
    · rcases h1 with h1 | h1
      · show l.foldl t.low x ∈ x :: l
        rw [h1]; simp
      · exact List.mem_cons_of_mem _ h1
    · intro y hy
      rcases List.mem_cons.1 hy with rfl | hy
      · exact h2
      · exact h3 y hy
theorem Tr.tip_empty {t : Tr} (h : t.names = []) : t.tip = 0 := by unfold Tr.tip; rw [h]; rfl
theorem Tr.tip_high {t : Tr} (hO : t.Ok) (n : Int) (hn : t.has n = true) : t.high n ≤ t.high t.tip := by
  have hm : n ∈ t.names := Tr.mem_names.2 hn
  have := (Tr.tip_spec (t := t) (fun e => by rw [e] at hm; cases hm)).2 n hm
  unfold Tr.better at this; omega
theorem Tr.tip_has {t : Tr} (h : t.names ≠ []) : t.has t.tip = true := Tr.mem_names.1 (Tr.tip_spec h).1
/-! ### TreeGrows -/
theorem Tr.grows_tip {t : Tr} (hG : t.Good) (b : Blk) : t.high t.tip ≤ (t.add b).1.high (t.add b).1.tip := by
  obtain ⟨es, h1, h2⟩ := t.add_ext b
  have hG' := Tr.add_good hG b
  by_cases h : t.names = []
  · rw [Tr.tip_empty h]
    have h0 : t.high 0 = 0 := by unfold Tr.high; simp
    rw [h0]
    by_cases h' : (t.add b).1.names = []
    · rw [Tr.tip_empty h']
      have : (t.add b).1.high 0 = 0 := by unfold Tr.high; simp
      omega
    · have := Tr.high_pos hG'.ok (Tr.tip_has h')
      omega
  · have h3 := Tr.tip_has h
    have := Tr.tip_high hG'.ok _ (Tr.has_ext h1 h3)
    rw [Tr.high_ext h1 h3] at this
    exact this
theorem Tr.grows_path {t : Tr} (hG : t.Good) (b : Blk) : (t.add b).1.path t.tip = t.path t.tip := by
  obtain ⟨es, h1, h2⟩ := t.add_ext b
  by_cases h : t.names = []
  · rw [Tr.tip_empty h, hG.ok.path_zero, (Tr.add_good hG b).ok.path_zero]
  · exact Tr.path_ext h1 (Tr.tip_has h)
theorem Tr.grows_len {t : Tr} (hG : t.Good) (b : Blk) : (t.add b).1.names.length = t.names.length + (t.add b).2.1.length := by
  obtain ⟨es, h1, h2⟩ := t.add_ext b
  rw [names_len hG.ok, names_len (Tr.add_good hG b).ok, h1, h2]
  simp
theorem Tr.grows_has {t : Tr} (b : Blk) {n : Int} (h : n ∈ t.names) : (t.add b).1.has n = true := by
  obtain ⟨es, h1, h2⟩ := t.add_ext b
  exact Tr.has_ext h1 (Tr.mem_names.1 h)
theorem Tr.add_twice {t : Tr} (hG : t.Good) (b : Blk) : (t.add b).1.add b = ((t.add b).1, [], false) := by
  by_cases h0 : nameB b = 0 ∨ t.has (nameB b) = true ∨ nameB b ∈ t.wait.map nameB
  · rw [Tr.add_refused h0]
    exact Tr.add_refused h0
  · simp only [not_or] at h0
    obtain ⟨a0, a1, a2⟩ := h0
    have ha := Tr.add_new a0 (by simpa using a1) a2
    by_cases hr : t.ready b = false
    · rw [if_pos hr] at ha
      rw [ha]
      refine Tr.add_refused (.inr (.inr ?_))
      refine List.mem_map.2 ⟨b, ?_, rfl⟩
      have hw := hG.wl
      show b ∈ (t.wait ++ [b]).drop (t.wait.length + 1 - 16)
      rw [List.drop_append_of_le_length (by omega)]
      simp
    · rw [if_neg hr] at ha
      by_cases hm : t.room = false
      · rw [if_pos hm] at ha
        rw [ha]
        exact ha
      · rw [if_neg hm] at ha
        obtain ⟨es, h1, h2⟩ := Tr.settle_ext (t.wait.length + 1) (t.grow b) [nameB b]
        rw [ha]
        refine Tr.add_refused (.inr (.inl ?_))
        refine Tr.has_ext h1 ?_
        rw [Tr.has_iff]
        simp [Tr.grow]
end Go.Np.Try
