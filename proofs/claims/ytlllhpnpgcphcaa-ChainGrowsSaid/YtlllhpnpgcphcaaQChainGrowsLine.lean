/- A text that the row of ChainGrows needs. (Pruned by tools/prune.py.) -/
import Derived.Test.YtlllhpnpgcphcaaQChainGrowsLotC
set_option linter.unusedVariables false
set_option linter.unusedSimpArgs false
namespace Go.Np.Try
open Go.RowKit Go.Proofs Go.Proofs.Ytlllhpnpgcphcaa.PX Go.Proofs.YtlllhpnpgcphcaaW.PrintWords
structure Tr.Line (t : Tr) (k : Nat) (u : Int) : Prop where
  good : t.Good
  wait : t.wait = []
  cnt : t.known.length = k
  way : (t.path t.tip).length = k
  old : ∀ n, t.has n = true → n < u * 65536
theorem Tr.Line.empty (u : Int) : (⟨[], []⟩ : Tr).Line 0 u := by
  refine ⟨Tr.empty_good, rfl, rfl, ?_, fun n hn => ?_⟩
  · simp [Tr.path, Tr.find]
  · simp [Tr.has, Tr.find] at hn
theorem Tr.Line.more {t : Tr} {k : Nat} {u u' : Int} (h : t.Line k u) (hu : u ≤ u') : t.Line k u' :=
  ⟨h.good, h.wait, h.cnt, h.way, fun n hn => by have := h.old n hn; omega⟩
theorem Tr.Line.tip0 {t : Tr} {k : Nat} {u : Int} (h : t.Line k u) : (t.tip = 0 ∧ k = 0) ∨ (t.has t.tip = true ∧ namedB t.tip = true ∧ t.tip < u * 65536) := by
  by_cases hn : t.names = []
  · have h0 := Tr.tip_empty hn
    have := h.way
    rw [h0, h.good.ok.path_zero] at this
    exact .inl ⟨h0, this.symm⟩
  · have h1 := Tr.tip_has hn
    obtain ⟨e, he⟩ := Tr.has_find h1
    obtain ⟨h2, h3⟩ := Tr.find_some he
    obtain ⟨g1, g2, _⟩ := h.good.ok.known e h2
    have h4 := (name_parts (b := e.blk) (by rw [← g1]; exact g2)).2.2
    rw [← g1, h3] at h4
    exact .inr ⟨h1, h4, h.old _ h1⟩
theorem Tr.Line.high {t : Tr} {k : Nat} {u : Int} (h : t.Line k u) : t.high t.tip = (k : Int) := by
  rcases h.tip0 with ⟨h0, hk⟩ | ⟨h1, _⟩
  · rw [h0, hk]; unfold Tr.high; simp
  · rw [Tr.high_has h.good.ok h1, h.way]
theorem wins_parts {dr : List Int} {s m : Int} (h : winsB dr s m = true) : 1 ≤ s ∧ s ≤ (dr.length : Int) ∧ 0 ≤ m ∧ m < 7 := by
  simp only [winsB, Bool.and_eq_true, decide_eq_true_eq] at h
  omega
section
variable {C : Ch} {k : Nat} {m : Int}
def lineB (C : Ch) (m : Int) : Blk := ⟨C.slot, m, 0, C.t.tip, []⟩
theorem line_right (h : C.t.Line k C.slot) (hs : C.dr.length ≤ 200) (hw : winsB C.dr C.slot m = true) : slotN C.t.tip < C.slot ∧ rightB (lineB C m) = true := by
  obtain ⟨w1, w2, w3, w4⟩ := wins_parts hw
  rcases h.tip0 with ⟨h0, _⟩ | ⟨_, h2, h3⟩
  · refine ⟨?_, ?_⟩
    · rw [h0]; have : slotN 0 = 0 := by decide
      omega
    · simp only [rightB, lineB, h0, Bool.and_eq_true, decide_eq_true_eq, Bool.or_eq_true]
      and_intros
      all_goals first | omega | rfl | exact .inl rfl | exact .inl trivial
  · refine ⟨?_, ?_⟩
    · unfold slotN; rw [if_pos h2]; omega
    · simp only [rightB, lineB, h2, Bool.and_eq_true, decide_eq_true_eq, Bool.or_eq_true]
      and_intros
      all_goals first | omega | rfl | exact decide_eq_true (by omega) | exact Or.inr ⟨trivial, by omega⟩ | exact Or.inr ⟨rfl, by omega⟩ | exact Or.inr ⟨rfl, decide_eq_true (by omega)⟩ | exact Or.inr ⟨trivial, decide_eq_true (by omega)⟩ | (trace_state; fail)
theorem line_make (h : C.t.Line k C.slot) (hs : C.dr.length ≤ 200) (hw : winsB C.dr C.slot m = true) : C.make m [] = (lineB C m, true) := by
  obtain ⟨h1, h2⟩ := line_right h hs hw
  have e : C.blk m [] = lineB C m := rfl
  unfold Ch.make
  rw [e, if_pos ⟨hw, h1, h2⟩]
theorem line_name (h : C.t.Line k C.slot) (hs : C.dr.length ≤ 200) (hw : winsB C.dr C.slot m = true) : nameB (lineB C m) = C.slot * 65536 + m * 256 := by
  unfold nameB
  rw [if_pos (line_right h hs hw).2]
  show C.slot * 65536 + m * 256 + 0 = _
  omega
def lineC (C : Ch) (m : Int) : Ch := ⟨C.t.grow (lineB C m), C.dr, C.deep, C.slot⟩
theorem line_ready (h : C.t.Line k C.slot) : C.t.ready (lineB C m) = true := by
  unfold Tr.ready
  show (decide (C.t.tip = 0) || C.t.has C.t.tip) = true
  rcases h.tip0 with ⟨h0, _⟩ | ⟨h1, _⟩
  · simp [h0]
  · simp [h1]
theorem line_new (h : C.t.Line k C.slot) (hs : C.dr.length ≤ 200) (hw : winsB C.dr C.slot m = true) : C.t.has (nameB (lineB C m)) = false ∧ nameB (lineB C m) ≠ 0 ∧ nameB (lineB C m) < (C.slot + 1) * 65536 := by
  have hn := line_name h hs hw
  obtain ⟨w1, w2, w3, w4⟩ := wins_parts hw
  refine ⟨?_, by omega, by omega⟩
  cases hh : C.t.has (nameB (lineB C m)) with
  | false => rfl
  | true => have := h.old _ hh; omega
theorem line_take (h : C.t.Line k C.slot) (hs : C.dr.length ≤ 200) (hk : k < 400) (hw : winsB C.dr C.slot m = true) : C.take (lineB C m) = (lineC C m, [nameB (lineB C m)], 0) := by
  obtain ⟨h1, h2⟩ := line_right h hs hw
  obtain ⟨n1, n2, n3⟩ := line_new h hs hw
  have hr : C.t.room = true := by unfold Tr.room; rw [h.cnt]; exact decide_eq_true hk
  have hadd : C.t.add (lineB C m) = (C.t.grow (lineB C m), [nameB (lineB C m)], true) := by
    rw [Tr.add_new n2 n1 (by rw [h.wait]; simp), if_neg (by rw [line_ready h]; simp), if_neg (by rw [hr]; simp)]
    have h0 : (C.t.grow (lineB C m)).wait = [] := h.wait
    have h9 := Tr.settle_none (k := 0) (t := C.t.grow (lineB C m)) (out := [nameB (lineB C m)]) (by rw [h0]; rfl)
    rw [h.wait]
    show (Tr.settle (0 + 1) _ _ |>.1, _, true) = _
    simp only [List.length_nil]
    rw [h9]
  unfold Ch.take
  rw [if_pos ⟨h2, (by show C.slot ≤ C.slot; omega), hw⟩, hadd]
  rfl
theorem path_of {t : Tr} {n : Int} {e : Kn} (h : t.find n = some e) : t.path n = e.way := by unfold Tr.path; rw [h]
theorem line_grown (h : C.t.Line k C.slot) (hs : C.dr.length ≤ 200) (hk : k < 400) (hw : winsB C.dr C.slot m = true) :
    (lineC C m).t.Line (k + 1) (C.slot + 1) ∧ (lineC C m).t.high (nameB (lineB C m)) = ((k + 1 : Nat) : Int) ∧ (lineC C m).t.path (lineC C m).t.tip = C.t.path C.t.tip ++ [nameB (lineB C m)] := by
  obtain ⟨n1, n2, n3⟩ := line_new h hs hw
  have hr : C.t.room = true := by unfold Tr.room; rw [h.cnt]; exact decide_eq_true hk
  have hG : (C.t.grow (lineB C m)).Good := h.good.grow n2 (line_ready h) n1 (by rw [h.wait]; simp) hr
  have hfn : C.t.find (nameB (lineB C m)) = none := by
    unfold Tr.has at n1
    cases hf : C.t.find (nameB (lineB C m)) with
    | none => rfl
    | some e => rw [hf] at n1; cases n1
  have hf : (C.t.grow (lineB C m)).find (nameB (lineB C m)) = some ⟨nameB (lineB C m), lineB C m, C.t.path C.t.tip ++ [nameB (lineB C m)]⟩ := by
    rw [Tr.find_grow, hfn, if_pos rfl]; rfl
  have hh : (C.t.grow (lineB C m)).has (nameB (lineB C m)) = true := by unfold Tr.has; rw [hf]; rfl
  have hp : (C.t.grow (lineB C m)).path (nameB (lineB C m)) = C.t.path C.t.tip ++ [nameB (lineB C m)] := path_of hf
  have hhi : (C.t.grow (lineB C m)).high (nameB (lineB C m)) = ((k + 1 : Nat) : Int) := by
    rw [Tr.high_has hG.ok hh, hp]; simp [h.way]
  have hor : ∀ n, (C.t.grow (lineB C m)).has n = true → C.t.has n = true ∨ n = nameB (lineB C m) := fun n hn => by
    rw [Tr.has_iff] at hn ⊢
    simpa [Tr.grow] using hn
  have hne : (C.t.grow (lineB C m)).names ≠ [] := fun e => by
    have := Tr.mem_names.2 hh
    rw [e] at this; cases this
  have htip : (C.t.grow (lineB C m)).tip = nameB (lineB C m) := by
    rcases hor _ (Tr.tip_has hne) with h1 | h1
    · have h2 : (C.t.grow (lineB C m)).high (C.t.grow (lineB C m)).tip = C.t.high (C.t.grow (lineB C m)).tip := Tr.high_ext (es := [⟨nameB (lineB C m), lineB C m, C.t.path C.t.tip ++ [nameB (lineB C m)]⟩]) rfl h1
      have h3 := Tr.tip_high h.good.ok _ h1
      have h4 := Tr.tip_high hG.ok _ hh
      rw [hhi, h2] at h4
      rw [h.high] at h3
      omega
    · exact h1
  refine ⟨⟨hG, h.wait, ?_, ?_, fun n hn => ?_⟩, hhi, ?_⟩
  · show (C.t.grow (lineB C m)).known.length = k + 1
    simp [Tr.grow, h.cnt]
  · show ((C.t.grow (lineB C m)).path (C.t.grow (lineB C m)).tip).length = k + 1
    rw [htip, hp]; simp [h.way]
  · rcases hor n hn with h1 | h1
    · have := h.old n h1; omega
    · rw [h1]; exact n3
  · show (C.t.grow (lineB C m)).path (C.t.grow (lineB C m)).tip = _
    rw [htip, hp]
end
def Ch.Lst (C : Ch) (k : Nat) (last : Int) : Prop := last = 0 ∨ ∃ j : Nat, 1 ≤ j ∧ (j : Int) + C.deep ≤ (k : Int) ∧ (C.t.path C.t.tip).getD (j - 1) 0 = last
theorem Ch.Lst.add {C : Ch} {k : Nat} {m : Int} {last : Int} (hl : C.Lst k last) (hd : 0 ≤ C.deep) (h : C.t.Line k C.slot) (hs : C.dr.length ≤ 200) (hk : k < 400) (hw : winsB C.dr C.slot m = true) : (lineC C m).Lst (k + 1) last := by
  rcases hl with hl | ⟨j, h1, h2, h3⟩
  · exact .inl hl
  · refine .inr ⟨j, h1, ?_, ?_⟩
    · show (j : Int) + C.deep ≤ _
      omega
    · rw [(line_grown h hs hk hw).2.2, List.getD_eq_getElem?_getD, List.getElem?_append_left (by rw [h.way]; omega), ← List.getD_eq_getElem?_getD]
      exact h3
theorem line_conf {C : Ch} {k : Nat} {u : Int} (hd : 0 ≤ C.deep) (h : C.t.Line k u) : (C.conf = 0 ∧ (k : Int) ≤ C.deep) ∨ (∃ j : Nat, 1 ≤ j ∧ (j : Int) + C.deep = (k : Int) ∧ (C.t.path C.t.tip).getD (j - 1) 0 = C.conf) := by
  unfold Ch.conf Tr.back
  rw [h.way]
  by_cases hb : (k : Int) ≤ max 0 C.deep
  · rw [if_pos hb]
    exact .inl ⟨rfl, by omega⟩
  · rw [if_neg hb]
    refine .inr ⟨k - C.deep.toNat, by omega, by omega, ?_⟩
    rw [show k - C.deep.toNat - 1 = k - 1 - C.deep.toNat by omega]
theorem line_lst {C : Ch} {k : Nat} {u : Int} (hd : 0 ≤ C.deep) (h : C.t.Line k u) : C.Lst k C.conf := by
  rcases line_conf hd h with ⟨h0, _⟩ | ⟨j, h1, h2, h3⟩
  · exact .inl h0
  · exact .inr ⟨j, h1, by omega, h3⟩
theorem line_len {C : Ch} {k : Nat} {u : Int} (hd : 0 ≤ C.deep) (h : C.t.Line k u) : ((C.t.path C.conf).length : Int) = max 0 ((k : Int) - C.deep) := by
  rcases line_conf hd h with ⟨h0, h1⟩ | ⟨j, h1, h2, h3⟩
  · rw [h0, h.good.ok.path_zero]; simp; omega
  · rw [← h3, Tr.path_take h.good.ok k _ h.way j h1 (by omega), List.length_take, h.way]
    omega
theorem comPre_app : ∀ (a b : List Int), comPre (a ++ b) a = a
  | [], b => by cases b <;> rfl
  | x :: a, b => by simp [comPre, comPre_app a b]
theorem comPre_nil (a : List Int) : comPre a [] = [] := by cases a <;> rfl
theorem line_com {C : Ch} {k : Nat} {u last : Int} (hd : 0 ≤ C.deep) (h : C.t.Line k u) (hl : C.Lst k last) : C.t.common C.conf last = last := by
  unfold Tr.common
  rcases hl with rfl | ⟨i, g1, g2, g3⟩
  · rw [h.good.ok.path_zero, comPre_nil]; rfl
  · rcases line_conf hd h with ⟨_, h1⟩ | ⟨j, h1, h2, h3⟩
    · omega
    · have e1 := Tr.path_take h.good.ok k _ h.way j h1 (by omega)
      have e2 := Tr.path_take h.good.ok k _ h.way i g1 (by omega)
      rw [h3] at e1
      rw [g3] at e2
      have e3 : (C.t.path C.t.tip).take j = (C.t.path C.t.tip).take i ++ ((C.t.path C.t.tip).take j).drop i := by
        have h4 := (List.take_append_drop i ((C.t.path C.t.tip).take j)).symm
        rw [List.take_take, Nat.min_eq_left (by omega)] at h4
        exact h4
      have hi : i - 1 < (C.t.path C.t.tip).length := by rw [h.way]; omega
      rw [e1, e2, e3, comPre_app, ← g3, List.getLast?_eq_getElem?, List.length_take, h.way, Nat.min_eq_left (by omega), List.getElem?_take, if_pos (by omega), List.getD_eq_getElem?_getD]
end Go.Np.Try
