/- The tree, plain laws: in whichever order. -/
import Derived.Test.YtdfoalbkfdnmcaaTreeZ
set_option linter.unusedVariables false
set_option linter.unusedSimpArgs false
namespace Go.Np.Try
open Go.Proofs Go.Proofs.Ytdfoalbkfdnmcaa.PX
def Tr.has2 (t : Tr) (b : Blk) : Prop := b ∈ t.known.map (·.blk) ∨ b ∈ t.wait
theorem mem_erase {l : List Blk} {i : Nat} {x : Blk} (h : l[i]? = some x) (b : Blk) : b ∈ l ↔ b = x ∨ b ∈ l.eraseIdx i := by
  have hi := (List.getElem?_eq_some_iff.1 h).1
  have e : l = l.take i ++ x :: l.drop (i + 1) := by
    conv => lhs; rw [← List.take_append_drop i l]
    rw [List.drop_eq_getElem_cons hi, (List.getElem?_eq_some_iff.1 h).2]
  rw [List.eraseIdx_eq_take_drop_succ]
  conv => lhs; rw [e]
  simp only [List.mem_append, List.mem_cons]
  constructor
  · rintro (h | h | h) <;> simp [h]
  · rintro (h | h | h) <;> simp [h]
theorem Tr.settle_full : ∀ (k : Nat) (t : Tr) (out : List Int), t.known.length + t.wait.length ≤ 400 →
    (∀ b, (Tr.settle k t out).1.has2 b ↔ t.has2 b) ∧ (Tr.settle k t out).1.known.length + (Tr.settle k t out).1.wait.length = t.known.length + t.wait.length ∧ (t.wait.length < k → ∀ b ∈ (Tr.settle k t out).1.wait, (Tr.settle k t out).1.ready b = false)
  | 0, t, out, _ => ⟨fun b => Iff.rfl, rfl, fun h => absurd h (Nat.not_lt_zero _)⟩
  | k + 1, t, out, hl => by
    cases hf : t.wait.findIdx? t.ready with
    | none =>
      rw [Tr.settle_none hf]
      refine ⟨fun b => Iff.rfl, rfl, fun _ b hb => ?_⟩
      rw [List.findIdx?_eq_none_iff] at hf
      simpa using hf b hb
    | some i =>
      have hi : i < t.wait.length := (List.findIdx?_eq_some_iff_getElem.1 hf).1
      have hx := List.getElem?_eq_getElem hi
      rw [Tr.settle_some hf hx]
      have hel : (t.wait.eraseIdx i).length = t.wait.length - 1 := by rw [List.length_eraseIdx, if_pos hi]
      have hroom : (⟨t.known, t.wait.eraseIdx i⟩ : Tr).room = true := by simp [Tr.room]; omega
      rw [if_pos hroom]
      obtain ⟨h1, h2, h3⟩ := Tr.settle_full k ((⟨t.known, t.wait.eraseIdx i⟩ : Tr).grow t.wait[i]) (out ++ [nameB t.wait[i]]) (by simp [Tr.grow]; omega)
      refine ⟨fun b => (h1 b).trans ?_, h2.trans (by simp [Tr.grow]; omega), fun h => h3 (by simp [Tr.grow]; omega)⟩
      unfold Tr.has2
      rw [mem_erase hx b]
      simp only [Tr.grow, List.map_append, List.map_cons, List.map_nil, List.mem_append, List.mem_singleton]
      constructor
      · rintro ((h | h) | h) <;> simp [h]
      · rintro (h | h | h) <;> simp [h]
def valid (l : List Blk) : List Blk := l.filter (fun b => decide (nameB b ≠ 0))
structure Tr.Full (t : Tr) (l : List Blk) : Prop where
  good : t.Good
  mem : ∀ b, t.has2 b ↔ (b ∈ l ∧ nameB b ≠ 0)
  cnt : t.known.length + t.wait.length = (valid l).length
  still : ∀ b ∈ t.wait, t.ready b = false
theorem Tr.full_nil : (⟨[], []⟩ : Tr).Full [] := ⟨Tr.empty_good, fun b => by simp [Tr.has2], rfl, by simp⟩
theorem Tr.Full.step {t : Tr} {l : List Blk} (h : t.Full l) (hl : l.length < 16) {b : Blk} (hb : nameB b ∉ l.map nameB) : (t.add b).1.Full (l ++ [b]) := by
  have hG' := Tr.add_good h.good b
  have hvl : (valid l).length ≤ l.length := List.length_filter_le _ _
  by_cases h0 : nameB b = 0
  · have hv : valid (l ++ [b]) = valid l := by simp [valid, h0]
    rw [Tr.add_refused (.inl h0)] at hG' ⊢
    refine ⟨hG', fun c => (h.mem c).trans ?_, by rw [hv]; exact h.cnt, h.still⟩
    simp only [List.mem_append, List.mem_singleton]
    constructor
    · rintro ⟨h1, h2⟩; exact ⟨.inl h1, h2⟩
    · rintro ⟨h1 | h1, h2⟩
      · exact ⟨h1, h2⟩
      · rw [h1] at h2; exact absurd h0 h2
  · have hv : (valid (l ++ [b])).length = (valid l).length + 1 := by simp [valid, h0]
    have h1 : t.has (nameB b) = false := by
      cases hh : t.has (nameB b) with
      | false => rfl
      | true =>
        rw [Tr.has_iff] at hh
        obtain ⟨e, he, hn⟩ := List.mem_map.1 hh
        have hk := h.good.ok.known e he
        have := (h.mem e.blk).1 (.inl (List.mem_map.2 ⟨e, he, rfl⟩))
        exact absurd (List.mem_map.2 ⟨e.blk, this.1, by rw [← hk.1, hn]⟩) hb
    have h2 : nameB b ∉ t.wait.map nameB := by
      intro hm
      obtain ⟨c, hc, hn⟩ := List.mem_map.1 hm
      have := (h.mem c).1 (.inr hc)
      exact hb (List.mem_map.2 ⟨c, this.1, hn⟩)
    have hbm : ∀ c, (t.has2 c ∨ c = b) ↔ (c ∈ l ++ [b] ∧ nameB c ≠ 0) := by
      intro c
      rw [h.mem c]
      simp only [List.mem_append, List.mem_singleton]
      constructor
      · rintro (⟨h3, h4⟩ | h3)
        · exact ⟨.inl h3, h4⟩
        · subst h3; exact ⟨.inr rfl, h0⟩
      · rintro ⟨h3 | h3, h4⟩
        · exact .inl ⟨h3, h4⟩
        · exact .inr h3
    have ha := Tr.add_new h0 h1 h2
    have hc := h.cnt
    by_cases hr : t.ready b = false
    · rw [if_pos hr] at ha
      rw [ha] at hG' ⊢
      have hd : t.wait.length + 1 - 16 = 0 := by omega
      rw [hd, List.drop_zero] at hG' ⊢
      refine ⟨hG', fun c => ?_, ?_, ?_⟩
      · rw [← hbm c]
        unfold Tr.has2
        simp only [List.mem_append, List.mem_singleton, or_assoc]
      · simp only [List.length_append, List.length_cons, List.length_nil]; omega
      · intro c hc'
        simp only [List.mem_append, List.mem_singleton] at hc'
        refine (Tr.ready_known (s := t) (t := ⟨t.known, t.wait ++ [b]⟩) rfl c).trans ?_
        rcases hc' with hc' | hc'
        · exact h.still c hc'
        · rw [hc']; exact hr
    · have hm : ¬ t.room = false := by simp [Tr.room]; omega
      rw [if_neg hr, if_neg hm] at ha
      obtain ⟨s1, s2, s3⟩ := Tr.settle_full (t.wait.length + 1) (t.grow b) [nameB b] (by simp [Tr.grow]; omega)
      rw [ha] at hG' ⊢
      refine ⟨hG', fun c => (s1 c).trans ?_, s2.trans (by simp [Tr.grow]; omega), s3 (by simp [Tr.grow])⟩
      rw [← hbm c]
      unfold Tr.has2
      simp only [Tr.grow, List.map_append, List.map_cons, List.map_nil, List.mem_append, List.mem_singleton]
      constructor
      · rintro ((h | h) | h) <;> simp [h]
      · rintro ((h | h) | h) <;> simp [h]
theorem name_inj {l : List Blk} (h : (l.map nameB).Nodup) {b c : Blk} (hb : b ∈ l) (hc : c ∈ l) (e : nameB b = nameB c) : b = c := by
  induction l with
  | nil => cases hb
  | cons x l ih =>
    rw [List.map_cons, List.nodup_cons] at h
    rcases List.mem_cons.1 hb with e1 | b1
    · rcases List.mem_cons.1 hc with e2 | c1
      · rw [e1, e2]
      · exact absurd (List.mem_map.2 ⟨c, c1, by rw [← e, e1]⟩) h.1
    · rcases List.mem_cons.1 hc with e2 | c1
      · exact absurd (List.mem_map.2 ⟨b, b1, by rw [e, e2]⟩) h.1
      · exact ih h.2 b1 c1
theorem Tr.get_mem {t : Tr} {n : Int} (h : t.has n = true) : t.has2 (t.get n) := by
  unfold Tr.has at h
  obtain ⟨e, he⟩ := Option.isSome_iff_exists.1 h
  have : t.get n = e.blk := by unfold Tr.get; rw [he]
  rw [this]
  exact .inl (List.mem_map.2 ⟨e, (Tr.find_some he).1, rfl⟩)
theorem Tr.turn_has {t s : Tr} {l m : List Blk} (h : t.Full l) (k : s.Full m) (hs : ∀ b ∈ l, b ∈ m) (hn : (m.map nameB).Nodup) : ∀ (q : Nat) (n : Int), n.toNat = q → t.has n = true → s.has n = true ∧ s.path n = t.path n := by
  intro q
  induction q using Nat.strongRecOn with
  | _ q ih =>
    intro n hq hh
    have hS := Tr.stands h.good (Tr.mem_names.2 hh)
    have hml := (h.mem _).1 (Tr.get_mem hh)
    obtain ⟨g, hg⟩ : ∃ g, g = t.get n := ⟨_, rfl⟩
    have hgn : nameB g = n := by rw [hg]; exact hS.name
    rw [← hg] at hml
    have hpl := parent_lt hml.2
    have hpar := hS.par
    have hway := hS.way
    rw [← hg] at hpar hway
    have hps : (g.f3 = 0 ∨ s.has g.f3 = true) ∧ s.path g.f3 = t.path g.f3 := by
      rcases hpar with h0 | h0
      · refine ⟨.inl h0, ?_⟩
        rw [h0, h.good.ok.path_zero, k.good.ok.path_zero]
      · rcases hpl with h1 | ⟨h1, h2⟩
        · rw [h1, h.good.ok.no_zero] at h0; cases h0
        · obtain ⟨i1, i2⟩ := ih g.f3.toNat (by omega) g.f3 rfl h0
          exact ⟨.inr i1, i2⟩
    have hgm : g ∈ m := hs g hml.1
    have hsn : s.has n = true := by
      rcases (k.mem g).2 ⟨hgm, hml.2⟩ with h3 | h3
      · obtain ⟨e, he, heb⟩ := List.mem_map.1 h3
        rw [Tr.has_iff]
        refine List.mem_map.2 ⟨e, he, ?_⟩
        rw [(k.good.ok.known e he).1, heb, hgn]
      · have h4 := k.still g h3
        unfold Tr.ready at h4
        rcases hps.1 with h5 | h5
        · rw [h5] at h4; simp at h4
        · rw [h5] at h4; simp at h4
    refine ⟨hsn, ?_⟩
    have hS2 := Tr.stands k.good (Tr.mem_names.2 hsn)
    have hml2 := (k.mem _).1 (Tr.get_mem hsn)
    have hge : s.get n = g := name_inj hn hml2.1 hgm (by rw [hS2.name, hgn])
    have hway2 := hS2.way
    rw [hge] at hway2
    rw [hway2, hway, hps.2]
structure Tr.Same (t s : Tr) : Prop where
  names : t.names = s.names
  tip : t.tip = s.tip
  wait : t.wait.length = s.wait.length
  missing : t.missing = s.missing
theorem Tr.turns {t s : Tr} {l m : List Blk} (h : t.Full l) (k : s.Full m) (hp : l.Perm m) (hn : (l.map nameB).Nodup) : t.Same s := by
  have hm : (m.map nameB).Nodup := (hp.map nameB).nodup_iff.1 hn
  have A := fun n => Tr.turn_has h k (fun b hb => hp.mem_iff.1 hb) hm n.toNat n rfl
  have B := fun n => Tr.turn_has k h (fun b hb => hp.mem_iff.2 hb) hn n.toNat n rfl
  have hnames : t.names = s.names := strict_ext _ _ (uniq_strict _) (uniq_strict _) (fun x => by
    rw [Tr.mem_names, Tr.mem_names]
    exact ⟨fun hx => (A x hx).1, fun hx => (B x hx).1⟩)
  have hhas : ∀ x, t.has x = s.has x := fun x => by
    cases hx : t.has x with
    | true => rw [(A x hx).1]
    | false =>
      cases hy : s.has x with
      | false => rfl
      | true => rw [(B x hy).1] at hx; cases hx
  have hhigh : ∀ x, t.has x = true → t.high x = s.high x := fun x hx => by
    rw [Tr.high_has h.good.ok hx, Tr.high_has k.good.ok (A x hx).1, (A x hx).2]
  have hwl : t.wait.length = s.wait.length := by
    have h1 := h.cnt
    have h2 := k.cnt
    have h3 : (valid l).length = (valid m).length := (hp.filter _).length_eq
    have h4 := names_len h.good.ok
    have h5 := names_len k.good.ok
    rw [hnames] at h4
    omega
  have hwm : ∀ {t s : Tr} {l m : List Blk}, t.Full l → s.Full m → (∀ b ∈ l, b ∈ m) → (∀ x, t.has x = s.has x) → ∀ b ∈ t.wait, b ∈ s.wait := by
    intro t s l m h k hs hh b hb
    have h1 := (h.mem b).1 (.inr hb)
    rcases (k.mem b).2 ⟨hs b h1.1, h1.2⟩ with h2 | h2
    · obtain ⟨e, he, heb⟩ := List.mem_map.1 h2
      have h3 : s.has (nameB b) = true := by
        rw [Tr.has_iff]
        exact List.mem_map.2 ⟨e, he, by rw [(k.good.ok.known e he).1, heb]⟩
      rw [← hh, Tr.has_iff] at h3
      exact absurd h3 (h.good.waits.2 b hb).2
    · exact h2
  have w1 := hwm h k (fun b hb => hp.mem_iff.1 hb) hhas
  have w2 := hwm k h (fun b hb => hp.mem_iff.2 hb) (fun x => (hhas x).symm)
  refine ⟨hnames, ?_, hwl, ?_⟩
  · by_cases he : t.names = []
    · rw [Tr.tip_empty he, Tr.tip_empty (by rw [← hnames]; exact he)]
    · have t1 := Tr.tip_spec he
      have t2 := Tr.tip_spec (t := s) (by rw [← hnames]; exact he)
      have b1 := t1.2 s.tip (by rw [hnames]; exact t2.1)
      have b2 := t2.2 t.tip (by rw [← hnames]; exact t1.1)
      unfold Tr.better at b1 b2
      have e1 := hhigh t.tip (Tr.mem_names.1 t1.1)
      have e2 := hhigh s.tip (Tr.mem_names.1 (by rw [hnames]; exact t2.1))
      omega
  · refine strict_ext _ _ (uniq_strict _) (uniq_strict _) (fun x => ?_)
    have hl : ∀ b, t.lacks b = s.lacks b := fun b => by
      unfold Tr.lacks Tr.ready
      rw [hhas]
      congr 1
      congr 1
      rw [decide_eq_decide]
      simp only [List.mem_map]
      exact ⟨fun ⟨c, h1, h2⟩ => ⟨c, w1 c h1, h2⟩, fun ⟨c, h1, h2⟩ => ⟨c, w2 c h1, h2⟩⟩
    unfold Tr.missing
    rw [uniq_mem, uniq_mem, List.mem_map, List.mem_map]
    constructor
    · rintro ⟨b, hb, rfl⟩
      rw [List.mem_filter] at hb
      exact ⟨b, List.mem_filter.2 ⟨w1 b hb.1, by rw [← hl]; exact hb.2⟩, rfl⟩
    · rintro ⟨b, hb, rfl⟩
      rw [List.mem_filter] at hb
      exact ⟨b, List.mem_filter.2 ⟨w2 b hb.1, by rw [hl]; exact hb.2⟩, rfl⟩
theorem get_inj {l : List Blk} (h : l.Nodup) {i j : Nat} (hi : i < l.length) (hj : j < l.length) (e : l[i] = l[j]) : i = j := by
  have hp := List.pairwise_iff_getElem.1 h
  rcases Nat.lt_trichotomy i j with h1 | h1 | h1
  · exact absurd e (hp i j hi hj h1)
  · exact h1
  · exact absurd e.symm (hp j i hj hi h1)
theorem mod_inj {T n i j : Nat} (hi : i < n) (hj : j < n) (h : (T + n - 1 - i) % n = (T + n - 1 - j) % n) : i = j := by
  have d1 := Nat.div_add_mod (T + n - 1 - i) n
  have d2 := Nat.div_add_mod (T + n - 1 - j) n
  rw [h] at d1
  rcases Nat.lt_trichotomy ((T + n - 1 - i) / n) ((T + n - 1 - j) / n) with h1 | h1 | h1
  · have := Nat.mul_le_mul_left n (show (T + n - 1 - i) / n + 1 ≤ (T + n - 1 - j) / n from h1)
    rw [Nat.mul_add] at this
    omega
  · rw [h1] at d1; omega
  · have := Nat.mul_le_mul_left n (show (T + n - 1 - j) / n + 1 ≤ (T + n - 1 - i) / n from h1)
    rw [Nat.mul_add] at this
    omega
theorem mod_back {T n q : Nat} (hq : q < n) : (T + n - 1 - (T + n - 1 - q) % n) % n = q := by
  have d1 := Nat.div_add_mod (T + n - 1 - q) n
  have h0 : 0 < n := by omega
  have m1 := Nat.mod_lt (T + n - 1 - q) h0
  have e : T + n - 1 - (T + n - 1 - q) % n = q + n * ((T + n - 1 - q) / n) := by omega
  rw [e, Nat.add_mul_mod_self_left, Nat.mod_eq_of_lt hq]
/-- The other order. -/
def turned (l : List Blk) (T : Nat) (i : Nat) : List Blk := (List.range i).map fun j => l.getD ((T + l.length - 1 - j) % l.length) z28
theorem turned_perm (l : List Blk) (T : Nat) (hn : (l.map nameB).Nodup) : l.Perm (turned l T l.length) := by
  have hnl : l.Nodup := (List.pairwise_map.1 hn).imp (fun h e => h (by rw [e]))
  rcases Nat.eq_zero_or_pos l.length with h0 | h0
  · rw [List.eq_nil_of_length_eq_zero h0]; exact List.Perm.refl _
  · refine (List.perm_ext_iff_of_nodup hnl ?_).2 (fun b => ?_)
    · unfold turned
      refine List.pairwise_map.2 (List.Pairwise.imp_of_mem ?_ List.nodup_range)
      intro i j hi hj hij he
      rw [List.mem_range] at hi hj
      have m1 := Nat.mod_lt (T + l.length - 1 - i) h0
      have m2 := Nat.mod_lt (T + l.length - 1 - j) h0
      rw [List.getD_eq_getElem?_getD, List.getD_eq_getElem?_getD, List.getElem?_eq_getElem m1, List.getElem?_eq_getElem m2] at he
      simp only [Option.getD_some] at he
      have he2 := get_inj hnl m1 m2 he
      exact hij (mod_inj (by omega) (by omega) he2)
    · unfold turned
      rw [List.mem_map]
      constructor
      · intro hb
        obtain ⟨q, hq, rfl⟩ := List.mem_iff_getElem.1 hb
        refine ⟨(T + l.length - 1 - q) % l.length, by rw [List.mem_range]; exact Nat.mod_lt _ h0, ?_⟩
        rw [mod_back hq, List.getD_eq_getElem?_getD, List.getElem?_eq_getElem hq]
        rfl
      · rintro ⟨j, hj, rfl⟩
        have m1 := Nat.mod_lt (T + l.length - 1 - j) h0
        rw [List.getD_eq_getElem?_getD, List.getElem?_eq_getElem m1]
        exact List.getElem_mem _
end Go.Np.Try
