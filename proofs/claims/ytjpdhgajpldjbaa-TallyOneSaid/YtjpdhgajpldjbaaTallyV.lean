/- The tally's laws without the document (plain lists). -/
import Derived.Test.YtjpdhgajpldjbaaTaC
set_option linter.unusedVariables false
set_option linter.unusedSimpArgs false
namespace Go.Np.Try
open Go.RowKit Go.Proofs.Ytjpdhgajpldjbaa.PX Go.Proofs.YtjpdhgajpldjbaaW.PrintWords
/-- The votes of a tally: no place twice, each one that may count. -/
def Good (n : Nat) (mS : List S41) : Prop := ∃ m, m.map toS = mS ∧ Inv n m
theorem Tz.good {w0 w : World} {p b : Nat} {st : List Int} {mS : List S41} (h : Tz w0 w p b st mS) : Good st.length mS := by
  obtain ⟨m, A, c, h1, _, h3, _⟩ := h; exact ⟨m, h1, h3⟩
section
variable {n : Nat} {st : List Int} {a b : List S41}
theorem Good.of (h : Good n a) {K V F X : Int} : ofR a K V F = some X ↔ (⟨K, V, F, X⟩ : S41) ∈ a := by
  obtain ⟨m, rfl, hi⟩ := h
  rw [ofR_some hi, List.mem_map]
  constructor
  · rintro ⟨⟨⟨⟨k, v, f⟩, hw⟩, x⟩, hq, hk, hx⟩
    simp only [Prod.mk.injEq] at hk hx
    obtain ⟨rfl, rfl, rfl⟩ := hk
    subst hx
    exact ⟨_, hq, rfl⟩
  · rintro ⟨⟨⟨⟨k, v, f⟩, hw⟩, x⟩, hq, he⟩
    simp only [toS, S41.mk.injEq] at he
    obtain ⟨rfl, rfl, rfl, rfl⟩ := he
    exact ⟨_, hq, rfl, rfl⟩
theorem Good.pos (h : Good n a) : ∀ q ∈ a, 0 ≤ q.f1 := by
  obtain ⟨m, rfl, hi⟩ := h
  intro q hq
  obtain ⟨x, hx, rfl⟩ := List.mem_map.1 hq
  exact (hi.ok x hx).2.1
theorem Good.from (h : Good n a) : ∀ q ∈ a, 0 ≤ q.f2 ∧ q.f2 < n := by
  obtain ⟨m, rfl, hi⟩ := h
  intro q hq
  obtain ⟨x, hx, rfl⟩ := List.mem_map.1 hq
  exact ⟨(hi.ok x hx).2.2.2.1, (hi.ok x hx).2.2.2.2.1⟩
theorem mostR_true {K V X : Int} (h : mostR st a K V = (X, true)) : mostB st (whoR st.length a K V X) = true := by
  unfold mostR at h
  cases hf : a.find? (fun q => decide (q.f0 = K) && decide (q.f1 = V) && mostB st (whoR st.length a K V q.f3)) with
  | none => rw [hf] at h; simp at h
  | some q =>
    rw [hf] at h
    have h1 := List.find?_some hf
    simp only [Bool.and_eq_true] at h1
    simp only [Prod.mk.injEq, and_true] at h
    rw [← h]; exact h1.2
theorem comR_cases (st : List Int) (hp : ∀ q ∈ a, 0 ≤ q.f1) : (∃ V, (∃ q ∈ a, q.f1 = V) ∧ comVR st a V = true ∧ (∀ q ∈ a, comVR st a q.f1 = true → V ≤ q.f1) ∧ comR st a = ((mostR st a 5 V).1, true)) ∨ (comR st a = (0, false) ∧ ∀ q ∈ a, comVR st a q.f1 = false) := by
  rcases com_fold st a a hp (-1, 0) (.inl (by decide)) with ⟨V, h1, h2, h3, h4, h5, h6⟩ | ⟨h1, h2, h3⟩
  · refine .inl ⟨V, ?_, h3, h5, ?_⟩
    · rcases h4 with h4 | h4
      · simp only at h4; omega
      · exact h4
    · unfold comR; rw [h1]; simp [h2]
  · refine .inr ⟨?_, h3⟩
    unfold comR; rw [h1]; rfl
/-! Votes of unlike places may come in any order. -/
theorem ofR_set (ha : Good n a) (hb : Good n b) (hs : ∀ q, q ∈ a ↔ q ∈ b) (K V F : Int) : ofR a K V F = ofR b K V F := by
  apply Option.ext
  intro X
  rw [ha.of, hb.of, hs]
theorem whoR_set (ha : Good n a) (hb : Good n b) (hs : ∀ q, q ∈ a ↔ q ∈ b) (N : Nat) (K V X : Int) : whoR N a K V X = whoR N b K V X := by
  unfold whoR; simp only [ofR_set ha hb hs]
theorem mostR_set (hst : okS st) (ha : Good st.length a) (hb : Good st.length b) (hs : ∀ q, q ∈ a ↔ q ∈ b) (K V : Int) : mostR st a K V = mostR st b K V := by
  obtain ⟨a1, a2⟩ := mostR_iff (m := a) (K := K) (V := V) hst
  obtain ⟨b1, b2⟩ := mostR_iff (m := b) (K := K) (V := V) hst
  by_cases h : ∃ X, mostB st (whoR st.length a K V X) = true
  · obtain ⟨X, hX⟩ := h
    rw [a1 X hX, b1 X (by rw [← whoR_set ha hb hs]; exact hX)]
  · have hn : ∀ X, mostB st (whoR st.length a K V X) = false := fun X => by rw [← Bool.not_eq_true]; exact fun hX => h ⟨X, hX⟩
    rw [a2 hn, b2 (fun X => by rw [← whoR_set ha hb hs]; exact hn X)]
theorem comR_set (hst : okS st) (ha : Good st.length a) (hb : Good st.length b) (hs : ∀ q, q ∈ a ↔ q ∈ b) : comR st a = comR st b := by
  have hv : ∀ V, comVR st a V = comVR st b V := fun V => by unfold comVR; rw [mostR_set hst ha hb hs]
  rcases comR_cases st ha.pos with ⟨V, ⟨q, hq, hqV⟩, h2, h3, h4⟩ | ⟨h1, h2⟩
  · rcases comR_cases st hb.pos with ⟨V', ⟨q', hq', hqV'⟩, k2, k3, k4⟩ | ⟨k1, k2⟩
    · have e1 := h3 q' ((hs _).2 hq') (by rw [hv, hqV']; exact k2)
      have e2 := k3 q ((hs _).1 hq) (by rw [← hv, hqV]; exact h2)
      have : V = V' := by omega
      subst this
      rw [h4, k4, mostR_set hst ha hb hs]
    · have := k2 q ((hs _).1 hq)
      rw [← hv, hqV, h2] at this
      cases this
  · rcases comR_cases st hb.pos with ⟨V', ⟨q', hq', hqV'⟩, k2, k3, k4⟩ | ⟨k1, k2⟩
    · have := h2 q' ((hs _).2 hq')
      rw [hv, hqV', k2] at this
      cases this
    · rw [h1, k1]
theorem some_mono {A B : List Int} (hst : okS st) (h : ∀ x ∈ A, x ∈ B) (ha : someB st A = true) : someB st B = true := by
  simp only [someB, decide_eq_true_eq] at ha ⊢
  have : wl st A ≤ wl st B := ws_mono hst.2.2 (fun x hx => by simp only [decide_eq_true_eq] at hx ⊢; exact h x hx) 0
  omega
theorem most_mono {A B : List Int} (hst : okS st) (h : ∀ x ∈ A, x ∈ B) (ha : mostB st A = true) : mostB st B = true := by
  simp only [mostB, decide_eq_true_eq] at ha ⊢
  have : wl st A ≤ wl st B := ws_mono hst.2.2 (fun x hx => by simp only [decide_eq_true_eq] at hx ⊢; exact h x hx) 0
  omega
theorem aheadW_mono (hs : ∀ q ∈ a, q ∈ b) (V : Int) : ∀ x ∈ aheadW a V, x ∈ aheadW b V := by
  intro x hx
  obtain ⟨q, hq, rfl⟩ := List.mem_map.1 hx
  obtain ⟨h1, h2⟩ := List.mem_filter.1 hq
  exact List.mem_map.2 ⟨q, List.mem_filter.2 ⟨hs q h1, h2⟩, rfl⟩
theorem ahR_mono (hst : okS st) (hs : ∀ q ∈ a, q ∈ b) (v : Int) : ahR st a v ≤ ahR st b v := by
  obtain ⟨h1, h2, h3⟩ := ah_fold st a a v
  obtain ⟨k1, k2, k3⟩ := ah_fold st b b v
  unfold ahR
  rcases h2 with h2 | ⟨h2, h4, q, hq, h5⟩
  · rw [h2]; exact k1
  · rw [← h5]
    rw [← h5] at h4
    exact k3 q (hs q hq) (some_mono hst (aheadW_mono hs _) h4)
theorem ahR_set (hst : okS st) (hs : ∀ q, q ∈ a ↔ q ∈ b) (v : Int) : ahR st a v = ahR st b v :=
  Int.le_antisymm (ahR_mono hst (fun q => (hs q).1) v) (ahR_mono hst (fun q => (hs q).2) v)
/-! More votes unmake nothing. -/
theorem whoR_mono (ha : Good n a) (hb : Good n b) (hs : ∀ q ∈ a, q ∈ b) {N : Nat} {K V X : Int} : ∀ F ∈ whoR N a K V X, F ∈ whoR N b K V X := by
  intro F hF
  rw [whoR_mem] at hF ⊢
  exact ⟨hF.1, hb.of.2 (hs _ (ha.of.1 hF.2))⟩
theorem mostR_mono (hst : okS st) (ha : Good st.length a) (hb : Good st.length b) (hs : ∀ q ∈ a, q ∈ b) {K V X : Int} (h : mostR st a K V = (X, true)) : mostR st b K V = (X, true) :=
  (mostR_iff hst).1 X (most_mono hst (whoR_mono ha hb hs) (mostR_true h))
theorem comR_mono (hst : okS st) (ha : Good st.length a) (hb : Good st.length b) (hs : ∀ q ∈ a, q ∈ b) (h : (comR st a).2 = true) : (comR st b).2 = true := by
  rcases comR_cases st ha.pos with ⟨V, ⟨q, hq, hqV⟩, h2, h3, h4⟩ | ⟨h1, h2⟩
  · rcases comR_cases st hb.pos with ⟨V', _, k2, k3, k4⟩ | ⟨k1, k2⟩
    · rw [k4]
    · have := k2 q (hs q hq)
      rw [hqV] at this
      unfold comVR at h2 this
      simp only [Bool.and_eq_true, decide_eq_true_eq] at h2
      have e : mostR st a 5 V = ((mostR st a 5 V).1, true) := by rw [← h2.1]
      rw [mostR_mono hst ha hb hs e] at this
      simp [h2.2] at this
  · rw [h1] at h; cases h
/-! A lesser set makes nothing. -/
theorem few_most {who : List Int} (hst : okS st) (ha : Good st.length a) (hw : ∀ q ∈ a, q.f2 ∈ who) {K V : Int} (h : (mostR st a K V).2 = true) : mostB st who = true := by
  have e : mostR st a K V = ((mostR st a K V).1, true) := by rw [← h]
  refine most_mono hst (fun F hF => ?_) (mostR_true e)
  exact hw _ (ha.of.1 (whoR_mem.1 hF).2)
theorem few_com {who : List Int} (hst : okS st) (ha : Good st.length a) (hw : ∀ q ∈ a, q.f2 ∈ who) (h : (comR st a).2 = true) : mostB st who = true := by
  rcases comR_cases st ha.pos with ⟨V, ⟨q, hq, hqV⟩, h2, h3, h4⟩ | ⟨h1, h2⟩
  · unfold comVR at h2
    simp only [Bool.and_eq_true] at h2
    exact few_most hst ha hw h2.1
  · rw [h1] at h; cases h
theorem few_ah {who : List Int} (hst : okS st) (hw : ∀ q ∈ a, q.f2 ∈ who) {v : Int} (h : ahR st a v ≠ v) : someB st who = true := by
  obtain ⟨h1, h2, h3⟩ := ah_fold st a a v
  rcases h2 with h2 | ⟨h2, h4, q, hq, h5⟩
  · exact absurd h2 h
  · refine some_mono hst (fun x hx => ?_) h4
    obtain ⟨u, hu, rfl⟩ := List.mem_map.1 hx
    exact hw u (List.mem_filter.1 hu).1
/-! One value. -/
theorem allR_mem {N : Nat} {K V F : Int} : F ∈ allR N a K V ↔ (0 ≤ F ∧ F < N) ∧ (ofR a K V F).isSome = true := by
  rw [allR, List.mem_filter, rng_mem]
theorem who_le_all (N : Nat) (a : List S41) (K V X : Int) : (whoR N a K V X).length ≤ (allR N a K V).length := by
  have : whoR N a K V X = (allR N a K V).filter (fun F => decide (ofR a K V F = some X)) := by
    unfold whoR allR
    rw [List.filter_filter]
    refine List.filter_congr (fun F _ => ?_)
    by_cases h : ofR a K V F = some X <;> simp [h]
  rw [this]
  exact List.length_filter_le _ _
theorem addR_there {K V F x : Int} (h : (ofR a K V F).isSome = true) : addR n a ⟨K, V, F, x⟩ = false := by
  unfold addR
  obtain ⟨y, hy⟩ := Option.isSome_iff_exists.1 h
  simp [hy]
/-- Those of the nodes whose value has most. -/
def manyP (st : List Int) (a : List S41) (K V : Int) (l : List Int) : Nat := (l.filter fun F => mostB st (whoR st.length a K V ((ofR a K V F).getD 0))).length
theorem many_iff (hst : okS st) (K V : Int) : (mostR st a K V).2 = decide (0 < manyP st a K V (allR st.length a K V)) := by
  obtain ⟨a1, a2⟩ := mostR_iff (m := a) (K := K) (V := V) hst
  by_cases h : ∃ X, mostB st (whoR st.length a K V X) = true
  · obtain ⟨X, hX⟩ := h
    rw [a1 X hX]
    obtain ⟨F, hF⟩ := most_inh hst hX
    have hF' := whoR_mem.1 hF
    symm
    simp only [decide_eq_true_eq]
    refine List.length_pos_of_mem (a := F) (List.mem_filter.2 ⟨allR_mem.2 ⟨hF'.1, by rw [hF'.2]; rfl⟩, ?_⟩)
    rw [hF'.2]; exact hX
  · have hn : ∀ X, mostB st (whoR st.length a K V X) = false := fun X => by rw [← Bool.not_eq_true]; exact fun hX => h ⟨X, hX⟩
    rw [a2 hn]
    have : manyP st a K V (allR st.length a K V) = 0 := by
      unfold manyP
      rw [List.length_eq_zero_iff, List.filter_eq_nil_iff]
      intro F _
      simp [hn]
    rw [this]; rfl
/-! What counts, where no place comes twice. -/
def okV (n : Nat) (q : S41) : Bool := (decide (q.f0 = 4) || decide (q.f0 = 5)) && decide (0 ≤ q.f1) && decide (q.f1 ≤ 1000) && decide (0 ≤ q.f2) && decide (q.f2 < n) && decide (-1 ≤ q.f3)
def samePl (q u : S41) : Prop := q.f0 = u.f0 ∧ q.f1 = u.f1 ∧ q.f2 = u.f2
theorem ofR_none {q : S41} (h : ∀ u ∈ a, ¬ samePl q u) : ofR a q.f0 q.f1 q.f2 = none := by
  unfold ofR
  rw [List.find?_eq_none.2 (fun u hu hc => ?_)]
  · rfl
  · simp only [at3, Bool.and_eq_true, decide_eq_true_eq] at hc
    exact h u hu ⟨hc.1.1.symm, hc.1.2.symm, hc.2.symm⟩
theorem fold_unlike : ∀ (l acc : List S41), (l.Pairwise fun u q => ¬ samePl q u) → (∀ q ∈ l, ∀ u ∈ acc, ¬ samePl q u) → l.foldl (stepR n) acc = acc ++ l.filter (okV n) := by
  intro l
  induction l with
  | nil => intro acc _ _; simp
  | cons q l ih =>
    intro acc hp ha
    rw [List.pairwise_cons] at hp
    have hq : addR n acc q = okV n q := by unfold addR okV; rw [ofR_none (ha q List.mem_cons_self)]; rfl
    rw [List.foldl_cons]
    have hs : stepR n acc q = acc ++ [q].filter (okV n) := by
      unfold stepR
      rw [hq]
      cases hk : okV n q <;> simp [List.filter_cons, hk]
    have hfs : [q].filter (okV n) = if okV n q = true then [q] else [] := by simp [List.filter_cons]
    rw [ih _ hp.2 (fun x hx u hu => ?_), hs, List.append_assoc, ← List.filter_append]
    · rfl
    · rw [hs, List.mem_append] at hu
      rcases hu with hu | hu
      · exact ha x (List.mem_cons_of_mem _ hx) u hu
      · have := (List.mem_filter.1 hu).1
        obtain rfl : u = q := by simpa using this
        exact hp.1 x hx
theorem foldR_unlike {l : List S41} (h : l.Pairwise fun u q => ¬ samePl q u) : foldR n l = l.filter (okV n) := by
  have := fold_unlike (n := n) l [] h (by simp)
  simpa [foldR] using this
theorem foldR_rev {l : List S41} (h : l.Pairwise fun u q => ¬ samePl q u) : ∀ q, q ∈ foldR n l ↔ q ∈ foldR n l.reverse := by
  intro q
  have hr : l.reverse.Pairwise fun u q => ¬ samePl q u := by
    rw [List.pairwise_reverse]
    exact h.imp (fun h1 h2 => h1 ⟨h2.1.symm, h2.2.1.symm, h2.2.2.symm⟩)
  rw [foldR_unlike h, foldR_unlike hr]
  simp
theorem fold_sub : ∀ (l acc : List S41), ∀ q ∈ acc, q ∈ l.foldl (stepR n) acc := by
  intro l
  induction l with
  | nil => intro acc q hq; exact hq
  | cons x l ih =>
    intro acc q hq
    rw [List.foldl_cons]
    refine ih _ q ?_
    unfold stepR
    split
    · exact List.mem_append_left _ hq
    · exact hq
theorem foldR_take (l : List S41) (k : Nat) : ∀ q ∈ foldR n (l.take k), q ∈ foldR n l := by
  intro q hq
  unfold foldR at *
  rw [← List.take_append_drop k l, List.foldl_append]
  exact fold_sub _ _ q hq
theorem fold_from : ∀ (l acc : List S41), ∀ q ∈ l.foldl (stepR n) acc, q ∈ acc ∨ q ∈ l := by
  intro l
  induction l with
  | nil => intro acc q hq; exact .inl hq
  | cons x l ih =>
    intro acc q hq
    rw [List.foldl_cons] at hq
    rcases ih _ q hq with h | h
    · unfold stepR at h
      split at h
      · rcases List.mem_append.1 h with h | h
        · exact .inl h
        · right
          obtain rfl : q = x := by simpa using h
          exact List.mem_cons_self
      · exact .inl h
    · exact .inr (List.mem_cons_of_mem _ h)
theorem foldR_from (l : List S41) : ∀ q ∈ foldR n l, q ∈ l := by
  intro q hq
  rcases fold_from l [] q hq with h | h
  · cases h
  · exact h
end
end Go.Np.Try
