/- What CheckTold needs. -/
import Derived.Test.YtgfiglcmhlbjjaaGreatQCheckToldTeS
set_option linter.unusedVariables false
set_option linter.unusedSimpArgs false
namespace Go.Np.Tryz
open Go.RowKit Go.Proofs.YtgfiglcmhlbjjaaGreat.PX Go.Proofs.YtgfiglcmhlbjjaaGreatW.PrintWords
def toS (q : Bal × Int) : S41 := ⟨q.1.1.1, q.1.1.2.1, q.1.1.2.2, q.2⟩
def at3 (K V F : Int) (q : S41) : Bool := decide (q.f0 = K) && decide (q.f1 = V) && decide (q.f2 = F)
def ofR (m : List S41) (K V F : Int) : Option Int := (m.find? (at3 K V F)).map (·.f3)
def rng (n : Nat) : List Int := (List.range n).map Int.ofNat
def whoR (n : Nat) (m : List S41) (K V X : Int) : List Int := (rng n).filter fun F => decide (ofR m K V F = some X)
def allR (n : Nat) (m : List S41) (K V : Int) : List Int := (rng n).filter fun F => (ofR m K V F).isSome
def mostR (st : List Int) (m : List S41) (K V : Int) : Int × Bool :=
  match m.find? (fun q => decide (q.f0 = K) && decide (q.f1 = V) && mostB st (whoR st.length m K V q.f3)) with
  | some q => (q.f3, true)
  | none => (0, false)
def comStep (st : List Int) (m : List S41) (b : Int × Int) (q : S41) : Int × Int :=
  if (mostR st m 5 q.f1).2 = true ∧ (mostR st m 5 q.f1).1 ≠ -1 ∧ (b.1 < 0 ∨ q.f1 < b.1) then (q.f1, (mostR st m 5 q.f1).1) else b
def comR (st : List Int) (m : List S41) : Int × Bool := let b := m.foldl (comStep st m) (-1, 0); (b.2, decide (0 ≤ b.1))
def aheadW (m : List S41) (V : Int) : List Int := (m.filter fun u => decide (V ≤ u.f1)).map (·.f2)
def ahStep (st : List Int) (m : List S41) (b : Int) (q : S41) : Int := if b < q.f1 ∧ someB st (aheadW m q.f1) = true then q.f1 else b
def ahR (st : List Int) (m : List S41) (view : Int) : Int := m.foldl (ahStep st m) view
structure Inv (n : Nat) (m : List (Bal × Int)) : Prop where
  ok : ∀ q ∈ m, (q.1.1.1 = 4 ∨ q.1.1.1 = 5) ∧ 0 ≤ q.1.1.2.1 ∧ q.1.1.2.1 ≤ 1000 ∧ 0 ≤ q.1.1.2.2 ∧ q.1.1.2.2 < n ∧ -1 ≤ q.2
  nd : (m.map fun q => q.1.1).Nodup
theorem Inv.nil (n : Nat) : Inv n [] := ⟨by simp, by simp⟩
theorem rng_mem {n : Nat} {x : Int} : x ∈ rng n ↔ 0 ≤ x ∧ x < n := by
  unfold rng
  rw [List.mem_map]
  constructor
  · rintro ⟨k, hk, rfl⟩
    rw [List.mem_range] at hk
    exact ⟨Int.natCast_nonneg k, Int.ofNat_lt.2 hk⟩
  · rintro ⟨h1, h2⟩
    exact ⟨x.toNat, by rw [List.mem_range]; omega, by simp; omega⟩
theorem rng_strict (n : Nat) : (rng n).Pairwise (· < ·) := by
  unfold rng
  rw [List.pairwise_map]
  exact List.pairwise_lt_range.imp (fun h => Int.ofNat_lt.2 h)
theorem find_key (m : List (Bal × Int)) (K V F : Int) : (m.map toS).find? (at3 K V F) = (m.find? fun q => decide (q.1.1 = (K, V, F))).map toS := by
  induction m with
  | nil => rfl
  | cons q m ih =>
    obtain ⟨⟨⟨a, b, c⟩, h⟩, x⟩ := q
    rw [List.map_cons, List.find?_cons, List.find?_cons]
    have : at3 K V F (toS (⟨(a, b, c), h⟩, x)) = decide ((a, b, c) = (K, V, F)) := by
      by_cases h1 : a = K <;> by_cases h2 : b = V <;> by_cases h3 : c = F <;> simp [at3, toS, h1, h2, h3]
    rw [this]
    by_cases he : (a, b, c) = (K, V, F)
    · simp [he]
    · simp only [he, decide_false, ih]
theorem valP_eq (m : List (Bal × Int)) (K V F : Int) : valP m K V F = (ofR (m.map toS) K V F).getD 0 := by
  unfold valP ofR
  rw [find_key]
  cases m.find? fun q => decide (q.1.1 = (K, V, F)) <;> rfl
theorem ofR_some {n : Nat} {m : List (Bal × Int)} (h : Inv n m) {K V F X : Int} : ofR (m.map toS) K V F = some X ↔ ∃ q ∈ m, q.1.1 = (K, V, F) ∧ q.2 = X := by
  unfold ofR
  rw [find_key]
  constructor
  · intro he
    cases hf : m.find? fun q => decide (q.1.1 = (K, V, F)) with
    | none => rw [hf] at he; cases he
    | some q =>
      rw [hf] at he
      have h1 := List.find?_some hf
      exact ⟨q, List.mem_of_find?_eq_some hf, by simpa using h1, by simpa [toS] using he⟩
  · rintro ⟨q, hq, hk, hx⟩
    have hd := h.nd
    clear h
    induction m with
    | nil => cases hq
    | cons a m ih =>
      rw [List.map_cons, List.nodup_cons] at hd
      rw [List.find?_cons]
      by_cases ha : a.1.1 = (K, V, F)
      · have : a = q := by
          rcases List.mem_cons.1 hq with e | e
          · exact e.symm
          · exact absurd (List.mem_map.2 ⟨q, e, hk.trans ha.symm⟩) hd.1
        subst this
        simp [ha, toS, hx]
      · have hqm : q ∈ m := by
          rcases List.mem_cons.1 hq with e | e
          · exact absurd (e ▸ hk) ha
          · exact e
        simpa [ha] using ih hqm hd.2
theorem ofR_isSome {n : Nat} {m : List (Bal × Int)} (h : Inv n m) {K V F : Int} : (ofR (m.map toS) K V F).isSome = true ↔ ∃ q ∈ m, q.1.1 = (K, V, F) := by
  rw [Option.isSome_iff_exists]
  constructor
  · rintro ⟨x, hx⟩
    obtain ⟨q, h1, h2, _⟩ := (ofR_some h).1 hx
    exact ⟨q, h1, h2⟩
  · rintro ⟨q, h1, h2⟩
    exact ⟨q.2, (ofR_some h).2 ⟨q, h1, h2, rfl⟩⟩
theorem who_eq {n : Nat} {m : List (Bal × Int)} (h : Inv n m) (K V X : Int) : whoP (hWho K V X) m = whoR n (m.map toS) K V X := by
  refine strict_ext _ _ (uniq_strict _) ((rng_strict n).filter _) (fun f => ?_)
  rw [mem_whoP, whoR, List.mem_filter, rng_mem, decide_eq_true_eq, ofR_some h]
  constructor
  · rintro ⟨q, hq, hh, rfl⟩
    have hv := h.ok q hq
    simp only [hWho, Bool.and_eq_true, decide_eq_true_eq] at hh
    exact ⟨⟨hv.2.2.2.1, hv.2.2.2.2.1⟩, q, hq, by rw [← hh.1.1, ← hh.1.2], hh.2⟩
  · rintro ⟨_, q, hq, hk, hx⟩
    refine ⟨q, hq, ?_, by rw [hk]⟩
    simp [hWho, hk, hx]
theorem all_eq {n : Nat} {m : List (Bal × Int)} (h : Inv n m) (K V : Int) : whoP (hAll K V) m = allR n (m.map toS) K V := by
  refine strict_ext _ _ (uniq_strict _) ((rng_strict n).filter _) (fun f => ?_)
  rw [mem_whoP, allR, List.mem_filter, rng_mem, ofR_isSome h]
  constructor
  · rintro ⟨q, hq, hh, rfl⟩
    have hv := h.ok q hq
    simp only [hAll, Bool.and_eq_true, decide_eq_true_eq] at hh
    exact ⟨⟨hv.2.2.2.1, hv.2.2.2.2.1⟩, q, hq, by rw [← hh.1, ← hh.2]⟩
  · rintro ⟨_, q, hq, hk⟩
    refine ⟨q, hq, ?_, by rw [hk]⟩
    simp [hAll, hk]
theorem most_meet {st A B : List Int} (h : okS st) (ha : mostB st A = true) (hb : mostB st B = true) : ∃ x, x ∈ A ∧ x ∈ B := by
  apply Classical.byContradiction
  intro hn
  have ha' : 3 * wl st A > 2 * tot st := by simpa [mostB] using ha
  have hb' : 3 * wl st B > 2 * tot st := by simpa [mostB] using hb
  have h1 : wl st A + wl st B = ws st 0 (fun x => decide (x ∈ A) && decide (x ∈ B)) + ws st 0 (fun x => decide (x ∈ A) || decide (x ∈ B)) := ws_add st (fun y => decide (y ∈ A)) (fun y => decide (y ∈ B)) 0
  have h2 : ws st 0 (fun x => decide (x ∈ A) && decide (x ∈ B)) = ws st 0 (fun _ => false) := by
    refine ws_congr 0 (fun j _ _ => ?_)
    by_cases hA : (j : Int) ∈ A
    · by_cases hB : (j : Int) ∈ B
      · exact absurd ⟨_, hA, hB⟩ hn
      · simp [hB]
    · simp [hA]
  have h3 : ∀ (l : List Int) i, ws l i (fun _ => false) = 0 := by
    intro l; induction l with
    | nil => intro i; rfl
    | cons w l ih => intro i; simp only [ws]; rw [ih]; simp
  have h4 : ws st 0 (fun x => decide (x ∈ A) || decide (x ∈ B)) ≤ tot st := ws_mono h.2.2 (p := fun x => decide (x ∈ A) || decide (x ∈ B)) (q := fun _ => true) (fun _ _ => rfl) 0
  have h5 := tot_bounds h
  rw [h2, h3] at h1
  omega
theorem whoR_mem {n : Nat} {m : List S41} {K V X F : Int} : F ∈ whoR n m K V X ↔ (0 ≤ F ∧ F < n) ∧ ofR m K V F = some X := by
  rw [whoR, List.mem_filter, rng_mem, decide_eq_true_eq]
theorem most_one {st : List Int} {m : List S41} {K V X Y : Int} (h : okS st) (hx : mostB st (whoR st.length m K V X) = true) (hy : mostB st (whoR st.length m K V Y) = true) : X = Y := by
  obtain ⟨f, h1, h2⟩ := most_meet h hx hy
  have h1 := (whoR_mem.1 h1).2
  have h2 := (whoR_mem.1 h2).2
  rw [h1] at h2
  exact Option.some.inj h2
theorem most_inh {st : List Int} {m : List S41} {K V X : Int} (h : okS st) (hx : mostB st (whoR st.length m K V X) = true) : ∃ F, F ∈ whoR st.length m K V X := by
  obtain ⟨f, h1, _⟩ := most_meet h hx hx
  exact ⟨f, h1⟩
theorem mostR_iff {st : List Int} {m : List S41} {K V : Int} (h : okS st) : (∀ X, mostB st (whoR st.length m K V X) = true → mostR st m K V = (X, true)) ∧ ((∀ X, mostB st (whoR st.length m K V X) = false) → mostR st m K V = (0, false)) := by
  constructor
  · intro X hX
    unfold mostR
    obtain ⟨F, hF⟩ := most_inh h hX
    have hof := (whoR_mem.1 hF).2
    unfold ofR at hof
    cases hfnd : m.find? (at3 K V F) with
    | none => rw [hfnd] at hof; cases hof
    | some q0 =>
      rw [hfnd] at hof
      have hq0 : q0.f3 = X := by simpa using hof
      have ha := List.find?_some hfnd
      simp only [at3, Bool.and_eq_true, decide_eq_true_eq] at ha
      cases hf : m.find? (fun q => decide (q.f0 = K) && decide (q.f1 = V) && mostB st (whoR st.length m K V q.f3)) with
      | none =>
        have := List.find?_eq_none.1 hf q0 (List.mem_of_find?_eq_some hfnd)
        simp [ha.1.1, ha.1.2, hq0, hX] at this
      | some q =>
        have := List.find?_some hf
        simp only [Bool.and_eq_true] at this
        simp only
        rw [most_one h this.2 hX]
  · intro hn
    unfold mostR
    rw [List.find?_eq_none.2 (fun q _ => by simp [hn q.f3])]
theorem most_eq {st : List Int} {m : List (Bal × Int)} (hst : okS st) (h : Inv st.length m) (K V : Int) : mostP st m K V = mostR st (m.map toS) K V := by
  obtain ⟨h1, h2⟩ := mostR_iff (m := m.map toS) (K := K) (V := V) hst
  have hmv : ∀ F, mostV st m K V F = mostB st (whoR st.length (m.map toS) K V (valP m K V F)) := by
    intro F; unfold mostV; rw [who_eq h]
  unfold mostP
  cases hf : (whoP (hAll K V) m).find? (fun F => mostV st m K V F) with
  | some F =>
    have := List.find?_some hf
    rw [hmv] at this
    exact (h1 _ this).symm
  | none =>
    refine (h2 (fun X => ?_)).symm
    rw [← Bool.not_eq_true]
    intro hX
    obtain ⟨F, hF⟩ := most_inh hst hX
    have hof := (whoR_mem.1 hF).2
    have hin : F ∈ whoP (hAll K V) m := by rw [all_eq h, allR, List.mem_filter, rng_mem]; exact ⟨(whoR_mem.1 hF).1, by rw [hof]; rfl⟩
    have := List.find?_eq_none.1 hf F hin
    rw [hmv, valP_eq, hof] at this
    simp [hX] at this
theorem viewsP_mem {m : List (Bal × Int)} {V : Int} : V ∈ viewsP m ↔ ∃ q ∈ m, q.1.1.2.1 = V := by
  rw [viewsP, uniq_mem, List.mem_map]
theorem find_least {p : Int → Bool} : ∀ {l : List Int}, l.Pairwise (· < ·) → ∀ {x}, l.find? p = some x ↔ x ∈ l ∧ p x = true ∧ ∀ y ∈ l, p y = true → x ≤ y := by
  intro l
  induction l with
  | nil => intro _ x; simp
  | cons a l ih =>
    intro hp x
    rw [List.pairwise_cons] at hp
    rw [List.find?_cons]
    cases ha : p a with
    | true =>
      simp only [Option.some.injEq]
      constructor
      · rintro rfl
        refine ⟨List.mem_cons_self, ha, fun y hy _ => ?_⟩
        rcases List.mem_cons.1 hy with rfl | hy
        · exact Int.le_refl _
        · exact Int.le_of_lt (hp.1 y hy)
      · rintro ⟨hx, h2, h3⟩
        rcases List.mem_cons.1 hx with e | hx
        · exact e.symm
        · have h4 := h3 a List.mem_cons_self ha
          have h5 := hp.1 x hx
          omega
    | false =>
      simp only
      rw [ih hp.2]
      constructor
      · rintro ⟨h1, h2, h3⟩
        refine ⟨List.mem_cons_of_mem _ h1, h2, fun y hy hpy => ?_⟩
        rcases List.mem_cons.1 hy with rfl | hy
        · rw [ha] at hpy; cases hpy
        · exact h3 y hy hpy
      · rintro ⟨h1, h2, h3⟩
        rcases List.mem_cons.1 h1 with rfl | h1
        · rw [ha] at h2; cases h2
        · exact ⟨h1, h2, fun y hy => h3 y (List.mem_cons_of_mem _ hy)⟩
def comVR (st : List Int) (m : List S41) (V : Int) : Bool := (mostR st m 5 V).2 && decide ((mostR st m 5 V).1 ≠ -1)
theorem com_fold (st : List Int) (m : List S41) : ∀ (l : List S41), (∀ q ∈ l, 0 ≤ q.f1) → ∀ b : Int × Int, (b.1 < 0 ∨ (comVR st m b.1 = true ∧ b.2 = (mostR st m 5 b.1).1)) →
    (∃ V, l.foldl (comStep st m) b = (V, (mostR st m 5 V).1) ∧ 0 ≤ V ∧ comVR st m V = true ∧ (V = b.1 ∨ ∃ q ∈ l, q.f1 = V) ∧ (∀ q ∈ l, comVR st m q.f1 = true → V ≤ q.f1) ∧ (0 ≤ b.1 → V ≤ b.1)) ∨
    (l.foldl (comStep st m) b = b ∧ b.1 < 0 ∧ ∀ q ∈ l, comVR st m q.f1 = false) := by
  intro l
  induction l with
  | nil =>
    intro _ b hb
    by_cases h0 : b.1 < 0
    · exact .inr ⟨rfl, h0, by simp⟩
    · rcases hb with h | ⟨h1, h2⟩
      · exact absurd h h0
      · exact .inl ⟨b.1, by rw [← h2]; rfl, by omega, h1, .inl rfl, by simp, fun _ => Int.le_refl _⟩
  | cons q l ih =>
    intro hl b hb
    rw [List.foldl_cons]
    have hq := hl q List.mem_cons_self
    have hl' : ∀ q ∈ l, 0 ≤ q.f1 := fun x hx => hl x (List.mem_cons_of_mem _ hx)
    by_cases hc : (mostR st m 5 q.f1).2 = true ∧ (mostR st m 5 q.f1).1 ≠ -1 ∧ (b.1 < 0 ∨ q.f1 < b.1)
    · have hstep : comStep st m b q = (q.f1, (mostR st m 5 q.f1).1) := by unfold comStep; rw [if_pos hc]
      have hcv : comVR st m q.f1 = true := by simp [comVR, hc.1, hc.2.1]
      rw [hstep]
      rcases ih hl' (q.f1, (mostR st m 5 q.f1).1) (.inr ⟨hcv, rfl⟩) with ⟨V, h1, h2, h3, h4, h5, h6⟩ | ⟨h1, h2, h3⟩
      · refine .inl ⟨V, h1, h2, h3, .inr ?_, ?_, ?_⟩
        · rcases h4 with h4 | ⟨x, hx, h4⟩
          · exact ⟨q, List.mem_cons_self, h4.symm⟩
          · exact ⟨x, List.mem_cons_of_mem _ hx, h4⟩
        · intro x hx hxc
          rcases List.mem_cons.1 hx with rfl | hx
          · exact h6 hq
          · exact h5 x hx hxc
        · intro hb0
          have := h6 hq
          simp only at this
          rcases hc.2.2 with h | h <;> omega
      · simp only at h2; omega
    · have hstep : comStep st m b q = b := by unfold comStep; rw [if_neg hc]
      rw [hstep]
      rcases ih hl' b hb with ⟨V, h1, h2, h3, h4, h5, h6⟩ | ⟨h1, h2, h3⟩
      · refine .inl ⟨V, h1, h2, h3, ?_, ?_, h6⟩
        · rcases h4 with h4 | ⟨x, hx, h4⟩
          · exact .inl h4
          · exact .inr ⟨x, List.mem_cons_of_mem _ hx, h4⟩
        · intro x hx hxc
          rcases List.mem_cons.1 hx with rfl | hx
          · simp only [comVR, Bool.and_eq_true, decide_eq_true_eq] at hxc
            by_cases hb0 : b.1 < 0
            · exact absurd ⟨hxc.1, hxc.2, .inl hb0⟩ hc
            · have h7 := h6 (by omega)
              have : ¬ x.f1 < b.1 := fun h => hc ⟨hxc.1, hxc.2, .inr h⟩
              omega
          · exact h5 x hx hxc
      · refine .inr ⟨h1, h2, ?_⟩
        intro x hx
        rcases List.mem_cons.1 hx with rfl | hx
        · rw [← Bool.not_eq_true]
          intro hxc
          simp only [comVR, Bool.and_eq_true, decide_eq_true_eq] at hxc
          exact hc ⟨hxc.1, hxc.2, .inl h2⟩
        · exact h3 x hx
theorem com_eq {st : List Int} {m : List (Bal × Int)} (hst : okS st) (h : Inv st.length m) : comP st m = comR st (m.map toS) := by
  have hcv : ∀ V, comV st m V = comVR st (m.map toS) V := by intro V; unfold comV comVR; rw [most_eq hst h]
  have hpos : ∀ q ∈ m.map toS, 0 ≤ q.f1 := by
    intro q hq
    obtain ⟨x, hx, rfl⟩ := List.mem_map.1 hq
    exact (h.ok x hx).2.1
  have hin : ∀ V, V ∈ viewsP m ↔ ∃ q ∈ m.map toS, q.f1 = V := by
    intro V
    rw [viewsP_mem]
    constructor
    · rintro ⟨q, hq, rfl⟩; exact ⟨toS q, List.mem_map.2 ⟨q, hq, rfl⟩, rfl⟩
    · rintro ⟨q, hq, rfl⟩
      obtain ⟨x, hx, rfl⟩ := List.mem_map.1 hq
      exact ⟨x, hx, rfl⟩
  unfold comP comR
  rcases com_fold st (m.map toS) (m.map toS) hpos (-1, 0) (.inl (by decide)) with ⟨V, h1, h2, h3, h4, h5, h6⟩ | ⟨h1, h2, h3⟩
  · have hf : (viewsP m).find? (fun V => comV st m V) = some V := by
      refine (find_least (uniq_strict _)).2 ⟨?_, by rw [hcv]; exact h3, fun y hy hyc => ?_⟩
      · refine (hin V).2 ?_
        rcases h4 with h4 | h4
        · simp only at h4; omega
        · exact h4
      · obtain ⟨q, hq, rfl⟩ := (hin y).1 hy
        exact h5 q hq (by rw [← hcv]; exact hyc)
    rw [hf, h1]
    simp only
    rw [most_eq hst h, decide_eq_true h2]
  · have hf : (viewsP m).find? (fun V => comV st m V) = none := by
      rw [List.find?_eq_none]
      intro y hy
      obtain ⟨q, hq, rfl⟩ := (hin y).1 hy
      simp [hcv, h3 q hq]
    rw [hf, h1]
    rfl
theorem wl_set {st A B : List Int} (h : ∀ x, x ∈ A ↔ x ∈ B) : wl st A = wl st B := ws_congr 0 (fun j _ _ => decide_eq_decide.2 (h _))
theorem some_eq {st : List Int} {m : List (Bal × Int)} (V : Int) : someB st (whoP (hAhead V) m) = someB st (aheadW (m.map toS) V) := by
  unfold someB
  rw [wl_set (B := aheadW (m.map toS) V) (fun x => ?_)]
  rw [mem_whoP, aheadW, List.mem_map]
  constructor
  · rintro ⟨q, hq, h1, rfl⟩
    exact ⟨toS q, List.mem_filter.2 ⟨List.mem_map.2 ⟨q, hq, rfl⟩, h1⟩, rfl⟩
  · rintro ⟨q, hq, rfl⟩
    obtain ⟨hq, h1⟩ := List.mem_filter.1 hq
    obtain ⟨x, hx, rfl⟩ := List.mem_map.1 hq
    exact ⟨x, hx, h1, rfl⟩
theorem ah_fold (st : List Int) (m : List S41) : ∀ (l : List S41) (b : Int),
    b ≤ l.foldl (ahStep st m) b ∧ (l.foldl (ahStep st m) b = b ∨ (b < l.foldl (ahStep st m) b ∧ someB st (aheadW m (l.foldl (ahStep st m) b)) = true ∧ ∃ q ∈ l, q.f1 = l.foldl (ahStep st m) b)) ∧
      ∀ q ∈ l, someB st (aheadW m q.f1) = true → q.f1 ≤ l.foldl (ahStep st m) b := by
  intro l
  induction l with
  | nil => intro b; exact ⟨Int.le_refl _, .inl rfl, by simp⟩
  | cons q l ih =>
    intro b
    rw [List.foldl_cons]
    by_cases hc : b < q.f1 ∧ someB st (aheadW m q.f1) = true
    · have hs : ahStep st m b q = q.f1 := by unfold ahStep; rw [if_pos hc]
      rw [hs]
      obtain ⟨h1, h2, h3⟩ := ih q.f1
      refine ⟨by omega, .inr ?_, ?_⟩
      · rcases h2 with h2 | ⟨h2, h4, x, hx, h5⟩
        · rw [h2]; exact ⟨hc.1, hc.2, q, List.mem_cons_self, rfl⟩
        · exact ⟨by omega, h4, x, List.mem_cons_of_mem _ hx, h5⟩
      · intro x hx hxs
        rcases List.mem_cons.1 hx with rfl | hx
        · exact h1
        · exact h3 x hx hxs
    · have hs : ahStep st m b q = b := by unfold ahStep; rw [if_neg hc]
      rw [hs]
      obtain ⟨h1, h2, h3⟩ := ih b
      refine ⟨h1, ?_, ?_⟩
      · rcases h2 with h2 | ⟨h2, h4, x, hx, h5⟩
        · exact .inl h2
        · exact .inr ⟨h2, h4, x, List.mem_cons_of_mem _ hx, h5⟩
      · intro x hx hxs
        rcases List.mem_cons.1 hx with rfl | hx
        · have : ¬ b < x.f1 := fun h => hc ⟨h, hxs⟩
          omega
        · exact h3 x hx hxs
theorem find_greatest {p : Int → Bool} {l : List Int} (hl : l.Pairwise (· < ·)) {x : Int} : l.reverse.find? p = some x ↔ x ∈ l ∧ p x = true ∧ ∀ y ∈ l, p y = true → y ≤ x := by
  have h := find_least (p := fun z => p (-z)) (l := l.reverse.map (fun z => -z)) (by
    rw [List.pairwise_map, List.pairwise_reverse]
    exact hl.imp (fun h => by omega)) (x := -x)
  rw [List.find?_map] at h
  have hc : ((fun z => p (-z)) ∘ fun z : Int => -z) = p := by funext z; simp
  rw [hc] at h
  constructor
  · intro he
    rw [he] at h
    obtain ⟨h1, h2, h3⟩ := h.1 rfl
    obtain ⟨y, hy, hyx⟩ := List.mem_map.1 h1
    have : y = x := by omega
    subst this
    refine ⟨List.mem_reverse.1 hy, by simpa using h2, fun z hz hpz => ?_⟩
    have := h3 (-z) (List.mem_map.2 ⟨z, List.mem_reverse.2 hz, rfl⟩) (by simpa using hpz)
    omega
  · rintro ⟨h1, h2, h3⟩
    have := h.2 ⟨List.mem_map.2 ⟨x, List.mem_reverse.2 h1, rfl⟩, by simpa using h2, fun y hy hpy => by
      obtain ⟨z, hz, rfl⟩ := List.mem_map.1 hy
      have := h3 z (List.mem_reverse.1 hz) (by simpa using hpy)
      omega⟩
    cases hf : l.reverse.find? p with
    | none => rw [hf] at this; cases this
    | some y =>
      rw [hf] at this
      have : -y = -x := by simpa using this
      have : y = x := by omega
      rw [this]
theorem ah_eq {st : List Int} {m : List (Bal × Int)} (view : Int) : ahP st m view = ahR st (m.map toS) view := by
  have hav : ∀ V, ahV st m view V = (decide (view < V) && someB st (aheadW (m.map toS) V)) := by intro V; unfold ahV; rw [some_eq]
  obtain ⟨h1, h2, h3⟩ := ah_fold st (m.map toS) (m.map toS) view
  have hin : ∀ V, V ∈ viewsP m ↔ ∃ q ∈ m.map toS, q.f1 = V := by
    intro V
    rw [viewsP_mem]
    constructor
    · rintro ⟨q, hq, rfl⟩; exact ⟨toS q, List.mem_map.2 ⟨q, hq, rfl⟩, rfl⟩
    · rintro ⟨q, hq, rfl⟩
      obtain ⟨x, hx, rfl⟩ := List.mem_map.1 hq
      exact ⟨x, hx, rfl⟩
  unfold ahP ahR
  rcases h2 with h2 | ⟨h2, h4, q, hq, h5⟩
  · rw [h2] at h3 ⊢
    rw [List.find?_eq_none.2 (fun y hy => ?_)]
    · rfl
    · obtain ⟨q, hq, rfl⟩ := (hin y).1 (List.mem_reverse.1 hy)
      rw [hav]
      intro hh
      simp only [Bool.and_eq_true, decide_eq_true_eq] at hh
      have := h3 q hq hh.2
      omega
  · rw [(find_greatest (x := (m.map toS).foldl (ahStep st (m.map toS)) view) (l := viewsP m) (uniq_strict _)).2 ⟨?_, ?_, ?_⟩]
    · rfl
    · exact (hin _).2 ⟨q, hq, h5⟩
    · rw [hav]; simp [h2, h4]
    · intro y hy hyc
      obtain ⟨x, hx, rfl⟩ := (hin y).1 hy
      rw [hav] at hyc
      simp only [Bool.and_eq_true, decide_eq_true_eq] at hyc
      exact h3 x hx hyc.2
theorem Inv.add {st : List Int} {m : List (Bal × Int)} (h : Inv st.length m) {k : Bal} {x : Int} (ha : addB st m k x = true) : Inv st.length (m ++ [(k, x)]) := by
  simp only [addB, Bool.and_eq_true, Bool.or_eq_true, decide_eq_true_eq] at ha
  obtain ⟨⟨⟨⟨⟨⟨h1, h2⟩, h3⟩, h4⟩, h5⟩, h6⟩, h7⟩ := ha
  refine ⟨fun q hq => ?_, ?_⟩
  · rcases List.mem_append.1 hq with hq | hq
    · exact h.ok q hq
    · obtain rfl : q = (k, x) := by simpa using hq
      exact ⟨h2, h3, h4, h5, h6, h7⟩
  · rw [List.map_append, List.nodup_append]
    refine ⟨h.nd, by simp, fun a ha b hb => ?_⟩
    obtain rfl : b = k.1 := by simpa using hb
    rintro rfl
    obtain ⟨q, hq, he⟩ := List.mem_map.1 ha
    rw [alook_find] at h1
    cases hf : m.find? fun q => decide (q.1.1 = k.1) with
    | none =>
      have := List.find?_eq_none.1 hf q hq
      simp [he] at this
    | some q => rw [hf] at h1; simp at h1
end Go.Np.Tryz
set_option linter.unusedVariables false
set_option linter.unusedSimpArgs false
set_option linter.unusedVariables false
set_option linter.unusedSimpArgs false
namespace Go.Np.Tryz
open Go.RowKit Go.Proofs Go.Proofs.YtgfiglcmhlbjjaaGreat.PX Go.Proofs.YtgfiglcmhlbjjaaGreatW.PrintWords
structure Ty (w0 w : World) (p : Nat) (st : List Int) (m : List (Bal × Int)) : Prop where
  t : Tl w0 w p st m
  inv : Inv st.length m
  ok : okS st
  len : m.length < 1000000
theorem alook_of (m : List (Bal × Int)) (k : Bal) : alook m k = ofR (m.map toS) k.1.1 k.1.2.1 k.1.2.2 := by
  rw [alook_find]
  unfold ofR
  rw [find_key]
  cases m.find? fun q => decide (q.1.1 = (k.1.1, k.1.2.1, k.1.2.2)) <;> rfl
section
variable {w0 w : World} {p : Nat} {st : List Int} {m : List (Bal × Int)}
theorem yVote (h : Ty w0 w p st m) (K V F : Int) (hwf : wf64 K ∧ wf64 V ∧ wf64 F) :
    Calls Tryz.prog 54 #[.pointer (some ⟨p, 0, none⟩), .int .i64 K, .int .i64 V, .int .i64 F] w fun e w' => e = .returned (.tuple #[.int .i64 ((ofR (m.map toS) K V F).getD 0), .bool (ofR (m.map toS) K V F).isSome]) ∧ Fr [] w w' := by
  refine (tvote_calls h.t ⟨(K, V, F), hwf⟩).mono ?_
  rintro e w' ⟨rfl, n, rfl⟩
  rw [alook_of]
  exact ⟨rfl, (Fr.refl _ _).drewN n⟩
theorem yWho (h : Ty w0 w p st m) (K V X : Int) :
    Calls Tryz.prog 74 #[.pointer (some ⟨p, 0, none⟩), .int .i64 K, .int .i64 V, .int .i64 X] w fun e w' => MadeI w w' e (whoR st.length (m.map toS) K V X) := by
  have := tWho_calls h.t (by have := h.len; omega) K V X
  rw [who_eq h.inv] at this
  exact this
theorem yMost (h : Ty w0 w p st m) (K V : Int) (hK : wf64 K) (hV : wf64 V) :
    Calls Tryz.prog 52 #[.pointer (some ⟨p, 0, none⟩), .int .i64 K, .int .i64 V] w fun e w' => e = .returned (.tuple #[.int .i64 (mostR st (m.map toS) K V).1, .bool (mostR st (m.map toS) K V).2]) ∧ Fr [] w w' := by
  have := tMost_calls h.t h.ok (by have := h.len; omega) K V hK hV
  rw [most_eq h.ok h.inv] at this
  exact this
theorem yCom (h : Ty w0 w p st m) :
    Calls Tryz.prog 64 #[.pointer (some ⟨p, 0, none⟩)] w fun e w' => e = .returned (.tuple #[.int .i64 (comR st (m.map toS)).1, .bool (comR st (m.map toS)).2]) ∧ Fr [] w w' := by
  have := tCom_calls h.t h.ok (by have := h.len; omega)
  rw [com_eq h.ok h.inv] at this
  exact this
theorem yAh (h : Ty w0 w p st m) (view : Int) :
    Calls Tryz.prog 51 #[.pointer (some ⟨p, 0, none⟩), .int .i64 view] w fun e w' => e = .returned (.int .i64 (ahR st (m.map toS) view)) ∧ Fr [] w w' := by
  have := tAhead_calls h.t h.ok (by have := h.len; omega) view
  rw [ah_eq] at this
  exact this
end
def addR (n : Nat) (mS : List S41) (q : S41) : Bool :=
  (ofR mS q.f0 q.f1 q.f2).isNone && (decide (q.f0 = 4) || decide (q.f0 = 5)) && decide (0 ≤ q.f1) && decide (q.f1 ≤ 1000) && decide (0 ≤ q.f2) && decide (q.f2 < n) && decide (-1 ≤ q.f3)
theorem addB_eq (st : List Int) (m : List (Bal × Int)) (k : Bal) (x : Int) : addB st m k x = addR st.length (m.map toS) (toS (k, x)) := by
  unfold addB addR
  rw [alook_of]
  rfl
def stepR (n : Nat) (mS : List S41) (q : S41) : List S41 := if addR n mS q then mS ++ [q] else mS
end Go.Np.Tryz
set_option linter.unusedVariables false
set_option linter.unusedSimpArgs false
namespace Go.Np.Tryz
open Go.RowKit Go.Proofs Go.Proofs.YtgfiglcmhlbjjaaGreat.PX Go.Proofs.YtgfiglcmhlbjjaaGreatW.PrintWords
def Tz (w0 w : World) (p b : Nat) (st : List Int) (mS : List S41) : Prop := ∃ m A c, m.map toS = mS ∧ TlAt w0 w p b A c st m ∧ Inv st.length m ∧ okS st ∧ m.length < 1000000
section
variable {w0 w : World} {p b : Nat} {st : List Int} {mS : List S41}
theorem Tz.b0 (h : Tz w0 w p b st mS) : w0.heap.size ≤ b := by obtain ⟨m, A, c, h1, h2, h3⟩ := h; exact h2.b0
theorem Tz.p0 (h : Tz w0 w p b st mS) : w0.heap.size ≤ p := by obtain ⟨m, A, c, h1, h2, h3⟩ := h; exact h2.p0
theorem Tz.base {w1 : World} (h : Tz w1 w p b st mS) (hF : Fr [] w0 w1) : Tz w0 w p b st mS := by
  obtain ⟨m, A, c, h1, h, h3⟩ := h
  exact ⟨m, A, c, h1, ⟨h.obj, h.map, h.row, h.cap, hF.trans h.fr (by simp), Nat.le_trans hF.size h.p0, Nat.le_trans hF.size h.b0⟩, h3⟩
theorem Tz.y (h : Tz w0 w p b st mS) : ∃ m, m.map toS = mS ∧ Ty w0 w p st m := by
  obtain ⟨m, A, c, h1, h2, h3, h4, h5⟩ := h
  exact ⟨m, h1, ⟨b, A, c, h2⟩, h3, h4, h5⟩
theorem zVote (h : Tz w0 w p b st mS) (K V F : Int) (hwf : wf64 K ∧ wf64 V ∧ wf64 F) :
    Calls Tryz.prog 54 #[.pointer (some ⟨p, 0, none⟩), .int .i64 K, .int .i64 V, .int .i64 F] w fun e w' => e = .returned (.tuple #[.int .i64 ((ofR mS K V F).getD 0), .bool (ofR mS K V F).isSome]) ∧ Fr [] w w' := by
  obtain ⟨m, rfl, hy⟩ := h.y; exact yVote hy K V F hwf
theorem zMost (h : Tz w0 w p b st mS) (K V : Int) (hK : wf64 K) (hV : wf64 V) :
    Calls Tryz.prog 52 #[.pointer (some ⟨p, 0, none⟩), .int .i64 K, .int .i64 V] w fun e w' => e = .returned (.tuple #[.int .i64 (mostR st mS K V).1, .bool (mostR st mS K V).2]) ∧ Fr [] w w' := by
  obtain ⟨m, rfl, hy⟩ := h.y; exact yMost hy K V hK hV
theorem zCom (h : Tz w0 w p b st mS) :
    Calls Tryz.prog 64 #[.pointer (some ⟨p, 0, none⟩)] w fun e w' => e = .returned (.tuple #[.int .i64 (comR st mS).1, .bool (comR st mS).2]) ∧ Fr [] w w' := by
  obtain ⟨m, rfl, hy⟩ := h.y; exact yCom hy
theorem zAh (h : Tz w0 w p b st mS) (view : Int) :
    Calls Tryz.prog 51 #[.pointer (some ⟨p, 0, none⟩), .int .i64 view] w fun e w' => e = .returned (.int .i64 (ahR st mS view)) ∧ Fr [] w w' := by
  obtain ⟨m, rfl, hy⟩ := h.y; exact yAh hy view
theorem zAdd (h : Tz w0 w p b st mS) (hl : mS.length < 999999) (K V F x : Int) (hwf : wf64 K ∧ wf64 V ∧ wf64 F) :
    Calls Tryz.prog 36 #[.pointer (some ⟨p, 0, none⟩), .int .i64 K, .int .i64 V, .int .i64 F, .int .i64 x] w fun e w' => e = .returned (.bool (addR st.length mS ⟨K, V, F, x⟩)) ∧ Tz w0 w' p b st (stepR st.length mS ⟨K, V, F, x⟩) ∧ Fr [b] w w' := by
  obtain ⟨m, A, c, rfl, h2, h3, h4, h5⟩ := h
  refine (tadd_calls h2 K V F hwf x).mono ?_
  rintro e w' ⟨rfl, h6, h7⟩
  have he := addB_eq st m ⟨(K, V, F), hwf⟩ x
  have ht : toS (⟨(K, V, F), hwf⟩, x) = ⟨K, V, F, x⟩ := rfl
  rw [ht] at he
  refine ⟨by rw [he], ?_, h7⟩
  unfold stepR
  rw [← he]
  cases ha : addB st m ⟨(K, V, F), hwf⟩ x with
  | true =>
    rw [ha] at h6
    simp only [if_true] at h6 ⊢
    refine ⟨m ++ [(⟨(K, V, F), hwf⟩, x)], A, c, by simp [toS], h6, h3.add ha, h4, ?_⟩
    simp at hl ⊢; omega
  | false =>
    rw [ha] at h6
    simp only [Bool.false_eq_true, if_false] at h6 ⊢
    exact ⟨m, A, c, rfl, h6, h3, h4, h5⟩
end
theorem made_C (w : World) (l : List Int) (hl : l.length < 1000000) (hne : l ≠ []) : (Kd.int .i64).C (w.alloc (.cells (l.map (Value.int .i64)).toArray 3)) (some ⟨w.heap.size, 0, none⟩) l.length l := by
  have h : (w.alloc (.cells (l.map (Value.int .i64)).toArray 3)).ownsRow 0 3 1 (.slice (some ⟨w.heap.size, 0, none⟩) l.length l.length) l.length (l.map (Value.int .i64)) :=
    ⟨by simp, .inr ⟨w.heap.size, l.length, (l.map (Value.int .i64)).toArray, rfl, Nat.zero_le _, heap_alloc_new w _, Nat.le_refl _, by unfold maxLen; omega, by simp, by simp only [Nat.mul_one]; exact List.take_of_length_le (by simp)⟩⟩
  obtain ⟨A4, c4, he4, h6, h7⟩ := Kd.R_reads (Kd.R_of_own (ok := fun _ => True) h (fun _ _ => trivial))
  injection he4 with e1 e2 e3
  rw [e1]
  exact h7
end Go.Np.Tryz
