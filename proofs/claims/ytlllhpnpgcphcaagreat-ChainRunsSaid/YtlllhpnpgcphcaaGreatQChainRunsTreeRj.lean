/- What ChainRuns needs. -/
import Derived.Test.YtlllhpnpgcphcaaGreatQChainRunsDocB
set_option linter.unusedVariables false
set_option linter.unusedSimpArgs false
namespace Go.Np.Tryz
open Go.RowKit Go.Proofs Go.Proofs.YtlllhpnpgcphcaaGreat.PX Go.Proofs.YtlllhpnpgcphcaaGreatW.PrintWords
def insR (n : Int) (d : Bool) : List Int → List Int
  | [] => if d = true then [] else [n]
  | x :: l => if d = false ∧ n ≤ x then n :: (if x = n then insR n true l else x :: insR n true l) else (if x = n then insR n d l else x :: insR n d l)
theorem insR_true (n : Int) : ∀ l, insR n true l = l.filter (fun x => decide (x ≠ n))
  | [] => rfl
  | x :: l => by
    simp only [insR]
    rw [if_neg (by simp), insR_true n l]
    by_cases h : x = n <;> simp [h]
theorem insR_mem (n : Int) (x : Int) : ∀ l, x ∈ insR n false l ↔ x = n ∨ x ∈ l
  | [] => by simp [insR]
  | y :: l => by
    simp only [insR]
    by_cases h : n ≤ y
    · rw [if_pos ⟨trivial, h⟩, insR_true]
      by_cases e : y = n
      · subst e
        rw [if_pos rfl]
        simp only [List.mem_cons, List.mem_filter, decide_eq_true_eq]
        constructor
        · rintro (h1 | h1)
          · exact .inl h1
          · exact .inr (.inr h1.1)
        · rintro (h1 | h1 | h1)
          · exact .inl h1
          · exact .inl h1
          · by_cases e2 : x = y
            · exact .inl e2
            · exact .inr ⟨h1, e2⟩
      · rw [if_neg e]
        simp only [List.mem_cons, List.mem_filter, decide_eq_true_eq]
        constructor
        · rintro (h1 | h1 | h1)
          · exact .inl h1
          · exact .inr (.inl h1)
          · exact .inr (.inr h1.1)
        · rintro (h1 | h1 | h1)
          · exact .inl h1
          · exact .inr (.inl h1)
          · by_cases e2 : x = n
            · exact .inl e2
            · exact .inr (.inr ⟨h1, e2⟩)
    · rw [if_neg (fun h' => h h'.2), if_neg (by omega)]
      simp only [List.mem_cons, insR_mem n x l]
      constructor
      · rintro (h1 | h1 | h1)
        · exact .inr (.inl h1)
        · exact .inl h1
        · exact .inr (.inr h1)
      · rintro (h1 | h1 | h1)
        · exact .inr (.inl h1)
        · exact .inl h1
        · exact .inr (.inr h1)
theorem insR_strict (n : Int) : ∀ l, l.Pairwise (· < ·) → (insR n false l).Pairwise (· < ·)
  | [], _ => by simp [insR]
  | y :: l, h => by
    obtain ⟨h1, h2⟩ := List.pairwise_cons.1 h
    have hf : (l.filter fun x => decide (x ≠ n)).Pairwise (· < ·) := h2.sublist List.filter_sublist
    simp only [insR]
    by_cases hn : n ≤ y
    · rw [if_pos ⟨trivial, hn⟩, insR_true]
      by_cases e : y = n
      · subst e
        rw [if_pos rfl, List.pairwise_cons]
        exact ⟨fun x hx => h1 x (List.mem_filter.1 hx).1, hf⟩
      · rw [if_neg e, List.pairwise_cons, List.pairwise_cons]
        refine ⟨fun x hx => ?_, fun x hx => h1 x (List.mem_filter.1 hx).1, hf⟩
        rcases List.mem_cons.1 hx with hx | hx
        · omega
        · have := h1 x (List.mem_filter.1 hx).1; omega
    · rw [if_neg (fun h' => hn h'.2), if_neg (by omega), List.pairwise_cons]
      refine ⟨fun x hx => ?_, insR_strict n l h2⟩
      rcases (insR_mem n x l).1 hx with e | e
      · omega
      · exact h1 x e
theorem insR_len (n : Int) : ∀ (d : Bool) (l : List Int), (insR n d l).length ≤ l.length + 1
  | d, [] => by cases d <;> simp [insR]
  | d, y :: l => by
    have h1 := insR_len n true l
    have h2 := insR_len n d l
    have h3 : (insR n true l).length ≤ l.length := by rw [insR_true]; exact List.length_filter_le _ _
    simp only [insR]
    split
    · split <;> simp <;> omega
    · split <;> simp <;> omega
theorem rins_l (n : Int) (L : List Int) (hL : L.length ≤ 1000000) : ∀ (m j : Nat) (x5 : List Int) (d : Bool), j + m = L.length → x5.length ≤ 2 * j + 1 → ∀ k, 2 * m + 1 ≤ k →
    neaptideref08_insert.l0 k n x5 d L (L.length : Int) (j : Int) = some (x5 ++ insR n d (L.drop j))
  | 0, j, x5, d, hj, hx, k, hk => by
    obtain ⟨k, rfl⟩ : ∃ j, k = j + 1 := ⟨k - 1, by omega⟩
    simp only [neaptideref08_insert.l0]
    rw [if_neg (by omega), List.drop_eq_nil_of_le (by omega)]
    cases d with
    | true => simp [insR]
    | false => rw [if_neg (by simp), if_pos (by omega)]; simp [insR]
  | m + 1, j, x5, d, hj, hx, k, hk => by
    obtain ⟨k, rfl⟩ : ∃ j, k = j + 2 := ⟨k - 2, by omega⟩
    have hlt : j < L.length := by omega
    have hd : L.drop j = L[j] :: L.drop (j + 1) := List.drop_eq_getElem_cons hlt
    simp only [neaptideref08_insert.l0, neaptideref08_insert.j1, rdI L j hlt]
    rw [if_pos (by omega), if_pos (by omega), if_pos (by omega), hd, wr_step j (by omega)]
    obtain ⟨y, hy⟩ : ∃ y, L[j] = y := ⟨_, rfl⟩
    rw [hy]
    simp only [insR]
    by_cases hc : d = false ∧ n ≤ y
    · obtain ⟨rfl, hc⟩ := hc
      rw [if_neg (by simp), if_pos (by simpa using hc), if_pos (by omega), if_pos ⟨rfl, hc⟩]
      simp only [Option.bind_some]
      by_cases e : y = n
      · rw [if_pos e, if_pos e, rins_l n L hL m (j + 1) _ true (by omega) (by simp; omega) k (by omega)]
        simp
      · rw [if_neg e, if_neg e, if_pos (by simp; omega), rins_l n L hL m (j + 1) _ true (by omega) (by simp; omega) k (by omega)]
        simp
    · have hrest : (if y = n then neaptideref08_insert.l0 k n x5 d L (L.length : Int) ((j + 1 : Nat) : Int) else (if x5.length < 17592186044416 then neaptideref08_insert.l0 k n (x5 ++ [y]) d L (L.length : Int) ((j + 1 : Nat) : Int) else none)) = some (x5 ++ (if y = n then insR n d (L.drop (j + 1)) else y :: insR n d (L.drop (j + 1)))) := by
        by_cases e : y = n
        · rw [if_pos e, if_pos e, rins_l n L hL m (j + 1) _ d (by omega) (by omega) k (by omega)]
        · rw [if_neg e, if_neg e, if_pos (by omega), rins_l n L hL m (j + 1) _ d (by omega) (by simp; omega) k (by omega)]
          simp
      rw [if_neg hc]
      cases d with
      | true => rw [if_pos rfl, if_neg (by simp)]; exact hrest
      | false => rw [if_neg (by simp), if_neg (by simpa using fun h => hc ⟨rfl, h⟩)]; exact hrest
theorem rins_ev (n : Int) (L : List Int) (hL : L.length ≤ 1000000) (k : Nat) (hk : 2 * L.length + 1 ≤ k) : neaptideref08_insert.f k L n = some (insR n false L) := by
  have := rins_l n L hL L.length 0 [] false (by omega) (by simp) k hk
  unfold neaptideref08_insert.f
  simpa using this
def insAll (l : List Int) : List Int := l.foldl (fun o n => insR n false o) []
theorem insAll_snoc (l : List Int) (n : Int) : insAll (l ++ [n]) = insR n false (insAll l) := by simp [insAll]
theorem insAll_strict : ∀ (m : Nat) (l : List Int), l.length = m → (insAll l).Pairwise (· < ·) ∧ (∀ x, x ∈ insAll l ↔ x ∈ l) ∧ (insAll l).length ≤ l.length
  | 0, l, h => by
    obtain rfl := List.eq_nil_of_length_eq_zero h
    simp [insAll]
  | m + 1, l, h => by
    have hne : l ≠ [] := by intro e; subst e; simp at h
    obtain ⟨a, x, rfl⟩ := snoc_of hne
    obtain ⟨h1, h2, h3⟩ := insAll_strict m a (by simp at h; exact h)
    rw [insAll_snoc]
    refine ⟨insR_strict x _ h1, fun y => ?_, ?_⟩
    · rw [insR_mem, h2 y, List.mem_append]
      simp [or_comm]
    · have := insR_len x false (insAll a)
      simp
      omega
theorem insAll_uniq (l : List Int) : insAll l = uniq l := by
  obtain ⟨h1, h2, _⟩ := insAll_strict _ l rfl
  exact strict_ext _ _ h1 (uniq_strict l) (fun x => by rw [h2 x, uniq_mem])
theorem insAll_len (l : List Int) : (insAll l).length ≤ l.length := (insAll_strict _ l rfl).2.2
theorem rnames_l (L : List Kn) (hL : ∀ e ∈ L, e.name = nameB e.blk ∧ rng e.blk) (hlen : L.length ≤ 400) : ∀ (m j : Nat) (x3 : List Int), j + m = L.length → x3 = insAll ((L.take j).map (·.name)) → ∀ k, m + 1000 ≤ k →
    neaptideref08_Names.l0 k x3 (L.map (·.blk)) ((L.map (·.blk)).length : Int) (j : Int) = some (insAll (L.map (·.name)))
  | 0, j, x3, hj, hx, k, hk => by
    obtain ⟨k, rfl⟩ : ∃ j, k = j + 1 := ⟨k - 1, by omega⟩
    simp only [neaptideref08_Names.l0]
    rw [if_neg (by simp; omega), hx, List.take_of_length_le (by omega)]
  | m + 1, j, x3, hj, hx, k, hk => by
    obtain ⟨k, rfl⟩ : ∃ j, k = j + 1 := ⟨k - 1, by omega⟩
    have hlt : j < L.length := by omega
    have hr : rd_T35 (L.map (·.blk)) (j : Int) = L[j].blk := by rw [rd28 _ _ (by simpa using hlt)]; simp
    obtain ⟨e1, e2⟩ := hL L[j] (List.getElem_mem hlt)
    have hl3 : x3.length ≤ 400 := by
      have := insAll_len ((L.take j).map (·.name))
      rw [hx]; simp at this ⊢; omega
    simp only [neaptideref08_Names.l0, hr]
    rw [if_pos (by simp; omega), if_pos (by omega), if_pos (by simp; omega), rname_ev _ e2 k (by omega), ← e1]
    simp only [Option.bind_some]
    rw [rins_ev _ x3 (by omega) k (by omega)]
    simp only [Option.bind_some]
    rw [wr_step j (by omega)]
    refine rnames_l L hL hlen m (j + 1) _ (by omega) ?_ k (by omega)
    rw [List.take_succ_eq_append_getElem hlt, List.map_append, List.map_singleton, insAll_snoc, hx]
theorem rnames_f {t : Tr} (hG : t.Good) (hR : t.Rng) (W : List Blk) (k : Nat) (hk : 1400 ≤ k) : neaptideref08_Names.f k t.ks W = some t.names := by
  have h4 := hG.ok.few
  unfold neaptideref08_Names.f Tr.ks Tr.names
  have := rnames_l t.known (fun e he => ⟨(hG.ok.known e he).1, hR.known e he⟩) h4 t.known.length 0 [] (by omega) (by simp [insAll]) k (by omega)
  rw [insAll_uniq] at this
  exact this
def Tr.best (t : Tr) (b x : Int) : Int := if t.high x > t.high b then x else b
theorem rtip_l {t : Tr} (hG : t.Good) (hR : t.Rng) (L : List Int) (hL : L.length ≤ 400) : ∀ (m j : Nat) (x3 : Int), j + m = L.length → ∀ k, m + 1000 ≤ k →
    neaptideref08_Tip.l0 k x3 L (L.length : Int) (j : Int) t.ks t.wait = some ((L.drop j).foldl t.best x3)
  | 0, j, x3, hj, k, hk => by
    obtain ⟨k, rfl⟩ : ∃ j, k = j + 1 := ⟨k - 1, by omega⟩
    simp only [neaptideref08_Tip.l0]
    rw [if_neg (by omega), List.drop_eq_nil_of_le (by omega)]
    rfl
  | m + 1, j, x3, hj, k, hk => by
    obtain ⟨k, rfl⟩ : ∃ j, k = j + 1 := ⟨k - 1, by omega⟩
    have hlt : j < L.length := by omega
    have hd : L.drop j = L[j] :: L.drop (j + 1) := List.drop_eq_getElem_cons hlt
    simp only [neaptideref08_Tip.l0, rdI L j hlt]
    rw [if_pos (by omega), if_pos (by omega), if_pos (by omega), rheight_f hG hR t.wait _ k (by omega), rheight_f hG hR t.wait _ k (by omega), hd, wr_step j (by omega)]
    simp only [Option.bind_some, List.foldl_cons]
    by_cases hc : t.high L[j] > t.high x3
    · rw [if_pos hc, show t.best x3 L[j] = L[j] from if_pos hc]
      exact rtip_l hG hR L hL m (j + 1) _ (by omega) k (by omega)
    · rw [if_neg hc, show t.best x3 L[j] = x3 from if_neg hc]
      exact rtip_l hG hR L hL m (j + 1) _ (by omega) k (by omega)
theorem best_fold (t : Tr) : ∀ (l : List Int) (b : Int), l.Pairwise (· < ·) → (l.foldl t.best b = b ∧ ∀ x ∈ l, t.high x ≤ t.high b) ∨ (l.foldl t.best b ∈ l ∧ t.high b < t.high (l.foldl t.best b) ∧ ∀ x ∈ l, t.better (l.foldl t.best b) x)
  | [], b, _ => .inl ⟨rfl, by simp⟩
  | x :: l, b, h => by
    obtain ⟨h1, h2⟩ := List.pairwise_cons.1 h
    rw [List.foldl_cons]
    by_cases hc : t.high x > t.high b
    · rw [show t.best b x = x from if_pos hc]
      rcases best_fold t l x h2 with ⟨h3, h4⟩ | ⟨h3, h4, h5⟩
      · rw [h3]
        refine .inr ⟨by simp, hc, fun y hy => ?_⟩
        rcases List.mem_cons.1 hy with rfl | hy
        · exact Tr.better.refl t _
        · have e1 := h4 y hy
          have e2 := h1 y hy
          unfold Tr.better
          omega
      · refine .inr ⟨by simp [h3], by omega, fun y hy => ?_⟩
        rcases List.mem_cons.1 hy with rfl | hy
        · unfold Tr.better; omega
        · exact h5 y hy
    · rw [show t.best b x = b from if_neg hc]
      rcases best_fold t l b h2 with ⟨h3, h4⟩ | ⟨h3, h4, h5⟩
      · refine .inl ⟨h3, fun y hy => ?_⟩
        rcases List.mem_cons.1 hy with rfl | hy
        · omega
        · exact h4 y hy
      · refine .inr ⟨by simp [h3], h4, fun y hy => ?_⟩
        rcases List.mem_cons.1 hy with rfl | hy
        · unfold Tr.better; omega
        · exact h5 y hy
theorem rtip_f {t : Tr} (hG : t.Good) (hR : t.Rng) (k : Nat) (hk : 1500 ≤ k) : neaptideref08_Tip.f k t.ks t.wait = some t.tip := by
  have h4 := hG.ok.few
  have hnl : t.names.length ≤ 400 := by rw [names_len hG.ok]; exact h4
  unfold neaptideref08_Tip.f
  rw [rnames_f hG hR t.wait k (by omega)]
  simp only [Option.bind_some]
  have := rtip_l hG hR t.names hnl t.names.length 0 0 (by omega) k (by omega)
  rw [List.drop_zero] at this
  rw [show ((0 : Nat) : Int) = 0 from rfl] at this
  rw [this]
  congr 1
  have h00 : t.high 0 = 0 := by unfold Tr.high; rw [if_pos rfl]
  by_cases hn : t.names = []
  · rw [Tr.tip_empty hn, hn]; rfl
  · obtain ⟨s1, s2⟩ := Tr.tip_spec hn
    rcases best_fold t t.names 0 (uniq_strict _) with ⟨h1, h2⟩ | ⟨h1, h2, h3⟩
    · have := h2 _ s1
      have h5 := Tr.high_pos hG.ok (Tr.mem_names.1 s1)
      omega
    · have e1 := h3 _ s1
      have e2 := s2 _ h1
      unfold Tr.better at e1 e2
      omega
theorem rsame_l (L : List S67) (hL : L.length ≤ 1000000) : ∀ (m j : Nat), j + m = L.length → ∀ k, m + 1 ≤ k → neaptideref06_Same.l0 k L L (L.length : Int) (j : Int) = some true
  | 0, j, hj, k, hk => by
    obtain ⟨k, rfl⟩ : ∃ j, k = j + 1 := ⟨k - 1, by omega⟩
    simp only [neaptideref06_Same.l0]
    rw [if_neg (by omega)]
  | m + 1, j, hj, k, hk => by
    obtain ⟨k, rfl⟩ : ∃ j, k = j + 1 := ⟨k - 1, by omega⟩
    simp only [neaptideref06_Same.l0]
    rw [if_pos (by omega), if_pos (by omega), if_pos (by omega), if_pos (by omega), if_neg (by simp), wr_step j (by omega)]
    exact rsame_l L hL m (j + 1) (by omega) k (by omega)
theorem rsame_ev (b : Blk) (hb : b.f4.length ≤ 1000000) (k : Nat) (hk : b.f4.length + 1 ≤ k) : neaptideref07_Same.f k b.f0 b.f1 b.f2 b.f3 b.f4 b.f0 b.f1 b.f2 b.f3 b.f4 = some true := by
  unfold neaptideref07_Same.f neaptideref06_Same.f
  rw [if_pos rfl, if_pos rfl, if_pos rfl, if_pos rfl, if_pos rfl]
  have := rsame_l b.f4 hb b.f4.length 0 (by omega) k hk
  rw [show ((0 : Nat) : Int) = 0 from rfl] at this
  rw [this]
  rfl
section
variable {t : Tr} {P : Nat → Prop} {w : World} {A0 A1 : Option Addr} {c0 c1 : Nat}
theorem rtip_calls (hG : t.Good) (hR : t.Rng) (h0 : VB w P (.slice A0 t.ks.length c0) t.ks) (h1 : VB w P (.slice A1 t.wait.length c1) t.wait) :
    Calls Tryz.prog 18 #[.agg #[.slice A0 t.ks.length c0, .slice A1 t.wait.length c1]] w fun e w' => e = .returned (.int .i64 t.tip) ∧ Fr [] w w' :=
  (neaptideref08_Tip.calls 1500 A0 c0 t.ks A1 c1 t.wait _ w h0.C.2.2 h0.C.2.1 h1.C.2.2 h1.C.2.1 (rtip_f hG hR 1500 (by omega))).mono (fun e w' h => ⟨h.1, Fr.of_below [] h.2⟩)
theorem rsame_blk {b : Blk} {A A' : Option Addr} {c c' : Nat} (hb : b.f4.length ≤ 1000000) (h : k67.C w A b.f4.length b.f4) (hc : b.f4.length ≤ c) (h' : k67.C w A' b.f4.length b.f4) (hc' : b.f4.length ≤ c') :
    Calls Tryz.prog 13 #[.agg #[.int .i64 b.f0, .int .i64 b.f1, .int .i64 b.f2, .int .i64 b.f3, .slice A b.f4.length c], .agg #[.int .i64 b.f0, .int .i64 b.f1, .int .i64 b.f2, .int .i64 b.f3, .slice A' b.f4.length c']] w fun e w' => e = .returned (.bool true) ∧ Fr [] w w' :=
  (neaptideref07_Same.calls (b.f4.length + 1) b.f0 b.f1 b.f2 b.f3 A c b.f4 b.f0 b.f1 b.f2 b.f3 A' c' b.f4 true w h hc h' hc' (rsame_ev b hb _ (Nat.le_refl _))).mono (fun e w' h => ⟨h.1, Fr.of_below [] h.2⟩)
end
end Go.Np.Tryz
