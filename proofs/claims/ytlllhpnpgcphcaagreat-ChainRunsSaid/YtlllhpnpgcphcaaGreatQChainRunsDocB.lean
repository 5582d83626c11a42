/- What ChainRuns needs. -/
import Derived.Test.YtlllhpnpgcphcaaGreatQChainRunsDocA
import Derived.Test.YtlllhpnpgcphcaaGreatProg
import Derived.KernelRfl
import Derived.OpenShut
import Derived.WideKeyArr2
set_option linter.unusedVariables false
set_option linter.unusedSimpArgs false
namespace Go.Np.Tryz
open Go.RowKit Go.Proofs Go.Proofs.YtlllhpnpgcphcaaGreat.PX Go.Proofs.YtlllhpnpgcphcaaGreatW.PrintWords
def RIn (tj : Tr) (l : List Int) (j : Nat) (a : Bool) (tk : Tr) (l' : List Int) (R : List Blk) : Prop :=
  (a = false ∧ (∀ b ∈ tj.wait.take j, tj.ready b = false) ∧ R = tj.wait.take j ∧ tk = tj ∧ l' = l) ∨
  (a = true ∧ ∃ i b, tj.wait.findIdx? tj.ready = some i ∧ tj.wait[i]? = some b ∧ i < j ∧ R = (tj.wait.take j).eraseIdx i ∧ ((tj.room = true ∧ tk = tj.grow b ∧ l' = l ++ [nameB b]) ∨ (tj.room = false ∧ tk = tj ∧ l' = l)))
theorem RIn.start (tj : Tr) (l : List Int) : RIn tj l 0 false tj l [] := .inl ⟨rfl, by simp, by simp, rfl, rfl⟩
section
variable {tj tk : Tr} {l l' : List Int} {j : Nat} {R : List Blk} {b : Blk}
theorem RIn.off (h : RIn tj l j false tk l' R) : tk = tj ∧ l' = l := by
  rcases h with ⟨_, _, _, h1, h2⟩ | ⟨h, _⟩
  · exact ⟨h1, h2⟩
  · cases h
theorem take_snoc' {L : List Blk} (hb : L[j]? = some b) : L.take (j + 1) = L.take j ++ [b] := by
  obtain ⟨hj, he⟩ := List.getElem?_eq_some_iff.1 hb
  rw [List.take_succ_eq_append_getElem hj, he]
theorem RIn.no (h : RIn tj l j false tk l' R) (hb : tj.wait[j]? = some b) (hr : tj.ready b = false) : RIn tj l (j + 1) false tk l' (R ++ [b]) := by
  rcases h with ⟨_, h0, hR, h1, h2⟩ | ⟨h, _⟩
  · refine .inl ⟨rfl, fun c hc => ?_, by rw [take_snoc' hb, hR], h1, h2⟩
    rw [take_snoc' hb, List.mem_append] at hc
    rcases hc with hc | hc
    · exact h0 c hc
    · simp at hc; rw [hc]; exact hr
  · cases h
theorem RIn.more (h : RIn tj l j true tk l' R) (hb : tj.wait[j]? = some b) : RIn tj l (j + 1) true tk l' (R ++ [b]) := by
  rcases h with ⟨h, _⟩ | ⟨_, i, c, h1, h2, h3, h4, h5⟩
  · cases h
  · refine .inr ⟨rfl, i, c, h1, h2, by omega, ?_, h5⟩
    have hj := (List.getElem?_eq_some_iff.1 hb).1
    rw [take_snoc' hb, List.eraseIdx_append_of_lt_length (by simp; omega), h4]
theorem RIn.idx (h : RIn tj l j false tk l' R) (hb : tj.wait[j]? = some b) (hr : tj.ready b = true) : tj.wait.findIdx? tj.ready = some j ∧ (tj.wait.take (j + 1)).eraseIdx j = R := by
  rcases h with ⟨_, h0, hR, _, _⟩ | ⟨h, _⟩
  · obtain ⟨hj, he⟩ := List.getElem?_eq_some_iff.1 hb
    refine ⟨?_, ?_⟩
    · rw [List.findIdx?_eq_some_iff_getElem]
      refine ⟨hj, by rw [he]; exact hr, fun i hi => ?_⟩
      have hm : tj.wait[i]'(by omega) ∈ tj.wait.take j := by
        rw [List.mem_take_iff_getElem]
        exact ⟨i, by omega, rfl⟩
      rw [h0 _ hm]; simp
    · rw [take_snoc' hb, List.eraseIdx_append_of_length_le (by simp; omega), hR]
      have : j - (tj.wait.take j).length = 0 := by simp; omega
      rw [this]; simp
  · cases h
theorem RIn.yes (h : RIn tj l j false tk l' R) (hb : tj.wait[j]? = some b) (hr : tj.ready b = true) (hm : tj.room = true) : RIn tj l (j + 1) true (tj.grow b) (l ++ [nameB b]) R := by
  obtain ⟨h1, h2⟩ := h.idx hb hr
  exact .inr ⟨rfl, j, b, h1, hb, by omega, h2.symm, .inl ⟨hm, rfl, rfl⟩⟩
theorem RIn.full (h : RIn tj l j false tk l' R) (hb : tj.wait[j]? = some b) (hr : tj.ready b = true) (hm : tj.room = false) : RIn tj l (j + 1) true tj l R := by
  obtain ⟨h1, h2⟩ := h.idx hb hr
  exact .inr ⟨rfl, j, b, h1, hb, by omega, h2.symm, .inr ⟨hm, rfl, rfl⟩⟩
theorem RIn.len {a : Bool} (h : RIn tj l j a tk l' R) : R.length ≤ tj.wait.length ∧ l'.length + R.length ≤ l.length + tj.wait.length := by
  rcases h with ⟨_, _, h2, _, h3⟩ | ⟨_, i, c, h1, h2, h3, h4, h5⟩
  · rw [h2, h3]
    have : (tj.wait.take j).length ≤ tj.wait.length := List.length_take_le' _ _
    omega
  · have hi := (List.getElem?_eq_some_iff.1 h2).1
    have h6 : R.length + 1 ≤ tj.wait.length := by
      rw [h4, List.length_eraseIdx, if_pos (by simp; omega)]
      simp; omega
    refine ⟨by omega, ?_⟩
    rcases h5 with ⟨_, _, h5⟩ | ⟨_, _, h5⟩
    · rw [h5]; simp; omega
    · rw [h5]; omega
end
def ROut (RES : Tr × List Int) (m : Nat) (a : Bool) (t : Tr) (l : List Int) : Prop := if a = true then Tr.settle m t l = RES ∧ t.wait.length + 1 ≤ m else (t, l) = RES
theorem ROut.pos {RES : Tr × List Int} {m : Nat} {t : Tr} {l : List Int} (h : ROut RES m true t l) : ∃ m', m = m' + 1 := by
  have h2 : t.wait.length + 1 ≤ m := h.2
  exact ⟨m - 1, by omega⟩
theorem ROut.done {RES : Tr × List Int} {m : Nat} {t : Tr} {l : List Int} (h : ROut RES m false t l) : RES = (t, l) := by
  unfold ROut at h
  rw [if_neg (by simp)] at h
  exact h.symm
theorem Tr.Rng.grow {t : Tr} (h : t.Rng) {b : Blk} (hb : rng b) : (t.grow b).Rng := by
  refine ⟨fun e he => ?_, h.wait⟩
  have he' : e ∈ t.known ∨ e = ⟨nameB b, b, t.path b.f3 ++ [nameB b]⟩ := by simpa [Tr.grow] using he
  rcases he' with he' | rfl
  · exact h.known e he'
  · exact hb
theorem ROut.next {RES : Tr × List Int} {m : Nat} {a : Bool} {tj tk : Tr} {l l' : List Int} {R : List Blk} (h : ROut RES (m + 1) true tj l) (hG : tj.Good) (hR : tj.Rng) (hI : RIn tj l tj.wait.length a tk l' R) :
    ROut RES m a ⟨tk.known, R⟩ l' ∧ (⟨tk.known, R⟩ : Tr).Good ∧ (⟨tk.known, R⟩ : Tr).Rng := by
  have h' : Tr.settle (m + 1) tj l = RES ∧ tj.wait.length + 1 ≤ m + 1 := by
    unfold ROut at h; rw [if_pos rfl] at h; exact h
  obtain ⟨h1, h2⟩ := h'
  rcases hI with ⟨ha, h3, h4, h5, h6⟩ | ⟨ha, i, b, h3, h4, h5, h6, h7⟩
  · subst ha h5 h6
    rw [List.take_length] at h3 h4
    subst h4
    have hn : tk.wait.findIdx? tk.ready = none := by rw [List.findIdx?_eq_none_iff]; exact h3
    rw [Tr.settle_none hn] at h1
    exact ⟨by unfold ROut; rw [if_neg (by simp)]; exact h1, hG, hR⟩
  · subst ha
    rw [List.take_length] at h6
    rw [Tr.settle_some h3 h4] at h1
    have hl : R.length + 1 ≤ tj.wait.length := by rw [h6, List.length_eraseIdx, if_pos h5]; omega
    have hge := hG.erase i
    have hre : (⟨tj.known, tj.wait.eraseIdx i⟩ : Tr).Rng := ⟨hR.known, fun c hc => hR.wait c (List.mem_of_mem_eraseIdx hc)⟩
    rw [← h6] at h1 hge hre
    have hrm : (⟨tj.known, R⟩ : Tr).room = tj.room := rfl
    rw [hrm] at h1
    rcases h7 with ⟨h7, h8, h9⟩ | ⟨h7, h8, h9⟩
    · rw [if_pos h7] at h1
      subst h8 h9
      obtain ⟨n0, n1, n2⟩ := hG.taken h4
      have hrd := Tr.ready_at h3 h4
      have hgg := hge.grow n0 ((Tr.ready_known (s := tj) rfl _).trans hrd) ((Tr.has_known (s := tj) rfl _).trans n1) (by rw [h6]; exact n2) h7
      have hrg := hre.grow (hR.wait b (List.mem_of_getElem? h4))
      exact ⟨by unfold ROut; rw [if_pos rfl]; exact ⟨h1, by show R.length + 1 ≤ m; omega⟩, hgg, hrg⟩
    · rw [if_neg (by simp [h7])] at h1
      subst h8 h9
      exact ⟨by unfold ROut; rw [if_pos rfl]; exact ⟨h1, by show R.length + 1 ≤ m; omega⟩, hge, hre⟩
section
variable {P : Nat → Prop} {w : World} {g : Nat}
structure ROW (P : Nat → Prop) (w : World) (g : Nat) (W : World) (t : Tr) (l : List Int) (v0 v1 vo : Value) (Y : Nat → Prop) : Prop where
  box : TreeIn W g v0 v1
  res : TreeIn W (g + 1 + 1) (.slice none 0 0) (.slice none 0 0)
  ks : VB W Y v0 t.ks
  wait : VB W Y v1 t.wait
  y : ∀ k, Y k → OKP P w g k ∧ k < W.heap.size
  out : OwnI w.heap.size W vo l
  far : ∀ k ∈ vo.ownBlock.toList, ¬ Y k
  fr : Fr [] w W
structure RIW (P : Nat → Prop) (w : World) (g : Nat) (W : World) (t : Tr) (L : List Blk) (l : List Int) (v0 v1 vc vo vr : Value) (R : List Blk) (E Z : Nat → Prop) : Prop where
  box : TreeIn W g v0 v1
  res : TreeIn W (g + 1 + 1) (.slice none 0 0) (.slice none 0 0)
  ks : VB W E v0 t.ks
  wait : VB W E v1 L
  old : VB W E vc L
  rest : RowN W Z vr R
  e : ∀ k, E k → Z k ∧ k < W.heap.size ∧ some k ≠ vr.ownBlock
  z : ∀ k, Z k → OKP P w g k
  fresh : ∀ k, W.heap.size ≤ k → Z k
  out : OwnI w.heap.size W vo l
  far : ∀ k ∈ vo.ownBlock.toList, ¬ Z k
  own : ∀ k, vr.ownBlock = some k → w.heap.size ≤ k
  fr : Fr [] w W
variable {W : World} {t : Tr} {L : List Blk} {l : List Int} {v0 v1 vc vo vr : Value} {R : List Blk} {E Z Y : Nat → Prop}
theorem RowN.lt (h : RowN W Z vr R) : ∀ k, vr.ownBlock = some k → k < W.heap.size := Kd.N_lt h
theorem RowN.fr {W' : World} (h : RowN W Z vr R) (hF : Fr [] W W') : RowN W' Z vr R := Kd.N_below h hF.below
theorem ROW.start (h : ROW P w g W t l v0 v1 vo Y) (hg : w.heap.size ≤ g) : RIW P w g (W.alloc (.cells #[] 35)) t t.wait l v0 v1 v1 vo (.slice (some ⟨W.heap.size, 0, none⟩) 0 0) [] Y (fun k => Y k ∨ W.heap.size ≤ k) := by
  have hA : Fr [] W (W.alloc (.cells #[] 35)) := (Fr.refl _ _).alloc _
  have hlt := h.res.lt
  have hs := h.fr.size
  refine ⟨h.box.fr hA, h.res.fr hA, h.ks.fr hA, h.wait.fr hA, h.wait.fr hA, RowN.empty W _ (.inr (Nat.le_refl _)), fun k hk => ⟨.inl hk, Nat.lt_of_lt_of_le (h.y k hk).2 hA.size, fun he => ?_⟩, fun k hk => ?_, fun k hk => .inr (Nat.le_trans hA.size hk), h.out.fr hA (by simp), fun k hk hz => ?_, fun k hk => ?_, h.fr.trans hA (by simp)⟩
  · have h1 := (h.y k hk).2
    have h2 : k = W.heap.size := Option.some.inj he
    omega
  · rcases hk with hk | hk
    · exact (h.y k hk).1
    · exact .inr (by omega)
  · rcases hz with hz | hz
    · exact h.far k hk hz
    · have := h.out.lt k hk; omega
  · have h2 : W.heap.size = k := Option.some.inj hk
    omega
theorem RIW.mv (h : RIW P w g W t L l v0 v1 vc vo vr R E Z) {W' : World} (hF : Fr [] W W') : RIW P w g W' t L l v0 v1 vc vo vr R E Z :=
  ⟨h.box.fr hF, h.res.fr hF, h.ks.fr hF, h.wait.fr hF, h.old.fr hF, h.rest.fr hF, fun k hk => ⟨(h.e k hk).1, Nat.lt_of_lt_of_le (h.e k hk).2.1 hF.size, (h.e k hk).2.2⟩, h.z, fun k hk => h.fresh k (Nat.le_trans hF.size hk), h.out.fr hF (by simp), h.far, h.own, h.fr.trans hF (by simp)⟩
theorem RIW.push (h : RIW P w g W t L l v0 v1 vc vo vr R E Z) (hg : w.heap.size ≤ g) {W' : World} {vr' : Value} {R' : List Blk} (hN : RowN W' Z vr' R') (hF : Fr vr.ownBlock.toList W W') (hU : Fresh vr.ownBlock.toList vr'.ownBlock.toList W) : RIW P w g W' t L l v0 v1 vc vo vr' R' E Z := by
  have hlt := h.res.lt
  have hrz : ∀ k ∈ vr.ownBlock.toList, Z k := fun k hk => h.rest.1 k (by simpa using hk)
  have hb : ∀ i, g ≤ i → i ≤ g + 1 + 1 → i ∉ vr.ownBlock.toList := fun i h1 h2 hm => OKP.ne hg h1 h2 i (h.z i (hrz i hm)) rfl
  have hV : ∀ {v : Value} {l : List Blk}, VB W E v l → VB W' E v l := fun hv => Kd.V_step hv (fun k hk hl => hF.block k hl (fun hm => (h.e k hk).2.2 (by simpa using Eq.symm (by simpa using hm))))
  refine ⟨(hF.block g h.box.lt (hb g (Nat.le_refl _) (by omega))).trans h.box, (hF.block _ h.res.lt (hb _ (by omega) (Nat.le_refl _))).trans h.res, hV h.ks, hV h.wait, hV h.old, hN, fun k hk => ⟨(h.e k hk).1, Nat.lt_of_lt_of_le (h.e k hk).2.1 hF.size, fun he => ?_⟩, h.z, fun k hk => h.fresh k (Nat.le_trans hF.size hk), h.out.fr hF (fun k hk hm => h.far k hk (hrz k hm)), h.far, fun k hk => ?_, h.fr.trans hF (fun k hk => .inr (h.own k (by simpa using hk)))⟩
  · rcases hU k (by rw [← he]; simp) with h1 | h1
    · exact (h.e k hk).2.2 (by simpa using Eq.symm (by simpa using h1))
    · have := (h.e k hk).2.1; omega
  · rcases hU k (by rw [hk]; simp) with h1 | h1
    · exact h.own k (by simpa using h1)
    · have := h.fr.size; omega
theorem RIW.put (h : RIW P w g W t L l v0 v1 vc vo vr R E Z) (hg : w.heap.size ≤ g) {W1 : World} (hF : Fr [] W W1) {t' : Tr} {u0 u1 : Value} (hk : VB W1 (fun k => E k ∨ W.heap.size ≤ k) u0 t'.ks) (hw : VB W1 (fun k => E k ∨ W.heap.size ≤ k) u1 L) {W2 : World} (hF2 : Fr [] W1 W2) :
    RIW P w g ((W2.setCell ⟨g, 0, none⟩ u0).setCell ⟨g, 1, none⟩ u1) t' L l u0 u1 vc vo vr R (fun k => (E k ∨ W.heap.size ≤ k) ∧ k < W1.heap.size) Z := by
  have h2 := (h.mv hF).mv hF2
  have hs1 := hF.size
  have hs2 := hF2.size
  have hlt := h.res.lt
  have hz0 : ∀ k, Z k → k ≠ g := fun k hk => OKP.ne hg (Nat.le_refl g) (by omega) k (h.z k hk)
  have hEZ : ∀ k, ((E k ∨ W.heap.size ≤ k) ∧ k < W1.heap.size) → Z k := fun k hk => by
    rcases hk.1 with h1 | h1
    · exact (h.e k h1).1
    · exact h.fresh k h1
  have hV : ∀ {v : Value} {l : List Blk}, VB W2 (fun k => (E k ∨ W.heap.size ≤ k) ∧ k < W1.heap.size) v l → VB ((W2.setCell ⟨g, 0, none⟩ u0).setCell ⟨g, 1, none⟩ u1) (fun k => (E k ∨ W.heap.size ≤ k) ∧ k < W1.heap.size) v l := fun hv =>
    Kd.V_far (Kd.V_far hv (p := ⟨g, 0, none⟩) (fun k hk => hz0 k (hEZ k hk)) _) (p := ⟨g, 1, none⟩) (fun k hk => hz0 k (hEZ k hk)) _
  have hog : g ∉ vo.ownBlock.toList := row_ne_obj h2.out.1 h2.box (by decide)
  have hF3 : Fr [g] W2 ((W2.setCell ⟨g, 0, none⟩ u0).setCell ⟨g, 1, none⟩ u1) := ((Fr.refl _ _).setCell (.inl (by simp)) _).setCell (.inl (by simp)) _
  refine ⟨two_put h2.box _ _, ((set_far _ (by show g + 1 + 1 ≠ g; omega) _).trans (set_far _ (by show g + 1 + 1 ≠ g; omega) _)).trans h2.res, hV ((hk.bound).fr hF2), hV ((hw.bound).fr hF2), hV (h2.old.weak (fun k hk => ⟨.inl hk, Nat.lt_of_lt_of_le (h.e k hk).2.1 hs1⟩)), ?_, fun k hk => ⟨hEZ k hk, ?_, fun he => ?_⟩, h.z, fun k hk => h.fresh k ?_, h2.out.fr hF3 (fun k hk hm => ?_), h.far, h.own, (h2.fr.setCell (.inr hg) _).setCell (.inr hg) _⟩
  · exact Kd.N_far (Kd.N_far h2.rest (p := ⟨g, 0, none⟩) hz0 _) (p := ⟨g, 1, none⟩) hz0 _
  · exact Nat.lt_of_lt_of_le hk.2 (Nat.le_trans hs2 hF3.size)
  · rcases hk.1 with h1 | h1
    · exact (h.e k h1).2.2 he
    · have := h.rest.lt k he.symm; omega
  · have := hF3.size; omega
  · simp at hm; subst hm; exact hog hk
theorem RIW.told (h : RIW P w g W t L l v0 v1 vc vo vr R E Z) {W' : World} {vo' : Value} {l' : List Int} (hO : OwnI w.heap.size W' vo' l') (hF : Fr vo.ownBlock.toList W W') (hU : Fresh vo.ownBlock.toList vo'.ownBlock.toList W) : RIW P w g W' t L l' v0 v1 vc vo' vr R E (fun k => Z k ∧ k ∉ vo'.ownBlock.toList) := by
  have hog : g ∉ vo.ownBlock.toList := row_ne_obj h.out.1 h.box (by decide)
  have hor : g + 1 + 1 ∉ vo.ownBlock.toList := row_ne_obj h.out.1 h.res (by decide)
  have hEZ : ∀ k, E k → k ∉ vo.ownBlock.toList := fun k hk hm => h.far k hm (h.e k hk).1
  have hZ' : ∀ k, Z k ∧ k < W.heap.size → Z k ∧ k ∉ vo'.ownBlock.toList := fun k hk => ⟨hk.1, fun hm => by
    rcases hU k hm with h1 | h1
    · exact h.far k h1 hk.1
    · omega⟩
  have hV : ∀ {v : Value} {l : List Blk}, VB W E v l → VB W' E v l := fun hv => Kd.V_step hv (fun k hk hl => hF.block k hl (hEZ k hk))
  refine ⟨(hF.block g h.box.lt hog).trans h.box, (hF.block _ h.res.lt hor).trans h.res, hV h.ks, hV h.wait, hV h.old, ?_, fun k hk => ⟨hZ' k ⟨(h.e k hk).1, (h.e k hk).2.1⟩, Nat.lt_of_lt_of_le (h.e k hk).2.1 hF.size, (h.e k hk).2.2⟩, fun k hk => h.z k hk.1, fun k hk => ⟨h.fresh k (Nat.le_trans hF.size hk), fun hm => ?_⟩, hO, fun k hk hz => hz.2 hk, h.own, h.fr.trans hF (fun k hk => .inr (h.out.2 k hk))⟩
  · exact Kd.N_mono (Kd.N_step (Kd.N_bound h.rest) (fun k hk hl => hF.block k hl (fun hm => h.far k hm hk.1))) hZ'
  · have := hO.lt k hm; omega
theorem RIW.done (h : RIW P w g W t L l v0 v1 vc vo vr R E Z) (hg : w.heap.size ≤ g) : ROW P w g (W.setCell ⟨g, 1, none⟩ vr) ⟨t.known, R⟩ l v0 vr vo (fun k => Z k ∧ k < W.heap.size) := by
  have hlt := h.res.lt
  have hz0 : ∀ k, Z k → k ≠ g := fun k hk => OKP.ne hg (Nat.le_refl g) (by omega) k (h.z k hk)
  have hog : g ∉ vo.ownBlock.toList := row_ne_obj h.out.1 h.box (by decide)
  have hF3 : Fr [g] W (W.setCell ⟨g, 1, none⟩ vr) := (Fr.refl _ _).setCell (.inl (by simp)) _
  refine ⟨by simpa [TreeIn] using obj_set h.box 1 vr, (set_far _ (by show g + 1 + 1 ≠ g; omega) _).trans h.res, ?_, ?_, fun k hk => ⟨h.z k hk.1, Nat.lt_of_lt_of_le hk.2 hF3.size⟩, h.out.fr hF3 (fun k hk hm => ?_), fun k hk hz => h.far k hk hz.1, h.fr.setCell (.inr hg) _⟩
  · exact Kd.V_far (h.ks.weak (fun k hk => ⟨(h.e k hk).1, (h.e k hk).2.1⟩)) (p := ⟨g, 1, none⟩) (fun k hk => hz0 k hk.1) _
  · exact Kd.V_far (RowN.VB (Kd.N_bound h.rest)) (p := ⟨g, 1, none⟩) (fun k hk => hz0 k hk.1) _
  · simp at hm; subst hm; exact hog hk
end
end Go.Np.Tryz
set_option linter.unusedVariables false
set_option linter.unusedSimpArgs false
namespace Go.Np.Tryz
open Go.RowKit Go.Proofs Go.Proofs.YtlllhpnpgcphcaaGreat.PX Go.Proofs.YtlllhpnpgcphcaaGreatW.PrintWords
set_option maxHeartbeats 4000000 in
set_option maxRecDepth 100000 in
theorem radd_grown {P : Nat → Prop} {w : World} {t : Tr} {A0 A1 : Option Addr} {c0 c1 : Nat} (hG : t.Good) (hRg : t.Rng) (h0 : VB w P (.slice A0 t.ks.length c0) t.ks) (h1 : VB w P (.slice A1 t.wait.length c1) t.wait) (q : BV) (hc : q.b.f4.length ≤ q.c) (hF : Kd.F k67 w P q.A q.b.f4.length q.b.f4) (hr : rng q.b) (hn0 : nameB q.b ≠ 0) (hh : t.has (nameB q.b) = false) (hw : nameB q.b ∉ t.wait.map nameB) (hry : t.ready q.b = true) (hm : t.room = true) :
    Calls Tryz.prog 47 #[.agg #[.slice A0 t.ks.length c0, .slice A1 t.wait.length c1], .agg #[.int .i64 q.b.f0, .int .i64 q.b.f1, .int .i64 q.b.f2, .int .i64 q.b.f3, .slice q.A q.b.f4.length q.c]] w fun e w' => RAddRes P w t q.b e w' := by
  refine calls_k fun R hR => ?_
  unfold RAddRes at hR
  have hadd := Tr.add_new hn0 hh hw
  rw [if_neg (by simp [hry]), if_neg (by simp [hm])] at hadd
  obtain ⟨RES, hRES⟩ : ∃ RES, RES = Tr.settle (t.wait.length + 1) (t.grow q.b) [nameB q.b] := ⟨_, rfl⟩
  simp only [← hRES] at hadd
  rw [hadd] at hR
  have HRM := Lib.hid hm
  have HGOOD := Lib.hid (hG.grow hn0 hry hh hw hm)
  have HRNG := Lib.hid (hRg.grow hr)
  have HRO : Hid (ROut RES (t.wait.length + 1) true (t.grow q.b) [nameB q.b]) := by
    show ROut _ _ _ _ _
    unfold ROut; rw [if_pos rfl]; exact ⟨hRES.symm, Nat.le_refl _⟩
  clear hRES
  have H0W := Lib.hid h0
  have H1W := Lib.hid h1
  have HQW := Lib.hid hF
  have HN0 := Lib.hid hn0
  have HHS := Lib.hid hh
  have HRY := Lib.hid hry
  have HWI : Hid (decide (nameB q.b ∈ t.wait.map nameB) = false) := decide_eq_false hw
  clear hn0 hh hw hry hadd hm
  obtain ⟨N, hN⟩ : ∃ N, N = nameB q.b := ⟨_, rfl⟩
  obtain ⟨g, hg⟩ : ∃ g, g = w.heap.size := ⟨_, rfl⟩
  obtain ⟨W, hW⟩ : ∃ W, W = (((w.alloc (.cells #[.slice A0 t.ks.length c0, .slice A1 t.wait.length c1] 30)).alloc (.cells #[.int .i64 q.b.f0, .int .i64 q.b.f1, .int .i64 q.b.f2, .int .i64 q.b.f3, .slice q.A q.b.f4.length q.c] 35)).alloc (.cells #[.slice none 0 0, .slice none 0 0] 30)) := ⟨_, rfl⟩
  have hs1 : (w.alloc (.cells #[.slice A0 t.ks.length c0, .slice A1 t.wait.length c1] 30)).heap.size = g + 1 := by rw [hg]; simp
  have hs2 : ((w.alloc (.cells #[.slice A0 t.ks.length c0, .slice A1 t.wait.length c1] 30)).alloc (.cells #[.int .i64 q.b.f0, .int .i64 q.b.f1, .int .i64 q.b.f2, .int .i64 q.b.f3, .slice q.A q.b.f4.length q.c] 35)).heap.size = g + 1 + 1 := by rw [hg]; simp
  have hFW : Fr [] w W := by rw [hW]; exact (((Fr.refl _ _).alloc _).alloc _).alloc _
  have hT2 : TreeIn W g (.slice A0 t.ks.length c0) (.slice A1 t.wait.length c1) := by
    have h : TreeIn (w.alloc (.cells #[.slice A0 t.ks.length c0, .slice A1 t.wait.length c1] 30)) g (.slice A0 t.ks.length c0) (.slice A1 t.wait.length c1) := by rw [hg]; exact heap_alloc_new _ _
    rw [hW]; exact h.fr (((Fr.refl _ _).alloc _).alloc _)
  have hB3 : BlkIn W (g + 1) q := by
    have h : BlkIn ((w.alloc (.cells #[.slice A0 t.ks.length c0, .slice A1 t.wait.length c1] 30)).alloc (.cells #[.int .i64 q.b.f0, .int .i64 q.b.f1, .int .i64 q.b.f2, .int .i64 q.b.f3, .slice q.A q.b.f4.length q.c] 35)) (g + 1) q := by rw [← hs1]; exact heap_alloc_new _ _
    rw [hW]; exact h.fr ((Fr.refl _ _).alloc _)
  have hT4 : TreeIn W (g + 1 + 1) (.slice none 0 0) (.slice none 0 0) := by
    rw [hW, ← hs2]; exact heap_alloc_new _ _
  have hgw : w.heap.size ≤ g := Nat.le_of_eq hg.symm
  have HG := Lib.hid hG
  have HRG := Lib.hid hRg
  have HV0 := Lib.hid (h0.fr hFW)
  have HV1 := Lib.hid (h1.fr hFW)
  have HQF : Hid (Kd.F k67 W P q.A q.b.f4.length q.b.f4) := Kd.F_below hF hFW.below
  have HRQ := Lib.hid hr
  have HT2 := Lib.hid hT2
  have HB3 := Lib.hid hB3
  have HT4 := Lib.hid hT4
  have HFW := Lib.hid hFW
  have HNM := Lib.hid (rname_calls (w := W) q.b q.A q.c (Kd.F_now HQF.out) hc hr)
  rw [← hN] at HNM
  have HNN := Lib.hid hN
  obtain ⟨x20, x21, x22, x23⟩ := HT2.out.cells
  obtain ⟨e0, e1, e2, e3, e4⟩ := HB3.out.cells
  clear hG hRg h0 h1 hF hr hT2 hB3 hT4 hFW hN hs1 hs2
  have hNb : (N == 0) = false := by have := HN0.out; rw [← HNN.out] at this; simpa using this
  have HGE : Hid (∀ W', Fr [] W W' → Calls Tryz.prog 60 #[.agg #[.slice A0 t.ks.length c0, .slice A1 t.wait.length c1], .int .i64 N] W' fun e w' => ∃ A c, e = .returned (.tuple #[.agg #[.int .i64 (t.get N).f0, .int .i64 (t.get N).f1, .int .i64 (t.get N).f2, .int .i64 (t.get N).f3, .slice A (t.get N).f4.length c], .bool false]) ∧ (t.get N).f4.length ≤ c ∧ Kd.F k67 w' (fun k => P k ∨ W'.heap.size ≤ k) A (t.get N).f4.length (t.get N).f4 ∧ Fr [] W' w') := fun W' hF' => by
    have h := rget_calls HG.out HRG.out (HV0.out.fr hF') (HV1.out.fr hF') N
    rw [show t.has N = false by rw [HNN.out]; exact HHS.out] at h
    exact h
  go_enter Tryz.func47, Tryz.ntmps47
  go_upto_region 1 with (fail)
  rw [← hW, ← hg]
  clear hW hg
  go_upto_region 3 with (first
    | (go_at_call 76; refine HNM.out.mono ?_; rintro e w2 ⟨rfl, hF2⟩
       have HG2 := Lib.hid (HGE.out w2 hF2)
       replace x20 := cellF hF2 x20
       replace x21 := cellF hF2 x21
       have HF2 := Lib.hid hF2
       clear hF2 HNM HGE)
    | (go_at_call 60; refine HG2.out.mono ?_; rintro e w3 ⟨A3, d3, rfl, hd3, hF3, hw3⟩
       have HF3 := Lib.hid (HF2.out.trans hw3 (by simp))
       replace x20 := cellF hw3 x20
       replace x21 := cellF hw3 x21
       clear hF3 hw3 HG2 hd3))
  obtain ⟨W4, hW4⟩ : ∃ W4, W4 = w3.alloc (.cells #[.int .i64 (t.get N).f0, .int .i64 (t.get N).f1, .int .i64 (t.get N).f2, .int .i64 (t.get N).f3, .slice A3 (t.get N).f4.length d3] 35) := ⟨_, rfl⟩
  have hF4 : Fr [] W W4 := by rw [hW4]; exact HF3.out.alloc _
  rw [← hW4]
  have HF4 := Lib.hid hF4
  clear hW4 x20 x21 x22 x23 e0 e1 e2 e3 e4
  obtain ⟨x20, x21, x22, x23⟩ := (HT2.out.fr hF4).cells
  obtain ⟨e0, e1, e2, e3, e4⟩ := (HB3.out.fr hF4).cells
  clear hF4
  have HWA := Lib.hid (rwaiting_calls HG.out HRG.out (HV0.out.fr HF4.out) (HV1.out.fr HF4.out))
  have hwl : t.wait.length ≤ 16 := HG.out.wl
  go_upto_region 5 with (first
    | (go_at_call 78; refine HWA.out.mono ?_; rintro e w5 ⟨v5, rfl, hS5, hF5⟩
       have HF5 := Lib.hid (HF4.out.trans hF5 (by simp))
       have HIN := Lib.hid (rin_calls hS5 (by rw [List.length_map]; omega) N)
       clear hS5 hF5 HWA)
    | (go_at_call 77; rw [show decide (N ∈ t.wait.map nameB) = false by rw [HNN.out]; exact HWI.out] at HIN; refine HIN.out.mono ?_; rintro e w6 ⟨rfl, hF6⟩
       have HF9 := Lib.hid (HF5.out.trans hF6 (by simp))
       clear hF6 HIN x20 x21 x22 x23 e0 e1 e2 e3 e4))
  obtain ⟨x20, x21, x22, x23⟩ := (HT2.out.fr HF9.out).cells
  obtain ⟨e0, e1, e2, e3, e4⟩ := (HB3.out.fr HF9.out).cells
  have HRD := Lib.hid (rready_calls HG.out HRG.out (HV0.out.fr HF9.out) (HV1.out.fr HF9.out) q.b q.A q.c (Kd.F_now (Kd.F_below HQF.out HF9.out.below)) hc)
  rw [HRY.out] at HRD
  go_upto_region 12 with (first
    | (go_at_call 79; refine HRD.out.mono ?_; rintro e w7 ⟨rfl, hF7⟩
       replace HF9 := Lib.hid (HF9.out.trans hF7 (by simp))
       clear hF7 HRD x20 x21 x22 x23 e0 e1 e2 e3 e4))
  obtain ⟨x20, x21, x22, x23⟩ := (HT2.out.fr HF9.out).cells
  obtain ⟨e0, e1, e2, e3, e4⟩ := (HB3.out.fr HF9.out).cells
  have hlt4 := HT4.out.lt
  have hs9 := HF9.out.size
  have hsW := HFW.out.size
  have HGR := Lib.hid (rgrow_calls HG.out (VB.fr (VB.bound H0W.out) (HFW.out.trans HF9.out (by simp))) (VB.fr (VB.bound H1W.out) (HFW.out.trans HF9.out (by simp))) q hc (Kd.F_below (Kd.F_bound HQW.out) (HFW.out.trans HF9.out (by simp)).below) HRM.out)
  go_upto_region 13 with (first
    | (go_at_call 80; refine HGR.out.mono ?_; rintro e w8 ⟨B0, d0, B1, d1, rfl, hv0, hv1, hF8⟩
       have HB0 := Lib.hid (VB.weak (P' := OKP P w g) hv0 (fun k hk => hk.imp id (fun h => by omega)))
       have HB1 := Lib.hid (VB.weak (P' := OKP P w g) hv1 (fun k hk => hk.imp id (fun h => by omega)))
       replace HF9 := Lib.hid (HF9.out.trans hF8 (by simp))
       clear hv0 hv1 hF8 HGR x20 x21 x22 x23 e0 e1 e2 e3 e4
       obtain ⟨x20, x21, x22, x23⟩ := (HT2.out.fr HF9.out).cells))
  obtain ⟨W9, hW9⟩ : ∃ W9, W9 = (w8.setCell ⟨g, 0, none⟩ (.slice B0 (t.grow q.b).ks.length d0)).setCell ⟨g, 1, none⟩ (.slice B1 t.wait.length d1) := ⟨_, rfl⟩
  have HFN : Hid (Fr [] w W9) := by rw [hW9]; exact ((HFW.out.trans HF9.out (by simp)).setCell (.inr hgw) _).setCell (.inr hgw) _
  have HTN : Hid (TreeIn W9 g (.slice B0 (t.grow q.b).ks.length d0) (.slice B1 t.wait.length d1)) := by rw [hW9]; exact two_put (HT2.out.fr HF9.out) _ _
  have HRN : Hid (TreeIn W9 (g + 1 + 1) (.slice none 0 0) (.slice none 0 0)) := by
    rw [hW9]
    exact ((set_far _ (by show g + 1 + 1 ≠ g; omega) _).trans (set_far _ (by show g + 1 + 1 ≠ g; omega) _)).trans (HT4.out.fr HF9.out)
  have HV0' : Hid (VB W9 (OKP P w g) (.slice B0 (t.grow q.b).ks.length d0) (t.grow q.b).ks) := by rw [hW9]; exact Kd.V_far (Kd.V_far HB0.out (fun k hk => OKP.ne hgw (Nat.le_refl g) (by omega) k hk) _) (fun k hk => OKP.ne hgw (Nat.le_refl g) (by omega) k hk) _
  have HV1' : Hid (VB W9 (OKP P w g) (.slice B1 t.wait.length d1) t.wait) := by rw [hW9]; exact Kd.V_far (Kd.V_far HB1.out (fun k hk => OKP.ne hgw (Nat.le_refl g) (by omega) k hk) _) (fun k hk => OKP.ne hgw (Nat.le_refl g) (by omega) k hk) _
  rw [← hW9]
  clear hW9 x20 x21 x22 x23 HB0 HB1
  obtain ⟨x20, x21, x22, x23⟩ := HTN.out.cells
  obtain ⟨z0, z1, z2, z3⟩ := HRN.out.cells
  go_upto_region 17 with (fail)
  obtain ⟨W10, hW10⟩ : ∃ W10, W10 = W9.alloc (.cells #[.int .i64 N] 3) := ⟨_, rfl⟩
  obtain ⟨g10, hg10⟩ : ∃ g10, g10 = W9.heap.size := ⟨_, rfl⟩
  have hF10 : Fr [] W9 W10 := by rw [hW10]; exact (Fr.refl _ _).alloc _
  have hO10 : OwnI w.heap.size W10 (.slice (some ⟨g10, 0, none⟩) 1 1) [nameB q.b] := by
    have h := OwnI.one W9 N
    rw [← hW10, ← hg10, HNN.out] at h
    exact ⟨h.1, fun k hk => Nat.le_trans HFN.out.size (by have := h.2 k hk; omega)⟩
  have hROW : ∃ (tj : Tr) (l : List Int) (Y : Nat → Prop), ROut RES (t.wait.length + 1) true tj l ∧ tj.Good ∧ tj.Rng ∧ l.length + tj.wait.length ≤ 17 ∧ tj.ks.length = (t.grow q.b).ks.length ∧ tj.wait.length = t.wait.length ∧ l.length = 1 ∧ ROW P w g W10 tj l (.slice B0 (t.grow q.b).ks.length d0) (.slice B1 t.wait.length d1) (.slice (some ⟨g10, 0, none⟩) 1 1) Y := by
    refine ⟨t.grow q.b, [nameB q.b], fun k => OKP P w g k ∧ k < W9.heap.size, HRO.out, HGOOD.out, HRNG.out, ?_, rfl, rfl, rfl, HTN.out.fr hF10, HRN.out.fr hF10, (VB.bound HV0'.out).fr hF10, (VB.bound HV1'.out).fr hF10, fun k hk => ⟨hk.1, Nat.lt_of_lt_of_le hk.2 hF10.size⟩, hO10, fun k hk hy => ?_, HFN.out.trans hF10 (by simp)⟩
    · show 1 + t.wait.length ≤ 17; omega
    · have h1 : k = g10 := by simpa [Value.ownBlock, eq_comm] using hk
      have := hy.2; omega
  obtain ⟨t0, l0, Y0, h01, h02, h03, h04, h05, h06, h07, h08⟩ := hROW
  rw [← h05, ← h06] at h08
  have HST : Hid (∃ (D : Option Addr) (cp : Nat), (.slice (some ⟨g10, 0, none⟩) 1 1 : Value) = .slice D l0.length cp ∧ ROW P w g W10 t0 l0 (.slice B0 t0.ks.length d0) (.slice B1 t0.wait.length d1) (.slice D l0.length cp) Y0) := by
    refine ⟨some ⟨g10, 0, none⟩, 1, by rw [h07], ?_⟩
    rw [h07]; exact h08
  have H01 := Lib.hid h01
  have H02 := Lib.hid h02
  have H03 := Lib.hid h03
  have H04 := Lib.hid h04
  rw [← hW10, ← hg10]
  clear h01 h02 h03 h04 h05 h06 h07 h08 hW10 hg10 hF10 hO10 x20 x21 x22 x23 z0 z1 z2 z3 HRO HGOOD HRNG HV0' HV1' HTN HRN
  go_loopg [12, 13] (t.wait.length + 1) (fun gn o ag wr => ∃ (m : Nat) (a : Bool) (tj : Tr) (l : List Int) (B0 : Option Addr) (d0 : Nat) (B1 : Option Addr) (d1 : Nat) (D : Option Addr) (cp : Nat) (Y : Nat → Prop), m = gn ∧ o = .slice D l.length cp ∧ ag = .bool a ∧ Hid (ROut RES m a tj l) ∧ Hid tj.Good ∧ Hid tj.Rng ∧ Hid (l.length + tj.wait.length ≤ 17) ∧
    Hid (ROW P w g wr tj l (.slice B0 tj.ks.length d0) (.slice B1 tj.wait.length d1) (.slice D l.length cp) Y))
  case atStart =>
    obtain ⟨D, cp, h1, h2⟩ := HST.out
    exact ⟨_, true, t0, l0, B0, d0, B1, d1, D, cp, Y0, rfl, h1, rfl, H01, H02, H03, H04, h2⟩
  case round =>
    clear HST H01 H02 H03 H04 HFN HF9 HF5 HF4 HF3 HF2 HT2 HB3 HT4 HV0 HV1 HQF HRQ HNN HN0 HHS HRY HWI HRM HG HRG hlt4 hs9 hsW hNb hwl HFW
    clear hc
    obtain ⟨m, a, tj, l, B0, d0, B1, d1, D, cp, Y, rfl, rfl, rfl, HRO, HGJ, HRJ, HLJ, HRW⟩ := hrel
    have hwl : tj.wait.length ≤ 16 := HGJ.out.wl
    cases a with
    | false =>
      have hres := HRO.out.done
      rw [hres] at hR
      clear hres HRO
      obtain ⟨x20, x21, x22, x23⟩ := HRW.out.box.cells
      obtain ⟨z0, z1, z2, z3⟩ := HRW.out.res.cells
      go_wp2
      have hb4 := two_put HRW.out.res (.slice B0 tj.ks.length d0) (.slice B1 tj.wait.length d1)
      have hf4 := (HRW.out.fr.setCell (p := ⟨g + 1 + 1, 0, none⟩) (.inr (show w.heap.size ≤ g + 1 + 1 by omega)) (.slice B0 tj.ks.length d0)).setCell (p := ⟨g + 1 + 1, 1, none⟩) (.inr (show w.heap.size ≤ g + 1 + 1 by omega)) (.slice B1 tj.wait.length d1)
      have hv3 := Kd.V_far (Kd.V_far HRW.out.ks (p := ⟨g + 1 + 1, 0, none⟩) (fun k hk => OKP.ne hgw (i := g + 1 + 1) (by omega) (Nat.le_refl _) k (HRW.out.y k hk).1) (.slice B0 tj.ks.length d0)) (p := ⟨g + 1 + 1, 1, none⟩) (fun k hk => OKP.ne hgw (i := g + 1 + 1) (by omega) (Nat.le_refl _) k (HRW.out.y k hk).1) (.slice B1 tj.wait.length d1)
      have hv4 := Kd.V_far (Kd.V_far HRW.out.wait (p := ⟨g + 1 + 1, 0, none⟩) (fun k hk => OKP.ne hgw (i := g + 1 + 1) (by omega) (Nat.le_refl _) k (HRW.out.y k hk).1) (.slice B0 tj.ks.length d0)) (p := ⟨g + 1 + 1, 1, none⟩) (fun k hk => OKP.ne hgw (i := g + 1 + 1) (by omega) (Nat.le_refl _) k (HRW.out.y k hk).1) (.slice B1 tj.wait.length d1)
      have ho4 : OwnI w.heap.size ((wr.setCell ⟨g + 1 + 1, 0, none⟩ (.slice B0 tj.ks.length d0)).setCell ⟨g + 1 + 1, 1, none⟩ (.slice B1 tj.wait.length d1)) (.slice D l.length cp) l := by
        refine HRW.out.out.fr (S := [g + 1 + 1]) (((Fr.refl _ _).setCell (.inl (by simp)) _).setCell (.inl (by simp)) _) (fun k hk hm => ?_)
        simp at hm; subst hm
        exact row_ne_obj HRW.out.out.1 HRW.out.res (by decide) hk
      refine bodyPost_ret (results_ctt rfl _ _ (g + 1 + 1) 30 _ (0, 0) _ rfl hb4 Tryz.underlying30 rfl (by kernel_rfl)) rfl ?_
      exact hR.out _ _ ⟨B0, d0, B1, d1, D, cp, rfl, VB.weak hv3 (fun k hk => OKP.weak hgw k (HRW.out.y k hk).1), VB.weak hv4 (fun k hk => OKP.weak hgw k (HRW.out.y k hk).1), ho4, hf4⟩
    | true =>
      obtain ⟨m', rfl⟩ := HRO.out.pos
      obtain ⟨x20, x21, x22, x23⟩ := HRW.out.box.cells
      go_upto_region 20 with (fail)
      have hRI := HRW.out.start hgw
      obtain ⟨W0, hW0⟩ : ∃ W0, W0 = wr.alloc (.cells #[] 35) := ⟨_, rfl⟩
      obtain ⟨b0, hb0⟩ : ∃ b0, b0 = wr.heap.size := ⟨_, rfl⟩
      rw [← hW0, ← hb0] at hRI ⊢
      have HRI0 := Lib.hid hRI
      clear hRI hW0 hb0 x20 x21 x22 x23
      obtain ⟨x20, x21, x22, x23⟩ := HRI0.out.box.cells
      go_upto_region 21 with (fail)
      go_loopg [12, 13, 14, 75] tj.wait.length (fun gn o ag rv iv wx => ∃ (n j : Nat) (a : Bool) (tk : Tr) (l' : List Int) (R : List Blk) (C0 : Option Addr) (e0 : Nat) (C1 : Option Addr) (e1 : Nat) (D : Option Addr) (cp : Nat) (RA : Option Addr) (rc : Nat) (E Z : Nat → Prop), n = gn ∧ o = .slice D l'.length cp ∧ ag = .bool a ∧ rv = .slice RA R.length rc ∧ iv = .int .i64 j ∧ n + j = tj.wait.length ∧ Hid (RIn tj l j a tk l' R) ∧
        Hid (RIW P w g wx tk tj.wait l' (.slice C0 tk.ks.length e0) (.slice C1 tj.wait.length e1) (.slice B1 tj.wait.length d1) (.slice D l'.length cp) (.slice RA R.length rc) R E Z))
      case atStart => exact ⟨_, 0, false, tj, l, [], B0, d0, B1, d1, D, cp, some ⟨b0, 0, none⟩, 0, _, _, rfl, rfl, rfl, rfl, rfl, rfl, RIn.start tj l, HRI0.out⟩
      case round =>
        obtain ⟨n, j, a, tk, l', R, C0, f0, C1, f1, D, cp, RA, rc, E, Z, rfl, rfl, rfl, rfl, rfl, hnj, HIN, HRI⟩ := hrel
        obtain ⟨wx, rfl⟩ : ∃ wx, wx = wr := ⟨_, rfl⟩
        clear HRI0 HRW x20 x21 x22 x23
        obtain ⟨x20, x21, x22, x23⟩ := HRI.out.box.cells
        have HLN := Lib.hid HIN.out.len
        by_cases hlt : j < tj.wait.length
        · obtain ⟨ad, q2, hq2, rfl, k0, k1, k2, k3, k4, hc2, hF2⟩ := VB.at HRI.out.old j hlt
          have HQ2 := Lib.hid hq2
          have HC2 := Lib.hid hc2
          have HF2 := Lib.hid hF2
          have hrl : R.length ≤ 1000 := by have := HLN.out.1; omega
          have HRL := Lib.hid hrl
          clear hq2 hc2 hF2 hrl
          go_upto_region 23 with (fail)
          obtain ⟨W4, hW4⟩ : ∃ W4, W4 = wx.alloc (.cells #[.int .i64 q2.b.f0, .int .i64 q2.b.f1, .int .i64 q2.b.f2, .int .i64 q2.b.f3, .slice q2.A q2.b.f4.length q2.c] 35) := ⟨_, rfl⟩
          obtain ⟨g4, hg4⟩ : ∃ g4, g4 = wx.heap.size := ⟨_, rfl⟩
          have hF4 : Fr [] wx W4 := by rw [hW4]; exact (Fr.refl _ _).alloc _
          have hB4 : BlkIn W4 g4 q2 := by rw [hg4]; exact BlkIn.made hW4
          have HRI4 := Lib.hid (HRI.out.mv hF4)
          have HF4 : Hid (Kd.F k67 W4 E q2.A q2.b.f4.length q2.b.f4) := Kd.F_below HF2.out hF4.below
          have HB4 := Lib.hid hB4
          have HGN : Hid (g4 ≠ g) := by have := HRI.out.box.lt; show _ ≠ _; omega
          rw [← hW4, ← hg4]
          clear hW4 hg4 hF4 hB4 x20 x21 x22 x23 k0 k1 k2 k3 k4 HRI HF2
          obtain ⟨x20, x21, x22, x23⟩ := HRI4.out.box.cells
          obtain ⟨n', rfl⟩ : ∃ n', n = n' + 1 := ⟨n - 1, by omega⟩
          cases a with
          | true =>
            go_upto_region 24 with (fail)
            obtain ⟨ad3, q3, hq3, hC1, k0, k1, k2, k3, k4, hc3, hF3⟩ := VB.at HRI4.out.wait j hlt
            have hqe : q3.b = q2.b := Option.some.inj (hq3.symm.trans HQ2.out)
            have HIN' : Hid (RIn tj l (j + 1) true tk l' (R ++ [q3.b])) := by rw [hqe]; exact HIN.out.more HQ2.out
            have HC3 := Lib.hid hc3
            have HF3 := Lib.hid hF3
            have HOK : Hid (∀ k, E k → k < W4.heap.size → Z k ∧ some k ≠ (Value.slice RA R.length rc).ownBlock) := fun k hk _ => ⟨(HRI4.out.e k hk).1, (HRI4.out.e k hk).2.2⟩
            subst hC1
            clear hq3 hqe hc3 hF3
            go_wp2_with (first
              | (at_builtin; refine wp_one28 (q := q3) (v := .slice RA R.length rc) rfl _ _ rfl rfl rfl HRI4.out.rest HC3.out HF3.out HOK.out HRI4.out.fresh HRL.out ?_
                 intro v10 w10 hN10 hF10 hU10
                 obtain ⟨A10, d10, rfl⟩ := hN10.form
                 have HRI10 := Lib.hid (HRI4.out.push hgw hN10 hF10 hU10)
                 clear hN10 hF10 hU10 x20 x21 x22 x23 k0 k1 k2 k3 k4))
            go_roundg n'
            case rel => exact ⟨n', j + 1, true, tk, l', R ++ [q3.b], C0, f0, some ad3, f1, D, cp, A10, d10, E, Z, rfl, rfl, rfl, by simp, by go_num, by omega, HIN', HRI10⟩
            case measure => omega
          | false =>
            obtain ⟨rfl, rfl⟩ := HIN.out.off
            obtain ⟨e0, e1, e2, e3, e4⟩ := HB4.out.cells
            have HRD := Lib.hid (rready_calls HGJ.out HRJ.out HRI4.out.ks HRI4.out.wait q2.b q2.A q2.c (Kd.F_now HF4.out) HC2.out)
            cases hry : tk.ready q2.b with
            | false =>
              rw [hry] at HRD
              have HRY := Lib.hid hry
              clear hry
              go_upto_region 24 with (first
                | (go_at_call 79; refine HRD.out.mono ?_; rintro e w5 ⟨rfl, hF5⟩
                   replace HRI4 := Lib.hid (HRI4.out.mv hF5)
                   clear hF5 HRD x20 x21 x22 x23 e0 e1 e2 e3 e4
                   obtain ⟨x20, x21, x22, x23⟩ := HRI4.out.box.cells))
              obtain ⟨ad3, q3, hq3, hC1, k0, k1, k2, k3, k4, hc3, hF3⟩ := VB.at HRI4.out.wait j hlt
              have hqe : q3.b = q2.b := Option.some.inj (hq3.symm.trans HQ2.out)
              have HIN' : Hid (RIn tk l' (j + 1) false tk l' (R ++ [q3.b])) := by rw [hqe]; exact HIN.out.no HQ2.out HRY.out
              have HC3 := Lib.hid hc3
              have HF3 := Lib.hid hF3
              have HOK : Hid (∀ k, E k → k < w5.heap.size → Z k ∧ some k ≠ (Value.slice RA R.length rc).ownBlock) := fun k hk _ => ⟨(HRI4.out.e k hk).1, (HRI4.out.e k hk).2.2⟩
              subst hC1
              clear hq3 hqe hc3 hF3
              go_wp2_with (first
                | (at_builtin; refine wp_one28 (q := q3) (v := .slice RA R.length rc) rfl _ _ rfl rfl rfl HRI4.out.rest HC3.out HF3.out HOK.out HRI4.out.fresh HRL.out ?_
                   intro v10 w10 hN10 hF10 hU10
                   obtain ⟨A10, d10, rfl⟩ := hN10.form
                   have HRI10 := Lib.hid (HRI4.out.push hgw hN10 hF10 hU10)
                   clear hN10 hF10 hU10 x20 x21 x22 x23 k0 k1 k2 k3 k4))
              go_roundg n'
              case rel => exact ⟨n', j + 1, false, tk, l', R ++ [q3.b], C0, f0, some ad3, f1, D, cp, A10, d10, E, Z, rfl, rfl, rfl, by simp, by go_num, by omega, HIN', HRI10⟩
              case measure => omega
            | true =>
              rw [hry] at HRD
              have HRY := Lib.hid hry
              clear hry
              go_upto_region 26 with (first
                | (go_at_call 79; refine HRD.out.mono ?_; rintro e w5 ⟨rfl, hF5⟩
                   replace HRI4 := Lib.hid (HRI4.out.mv hF5)
                   replace HF4 : Hid (Kd.F k67 w5 E q2.A q2.b.f4.length q2.b.f4) := Kd.F_below HF4.out hF5.below
                   replace HB4 := Lib.hid (HB4.out.fr hF5)
                   clear hF5 HRD x20 x21 x22 x23 e0 e1 e2 e3 e4
                   obtain ⟨x20, x21, x22, x23⟩ := HRI4.out.box.cells
                   obtain ⟨e0, e1, e2, e3, e4⟩ := HB4.out.cells))
              have hll : l'.length ≤ 100 := by have := HLJ.out; omega
              cases hm : tk.room with
              | true =>
                have HGR := Lib.hid (rgrow_calls HGJ.out HRI4.out.ks HRI4.out.wait q2 HC2.out HF4.out hm)
                have HRM := Lib.hid hm
                clear hm
                have hsz5 := HRI4.out.res.lt
                go_upto_region 27 with (first
                  | (go_at_call 80; refine HGR.out.mono ?_; rintro e w6 ⟨G0, h0, G1, h1, rfl, hv0, hv1, hF6⟩
                     have HV0 := Lib.hid hv0
                     have HV1 := Lib.hid hv1
                     have HF6 := Lib.hid hF6
                     have HB6 := Lib.hid (HB4.out.fr hF6)
                     have HRI6 := Lib.hid (HRI4.out.mv hF6)
                     clear hv0 hv1 hF6 HGR x20 x21 x22 x23 e0 e1 e2 e3 e4))
                obtain ⟨W7, hW7⟩ : ∃ W7, W7 = w6.alloc (.cells #[.slice G0 (tk.grow q2.b).ks.length h0, .slice G1 tk.wait.length h1] 30) := ⟨_, rfl⟩
                have hF7 : Fr [] w6 W7 := by rw [hW7]; exact (Fr.refl _ _).alloc _
                have hRI8 := HRI4.out.put hgw HF6.out HV0.out HV1.out hF7
                have hB7 := HB6.out.fr hF7
                have hFq7 : Kd.F k67 W7 E q2.A q2.b.f4.length q2.b.f4 := Kd.F_below (Kd.F_below HF4.out HF6.out.below) hF7.below
                obtain ⟨gb, hgb⟩ : ∃ gb, gb = w6.heap.size := ⟨_, rfl⟩
                have hNB7 : TreeIn W7 gb (.slice G0 (tk.grow q2.b).ks.length h0) (.slice G1 tk.wait.length h1) := by rw [hW7, hgb]; exact heap_alloc_new _ _
                rw [← hW7, ← hgb]
                clear hW7 hgb
                have HRI7 := Lib.hid (HRI6.out.mv hF7)
                have HNB7 := Lib.hid hNB7
                have HF7 := Lib.hid hF7
                have HB7 := Lib.hid hB7
                have HFQ7 := Lib.hid hFq7
                have HRI8' := Lib.hid hRI8
                clear hNB7 hF7 hB7 hFq7 hRI8
                obtain ⟨x20, x21, x22, x23⟩ := HRI7.out.box.cells
                obtain ⟨y20, y21, y22, y23⟩ := HNB7.out.cells
                go_upto_region 28 with (fail)
                have hRI8 := HRI8'.out
                have hF7 := HF7.out
                have hB7 := HB7.out
                have hFq7 := HFQ7.out
                obtain ⟨W8, hW8⟩ : ∃ W8, W8 = (W7.setCell ⟨g, 0, none⟩ (.slice G0 (tk.grow q2.b).ks.length h0)).setCell ⟨g, 1, none⟩ (.slice G1 tk.wait.length h1) := ⟨_, rfl⟩
                have hne : ∀ k, E k → k ≠ g := fun k hk => OKP.ne hgw (Nat.le_refl g) (by omega) k (HRI4.out.z k (HRI4.out.e k hk).1)
                have hFq8 : Kd.F k67 W8 E q2.A q2.b.f4.length q2.b.f4 := by rw [hW8]; exact Kd.F_far (Kd.F_far hFq7 (p := ⟨g, 0, none⟩) hne _) (p := ⟨g, 1, none⟩) hne _
                have hB8 : BlkIn W8 g4 q2 := by
                  have hgg : g4 ≠ g := HGN.out
                  rw [hW8]; exact ((set_far _ hgg _).trans (set_far _ hgg _)).trans hB7
                rw [← hW8] at hRI8 ⊢
                have HRI8 := Lib.hid hRI8
                have HNM := Lib.hid (rname_calls (w := W8) q2.b q2.A q2.c (Kd.F_now hFq8) HC2.out (HRJ.out.wait _ (List.mem_of_getElem? HQ2.out)))
                have HB8 := Lib.hid hB8
                clear hF7 hRI8 hB7 hFq7 hW8 hne hFq8 hB8 x20 x21 x22 x23 y20 y21 y22 y23
                obtain ⟨x20, x21, x22, x23⟩ := HRI8.out.box.cells
                obtain ⟨e0, e1, e2, e3, e4⟩ := HB8.out.cells
                have hb63 : l'.length < maxLen := by unfold maxLen; omega
                have hb8 : (l'.length + 1) * 8 ≤ 140737488355328 := by omega
                go_wp2_with (first
                  | (go_at_call 76; refine HNM.out.mono ?_; rintro e w9 ⟨rfl, hF9⟩
                     have HRI9 := Lib.hid (HRI8.out.mv hF9)
                     have hrow9 := HRI9.out.out.1
                     clear hF9 HNM e0 e1 e2 e3 e4 x20 x21 x22 x23)
                  | (at_builtin; refine wp_append1 rfl _ _ 22 3 rfl Tryz.underlying22 infoI rfl (by decide) hrow9 rfl [.int .i64 (nameB q2.b)] rfl rfl (by simp [Value.oneCell']) hb63 hb8 ?_; intro A5 c5 w10 hr5 hF5 hN5
                     have hO5 : OwnI w.heap.size w10 (.slice A5 (l'.length + 1) c5) (l' ++ [nameB q2.b]) := by
                       refine ⟨by simpa using hr5, fun k hk => ?_⟩
                       rcases hN5 k hk with h1 | h1
                       · exact HRI9.out.out.2 k h1
                       · exact Nat.le_trans HRI9.out.fr.size h1
                     have HRI10 := Lib.hid (HRI9.out.told hO5 hF5 hN5)
                     clear hr5 hF5 hN5 hrow9 hO5))
                have HIN' := Lib.hid (HIN.out.yes HQ2.out HRY.out HRM.out)
                have hl1 : (l' ++ [nameB q2.b]).length = l'.length + 1 := by simp
                have HRI11 : Hid (∃ E Z : Nat → Prop, RIW P w g w10 (tk.grow q2.b) tk.wait (l' ++ [nameB q2.b]) (.slice G0 (tk.grow q2.b).ks.length h0) (.slice G1 tk.wait.length h1) (.slice (some ad) tk.wait.length d1) (.slice A5 (l' ++ [nameB q2.b]).length c5) (.slice RA R.length rc) R E Z) := ⟨_, _, by rw [hl1]; exact HRI10.out⟩
                obtain ⟨E', Z', h11⟩ := HRI11.out
                go_roundg n'
                case rel => exact ⟨n', j + 1, true, tk.grow q2.b, l' ++ [nameB q2.b], R, G0, h0, G1, h1, A5, c5, RA, rc, E', Z', rfl, by rw [hl1], rfl, rfl, by go_num, by omega, HIN', h11⟩
                case measure => omega
              | false =>
                have HGR := Lib.hid (rgrow_full HGJ.out HRI4.out.ks HRI4.out.wait q2 HC2.out HF4.out hm)
                have HRM := Lib.hid hm
                clear hm
                have hsz5 := HRI4.out.res.lt
                go_upto_region 27 with (first
                  | (go_at_call 80; refine HGR.out.mono ?_; rintro e w6 ⟨G0, h0, G1, h1, rfl, hv0, hv1, hF6⟩
                     have HV0 := Lib.hid hv0
                     have HV1 := Lib.hid hv1
                     have HF6 := Lib.hid hF6
                     have HB6 := Lib.hid (HB4.out.fr hF6)
                     have HRI6 := Lib.hid (HRI4.out.mv hF6)
                     clear hv0 hv1 hF6 HGR x20 x21 x22 x23 e0 e1 e2 e3 e4))
                obtain ⟨W7, hW7⟩ : ∃ W7, W7 = w6.alloc (.cells #[.slice G0 tk.ks.length h0, .slice G1 tk.wait.length h1] 30) := ⟨_, rfl⟩
                have hF7 : Fr [] w6 W7 := by rw [hW7]; exact (Fr.refl _ _).alloc _
                have hRI8 := HRI4.out.put hgw HF6.out HV0.out HV1.out hF7
                have hB7 := HB6.out.fr hF7
                have hFq7 : Kd.F k67 W7 E q2.A q2.b.f4.length q2.b.f4 := Kd.F_below (Kd.F_below HF4.out HF6.out.below) hF7.below
                obtain ⟨gb, hgb⟩ : ∃ gb, gb = w6.heap.size := ⟨_, rfl⟩
                have hNB7 : TreeIn W7 gb (.slice G0 tk.ks.length h0) (.slice G1 tk.wait.length h1) := by rw [hW7, hgb]; exact heap_alloc_new _ _
                rw [← hW7, ← hgb]
                clear hW7 hgb
                have HRI7 := Lib.hid (HRI6.out.mv hF7)
                have HNB7 := Lib.hid hNB7
                have HF7 := Lib.hid hF7
                have HB7 := Lib.hid hB7
                have HFQ7 := Lib.hid hFq7
                have HRI8' := Lib.hid hRI8
                clear hNB7 hF7 hB7 hFq7 hRI8
                obtain ⟨x20, x21, x22, x23⟩ := HRI7.out.box.cells
                obtain ⟨y20, y21, y22, y23⟩ := HNB7.out.cells
                go_upto_region 28 with (fail)
                have hRI8 := HRI8'.out
                have hF7 := HF7.out
                have hB7 := HB7.out
                have hFq7 := HFQ7.out
                obtain ⟨W8, hW8⟩ : ∃ W8, W8 = (W7.setCell ⟨g, 0, none⟩ (.slice G0 tk.ks.length h0)).setCell ⟨g, 1, none⟩ (.slice G1 tk.wait.length h1) := ⟨_, rfl⟩
                rw [← hW8] at hRI8 ⊢
                have HRI8 := Lib.hid hRI8
                clear hF7 hRI8 hB7 hFq7 hW8 x20 x21 x22 x23 y20 y21 y22 y23
                have HIN' := Lib.hid (HIN.out.full HQ2.out HRY.out HRM.out)
                go_wp2
                go_roundg n'
                case rel => exact ⟨n', j + 1, true, tk, l', R, G0, h0, G1, h1, D, cp, RA, rc, _, Z, rfl, rfl, rfl, rfl, by go_num, by omega, HIN', HRI8⟩
                case measure => omega
        · obtain rfl : j = tj.wait.length := by omega
          obtain ⟨h1, h2, h3⟩ := HRO.out.next HGJ.out HRJ.out HIN.out
          have HN1 := Lib.hid h1
          have HN2 := Lib.hid h2
          have HN3 := Lib.hid h3
          have HN4 := Lib.hid (HRI.out.done hgw)
          clear h1 h2 h3
          go_wp2
          go_roundg m'
          case rel => exact ⟨m', a, ⟨tk.known, R⟩, l', C0, f0, RA, rc, D, cp, _, rfl, rfl, rfl, HN1, HN2, HN3, by have := HLN.out.2; have := HLJ.out; show l'.length + R.length ≤ 17; omega, HN4⟩
          case measure => omega
theorem radd_calls' {P : Nat → Prop} {w : World} {t : Tr} {A0 A1 : Option Addr} {c0 c1 : Nat} (hG : t.Good) (hRg : t.Rng) (h0 : VB w P (.slice A0 t.ks.length c0) t.ks) (h1 : VB w P (.slice A1 t.wait.length c1) t.wait) (q : BV) (hc : q.b.f4.length ≤ q.c) (hF : Kd.F k67 w P q.A q.b.f4.length q.b.f4) (hr : rng q.b) :
    Calls Tryz.prog 47 #[.agg #[.slice A0 t.ks.length c0, .slice A1 t.wait.length c1], .agg #[.int .i64 q.b.f0, .int .i64 q.b.f1, .int .i64 q.b.f2, .int .i64 q.b.f3, .slice q.A q.b.f4.length q.c]] w fun e w' => RAddRes P w t q.b e w' := by
  by_cases hn0 : nameB q.b = 0
  · exact radd_zero hG hRg h0 h1 q hc hF hr hn0
  cases hh : t.has (nameB q.b) with
  | true => exact radd_has hG hRg h0 h1 q hc hF hr hn0 hh
  | false =>
    by_cases hw : nameB q.b ∈ t.wait.map nameB
    · exact radd_waits hG hRg h0 h1 q hc hF hr hn0 hh hw
    cases hry : t.ready q.b with
    | false => exact radd_orphan hG hRg h0 h1 q hc hF hr hn0 hh hw hry
    | true =>
      cases hm : t.room with
      | false => exact radd_full hG hRg h0 h1 q hc hF hr hn0 hh hw hry hm
      | true => exact radd_grown hG hRg h0 h1 q hc hF hr hn0 hh hw hry hm
end Go.Np.Tryz
set_option linter.unusedVariables false
set_option linter.unusedSimpArgs false
namespace Go.Np.Tryz
open Go.RowKit Go.Proofs Go.ChangeShapes Go.WideShapes Go.Proofs.YtlllhpnpgcphcaaGreat.PX Go.Proofs.YtlllhpnpgcphcaaGreatW.PrintWords
theorem rng_of {a b c d : Int} {l : List S67} (h : (Lit.int .i64 d).wf = true) : rng ⟨a, b, c, d, l⟩ := by
  simp [Lit.wf, IntKind.min, IntKind.max, IntKind.signed, IntKind.bits] at h
  unfold rng
  show _ ≤ d ∧ d ≤ _
  omega
theorem txs_F {w : World} {A : Option Addr} {n : Nat} {l : List S67} (h : k67.C w A n l) : Kd.F k67 w (fun k => k < w.heap.size) A n l := by
  intro W' hW
  refine ⟨h.1, h.2.1, fun hp => ?_⟩
  obtain ⟨ad, rfl, hj⟩ := h.2.2 hp
  refine ⟨ad, rfl, fun j p hjp => ?_⟩
  obtain ⟨cs, h1, h2, h3⟩ := hj j p hjp
  refine ⟨cs, h1, h2, fun i u hu => ?_⟩
  have h4 := h3 i u hu
  have hlt : (ad.add (j * k67.sz + i)).block < w.heap.size := by
    rcases Nat.lt_or_ge (ad.add (j * k67.sz + i)).block w.heap.size with h5 | h5
    · exact h5
    · simp [World.cell?, Array.getElem?_eq_none h5] at h4
  exact (World.cell?_of_block (w := w) (hW _ hlt hlt)).trans h4
set_option maxRecDepth 100000 in
theorem open_cellsR {H : Type} {enc : TypeId × Value → H} {W : World} {base : Nat} {sp : Nat → Bool} {held : Bool} {n : Nat} {cs : List Value} {x : DataW H × List MemPlace} (hl : cs.length = 5)
    (h : DataW.trod enc Tryz.prog W base sp held n 35 cs = some x) : ∃ q : S35, k35.K W q cs ∧ rng q ∧ (q.f4.length = 0 ∨ ∃ m ∈ x.1.weights Tryz.prog 35, q.f4.length * 16 ≤ m) := by
  obtain ⟨xs, m, _, hxx, _, hxl, hf⟩ := DataW.trod_struct Tryz.underlying35 h
  have hc : Tryz.prog.cellsOf 3 = 1 := by kernel_rfl
  have hc2 : Tryz.prog.cellsOf 33 = 1 := by kernel_rfl
  match cs, hl with
  | [v0, v1, v2, v3, v4], _ =>
    match xs, hxl with
    | [y0, y1, y2, y3, y4], _ =>
      have h0 := hf 0 _ rfl
      have h1 := hf 1 _ rfl
      have h2 := hf 2 _ rfl
      have h3 := hf 3 _ rfl
      have h4 := hf 4 _ rfl
      simp [hc, hc2] at h0 h1 h2 h3 h4
      obtain ⟨a, ea, _, wa⟩ := DataW.trod_int Tryz.underlying3 h0
      obtain ⟨b, eb, _, wb⟩ := DataW.trod_int Tryz.underlying3 h1
      obtain ⟨c, ec, _, wc⟩ := DataW.trod_int Tryz.underlying3 h2
      obtain ⟨d, ed, _, wd⟩ := DataW.trod_int Tryz.underlying3 h3
      obtain ⟨A, cp, l, e4, hl4, hC4, hsz4⟩ := open_txs h4
      simp at ea eb ec ed
      subst ea eb ec ed e4
      refine ⟨⟨a, b, c, d, l⟩, k35_mk W ⟨a, b, c, d, l⟩ hl4 hC4, rng_of wd, hsz4.imp id (fun ⟨m', h1, h2⟩ => ⟨m', ?_, h2⟩)⟩
      rw [hxx]
      simp only [DataW.weights, Tryz.underlying35, List.map_cons, List.map_nil, DataW.weightsEach, List.mem_append]
      simp [h1]
end Go.Np.Tryz
set_option linter.unusedVariables false
set_option linter.unusedSimpArgs false
namespace Go.Np.Tryz
open Go.RowKit Go.Proofs Go.Proofs.YtlllhpnpgcphcaaGreat.PX Go.Proofs.YtlllhpnpgcphcaaGreatW.PrintWords
theorem Tr.settle_rng : ∀ (k : Nat) (t : Tr) (out : List Int), t.Rng → (Tr.settle k t out).1.Rng
  | 0, t, out, h => h
  | k + 1, t, out, h => by
    cases hf : t.wait.findIdx? t.ready with
    | none => rw [Tr.settle_none hf]; exact h
    | some i =>
      obtain ⟨hi, _⟩ := List.findIdx?_eq_some_iff_getElem.1 hf
      have hb : t.wait[i]? = some t.wait[i] := List.getElem?_eq_getElem hi
      rw [Tr.settle_some hf hb]
      have he : (⟨t.known, t.wait.eraseIdx i⟩ : Tr).Rng := ⟨h.known, fun c hc => h.wait c (List.mem_of_mem_eraseIdx hc)⟩
      split
      · exact Tr.settle_rng k _ _ (he.grow (h.wait _ (List.getElem_mem hi)))
      · exact Tr.settle_rng k _ _ he
theorem Tr.add_rng {t : Tr} (h : t.Rng) {b : Blk} (hb : rng b) : (t.add b).1.Rng := by
  unfold Tr.add
  split
  · exact h
  · split
    · refine ⟨h.known, fun c hc => ?_⟩
      have hc' := List.mem_of_mem_drop hc
      rcases List.mem_append.1 hc' with h1 | h1
      · exact h.wait c h1
      · simp at h1; subst h1; exact hb
    · split
      · exact h
      · exact Tr.settle_rng _ _ _ (h.grow hb)
theorem Tr.empty_rng : (⟨[], []⟩ : Tr).Rng := ⟨by simp, by simp⟩
section
variable {t : Tr} {P : Nat → Prop} {w : World} {A0 A1 : Option Addr} {c0 c1 : Nat}
theorem rpath_calls (hG : t.Good) (hR : t.Rng) (h0 : VB w P (.slice A0 t.ks.length c0) t.ks) (h1 : VB w P (.slice A1 t.wait.length c1) t.wait) (n : Int) :
    Calls Tryz.prog 41 #[.agg #[.slice A0 t.ks.length c0, .slice A1 t.wait.length c1], .int .i64 n] w fun e w' => ∃ v, e = .returned v ∧ SlI w' v (t.path n) ∧ Fr [] w w' := by
  refine (neaptideref08_Path.calls 900 A0 c0 t.ks A1 c1 t.wait n _ w h0.C.2.2 h0.C.2.1 h1.C.2.2 h1.C.2.1 (rpath_f hG hR t.wait n 900 (by omega))).mono ?_
  rintro e w' ⟨v, rfl, hv, hB⟩
  obtain ⟨A, c, rfl, hl, hF⟩ := Kd.R_V (base' := 0) hv
  exact ⟨_, rfl, ⟨A, c, rfl, hl, Kd.F_now hF⟩, Fr.of_below [] hB⟩
theorem rback_calls (hG : t.Good) (hR : t.Rng) (h0 : VB w P (.slice A0 t.ks.length c0) t.ks) (h1 : VB w P (.slice A1 t.wait.length c1) t.wait) (n s : Int) :
    Calls Tryz.prog 57 #[.agg #[.slice A0 t.ks.length c0, .slice A1 t.wait.length c1], .int .i64 n, .int .i64 s] w fun e w' => e = .returned (.int .i64 (t.back n s)) ∧ Fr [] w w' :=
  (neaptideref08_Back.calls 900 A0 c0 t.ks A1 c1 t.wait n s _ w h0.C.2.2 h0.C.2.1 h1.C.2.2 h1.C.2.1 (rback_f hG hR t.wait n s 900 (by omega))).mono (fun e w' h => ⟨h.1, Fr.of_below [] h.2⟩)
end
end Go.Np.Tryz
set_option linter.unusedVariables false
set_option linter.unusedSimpArgs false
set_option linter.unusedVariables false
set_option linter.unusedSimpArgs false
