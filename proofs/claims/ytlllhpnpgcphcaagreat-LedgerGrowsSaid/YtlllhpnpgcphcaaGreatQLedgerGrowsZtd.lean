/- A text that the row of LedgerGrows needs. (Pruned by tools/prune.py.) -/
import Derived.Test.YtlllhpnpgcphcaaGreatQLedgerGrowsLeds
set_option linter.unusedVariables false
set_option linter.unusedSimpArgs false
namespace Go.Np.Tryz
open Go.RowKit Go.Proofs Go.Proofs.YtlllhpnpgcphcaaGreat.PX Go.Proofs.YtlllhpnpgcphcaaGreatW.PrintWords
def Tr.Ext (t s : Tr) : Prop := ∀ n e, t.find n = some e → s.find n = some e
theorem Tr.Ext.refl (t : Tr) : t.Ext t := fun _ _ h => h
theorem Tr.Ext.trans {t s u : Tr} (h : t.Ext s) (k : s.Ext u) : t.Ext u := fun n e he => k n e (h n e he)
theorem Tr.Ext.known {t s : Tr} (h : s.known = t.known) : t.Ext s := fun n e he => by rw [Tr.find_known h]; exact he
theorem Tr.Ext.grow (t : Tr) (b : Blk) : t.Ext (t.grow b) := fun n e he => by rw [Tr.find_grow, he]; rfl
theorem Tr.settle_more : ∀ (k : Nat) (t : Tr) (out : List Int), t.Ext (Tr.settle k t out).1
  | 0, t, out => .refl t
  | k + 1, t, out => by
    unfold Tr.settle
    cases hf : t.wait.findIdx? t.ready with
    | none => exact .refl t
    | some i =>
      simp only []
      have h0 : t.Ext (⟨t.known, t.wait.eraseIdx i⟩ : Tr) := .known rfl
      split
      · exact (h0.trans (Tr.Ext.grow _ _)).trans (Tr.settle_more k _ _)
      · exact h0.trans (Tr.settle_more k _ _)
theorem Tr.add_more (t : Tr) (b : Blk) : t.Ext (t.add b).1 := by
  unfold Tr.add
  split
  · exact .refl t
  · split
    · exact .known rfl
    · split
      · exact .refl t
      · exact (Tr.Ext.grow t b).trans (Tr.settle_more _ _ _)
theorem Ch.take_ext (C : Ch) (b : Blk) : C.t.Ext (C.take b).1.t := by
  unfold Ch.take
  split
  · exact Tr.add_more C.t b
  · exact .refl _
theorem fold_ext : ∀ (l : List Blk) (C : Ch), C.t.Ext (l.foldl (fun C b => (C.take b).1) C).t
  | [], C => .refl _
  | b :: l, C => (Ch.take_ext C b).trans (fold_ext l _)
theorem grownC_ext (dr : List Int) (deep : Int) (l : List Blk) (n : Nat) : (grownC dr deep (l.take n)).t.Ext (grownC dr deep l).t := by
  have h : grownC dr deep l = (l.drop n).foldl (fun C b => (C.take b).1) (grownC dr deep (l.take n)) := by
    unfold grownC
    rw [← List.foldl_append, List.take_append_drop]
  rw [h]
  exact fold_ext _ _
section
variable {t s : Tr}
theorem Tr.Ext.has (h : t.Ext s) {n : Int} (hn : t.has n = true) : s.has n = true := by
  unfold Tr.has at hn ⊢
  obtain ⟨e, he⟩ := Option.isSome_iff_exists.1 hn
  rw [h n e he]; rfl
theorem Tr.Ext.path (h : t.Ext s) {n : Int} (hn : t.has n = true) : s.path n = t.path n := by
  unfold Tr.has at hn
  obtain ⟨e, he⟩ := Option.isSome_iff_exists.1 hn
  unfold Tr.path
  rw [h n e he, he]
theorem Tr.Ext.get (h : t.Ext s) {n : Int} (hn : t.has n = true) : s.get n = t.get n := by
  unfold Tr.has at hn
  obtain ⟨e, he⟩ := Option.isSome_iff_exists.1 hn
  unfold Tr.get
  rw [h n e he, he]
end
theorem path_all {t : Tr} (hO : t.Ok) : ∀ (m : Nat) (n : Int), (t.path n).length = m → ∀ x ∈ t.path n, t.has x = true := by
  intro m
  induction m using Nat.strongRecOn with
  | _ m ih =>
    intro n hm x hx
    cases hf : t.find n with
    | none =>
      unfold Tr.path at hx
      rw [hf] at hx
      cases hx
    | some e =>
      have hp := hO.path_has hf
      rw [hp] at hx hm
      rcases List.mem_append.1 hx with h1 | h1
      · exact ih (t.path e.blk.f3).length (by rw [← hm, List.length_append]; simp) _ rfl x h1
      · simp at h1
        subst h1
        unfold Tr.has; rw [hf]; rfl
theorem txs_ext {C D : Ch} (hO : C.t.Ok) (h : C.t.Ext D.t) {n : Int} (hn : C.t.has n = true) : D.txs n = C.txs n := by
  unfold Ch.txs
  rw [h.path hn]
  have ha := path_all hO _ n rfl
  generalize C.t.path n = P at ha
  induction P with
  | nil => rfl
  | cons y P ih =>
    rw [List.flatMap_cons, List.flatMap_cons, h.get (ha y (by simp)), ih (fun x hx => ha x (by simp [hx]))]
theorem txs_zero {C : Ch} (hO : C.t.Ok) : C.txs 0 = [] := by unfold Ch.txs; rw [hO.path_zero]; rfl
theorem okD_ext {C D : Ch} (h : C.t.Ext D.t) {d : Int} (hd : okD C d = true) : okD D d = true := by
  unfold okD at hd ⊢
  simp only [Bool.or_eq_true, decide_eq_true_eq] at hd ⊢
  exact hd.imp id h.has
theorem while_mono {p q : Int → Bool} (h : ∀ x, p x = true → q x = true) : ∀ l : List Int, ∃ r, l.takeWhile q = l.takeWhile p ++ r
  | [] => ⟨[], rfl⟩
  | x :: l => by
    obtain ⟨r, hr⟩ := while_mono h l
    by_cases hp : p x = true
    · exact ⟨r, by simp [List.takeWhile_cons, hp, h x hp, hr]⟩
    · exact ⟨(x :: l).takeWhile q, by simp [List.takeWhile_cons, hp]⟩
theorem settled_mono {C D : Ch} (h : C.t.Ext D.t) (l : List Int) : settledN C l ≤ settledN D l := by
  unfold settledN
  obtain ⟨r, hr⟩ := while_mono (p := okD C) (q := okD D) (fun x hx => okD_ext h hx) l
  rw [hr, List.length_append]; omega
theorem txs_while {C D : Ch} (hO : C.t.Ok) (hO' : D.t.Ok) (h : C.t.Ext D.t) : ∀ l : List Int, (l.takeWhile (okD C)).map D.txs = (l.takeWhile (okD C)).map C.txs
  | [] => rfl
  | d :: l => by
    by_cases hp : okD C d = true
    · rw [List.takeWhile_cons, if_pos hp, List.map_cons, List.map_cons, txs_while hO hO' h l]
      congr 1
      unfold okD at hp
      simp only [Bool.or_eq_true, decide_eq_true_eq] at hp
      rcases hp with rfl | hp
      · rw [txs_zero hO, txs_zero hO']
      · exact txs_ext hO h hp
    · rw [List.takeWhile_cons, if_neg hp]; rfl
theorem final_more {C D : Ch} (hO : C.t.Ok) (hO' : D.t.Ok) (h : C.t.Ext D.t) (l : List Int) : beginsB (finalL C l) (finalL D l) = true := by
  obtain ⟨r, hr⟩ := while_mono (p := okD C) (q := okD D) (fun x hx => okD_ext h hx) l
  rw [final_eq, final_eq, hr, List.map_append, List.flatten_append, txs_while hO hO' h, cleanL_append]
  exact beginsB_app _ _
theorem while_take (p : Int → Bool) : ∀ (n : Nat) (l : List Int), ∃ r, l.takeWhile p = (l.take n).takeWhile p ++ r
  | 0, l => ⟨l.takeWhile p, rfl⟩
  | n + 1, [] => ⟨[], rfl⟩
  | n + 1, x :: l => by
    obtain ⟨r, hr⟩ := while_take p n l
    by_cases hp : p x = true
    · exact ⟨r, by simp [List.takeWhile_cons, hp, hr]⟩
    · exact ⟨[], by simp [List.takeWhile_cons, hp]⟩
theorem final_take (C : Ch) (n : Nat) (l : List Int) : beginsB (finalL C (l.take n)) (finalL C l) = true := by
  obtain ⟨r, hr⟩ := while_take (okD C) n l
  rw [final_eq, final_eq, hr, List.map_append, List.flatten_append, cleanL_append]
  exact beginsB_app _ _
theorem final_avail (C : Ch) (l : List Int) : beginsB (finalL C l) (availL C l) = true := by
  unfold availL
  rw [cleanL_append]
  have e : cleanL [] (finalL C l) = finalL C l := by unfold finalL; exact cleanL_twice _
  rw [e]
  exact beginsB_app _ _
theorem nodup_at {l : List Int} (h : l.Nodup) {j k : Nat} (hjk : j < k) (hk : k < l.length) : l.getD j 0 ≠ l.getD k 0 := by
  have h1 := List.pairwise_iff_getElem.1 h j k (by omega) hk hjk
  rw [List.getD_eq_getElem?_getD, List.getD_eq_getElem?_getD, List.getElem?_eq_getElem (by omega), List.getElem?_eq_getElem hk]
  exact h1
theorem avail_nodup (C : Ch) (l : List Int) : (availL C l).Nodup := cleanL_nodup _ _
end Go.Np.Tryz
