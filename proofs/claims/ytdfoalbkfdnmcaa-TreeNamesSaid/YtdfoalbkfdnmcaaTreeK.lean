/- slices.Sorted(maps.Keys(m)), Sort, Compact at seat C. (Printed by tools/gen_treek.py out of SortC, WhoP, Keys.) -/
import Derived.RangeFuncBox
import Derived.RangeFuncLeaves
import Derived.Shelf.Abstract
import Derived.WalkKit
import Derived.OwnWalkIn
import Derived.TacticsInMore
import Derived.LoopNIn
import Derived.LoopIn
import Derived.Maps.AppendAt
import Derived.Sort.OwnSorted
import Derived.Sort.Grow
import Derived.Lib.OwnBridge
import Derived.Sort.OwnSortedInts
import Derived.Sort.LoopGhostIn
import Derived.Test.YtdfoalbkfdnmcaaShelf
import Derived.Test.YtdfoalbkfdnmcaaTreeX
set_option linter.unusedVariables false
set_option linter.unusedSimpArgs false
namespace Go.Np
open Go.Lib Go.Proofs
theorem cu_congr {d e : Array Int} {m : Nat} (h : ∀ j, j < m → d[j]! = e[j]!) : compactUpTo d m = compactUpTo e m := by
  unfold compactUpTo
  have h1 : (List.range m).filter (keeps d) = (List.range m).filter (keeps e) := by
    apply List.filter_congr
    intro j hj
    have hj' : j < m := by simpa using hj
    unfold keeps
    rw [h j hj', h (j - 1) (by omega)]
  rw [h1]
  apply List.map_congr_left
  intro j hj
  have hj' : j < m := by simpa using (List.mem_filter.1 hj).1
  exact h j hj'
theorem getL_append (l : List Int) (x : Int) (j : Nat) (h : j < l.length) : (l ++ [x]).toArray[j]! = l.toArray[j]! := by
  simp [getElem!_pos, show j < l.length + 1 by omega, h, List.getElem_append_left]
theorem compact_snoc (l : List Int) (x : Int) : compact (l ++ [x]) = compact l ++ (if l.getLast? = some x then [] else [x]) := by
  unfold compact
  rw [show (l ++ [x]).length = l.length + 1 by simp, compactUpTo_succ, cu_congr (fun j hj => getL_append l x j hj)]
  congr 1
  have hx : (l ++ [x]).toArray[l.length]! = x := by simp [getElem!_pos]
  unfold keeps
  rw [hx]
  by_cases h0 : l = []
  · subst h0; simp
  · have hl : 0 < l.length := List.length_pos_iff.2 h0
    have hlast : l.getLast? = some l.toArray[l.length - 1]! := by
      rw [List.getLast?_eq_getElem?]
      simp [getElem!_pos, show l.length - 1 < l.length by omega]
    rw [getL_append l x (l.length - 1) (by omega), hlast]
    by_cases he : x = l.toArray[l.length - 1]!
    · rw [if_neg (by simp only [decide_eq_true_eq]; rintro (h | h); omega; exact h he), if_pos (by rw [← he])]
    · rw [if_pos (by simp only [decide_eq_true_eq]; exact .inr he), if_neg (fun h => he (by injection h with h; exact h.symm))]
theorem compact_nil : compact ([] : List Int) = [] := rfl
theorem snoc_of {l : List Int} (h : l ≠ []) : ∃ a x, l = a ++ [x] := ⟨l.dropLast, l.getLast h, (List.dropLast_concat_getLast h).symm⟩
theorem last_mem {l : List Int} {x : Int} (h : l.getLast? = some x) : x ∈ l := List.mem_of_getLast? h
theorem last_of_mem {l : List Int} {x : Int} (hs : (l ++ [x]).Pairwise (· ≤ ·)) (h : x ∈ l) : l.getLast? = some x := by
  have hne : l ≠ [] := List.ne_nil_of_mem h
  obtain ⟨a, y, rfl⟩ := snoc_of hne
  have h1 : y ≤ x := by
    have := (List.pairwise_append.1 hs).2.2 y (by simp) x (by simp)
    exact this
  have hs2 := (List.pairwise_append.1 hs).1
  have h2 : x ≤ y := by
    rcases List.mem_append.1 h with h | h
    · exact (List.pairwise_append.1 hs2).2.2 x h y (by simp)
    · have : x = y := by simpa using h
      omega
  have : x = y := by omega
  subst this
  simp
theorem compact_props : ∀ (n : Nat) (l : List Int), l.length = n → l.Pairwise (· ≤ ·) → (compact l).Pairwise (· < ·) ∧ (∀ x, x ∈ compact l ↔ x ∈ l) ∧ (compact l).length ≤ l.length ∧ ((compact l).length = l.length ↔ l.Nodup) := by
  intro n
  induction n with
  | zero =>
    intro l hl _
    obtain rfl := List.eq_nil_of_length_eq_zero hl
    rw [compact_nil]
    exact ⟨List.Pairwise.nil, fun x => Iff.rfl, Nat.le_refl _, by simp⟩
  | succ n ih =>
    intro l hl hs
    have hne : l ≠ [] := by intro h; subst h; simp at hl
    obtain ⟨a, x, rfl⟩ := snoc_of hne
    have hs1 := (List.pairwise_append.1 hs).1
    obtain ⟨p1, p2, p3, p4⟩ := ih a (by simp at hl; exact hl) hs1
    have hle : ∀ y ∈ a, y ≤ x := fun y hy => (List.pairwise_append.1 hs).2.2 y hy x (by simp)
    rw [compact_snoc]
    have hnd : (a ++ [x]).Nodup ↔ a.Nodup ∧ x ∉ a := by
      rw [List.nodup_append]
      constructor
      · rintro ⟨h1, _, h3⟩; exact ⟨h1, fun h => h3 x h x (by simp) rfl⟩
      · rintro ⟨h1, h2⟩; refine ⟨h1, by simp, fun y hy z hz e => ?_⟩
        have : z = x := by simpa using hz
        exact h2 (by rw [← this, ← e]; exact hy)
    by_cases hx : a.getLast? = some x
    · rw [if_pos hx, List.append_nil]
      have hm := last_mem hx
      refine ⟨p1, fun y => ?_, by simp; omega, ?_⟩
      · rw [p2 y, List.mem_append]
        constructor
        · exact .inl
        · rintro (h | h)
          · exact h
          · have : y = x := by simpa using h
            rw [this]; exact hm
      · constructor
        · intro h; simp at h; omega
        · intro h; exact absurd hm (hnd.1 h).2
    · rw [if_neg hx]
      have hnm : x ∉ a := fun h => hx (last_of_mem hs h)
      refine ⟨?_, fun y => ?_, by simp; omega, ?_⟩
      · rw [List.pairwise_append]
        refine ⟨p1, by simp, fun y hy z hz => ?_⟩
        have hz' : z = x := by simpa using hz
        have hy' := (p2 y).1 hy
        have := hle y hy'
        have : y ≠ x := fun e => hnm (by rw [← e]; exact hy')
        omega
      · rw [List.mem_append, List.mem_append, p2 y]
      · rw [hnd, List.length_append, List.length_append]
        constructor
        · intro h; exact ⟨p4.1 (by simpa using h), hnm⟩
        · intro h; rw [p4.2 h.1]
theorem sorted_ms (l : List Int) : (l.mergeSort fun x y => decide (x ≤ y)).Pairwise (· ≤ ·) := by
  have := List.pairwise_mergeSort (le := fun x y : Int => decide (x ≤ y)) (fun a b c h1 h2 => by simp at *; omega) (fun a b => by simp only [Bool.or_eq_true, decide_eq_true_eq]; omega) l
  exact this.imp (fun h => by simpa using h)
theorem unlike_iff (l : List Int) : (compact (l.mergeSort fun x y => decide (x ≤ y))).length = l.length ↔ l.Nodup := by
  have h := (compact_props _ _ rfl (sorted_ms l)).2.2.2
  rw [List.length_mergeSort] at h
  rw [h]
  exact (List.mergeSort_perm l _).nodup_iff
theorem compact_le (l : List Int) : (compact l).length ≤ l.length := by
  unfold compact compactUpTo
  rw [List.length_map]
  exact Nat.le_trans (List.length_filter_le _ _) (by simp)
end Go.Np
namespace Go.Np.Try
open Go.RowKit Go.Proofs Go.Shelf Go.Sort Go.Lib Go.Proofs.YtdfoalbkfdnmcaaW.PrintWords
theorem sort_own {w : World} {base : Nat} {v : Value} {l : List Int} (h : w.ownsRow base 3 1 v l.length (l.map (Value.int .i64))) (hl : l.length < 4611686018427387904) :
    Calls Try.prog 53 #[v] w fun e w' => e = .returned (.tuple #[]) ∧ w'.ownsRow base 3 1 v l.length ((l.mergeSort fun x y => decide (x ≤ y)).map (Value.int .i64)) ∧ w.grownBy w' v.ownBlock := by
  by_cases hv : v = .slice none 0 0
  · subst hv
    have h0 : l = [] := by
      rcases h.2 with ⟨_, h1⟩ | ⟨g, cap, cur, e, _⟩
      · exact List.eq_nil_of_length_eq_zero h1
      · cases e
    subst h0
    refine (Try.slices_Sort_int_none none 0 w).mono ?_
    rintro e w' ⟨rfl, rfl⟩
    exact ⟨rfl, by simpa using h, World.grownBy.refl _ _⟩
  · obtain ⟨g, cap, rfl, h1, h2, h3, h4, _, hH⟩ := holds_of_ownsRow h hv
    rcases h.2 with ⟨e, _⟩ | ⟨g', cap', cur, e, hb, hg, hn, hm, hs, ht⟩
    · exact absurd e hv
    · injection e with e1 _ e3
      injection e1 with e1
      injection e1 with e1
      subst e1 e3
      refine (Try.slices_Sort_int g 0 cap l w hH h2 hl).mono ?_
      rintro e w' ⟨rfl, n, os, rfl⟩
      exact ⟨rfl, ownsRow_sortedI (ss := l) (List.length_mergeSort l) hb hg hn hm hs, grownBy_sortedI _⟩
theorem grownBy_putRow {w : World} {g n : Nat} (d : Array Int) : w.grownBy (putRow (Value.int .i64) (Sort.ahead w n) g 0 d) (some g) := by
  refine ⟨rfl, rfl, rfl, by simp [putRow, mapBlock, Sort.ahead], fun k hk hne => ?_⟩
  have : g ≠ k := fun e => hne (by rw [e])
  simp [putRow, mapBlock, Sort.ahead, Array.getElem?_modify, this]
theorem compact_own {w : World} {base : Nat} {v : Value} {l : List Int} (h : w.ownsRow base 3 1 v l.length (l.map (Value.int .i64))) (hl : l.length ≤ 9223372036854775807) :
    Calls Try.prog 54 #[v] w fun e w' => ∃ A c, e = .returned (.slice A (compact l).length c) ∧ w'.ownsRow base 3 1 (.slice A (compact l).length c) (compact l).length ((compact l).map (Value.int .i64)) ∧ (Value.slice A (compact l).length c).ownBlock = v.ownBlock ∧ w.grownBy w' v.ownBlock := by
  by_cases hv : v = .slice none 0 0
  · subst hv
    have h0 : l = [] := by
      rcases h.2 with ⟨_, h1⟩ | ⟨g, cap, cur, e, _⟩
      · exact List.eq_nil_of_length_eq_zero h1
      · cases e
    subst h0
    refine (Try.slices_Compact_int_empty none 0 w).mono ?_
    rintro e w' ⟨rfl, rfl⟩
    exact ⟨none, 0, rfl, by simpa [Go.Np.compact_nil] using h, rfl, World.grownBy.refl _ _⟩
  · obtain ⟨g, cap, rfl, h1, h2, h3, h4, _, hH⟩ := holds_of_ownsRow h hv
    refine (Try.slices_Compact_int g 0 cap l w hH hl h3).mono ?_
    rintro e w' ⟨rfl, q, rfl⟩
    have hle := Go.Np.compact_le l
    have hc := ownsRow_putRow (q := q) (k := (compact l).length) (ys := compact l ++ List.replicate (l.length - (compact l).length) 0) h (by simp; omega) hle
    rw [List.take_left] at hc
    exact ⟨_, cap, rfl, hc, rfl, grownBy_putRow _⟩
end Go.Np.Try

namespace Go.Np
open Go.Lib Go.Proofs
theorem strict_ext : ∀ (l l' : List Int), l.Pairwise (· < ·) → l'.Pairwise (· < ·) → (∀ x, x ∈ l ↔ x ∈ l') → l = l' := by
  intro l
  induction l with
  | nil =>
    intro l' _ _ h
    cases l' with
    | nil => rfl
    | cons y l' => exact absurd ((h y).2 List.mem_cons_self) (by simp)
  | cons x l ih =>
    intro l' h1 h2 h
    cases l' with
    | nil => exact absurd ((h x).1 List.mem_cons_self) (by simp)
    | cons y l' =>
      rw [List.pairwise_cons] at h1 h2
      have hxy : x = y := by
        rcases List.mem_cons.1 ((h x).1 List.mem_cons_self) with e | e
        · exact e
        · rcases List.mem_cons.1 ((h y).2 List.mem_cons_self) with e' | e'
          · exact e'.symm
          · have a := h2.1 x e
            have b := h1.1 y e'
            omega
      subst hxy
      rw [ih l' h1.2 h2.2 (fun z => ?_)]
      constructor
      · intro hz
        rcases List.mem_cons.1 ((h z).1 (List.mem_cons_of_mem _ hz)) with e | e
        · have := h1.1 z hz; omega
        · exact e
      · intro hz
        rcases List.mem_cons.1 ((h z).2 (List.mem_cons_of_mem _ hz)) with e | e
        · have := h2.1 z hz; omega
        · exact e
/-- Sorted, each once. -/
def uniq (l : List Int) : List Int := Go.Lib.compact (l.mergeSort fun x y => decide (x ≤ y))
theorem uniq_strict (l : List Int) : (uniq l).Pairwise (· < ·) := (compact_props _ _ rfl (sorted_ms l)).1
theorem uniq_mem (l : List Int) (x : Int) : x ∈ uniq l ↔ x ∈ l := by
  rw [uniq, (compact_props _ _ rfl (sorted_ms l)).2.1 x]
  exact (List.mergeSort_perm l _).mem_iff
theorem uniq_perm {l l' : List Int} (h : ∀ x, x ∈ l ↔ x ∈ l') : uniq l = uniq l' := strict_ext _ _ (uniq_strict l) (uniq_strict l') (fun x => by rw [uniq_mem, uniq_mem, h x])
end Go.Np
namespace Go.Np.Try
open Go.RowKit Go.Proofs Go.Shelf Go.Lib
attribute [local go_sem] Oper.semAt_some
abbrev keyE : Int → Value := fun a => Value.int .i64 a
theorem iter_walk {κ : Type} {kE : κ → Value} {w : World} {r b : Nat} {left : List (κ × Value)} (h : IterIs kE w r b left) : ∃ o : Obj, w.heap[r]? = some o ∧ o.isWalk = true := by
  obtain ⟨es, clock, since, seen, last, h1, h2, _⟩ := h
  exact ⟨_, h2, rfl⟩
theorem iter_keeps {κ : Type} {kE : κ → Value} {w w' : World} {r b : Nat} {left : List (κ × Value)} (h : IterIs kE w r b left) (hk : KeepsWalks w w') : IterIs kE w' r b left := by
  obtain ⟨es, clock, since, seen, last, h1, h2, h3⟩ := h
  exact ⟨es, clock, since, seen, last, hk.same b _ h1 rfl, hk.same r _ h2 rfl, h3⟩
theorem grown_fr {r : Nat} {w w' : World} (h : Fr [r] w w') : w.grownBy w' (some r) := ⟨h.os, h.tape, h.output, h.size, fun k hk hn => h.block k hk (by simp; rintro rfl; exact hn rfl)⟩
set_option maxRecDepth 100000 in
set_option maxHeartbeats 2000000 in
theorem ks_keys1_in (F : Fence) (n : Nat) (h7 : F.fn 62) (hro : F.round = none) (hn : 1 ≤ n) (l Bm b : Nat) (mm : List (Int × Value)) (J Jx : List Int → World → Prop)
    (hY : ∀ pre x W, J pre W → pre.length < mm.length → YieldAt F (n - 1) Try.prog l #[.int .i64 x] W fun e W' =>
      (e = .returned (.bool true) ∧ J (pre ++ [x]) W' ∧ KeepsWalks W W') ∨ (e = .returned (.bool false) ∧ Jx (pre ++ [x]) W'))
    (W : World) (hJ : AbidesFrom W.heap.size J) (hm : W.cell? ⟨Bm, 0, none⟩ = some (.map (some b))) (hM : MapIs keyE W b mm) (h0 : J [] W) :
    CallsIn F n Try.prog 62 #[.func (.yield l) #[] #[], .pointer (some ⟨Bm, 0, none⟩)] W fun e W' => (∃ v, e = .returned v) ∧
      ((∃ ys, ys.Perm (mm.map (·.1)) ∧ J ys W') ∨ (∃ pre : List Int, Jx pre W')) := by
  obtain ⟨ob, hranges, hI⟩ := IterIs.begin (P := Try.prog) (k := 3) hM
  have hrange := hranges 63 73 Try.underlying63
  clear hranges
  have hJ0 : J [] (W.alloc ob) := hJ [] W _ none h0 (World.grownBy_alloc W ob none) (fun r e => by cases e)
  have hsz0 : W.heap.size ≤ (W.alloc ob).heap.size := by simp
  obtain ⟨r, hr⟩ : ∃ r, r = W.heap.size := ⟨_, rfl⟩
  obtain ⟨W2, hW2⟩ : ∃ W2, W2 = W.alloc ob := ⟨_, rfl⟩
  rw [← hr, ← hW2] at hrange hI
  rw [← hW2] at hJ0
  have hrr : W.heap.size ≤ r := Nat.le_of_eq hr.symm
  clear hr hW2 hsz0
  have HI := Lib.hid hI
  clear hI
  refine callsIn_of_wp Try.func62 rfl h7 ?_ hro
  simp only [Try.ntmps62, List.size_toArray, List.length_cons, List.length_nil, Nat.reduceAdd, Nat.reduceSub, Array.replicate_succ, Array.replicate_zero, List.push_toArray, List.append_toArray, List.nil_append, List.cons_append]
  gi_wp2
  clear hrange hm
  gi_loopg [3] mm.length (fun gn _ wr => ∃ (left : List (Int × Value)) (ss : List Int), gn = left.length ∧ Hid (IterIs keyE wr r b left) ∧ ss.length + left.length = mm.length ∧ Hid ((ss ++ left.map (·.1)).Perm (mm.map (·.1))) ∧ Hid (J ss wr))
  case atStart => exact ⟨mm, [], rfl, HI, by simp, by show List.Perm _ _; simp, hJ0⟩
  case round =>
    obtain ⟨left, ss, rfl, HIr, hlen, HP, HJ⟩ := hrel
    rcases HIr.out.run_next (P := Try.prog) 0 with ⟨rfl, hnext⟩ | ⟨l1, x, y, l2, w', rfl, hnext, hI', hF', hsz', hentry⟩
    · gi_wp2
      go_end0
      exact ⟨⟨_, rfl⟩, .inl ⟨ss, by simpa using HP.out, HJ.out⟩⟩
    · have hJ2 : J ss w' := hJ ss wr w' (some r) HJ.out (grown_fr hF') (fun r' e => by cases e; exact ⟨hrr, iter_walk HIr.out⟩)
      obtain ⟨fn, tmps, assign, body, hy, hR⟩ := hY ss x w' hJ2 (by simp at hlen; omega)
      have HI' := Lib.hid hI'
      have HR := Lib.hid hR
      have hl2 : (l1 ++ l2).length < (l1 ++ (x, y) :: l2).length := by simp
      have hl3 : (ss ++ [x]).length + (l1 ++ l2).length = mm.length := by simp at hlen ⊢; omega
      have hp3 : ((ss ++ [x]) ++ (l1 ++ l2).map (·.1)).Perm (mm.map (·.1)) := by
        refine List.Perm.trans ?_ HP.out
        simp only [List.map_append, List.map_cons, List.append_assoc, List.singleton_append]
        exact List.Perm.append_left _ List.perm_middle.symm
      have HP3 := Lib.hid hp3
      clear hp3 hI' hR hF' hsz' hJ2 HJ HP HIr hlen
      gi_wp2
      refine HR.out.mono ?_
      rintro e W3 (⟨rfl, hJ3, hk3⟩ | ⟨rfl, hJx3⟩)
      · gi_wp2
        go_roundg (l1 ++ l2).length
        case measure => exact hl2
        case rel => exact ⟨l1 ++ l2, ss ++ [x], rfl, iter_keeps HI'.out hk3, hl3, HP3, hJ3⟩
      · gi_wp2
        refine bodyPost_ret (results_none rfl _ _ _) rfl ?_
        exact ⟨⟨_, rfl⟩, .inr ⟨ss ++ [x], hJx3⟩⟩
theorem ks_stops (F : Fence) (n : Nat) (h7 : F.fn 62) (hro : F.round = none) (hn : 1 ≤ n) (Bm b : Nat) (mm : List (Int × Value)) (w : World) (hBs : Bm < w.heap.size)
    (hc : w.cell? ⟨Bm, 0, none⟩ = some (.map (some b))) (hM : MapIs keyE w b mm) :
    SeqStopsK F n Try.prog 62 #[.pointer (some ⟨Bm, 0, none⟩)] (fun x : Int => #[Value.int .i64 x]) KeepsWalks (fun ys => ys.Perm (mm.map (·.1))) (fun _ => True) mm.length w := fun l J Jx W hW hJ _ hY h0 => by
  have hbl : b < w.heap.size := by obtain ⟨es, cl, g, _⟩ := hM; exact (Array.getElem?_eq_some_iff.1 g).1
  refine (ks_keys1_in F n h7 hro hn l Bm b mm J Jx hY W hJ ((hW.cell (p := ⟨Bm, 0, none⟩) hBs).trans hc) (hM.move (hW.block b hbl)) h0).mono ?_
  rintro e W' ⟨he, h | ⟨pre, hj⟩⟩
  · exact ⟨he, .inl h⟩
  · exact ⟨he, .inr ⟨pre, trivial, hj⟩⟩
set_option maxRecDepth 100000 in
set_option maxHeartbeats 2000000 in
theorem ks_appendSeq_in (Bm b : Nat) (mm : List (Int × Value)) (hreach : mm.length * 8 ≤ 140737488351232) (w : World) (hBs : Bm < w.heap.size) (hc : w.cell? ⟨Bm, 0, none⟩ = some (.map (some b))) (hM : MapIs keyE w b mm) :
    CallsIn Fence.wide 6 Try.prog 75 #[.slice none 0 0, .func (.func 62) #[] #[.pointer (some ⟨Bm, 0, none⟩)]] w fun e W' => ∃ (v : Value) (ys : List Int), e = .returned v ∧ ys.Perm (mm.map (·.1)) ∧ W'.ownsRow w.heap.size 3 1 v ys.length (ys.map (Value.int .i64)) ∧ Below w.heap.size w W' := by
  have hlen : mm.length ≤ maxLen := by unfold maxLen; omega
  have hbytes : mm.length * 8 ≤ 140737488355328 := by omega
  obtain ⟨i0, hi, hz0, hz1, hz2⟩ := info_parts infoI
  refine callsIn_of_wp_marks Try.func75 rfl trivial ?_ rfl
  simp only [Try.ntmps75, List.size_toArray, List.length_cons, List.length_nil, Nat.reduceAdd, Nat.reduceSub, Array.replicate_succ, Array.replicate_zero, List.push_toArray, List.append_toArray, List.nil_append, List.cons_append]
  gi_wp2
  have bO := Boxed.new w 29 (.slice none 0 0)
  have hB0 : Below w.heap.size w (w.alloc (.cells #[.slice none 0 0] 29)) := (Below.refl _ w).alloc (Nat.le_refl _) _
  refine wpIn_rangeFunc_ownG rfl (by omega) (gf := 62) (lb := #[.pointer (some ⟨Bm, 0, none⟩)]) rfl trivial (enters_of Try.func62 (by kernel_rfl) rfl)
    (ks_stops Fence.wide 5 trivial rfl (by omega) Bm b mm (w.alloc (.cells #[.slice none 0 0] 29)) (by simp; omega) ((hB0.cell (p := ⟨Bm, 0, none⟩) hBs).trans hc) (hM.alloc _)) walksK_t (fun W l o o' => walksK_b (w := w) W l o o' ∘ (fun h => by simp at h; omega)) (Below.refl _ _) (fun _ => rfl)
    (fun pre W => (∃ v, Boxed W w.heap.size 29 v ∧ W.ownsRow w.heap.size 3 1 v pre.length (pre.map (Value.int .i64)) ∧ (v = .slice none 0 0 ↔ pre = [])) ∧ Below w.heap.size w W)
    (fun _ _ _ => False)
    (OwnFrom.and (Own.from (holdsRow_own w.heap.size w.heap.size 29 3 1 (fun pre => pre.length) (fun pre => pre.map (Value.int .i64)) (fun pre v => v = .slice none 0 0 ↔ pre = [])) _) (ownFrom_below (Nat.le_refl _) (by simp)))
    (fun _ _ _ _ _ hs _ _ => hs)
    ⟨⟨_, bO, World.ownsRow_nil _ _ _ _, by simp⟩, hB0⟩
    (fun x => { tmps := #[.slice none 0 0, .func (.func 62) #[] #[.pointer (some ⟨Bm, 0, none⟩)], .pointer (some ⟨w.heap.size, 0, none⟩), undef, .slice none 0 0, .int .i64 x, .func (.func 62) #[] #[.pointer (some ⟨Bm, 0, none⟩)], .int .i64 x, undef, undef, undef, undef, undef], defers := [] }) ?assign ?body ?done ?stop
  case assign =>
    intro l x W K hK
    gi_wp2
    exact hK
  case body =>
    rintro l pre x W ⟨⟨v, hv, hrow, hnil⟩, hB⟩ hlt
    have hc := hv.cell
    gi_wp2_with (gi_at_builtin; refine wpListIn_append_own _ rfl _ _ 29 rfl w.heap.size 3 i0 (.int .i64 0) 1 8 Try.underlying29 hi hz0 hz1 hz2 rfl (by decide) _ _ _ rfl (hrow.alloc _) ⟨W.heap.size, 0, none⟩ 1 1 [.int .i64 x] rfl rfl (cell_one_new _ _ _) (by simp [Value.oneCell']) (by omega) (by omega) (by have := hB.size; simp; omega) ?_; intro v' w1 hown' hgrow _; obtain ⟨g', cap', rfl⟩ := ownsRow_succ hown'; obtain ⟨hv1, hv2, hr2, hk2, hb2⟩ := hv.appended (by decide) hrow hB.size (Nat.le_refl _) hown' hgrow; have hc1 := hv1.cell; have hf1 := hv1.frozen)
    exact ⟨hk2.from _, ⟨hk2.size, fun k o ho hw => hk2.same k o ho (Obj.not_cells_of_walk hw)⟩, ⟨_, hv2, by simpa using hr2, by simp⟩, hB.trans hb2⟩
  case done =>
    rintro D ys W hD hperm ⟨⟨v, hv, hrow, hnil⟩, hB⟩ hK
    have hc := hv.cell
    gi_wp2
    refine ⟨by simp, .inl ⟨_, _, rfl, run_takeDeferred hK, ?_⟩⟩
    exact ⟨_, results_tmp rfl _ _ _, v, ys, rfl, hperm, ownsRow_putObj hrow _ hK rfl, hB.trans (belowK_b (w := w) (Nat.le_refl _) W D _ _ (by simp at hD; omega) hK rfl rfl)⟩
  case stop =>
    rintro D c pre W _ _ h _
    exact h.elim
set_option maxHeartbeats 1000000 in
theorem ks_keys_in (F : Fence) (n : Nat) (h5 : F.fn 40) (hro : F.round = none) (b : Nat) (w : World) :
    CallsIn F n Try.prog 40 #[.map (some b)] w fun e w' => e = .returned (.func (.func 62) #[] #[.pointer (some ⟨w.heap.size, 0, none⟩)]) ∧ w' = w.alloc (.cells #[.map (some b)] 63) := by
  refine callsIn_of_wp Try.func40 rfl h5 ?_ hro
  simp only [Try.ntmps40, List.size_toArray, List.length_cons, List.length_nil, Nat.reduceAdd, Nat.reduceSub, Array.replicate_succ, Array.replicate_zero, List.push_toArray, List.append_toArray, List.nil_append, List.cons_append]
  gi_wp2
  go_ret
  exact ⟨rfl, rfl⟩
set_option maxHeartbeats 1000000 in
set_option maxRecDepth 100000 in
theorem ks_collect {w : World} (Bm b : Nat) (mm : List (Int × Value)) (hreach : mm.length * 8 ≤ 140737488351232) (hBs : Bm < w.heap.size) (hc : w.cell? ⟨Bm, 0, none⟩ = some (.map (some b))) (hM : MapIs keyE w b mm) :
    Calls Try.prog 61 #[.func (.func 62) #[] #[.pointer (some ⟨Bm, 0, none⟩)]] w fun e W' => ∃ (v : Value) (ys : List Int), e = .returned v ∧ ys.Perm (mm.map (·.1)) ∧ W'.ownsRow w.heap.size 3 1 v ys.length (ys.map (Value.int .i64)) ∧ Below w.heap.size w W' := by
  have HA := Lib.hid ((callsIn_wide (n := 6)).1 (ks_appendSeq_in Bm b mm hreach w hBs hc hM))
  refine calls_k fun R hR => ?_
  clear hM hc
  go_enter Try.func61, Try.ntmps61
  go_wp2_with (go_at_call 75; refine HA.out.mono ?_; rintro e w1 ⟨v, ys, rfl, h1, h2, h3⟩)
  exact hR.out _ _ ⟨v, ys, rfl, h1, h2, h3⟩
set_option maxHeartbeats 1000000 in
set_option maxRecDepth 100000 in
theorem ks_sorted {w : World} (Bm b : Nat) (mm : List (Int × Value)) (hreach : mm.length * 8 ≤ 140737488351232) (hBs : Bm < w.heap.size) (hc : w.cell? ⟨Bm, 0, none⟩ = some (.map (some b))) (hM : MapIs keyE w b mm) :
    Calls Try.prog 39 #[.func (.func 62) #[] #[.pointer (some ⟨Bm, 0, none⟩)]] w fun e W' => ∃ v, e = .returned v ∧ W'.ownsRow w.heap.size 3 1 v (uniq (mm.map (·.1))).length ((uniq (mm.map (·.1))).map (Value.int .i64)) ∧ Below w.heap.size w W' := by
  have HA := Lib.hid (ks_collect Bm b mm hreach hBs hc hM)
  have hnd : (mm.map (·.1)).Nodup := by obtain ⟨es, cl, _, _, _, _, g⟩ := hM; exact g
  have HND : Hid (∀ ys : List Int, ys.Perm (mm.map (·.1)) → ys.length = mm.length ∧ (ys.mergeSort fun x y => decide (x ≤ y)) = uniq (mm.map (·.1)) ∧ ys.length = (uniq (mm.map (·.1))).length) := by
    intro ys hp
    have e1 : (ys.mergeSort fun x y => decide (x ≤ y)) = uniq (mm.map (·.1)) := by
      refine strict_ext _ _ ?_ (uniq_strict _) (fun x => by rw [uniq_mem, (List.mergeSort_perm ys _).mem_iff, hp.mem_iff])
      have hs := sorted_ms ys
      have hn : (ys.mergeSort fun x y => decide (x ≤ y)).Nodup := (List.mergeSort_perm ys _).nodup_iff.2 (hp.nodup_iff.2 hnd)
      exact (hs.and hn).imp (fun h => by obtain ⟨h1, h2⟩ := h; omega)
    refine ⟨by simpa using hp.length_eq, e1, ?_⟩
    rw [← e1, List.length_mergeSort]
  refine calls_k fun R hR => ?_
  clear hM hc hnd
  go_enter Try.func39, Try.ntmps39
  go_wp2_with (first
    | (go_at_call 61; refine HA.out.mono ?_; rintro e w1 ⟨v, ys, rfl, hp, h1, h2⟩; obtain ⟨n1, n2, n3⟩ := HND.out ys hp; have HS := Lib.hid (sort_own h1 (by omega)); rw [n2, n3] at HS; have H2 := Lib.hid h2; clear h1 h2 hp n1 n2 n3)
    | (go_at_call 53; refine HS.out.mono ?_; rintro e w2 ⟨rfl, h3, h4⟩))
  exact hR.out _ _ ⟨v, rfl, h3, H2.out.grown h4 H2.out.size (fun k hk => Go.Proofs.YtdfoalbkfdnmcaaW.PrintWords.own_base h3 k hk)⟩
end Go.Np.Try
