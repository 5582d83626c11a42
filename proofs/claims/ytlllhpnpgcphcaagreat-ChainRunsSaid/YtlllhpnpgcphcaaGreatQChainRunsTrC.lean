/- What ChainRuns needs. -/
import Derived.Test.YtlllhpnpgcphcaaGreatQChainRunsShelf
import Derived.Test.YtlllhpnpgcphcaaGreatQChainRunsTrB
import Derived.Test.YtlllhpnpgcphcaaGreatQChainRunsSame
import Derived.RangeFuncBox
import Derived.RangeFuncLeaves
import Derived.Shelf.Abstract
import Derived.WalkKit
import Derived.OwnWalkIn
import Derived.TacticsInMore
import Derived.LoopNIn
import Derived.LoopIn
import Derived.Maps.AppendAt
import Derived.Sort.OwnSorted
import Derived.Sort.Grow
import Derived.Lib.OwnBridge
import Derived.Sort.OwnSortedInts
import Derived.Sort.LoopGhostIn
import Derived.Deep.RegionHeld
import Derived.OrdersIn
import Derived.TacticsIn
import Derived.RangeFuncCalls
set_option linter.unusedVariables false
set_option linter.unusedSimpArgs false
namespace Go.Np
open Go.Lib Go.Proofs
theorem cu_congr {d e : Array Int} {m : Nat} (h : ∀ j, j < m → d[j]! = e[j]!) : compactUpTo d m = compactUpTo e m := by
  unfold compactUpTo
  have h1 : (List.range m).filter (keeps d) = (List.range m).filter (keeps e) := by
    apply List.filter_congr
    intro j hj
    have hj' : j < m := by simpa using hj
    unfold keeps
    rw [h j hj', h (j - 1) (by omega)]
  rw [h1]
  apply List.map_congr_left
  intro j hj
  have hj' : j < m := by simpa using (List.mem_filter.1 hj).1
  exact h j hj'
theorem getL_append (l : List Int) (x : Int) (j : Nat) (h : j < l.length) : (l ++ [x]).toArray[j]! = l.toArray[j]! := by
  simp [getElem!_pos, show j < l.length + 1 by omega, h, List.getElem_append_left]
theorem compact_snoc (l : List Int) (x : Int) : compact (l ++ [x]) = compact l ++ (if l.getLast? = some x then [] else [x]) := by
  unfold compact
  rw [show (l ++ [x]).length = l.length + 1 by simp, compactUpTo_succ, cu_congr (fun j hj => getL_append l x j hj)]
  congr 1
  have hx : (l ++ [x]).toArray[l.length]! = x := by simp [getElem!_pos]
  unfold keeps
  rw [hx]
  by_cases h0 : l = []
  · subst h0; simp
  · have hl : 0 < l.length := List.length_pos_iff.2 h0
    have hlast : l.getLast? = some l.toArray[l.length - 1]! := by
      rw [List.getLast?_eq_getElem?]
      simp [getElem!_pos, show l.length - 1 < l.length by omega]
    rw [getL_append l x (l.length - 1) (by omega), hlast]
    by_cases he : x = l.toArray[l.length - 1]!
    · rw [if_neg (by simp only [decide_eq_true_eq]; rintro (h | h); omega; exact h he), if_pos (by rw [← he])]
    · rw [if_pos (by simp only [decide_eq_true_eq]; exact .inr he), if_neg (fun h => he (by injection h with h; exact h.symm))]
theorem compact_nil : compact ([] : List Int) = [] := rfl
theorem snoc_of {l : List Int} (h : l ≠ []) : ∃ a x, l = a ++ [x] := ⟨l.dropLast, l.getLast h, (List.dropLast_concat_getLast h).symm⟩
theorem last_mem {l : List Int} {x : Int} (h : l.getLast? = some x) : x ∈ l := List.mem_of_getLast? h
theorem last_of_mem {l : List Int} {x : Int} (hs : (l ++ [x]).Pairwise (· ≤ ·)) (h : x ∈ l) : l.getLast? = some x := by
  have hne : l ≠ [] := List.ne_nil_of_mem h
  obtain ⟨a, y, rfl⟩ := snoc_of hne
  have h1 : y ≤ x := by
    have := (List.pairwise_append.1 hs).2.2 y (by simp) x (by simp)
    exact this
  have hs2 := (List.pairwise_append.1 hs).1
  have h2 : x ≤ y := by
    rcases List.mem_append.1 h with h | h
    · exact (List.pairwise_append.1 hs2).2.2 x h y (by simp)
    · have : x = y := by simpa using h
      omega
  have : x = y := by omega
  subst this
  simp
theorem compact_props : ∀ (n : Nat) (l : List Int), l.length = n → l.Pairwise (· ≤ ·) → (compact l).Pairwise (· < ·) ∧ (∀ x, x ∈ compact l ↔ x ∈ l) ∧ (compact l).length ≤ l.length ∧ ((compact l).length = l.length ↔ l.Nodup) := by
  intro n
  induction n with
  | zero =>
    intro l hl _
    obtain rfl := List.eq_nil_of_length_eq_zero hl
    rw [compact_nil]
    exact ⟨List.Pairwise.nil, fun x => Iff.rfl, Nat.le_refl _, by simp⟩
  | succ n ih =>
    intro l hl hs
    have hne : l ≠ [] := by intro h; subst h; simp at hl
    obtain ⟨a, x, rfl⟩ := snoc_of hne
    have hs1 := (List.pairwise_append.1 hs).1
    obtain ⟨p1, p2, p3, p4⟩ := ih a (by simp at hl; exact hl) hs1
    have hle : ∀ y ∈ a, y ≤ x := fun y hy => (List.pairwise_append.1 hs).2.2 y hy x (by simp)
    rw [compact_snoc]
    have hnd : (a ++ [x]).Nodup ↔ a.Nodup ∧ x ∉ a := by
      rw [List.nodup_append]
      constructor
      · rintro ⟨h1, _, h3⟩; exact ⟨h1, fun h => h3 x h x (by simp) rfl⟩
      · rintro ⟨h1, h2⟩; refine ⟨h1, by simp, fun y hy z hz e => ?_⟩
        have : z = x := by simpa using hz
        exact h2 (by rw [← this, ← e]; exact hy)
    by_cases hx : a.getLast? = some x
    · rw [if_pos hx, List.append_nil]
      have hm := last_mem hx
      refine ⟨p1, fun y => ?_, by simp; omega, ?_⟩
      · rw [p2 y, List.mem_append]
        constructor
        · exact .inl
        · rintro (h | h)
          · exact h
          · have : y = x := by simpa using h
            rw [this]; exact hm
      · constructor
        · intro h; simp at h; omega
        · intro h; exact absurd hm (hnd.1 h).2
    · rw [if_neg hx]
      have hnm : x ∉ a := fun h => hx (last_of_mem hs h)
      refine ⟨?_, fun y => ?_, by simp; omega, ?_⟩
      · rw [List.pairwise_append]
        refine ⟨p1, by simp, fun y hy z hz => ?_⟩
        have hz' : z = x := by simpa using hz
        have hy' := (p2 y).1 hy
        have := hle y hy'
        have : y ≠ x := fun e => hnm (by rw [← e]; exact hy')
        omega
      · rw [List.mem_append, List.mem_append, p2 y]
      · rw [hnd, List.length_append, List.length_append]
        constructor
        · intro h; exact ⟨p4.1 (by simpa using h), hnm⟩
        · intro h; rw [p4.2 h.1]
theorem sorted_ms (l : List Int) : (l.mergeSort fun x y => decide (x ≤ y)).Pairwise (· ≤ ·) := by
  have := List.pairwise_mergeSort (le := fun x y : Int => decide (x ≤ y)) (fun a b c h1 h2 => by simp at *; omega) (fun a b => by simp only [Bool.or_eq_true, decide_eq_true_eq]; omega) l
  exact this.imp (fun h => by simpa using h)
theorem unlike_iff (l : List Int) : (compact (l.mergeSort fun x y => decide (x ≤ y))).length = l.length ↔ l.Nodup := by
  have h := (compact_props _ _ rfl (sorted_ms l)).2.2.2
  rw [List.length_mergeSort] at h
  rw [h]
  exact (List.mergeSort_perm l _).nodup_iff
end Go.Np
namespace Go.Np.Tryz
open Go.RowKit Go.Proofs Go.Shelf Go.Sort Go.Lib Go.Proofs.YtlllhpnpgcphcaaGreatW.PrintWords
theorem sort_own {w : World} {base : Nat} {v : Value} {l : List Int} (h : w.ownsRow base 3 1 v l.length (l.map (Value.int .i64))) (hl : l.length < 4611686018427387904) :
    Calls Tryz.prog 99 #[v] w fun e w' => e = .returned (.tuple #[]) ∧ w'.ownsRow base 3 1 v l.length ((l.mergeSort fun x y => decide (x ≤ y)).map (Value.int .i64)) ∧ w.grownBy w' v.ownBlock := by
  by_cases hv : v = .slice none 0 0
  · subst hv
    have h0 : l = [] := by
      rcases h.2 with ⟨_, h1⟩ | ⟨g, cap, cur, e, _⟩
      · exact List.eq_nil_of_length_eq_zero h1
      · cases e
    subst h0
    refine (Tryz.slices_Sort_int_none none 0 w).mono ?_
    rintro e w' ⟨rfl, rfl⟩
    exact ⟨rfl, by simpa using h, World.grownBy.refl _ _⟩
  · obtain ⟨g, cap, rfl, h1, h2, h3, h4, _, hH⟩ := holds_of_ownsRow h hv
    rcases h.2 with ⟨e, _⟩ | ⟨g', cap', cur, e, hb, hg, hn, hm, hs, ht⟩
    · exact absurd e hv
    · injection e with e1 _ e3
      injection e1 with e1
      injection e1 with e1
      subst e1 e3
      refine (Tryz.slices_Sort_int g 0 cap l w hH h2 hl).mono ?_
      rintro e w' ⟨rfl, n, os, rfl⟩
      exact ⟨rfl, ownsRow_sortedI (ss := l) (List.length_mergeSort l) hb hg hn hm hs, grownBy_sortedI _⟩
theorem grownBy_putRow {w : World} {g n : Nat} (d : Array Int) : w.grownBy (putRow (Value.int .i64) (Sort.ahead w n) g 0 d) (some g) := by
  refine ⟨rfl, rfl, rfl, by simp [putRow, mapBlock, Sort.ahead], fun k hk hne => ?_⟩
  have : g ≠ k := fun e => hne (by rw [e])
  simp [putRow, mapBlock, Sort.ahead, Array.getElem?_modify, this]
end Go.Np.Tryz
namespace Go.Np
open Go.Lib Go.Proofs
theorem strict_ext : ∀ (l l' : List Int), l.Pairwise (· < ·) → l'.Pairwise (· < ·) → (∀ x, x ∈ l ↔ x ∈ l') → l = l' := by
  intro l
  induction l with
  | nil =>
    intro l' _ _ h
    cases l' with
    | nil => rfl
    | cons y l' => exact absurd ((h y).2 List.mem_cons_self) (by simp)
  | cons x l ih =>
    intro l' h1 h2 h
    cases l' with
    | nil => exact absurd ((h x).1 List.mem_cons_self) (by simp)
    | cons y l' =>
      rw [List.pairwise_cons] at h1 h2
      have hxy : x = y := by
        rcases List.mem_cons.1 ((h x).1 List.mem_cons_self) with e | e
        · exact e
        · rcases List.mem_cons.1 ((h y).2 List.mem_cons_self) with e' | e'
          · exact e'.symm
          · have a := h2.1 x e
            have b := h1.1 y e'
            omega
      subst hxy
      rw [ih l' h1.2 h2.2 (fun z => ?_)]
      constructor
      · intro hz
        rcases List.mem_cons.1 ((h z).1 (List.mem_cons_of_mem _ hz)) with e | e
        · have := h1.1 z hz; omega
        · exact e
      · intro hz
        rcases List.mem_cons.1 ((h z).2 (List.mem_cons_of_mem _ hz)) with e | e
        · have := h2.1 z hz; omega
        · exact e
def uniq (l : List Int) : List Int := Go.Lib.compact (l.mergeSort fun x y => decide (x ≤ y))
theorem uniq_strict (l : List Int) : (uniq l).Pairwise (· < ·) := (compact_props _ _ rfl (sorted_ms l)).1
theorem uniq_mem (l : List Int) (x : Int) : x ∈ uniq l ↔ x ∈ l := by
  rw [uniq, (compact_props _ _ rfl (sorted_ms l)).2.1 x]
  exact (List.mergeSort_perm l _).mem_iff
end Go.Np
namespace Go.Np.Tryz
open Go.RowKit Go.Proofs Go.Shelf Go.Lib
attribute [local go_sem] Oper.semAt_some
abbrev keyE : Int → Value := fun a => Value.int .i64 a
theorem iter_walk {κ : Type} {kE : κ → Value} {w : World} {r b : Nat} {left : List (κ × Value)} (h : IterIs kE w r b left) : ∃ o : Obj, w.heap[r]? = some o ∧ o.isWalk = true := by
  obtain ⟨es, clock, since, seen, last, h1, h2, _⟩ := h
  exact ⟨_, h2, rfl⟩
theorem iter_keeps {κ : Type} {kE : κ → Value} {w w' : World} {r b : Nat} {left : List (κ × Value)} (h : IterIs kE w r b left) (hk : KeepsWalks w w') : IterIs kE w' r b left := by
  obtain ⟨es, clock, since, seen, last, h1, h2, h3⟩ := h
  exact ⟨es, clock, since, seen, last, hk.same b _ h1 rfl, hk.same r _ h2 rfl, h3⟩
theorem grown_fr {r : Nat} {w w' : World} (h : Fr [r] w w') : w.grownBy w' (some r) := ⟨h.os, h.tape, h.output, h.size, fun k hk hn => h.block k hk (by simp; rintro rfl; exact hn rfl)⟩
set_option maxRecDepth 100000 in
set_option maxHeartbeats 2000000 in
theorem ks_keys1_in (F : Fence) (n : Nat) (h7 : F.fn 100) (hro : F.round = none) (hn : 1 ≤ n) (l Bm b : Nat) (mm : List (Int × Value)) (J Jx : List Int → World → Prop)
    (hY : ∀ pre x W, J pre W → pre.length < mm.length → YieldAt F (n - 1) Tryz.prog l #[.int .i64 x] W fun e W' =>
      (e = .returned (.bool true) ∧ J (pre ++ [x]) W' ∧ KeepsWalks W W') ∨ (e = .returned (.bool false) ∧ Jx (pre ++ [x]) W'))
    (W : World) (hJ : AbidesFrom W.heap.size J) (hm : W.cell? ⟨Bm, 0, none⟩ = some (.map (some b))) (hM : MapIs keyE W b mm) (h0 : J [] W) :
    CallsIn F n Tryz.prog 100 #[.func (.yield l) #[] #[], .pointer (some ⟨Bm, 0, none⟩)] W fun e W' => (∃ v, e = .returned v) ∧
      ((∃ ys, ys.Perm (mm.map (·.1)) ∧ J ys W') ∨ (∃ pre : List Int, Jx pre W')) := by
  obtain ⟨ob, hranges, hI⟩ := IterIs.begin (P := Tryz.prog) (k := 3) hM
  have hrange := hranges 84 122 Tryz.underlying84
  clear hranges
  have hJ0 : J [] (W.alloc ob) := hJ [] W _ none h0 (World.grownBy_alloc W ob none) (fun r e => by cases e)
  have hsz0 : W.heap.size ≤ (W.alloc ob).heap.size := by simp
  obtain ⟨r, hr⟩ : ∃ r, r = W.heap.size := ⟨_, rfl⟩
  obtain ⟨W2, hW2⟩ : ∃ W2, W2 = W.alloc ob := ⟨_, rfl⟩
  rw [← hr, ← hW2] at hrange hI
  rw [← hW2] at hJ0
  have hrr : W.heap.size ≤ r := Nat.le_of_eq hr.symm
  clear hr hW2 hsz0
  have HI := Lib.hid hI
  clear hI
  refine callsIn_of_wp Tryz.func100 rfl h7 ?_ hro
  simp only [Tryz.ntmps100, List.size_toArray, List.length_cons, List.length_nil, Nat.reduceAdd, Nat.reduceSub, Array.replicate_succ, Array.replicate_zero, List.push_toArray, List.append_toArray, List.nil_append, List.cons_append]
  gi_wp2
  clear hrange hm
  gi_loopg [3] mm.length (fun gn _ wr => ∃ (left : List (Int × Value)) (ss : List Int), gn = left.length ∧ Hid (IterIs keyE wr r b left) ∧ ss.length + left.length = mm.length ∧ Hid ((ss ++ left.map (·.1)).Perm (mm.map (·.1))) ∧ Hid (J ss wr))
  case atStart => exact ⟨mm, [], rfl, HI, by simp, by show List.Perm _ _; simp, hJ0⟩
  case round =>
    obtain ⟨left, ss, rfl, HIr, hlen, HP, HJ⟩ := hrel
    rcases HIr.out.run_next (P := Tryz.prog) 0 with ⟨rfl, hnext⟩ | ⟨l1, x, y, l2, w', rfl, hnext, hI', hF', hsz', hentry⟩
    · gi_wp2
      go_end0
      exact ⟨⟨_, rfl⟩, .inl ⟨ss, by simpa using HP.out, HJ.out⟩⟩
    · have hJ2 : J ss w' := hJ ss wr w' (some r) HJ.out (grown_fr hF') (fun r' e => by cases e; exact ⟨hrr, iter_walk HIr.out⟩)
      obtain ⟨fn, tmps, assign, body, hy, hR⟩ := hY ss x w' hJ2 (by simp at hlen; omega)
      have HI' := Lib.hid hI'
      have HR := Lib.hid hR
      have hl2 : (l1 ++ l2).length < (l1 ++ (x, y) :: l2).length := by simp
      have hl3 : (ss ++ [x]).length + (l1 ++ l2).length = mm.length := by simp at hlen ⊢; omega
      have hp3 : ((ss ++ [x]) ++ (l1 ++ l2).map (·.1)).Perm (mm.map (·.1)) := by
        refine List.Perm.trans ?_ HP.out
        simp only [List.map_append, List.map_cons, List.append_assoc, List.singleton_append]
        exact List.Perm.append_left _ List.perm_middle.symm
      have HP3 := Lib.hid hp3
      clear hp3 hI' hR hF' hsz' hJ2 HJ HP HIr hlen
      gi_wp2
      refine HR.out.mono ?_
      rintro e W3 (⟨rfl, hJ3, hk3⟩ | ⟨rfl, hJx3⟩)
      · gi_wp2
        go_roundg (l1 ++ l2).length
        case measure => exact hl2
        case rel => exact ⟨l1 ++ l2, ss ++ [x], rfl, iter_keeps HI'.out hk3, hl3, HP3, hJ3⟩
      · gi_wp2
        refine bodyPost_ret (results_none rfl _ _ _) rfl ?_
        exact ⟨⟨_, rfl⟩, .inr ⟨ss ++ [x], hJx3⟩⟩
theorem ks_stops (F : Fence) (n : Nat) (h7 : F.fn 100) (hro : F.round = none) (hn : 1 ≤ n) (Bm b : Nat) (mm : List (Int × Value)) (w : World) (hBs : Bm < w.heap.size)
    (hc : w.cell? ⟨Bm, 0, none⟩ = some (.map (some b))) (hM : MapIs keyE w b mm) :
    SeqStopsK F n Tryz.prog 100 #[.pointer (some ⟨Bm, 0, none⟩)] (fun x : Int => #[Value.int .i64 x]) KeepsWalks (fun ys => ys.Perm (mm.map (·.1))) (fun _ => True) mm.length w := fun l J Jx W hW hJ _ hY h0 => by
  have hbl : b < w.heap.size := by obtain ⟨es, cl, g, _⟩ := hM; exact (Array.getElem?_eq_some_iff.1 g).1
  refine (ks_keys1_in F n h7 hro hn l Bm b mm J Jx hY W hJ ((hW.cell (p := ⟨Bm, 0, none⟩) hBs).trans hc) (hM.move (hW.block b hbl)) h0).mono ?_
  rintro e W' ⟨he, h | ⟨pre, hj⟩⟩
  · exact ⟨he, .inl h⟩
  · exact ⟨he, .inr ⟨pre, trivial, hj⟩⟩
set_option maxRecDepth 100000 in
set_option maxHeartbeats 2000000 in
theorem ks_appendSeq_in (Bm b : Nat) (mm : List (Int × Value)) (hreach : mm.length * 8 ≤ 140737488351232) (w : World) (hBs : Bm < w.heap.size) (hc : w.cell? ⟨Bm, 0, none⟩ = some (.map (some b))) (hM : MapIs keyE w b mm) :
    CallsIn Fence.wide 6 Tryz.prog 106 #[.slice none 0 0, .func (.func 100) #[] #[.pointer (some ⟨Bm, 0, none⟩)]] w fun e W' => ∃ (v : Value) (ys : List Int), e = .returned v ∧ ys.Perm (mm.map (·.1)) ∧ W'.ownsRow w.heap.size 3 1 v ys.length (ys.map (Value.int .i64)) ∧ Below w.heap.size w W' := by
  have hlen : mm.length ≤ maxLen := by unfold maxLen; omega
  have hbytes : mm.length * 8 ≤ 140737488355328 := by omega
  obtain ⟨i0, hi, hz0, hz1, hz2⟩ := info_parts infoI
  refine callsIn_of_wp_marks Tryz.func106 rfl trivial ?_ rfl
  simp only [Tryz.ntmps106, List.size_toArray, List.length_cons, List.length_nil, Nat.reduceAdd, Nat.reduceSub, Array.replicate_succ, Array.replicate_zero, List.push_toArray, List.append_toArray, List.nil_append, List.cons_append]
  gi_wp2
  have bO := Boxed.new w 22 (.slice none 0 0)
  have hB0 : Below w.heap.size w (w.alloc (.cells #[.slice none 0 0] 22)) := (Below.refl _ w).alloc (Nat.le_refl _) _
  refine wpIn_rangeFunc_ownG rfl (by omega) (gf := 100) (lb := #[.pointer (some ⟨Bm, 0, none⟩)]) rfl trivial (enters_of Tryz.func100 (by kernel_rfl) rfl)
    (ks_stops Fence.wide 5 trivial rfl (by omega) Bm b mm (w.alloc (.cells #[.slice none 0 0] 22)) (by simp; omega) ((hB0.cell (p := ⟨Bm, 0, none⟩) hBs).trans hc) (hM.alloc _)) walksK_t (fun W l o o' => walksK_b (w := w) W l o o' ∘ (fun h => by simp at h; omega)) (Below.refl _ _) (fun _ => rfl)
    (fun pre W => (∃ v, Boxed W w.heap.size 22 v ∧ W.ownsRow w.heap.size 3 1 v pre.length (pre.map (Value.int .i64)) ∧ (v = .slice none 0 0 ↔ pre = [])) ∧ Below w.heap.size w W)
    (fun _ _ _ => False)
    (OwnFrom.and (Own.from (holdsRow_own w.heap.size w.heap.size 22 3 1 (fun pre => pre.length) (fun pre => pre.map (Value.int .i64)) (fun pre v => v = .slice none 0 0 ↔ pre = [])) _) (ownFrom_below (Nat.le_refl _) (by simp)))
    (fun _ _ _ _ _ hs _ _ => hs)
    ⟨⟨_, bO, World.ownsRow_nil _ _ _ _, by simp⟩, hB0⟩
    (fun x => { tmps := #[.slice none 0 0, .func (.func 100) #[] #[.pointer (some ⟨Bm, 0, none⟩)], .pointer (some ⟨w.heap.size, 0, none⟩), undef, .slice none 0 0, .int .i64 x, .func (.func 100) #[] #[.pointer (some ⟨Bm, 0, none⟩)], .int .i64 x, undef, undef, undef, undef, undef], defers := [] }) ?assign ?body ?done ?stop
  case assign =>
    intro l x W K hK
    gi_wp2
    exact hK
  case body =>
    rintro l pre x W ⟨⟨v, hv, hrow, hnil⟩, hB⟩ hlt
    have hc := hv.cell
    gi_wp2_with (gi_at_builtin; refine wpListIn_append_own _ rfl _ _ 22 rfl w.heap.size 3 i0 (.int .i64 0) 1 8 Tryz.underlying22 hi hz0 hz1 hz2 rfl (by decide) _ _ _ rfl (hrow.alloc _) ⟨W.heap.size, 0, none⟩ 1 1 [.int .i64 x] rfl rfl (cell_one_new _ _ _) (by simp [Value.oneCell']) (by omega) (by omega) (by have := hB.size; simp; omega) ?_; intro v' w1 hown' hgrow _; obtain ⟨g', cap', rfl⟩ := ownsRow_succ hown'; obtain ⟨hv1, hv2, hr2, hk2, hb2⟩ := hv.appended (by decide) hrow hB.size (Nat.le_refl _) hown' hgrow; have hc1 := hv1.cell; have hf1 := hv1.frozen)
    exact ⟨hk2.from _, ⟨hk2.size, fun k o ho hw => hk2.same k o ho (Obj.not_cells_of_walk hw)⟩, ⟨_, hv2, by simpa using hr2, by simp⟩, hB.trans hb2⟩
  case done =>
    rintro D ys W hD hperm ⟨⟨v, hv, hrow, hnil⟩, hB⟩ hK
    have hc := hv.cell
    gi_wp2
    refine ⟨by simp, .inl ⟨_, _, rfl, run_takeDeferred hK, ?_⟩⟩
    exact ⟨_, results_tmp rfl _ _ _, v, ys, rfl, hperm, ownsRow_putObj hrow _ hK rfl, hB.trans (belowK_b (w := w) (Nat.le_refl _) W D _ _ (by simp at hD; omega) hK rfl rfl)⟩
  case stop =>
    rintro D c pre W _ _ h _
    exact h.elim
set_option maxHeartbeats 1000000 in
theorem ks_keys_in (F : Fence) (n : Nat) (h5 : F.fn 83) (hro : F.round = none) (b : Nat) (w : World) :
    CallsIn F n Tryz.prog 83 #[.map (some b)] w fun e w' => e = .returned (.func (.func 100) #[] #[.pointer (some ⟨w.heap.size, 0, none⟩)]) ∧ w' = w.alloc (.cells #[.map (some b)] 84) := by
  refine callsIn_of_wp Tryz.func83 rfl h5 ?_ hro
  simp only [Tryz.ntmps83, List.size_toArray, List.length_cons, List.length_nil, Nat.reduceAdd, Nat.reduceSub, Array.replicate_succ, Array.replicate_zero, List.push_toArray, List.append_toArray, List.nil_append, List.cons_append]
  gi_wp2
  go_ret
  exact ⟨rfl, rfl⟩
set_option maxHeartbeats 1000000 in
set_option maxRecDepth 100000 in
theorem ks_collect {w : World} (Bm b : Nat) (mm : List (Int × Value)) (hreach : mm.length * 8 ≤ 140737488351232) (hBs : Bm < w.heap.size) (hc : w.cell? ⟨Bm, 0, none⟩ = some (.map (some b))) (hM : MapIs keyE w b mm) :
    Calls Tryz.prog 98 #[.func (.func 100) #[] #[.pointer (some ⟨Bm, 0, none⟩)]] w fun e W' => ∃ (v : Value) (ys : List Int), e = .returned v ∧ ys.Perm (mm.map (·.1)) ∧ W'.ownsRow w.heap.size 3 1 v ys.length (ys.map (Value.int .i64)) ∧ Below w.heap.size w W' := by
  have HA := Lib.hid ((callsIn_wide (n := 6)).1 (ks_appendSeq_in Bm b mm hreach w hBs hc hM))
  refine calls_k fun R hR => ?_
  clear hM hc
  go_enter Tryz.func98, Tryz.ntmps98
  go_wp2_with (go_at_call 106; refine HA.out.mono ?_; rintro e w1 ⟨v, ys, rfl, h1, h2, h3⟩)
  exact hR.out _ _ ⟨v, ys, rfl, h1, h2, h3⟩
set_option maxHeartbeats 1000000 in
set_option maxRecDepth 100000 in
theorem ks_sorted {w : World} (Bm b : Nat) (mm : List (Int × Value)) (hreach : mm.length * 8 ≤ 140737488351232) (hBs : Bm < w.heap.size) (hc : w.cell? ⟨Bm, 0, none⟩ = some (.map (some b))) (hM : MapIs keyE w b mm) :
    Calls Tryz.prog 82 #[.func (.func 100) #[] #[.pointer (some ⟨Bm, 0, none⟩)]] w fun e W' => ∃ v, e = .returned v ∧ W'.ownsRow w.heap.size 3 1 v (uniq (mm.map (·.1))).length ((uniq (mm.map (·.1))).map (Value.int .i64)) ∧ Below w.heap.size w W' := by
  have HA := Lib.hid (ks_collect Bm b mm hreach hBs hc hM)
  have hnd : (mm.map (·.1)).Nodup := by obtain ⟨es, cl, _, _, _, _, g⟩ := hM; exact g
  have HND : Hid (∀ ys : List Int, ys.Perm (mm.map (·.1)) → ys.length = mm.length ∧ (ys.mergeSort fun x y => decide (x ≤ y)) = uniq (mm.map (·.1)) ∧ ys.length = (uniq (mm.map (·.1))).length) := by
    intro ys hp
    have e1 : (ys.mergeSort fun x y => decide (x ≤ y)) = uniq (mm.map (·.1)) := by
      refine strict_ext _ _ ?_ (uniq_strict _) (fun x => by rw [uniq_mem, (List.mergeSort_perm ys _).mem_iff, hp.mem_iff])
      have hs := sorted_ms ys
      have hn : (ys.mergeSort fun x y => decide (x ≤ y)).Nodup := (List.mergeSort_perm ys _).nodup_iff.2 (hp.nodup_iff.2 hnd)
      exact (hs.and hn).imp (fun h => by obtain ⟨h1, h2⟩ := h; omega)
    refine ⟨by simpa using hp.length_eq, e1, ?_⟩
    rw [← e1, List.length_mergeSort]
  refine calls_k fun R hR => ?_
  clear hM hc hnd
  go_enter Tryz.func82, Tryz.ntmps82
  go_wp2_with (first
    | (go_at_call 98; refine HA.out.mono ?_; rintro e w1 ⟨v, ys, rfl, hp, h1, h2⟩; obtain ⟨n1, n2, n3⟩ := HND.out ys hp; have HS := Lib.hid (sort_own h1 (by omega)); rw [n2, n3] at HS; have H2 := Lib.hid h2; clear h1 h2 hp n1 n2 n3)
    | (go_at_call 99; refine HS.out.mono ?_; rintro e w2 ⟨rfl, h3, h4⟩))
  exact hR.out _ _ ⟨v, rfl, h3, H2.out.grown h4 H2.out.size (fun k hk => Go.Proofs.YtlllhpnpgcphcaaGreatW.PrintWords.own_base h3 k hk)⟩
end Go.Np.Tryz
set_option linter.unusedVariables false
set_option linter.unusedSimpArgs false
namespace Go.Np.Tryz
open Go.RowKit Go.Proofs Go.Shelf Go.Sort Go.Lib Go.Proofs.YtlllhpnpgcphcaaGreat.PX Go.Proofs.YtlllhpnpgcphcaaGreatW.PrintWords
theorem OwnI.of_base {base : Nat} {w : World} {v : Value} {l : List Int} {n : Nat} (h : w.ownsRow base 3 1 v n (l.map (Value.int .i64))) : OwnI base w v l := by
  have hn : n = l.length := by have := h.1; simp at this; omega
  subst hn
  refine ⟨⟨h.1, ?_⟩, fun k hk => Go.Proofs.YtlllhpnpgcphcaaGreatW.PrintWords.own_base h k (by simpa using hk)⟩
  rcases h.2 with h2 | ⟨g, cap, cur, h3, _, h4⟩
  · exact .inl h2
  · exact .inr ⟨g, cap, cur, h3, Nat.zero_le _, h4⟩
theorem OwnI.base {base : Nat} {w : World} {v : Value} {l : List Int} (h : OwnI base w v l) : w.ownsRow base 3 1 v l.length (l.map (Value.int .i64)) := by
  refine ⟨h.1.1, ?_⟩
  rcases h.1.2 with h2 | ⟨g, cap, cur, rfl, _, h4⟩
  · exact .inl h2
  · exact .inr ⟨g, cap, cur, rfl, h.2 g (by simp [Value.ownBlock]), h4⟩
theorem grown_own {w w' : World} {v : Value} (h : w.grownBy w' v.ownBlock) : Fr v.ownBlock.toList w w' := Fr.grown _ h (fun k hk => .inl (by simp [hk]))
theorem reverse_I {base : Nat} {w : World} {v : Value} {l : List Int} (h : OwnI base w v l) (hl : l.length ≤ 9223372036854775807) :
    Calls Tryz.prog 85 #[v] w fun e w' => e = .returned (.tuple #[]) ∧ OwnI base w' v l.reverse ∧ Fr v.ownBlock.toList w w' := by
  by_cases hv : v = .slice none 0 0
  · subst hv
    have h0 : l = [] := by
      rcases h.1.2 with ⟨_, h1⟩ | ⟨g, cap, cur, e, _⟩
      · exact List.eq_nil_of_length_eq_zero h1
      · cases e
    subst h0
    refine (Tryz.slices_Reverse_int_empty none 0 w).mono ?_
    rintro e w' ⟨rfl, rfl⟩
    exact ⟨rfl, h, Fr.refl _ _⟩
  · have hb := h.base
    obtain ⟨g, cap, rfl, h1, h2, h3, h4, _, hH⟩ := holds_of_ownsRow hb hv
    refine (Tryz.slices_Reverse_int g 0 cap l w hH hl).mono ?_
    rintro e w' ⟨rfl, q, rfl⟩
    have hc := ownsRow_putRow (q := q) (k := l.length) (ys := l.reverse) hb (by simp) (Nat.le_refl _)
    rw [List.take_of_length_le (by simp)] at hc
    exact ⟨rfl, .of_base (l := l.reverse) (by simpa using hc), grown_own (grownBy_putRow _)⟩
set_option maxHeartbeats 1000000 in
set_option maxRecDepth 100000 in
theorem new_calls {w : World} : Calls Tryz.prog 35 #[] w fun e w' => ∃ p, e = .returned (.pointer (some ⟨p, 0, none⟩)) ∧ TrAt (fun k => k < w.heap.size) w' p ⟨[], []⟩ ∧ Fr [] w w' ∧ w.heap.size ≤ p := by
  have hmm := @run_makeMap Tryz.prog
  refine calls_k fun R hR => ?_
  go_enter Tryz.func35, Tryz.ntmps35
  go_wp2
  have hM : MapIs (fun a : Int => Value.int .i64 a) (w.alloc (.map #[] 0)) w.heap.size ([] : List (Int × Value)) := MapIs.made w
  have hF : Fr [] w ((w.alloc (.map #[] 0)).alloc (.cells #[.map (some w.heap.size), .slice none 0 0] 88)) := ((Fr.refl _ _).alloc _).alloc _
  refine hR.out _ _ ⟨w.heap.size + 1, by simp, ⟨w.heap.size, .slice none 0 0, [], [], ?_⟩, hF, Nat.le_succ _⟩
  refine ⟨?_, hM.alloc _, rfl, by simp, ⟨rfl, .inl ⟨rfl, rfl⟩⟩, rfl, by simp, ⟨by omega, by omega, by simp [Value.ownBlock]⟩⟩
  have := heap_alloc_new (w.alloc (.map #[] 0)) (.cells #[.map (some w.heap.size), .slice none 0 0] 88)
  simpa using this
def Tr.names (t : Tr) : List Int := uniq (t.known.map (·.name))
theorem mOf_keys {ds : List (BV × Kn)} {t : Tr} (h : ds.map (·.2) = t.known) : (mOf ds).map (·.1) = t.known.map (·.name) := by rw [← h]; simp [mOf]
set_option maxHeartbeats 1000000 in
set_option maxRecDepth 100000 in
theorem names_calls {X : Nat → Prop} {w : World} {p : Nat} {t : Tr} (h : TrAt X w p t) (hk : t.known.length ≤ 100000) :
    Calls Tryz.prog 51 #[.pointer (some ⟨p, 0, none⟩)] w fun e w' => ∃ v, e = .returned v ∧ OwnI w.heap.size w' v t.names ∧ Fr [] w w' := by
  obtain ⟨b, v, ds, qs, h⟩ := h
  have hc := cell_of h.hp 0
  simp at hc
  have HK := Lib.hid ((callsIn_wide (n := 6)).1 (ks_keys_in Fence.wide 6 trivial rfl b w))
  obtain ⟨W3, hW3⟩ : ∃ W3, W3 = w.alloc (.cells #[.map (some b)] 84) := ⟨_, rfl⟩
  have hM3 : MapIs keyE W3 b (mOf ds) := by rw [hW3]; exact h.hM.alloc _
  have hF3 : Fr [] w W3 := by rw [hW3]; exact (Fr.refl _ _).alloc _
  have hc3 : W3.cell? ⟨w.heap.size, 0, none⟩ = some (.map (some b)) := by
    rw [hW3]
    simp
  have hlt : w.heap.size < W3.heap.size := by rw [hW3]; simp
  have HS := Lib.hid (ks_sorted w.heap.size b (mOf ds) (by rw [h.ds_len]; omega) hlt hc3 hM3)
  rw [mOf_keys h.hds] at HS
  rw [← hW3] at HK
  have HF3 := Lib.hid hF3
  refine calls_k fun R hR => ?_
  clear h hM3 hF3 hc3 hlt hW3
  go_enter Tryz.func51, Tryz.ntmps51
  go_wp2_with (first
    | (go_at_call 83; refine HK.out.mono ?_; rintro e w1 ⟨rfl, rfl⟩)
    | (go_at_call 82; refine HS.out.mono ?_; rintro e w2 ⟨v2, rfl, h1, h2⟩))
  have hO := OwnI.of_base h1
  refine hR.out _ _ ⟨_, rfl, ⟨hO.1, fun k hk => ?_⟩, HF3.out.trans (Fr.of_below [] h2) (by simp)⟩
  have := hO.2 k hk
  have := HF3.out.size
  omega
theorem Tr.Ok.path_has {t : Tr} (h : t.Ok) {n : Int} {e : Kn} (he : t.find n = some e) : t.path n = t.path e.blk.f3 ++ [n] := by
  obtain ⟨h1, h2⟩ := Tr.find_some he
  have := (h.known e h1).2.2.2
  rw [h2] at this
  rw [← this]
  unfold Tr.path; rw [he]
theorem field_known (a0 a1 a2 a3 a4 a5 : Value) (w : World) : (Instr.field 122 (.agg #[a0, a1, a2, a3, a4, a5]) 0).run Tryz.prog w = .ok (.agg #[a0, a1, a2, a3, a4]) w := by kernel_rfl
theorem field_block (a0 a1 a2 a3 a4 : Value) (w : World) : (Instr.field 35 (.agg #[a0, a1, a2, a3, a4]) 3).run Tryz.prog w = .ok a3 w := by kernel_rfl
theorem Tr.path_none {t : Tr} {n : Int} (h : t.has n = false) : t.path n = [] := by
  unfold Tr.has at h
  unfold Tr.path
  cases hf : t.find n with
  | none => rfl
  | some e => rw [hf] at h; cases h
set_option maxHeartbeats 4000000 in
set_option maxRecDepth 100000 in
theorem path_calls {X : Nat → Prop} {w : World} {p : Nat} {t : Tr} (h : TrAt X w p t) (hG : t.Good) (n : Int) :
    Calls Tryz.prog 58 #[.pointer (some ⟨p, 0, none⟩), .int .i64 n] w fun e w' => ∃ v, e = .returned v ∧ OwnI w.heap.size w' v (t.path n) ∧ Fr [] w w' := by
  obtain ⟨b, v, ds, qs, h⟩ := h
  have hcp := cell_of h.hp 0
  simp at hcp
  have HH := Lib.hid h
  have HG := Lib.hid hG
  have HCP := Lib.hid hcp
  obtain ⟨L, hL⟩ : ∃ L, L = t.path n := ⟨_, rfl⟩
  have HL4 : Hid (L.length ≤ 400) := by have := hG.path400 n; rw [← hL] at this; exact this
  refine calls_k fun R hR => ?_
  rw [← hL] at hR
  have HL := Lib.hid hL
  clear h hG hL hcp
  go_enter Tryz.func58, Tryz.ntmps58
  go_upto_region 2 with (fail)
  go_loopg [5, 1] L.length (fun gn o x wr => ∃ (m : Nat) (D : Option Addr) (cp : Nat) (acc : List Int) (y : Int), m = gn ∧ o = .slice D acc.length cp ∧ x = .int .i64 y ∧ Hid (L = t.path y ++ acc.reverse) ∧ Hid ((t.path y).length = m) ∧ Hid (OwnI w.heap.size wr (.slice D acc.length cp) acc) ∧ Hid (Fr [] w wr))
  case atStart => exact ⟨_, none, 0, [], n, rfl, rfl, rfl, by unfold Hid; simp [HL.out], by unfold Hid; rw [HL.out], OwnI.nil _ _, Fr.refl _ _⟩
  case round =>
    obtain ⟨m, D, cp, acc, y, rfl, rfl, rfl, HE, HM, HO, HF⟩ := hrel
    have hr := HH.out.fr0 HF.out
    have HHS := Lib.hid (has_calls ⟨_, _, _, _, hr⟩ y)
    cases hf : t.find y with
    | none =>
      have hb : t.has y = false := by unfold Tr.has; rw [hf]; rfl
      rw [hb] at HHS
      have hLr : L = acc.reverse := by have := HE.out; rw [Tr.path_none hb] at this; simpa using this
      have hal : acc.length ≤ 400 := by have := HL4.out; rw [hLr] at this; simpa using this
      have HLR := Lib.hid hLr
      have hlim : acc.length ≤ 9223372036854775807 := by omega
      clear hr hb hf hLr hal
      go_wp2_with (first
        | (go_at_call 61; refine HHS.out.mono ?_; rintro e w1 ⟨rfl, hF1⟩
           have HR1 := Lib.hid (reverse_I (HO.out.fr hF1 (by simp)) hlim)
           have HF1 := Lib.hid hF1
           clear hF1 HHS)
        | (go_at_call 85; refine HR1.out.mono ?_; rintro e w2 ⟨rfl, hO2, hF2⟩))
      refine hR.out _ _ ⟨_, rfl, ?_, (HF.out.trans HF1.out (by simp)).trans hF2 (fun k hk => .inr (HO.out.2 k hk))⟩
      rw [HLR.out]; exact hO2
    | some e =>
      have hb : t.has y = true := by unfold Tr.has; rw [hf]; rfl
      rw [hb] at HHS
      have hpy := HG.out.ok.path_has hf
      obtain ⟨q, hh, hl, hs, _⟩ := hr.look y
      replace hl := fun w1 (hF1 : Fr [] wr w1) => (hr.fr0 hF1).look y
      obtain ⟨m', rfl⟩ : ∃ m', m = m' + 1 := ⟨m - 1, by have := HM.out; rw [hpy] at this; simp at this; omega⟩
      have hm' : (t.path e.blk.f3).length = m' := by have := HM.out; rw [hpy] at this; simpa using this
      have hE' : L = t.path e.blk.f3 ++ (acc ++ [y]).reverse := by have := HE.out; rw [hpy] at this; simpa using this
      have hal : acc.length ≤ 400 := by have := HL4.out; have h2 := congrArg List.length hE'; simp at h2; omega
      have hb63 : acc.length < maxLen := by unfold maxLen; omega
      have hb8 : (acc.length + 1) * 8 ≤ 140737488355328 := by omega
      have HE' := Lib.hid hE'
      have HM' := Lib.hid hm'
      have HFI := Lib.hid hf
      have HLK := Lib.hid hl
      have hcr := cellF HF.out HCP.out
      clear hr hb hf hpy hm' hE' hal hs hl HE HM
      go_upto_region 4 with (first
        | (go_at_call 61; refine HHS.out.mono ?_; rintro e1 w1 ⟨rfl, hF1⟩
           have hrow1 := (HO.out.fr hF1 (by simp)).1
           have HF1 := Lib.hid hF1
           clear hF1 HHS)
        | (at_builtin; refine wp_append1 rfl _ _ 22 3 rfl Tryz.underlying22 infoI rfl (by decide) hrow1 rfl [.int .i64 y] rfl rfl (by simp [Value.oneCell']) hb63 hb8 ?_; intro A5 c5 w5 hr5 hF5 hN5
           have hFw5 : Fr [] w w5 := (HF.out.trans HF1.out (by simp)).trans hF5 (fun k hk => .inr (HO.out.2 k hk))
           have HFW := Lib.hid hFw5
           have hsz1 := HF1.out.size
           have hszw := HF.out.size
           have HO5 : Hid (OwnI w.heap.size w5 (.slice A5 (acc ++ [y]).length c5) (acc ++ [y])) := by
             refine ⟨by simpa using hr5, fun k hk => ?_⟩
             rcases hN5 k (by simpa using hk) with h1 | h1
             · exact HO.out.2 k h1
             · omega
           clear hr5 hF5 hN5 hrow1 hFw5 hsz1 hszw))
      have hcr5 := cellF HFW.out HCP.out
      obtain ⟨q5, hh5, hl5, hs5, _⟩ := (HH.out.fr0 HFW.out).look y
      have hq5 := (hs5 _ HFI.out).1
      replace hl5 := hl5 false
      simp only [Bool.false_eq_true, if_false, knV] at hl5
      rw [hq5] at hl5
      clear hs5 hq5 hcr
      have hfk := field_known
      have hfb := field_block
      go_wp2
      go_roundg m'
      case rel => exact ⟨m', A5, c5, acc ++ [y], e.blk.f3, rfl, by simp, rfl, HE', HM', HO5, HFW⟩
      case measure => omega
end Go.Np.Tryz
set_option linter.unusedVariables false
set_option linter.unusedSimpArgs false
namespace Go.Np.Tryz
open Go.RowKit Go.Proofs Go.Proofs.YtlllhpnpgcphcaaGreat.PX Go.Proofs.YtlllhpnpgcphcaaGreatW.PrintWords
def Tr.get (t : Tr) (n : Int) : Blk := match t.find n with
  | some e => e.blk
  | none => z35
theorem txs_few {b : Blk} (h : nameB b ≠ 0) : b.f4.length ≤ 3 := by
  have hr := (nameB_pos h).1
  simp only [rightB, okTxs, unlikeB, Bool.and_eq_true, decide_eq_true_eq] at hr
  omega
set_option maxHeartbeats 4000000 in
set_option maxRecDepth 100000 in
theorem get_calls {X : Nat → Prop} {w : World} {p : Nat} {t : Tr} (h : TrAt X w p t) (hO : t.Ok) (n : Int) :
    Calls Tryz.prog 59 #[.pointer (some ⟨p, 0, none⟩), .int .i64 n] w fun e w' => ∃ A' c', e = .returned (.tuple #[blkV (t.get n) A' c', .bool (t.has n)]) ∧ w'.ownsRow 0 67 2 (.slice A' (t.get n).f4.length c') (t.get n).f4.length (flatT (t.get n).f4) ∧ (∀ k ∈ (Value.slice A' (t.get n).f4.length c').ownBlock.toList, w.heap.size ≤ k) ∧ Fr [] w w' := by
  obtain ⟨b, v, ds, qs, h⟩ := h
  obtain ⟨W1, hW1⟩ : ∃ W1, W1 = w.alloc (.cells #[.int .i64 0, .int .i64 0, .int .i64 0, .int .i64 0, .slice none 0 0] 35) := ⟨_, rfl⟩
  have hF1 : Fr [] w W1 := by rw [hW1]; exact (Fr.refl _ _).alloc _
  have h1 := h.fr0 hF1
  have hc := cell_of h1.hp 0
  simp at hc
  obtain ⟨q, hh, hl, hs, hn, hqc, hqC⟩ := h1.look n
  have hget : q.b = t.get n := by
    unfold Tr.get
    cases hf : t.find n with
    | none => rw [(hn hf).1]; rfl
    | some e => exact (hs e hf).1
  have hfew : q.b.f4.length ≤ 8796093022208 := by
    cases hf : t.find n with
    | none => rw [(hn hf).1]; decide
    | some e =>
      have hk := hO.known e (Tr.find_some hf).1
      have := txs_few (b := e.blk) (by rw [← hk.1]; exact hk.2.1)
      rw [(hs e hf).1]; omega
  rw [← hget]
  obtain ⟨W2, hW2⟩ : ∃ W2, W2 = W1.alloc (.cells #[.int .i64 q.b.f0, .int .i64 q.b.f1, .int .i64 q.b.f2, .int .i64 q.b.f3, .slice q.A q.b.f4.length q.c, .int .i64 hh] 122) := ⟨_, rfl⟩
  obtain ⟨g, hg⟩ : ∃ g, g = w.heap.size := ⟨_, rfl⟩
  obtain ⟨g2, hg2⟩ : ∃ g2, g2 = W1.heap.size := ⟨_, rfl⟩
  have hF2 : Fr [] W1 W2 := by rw [hW2]; exact (Fr.refl _ _).alloc _
  have hb1 : W1.heap[g]? = some (.cells #[.int .i64 0, .int .i64 0, .int .i64 0, .int .i64 0, .slice none 0 0] 35 (0, 0)) := by rw [hW1, hg]; exact heap_alloc_new _ _
  have hb2 : W2.heap[g2]? = some (.cells #[.int .i64 q.b.f0, .int .i64 q.b.f1, .int .i64 q.b.f2, .int .i64 q.b.f3, .slice q.A q.b.f4.length q.c, .int .i64 hh] 122 (0, 0)) := by rw [hW2, hg2]; exact heap_alloc_new _ _
  have hg12 : g < W1.heap.size := (Array.getElem?_eq_some_iff.1 hb1).1
  have i0 := cell_of hb2 0
  have i1 := cell_of hb2 1
  have i2 := cell_of hb2 2
  have i3 := cell_of hb2 3
  have i4 := cell_of hb2 4
  simp at i0 i1 i2 i3 i4
  have HCP := Lib.hid (copy_calls q (Kd.C_below hqC hF2.below) hfew)
  simp only [blkV] at HCP
  have hb12 := (hF2.block g hg12 (by simp)).trans hb1
  have HB12 := Lib.hid hb12
  have HF12 := Lib.hid (hF1.trans hF2 (by simp))
  have HS12 : Hid (g < W2.heap.size) := Nat.lt_of_lt_of_le hg12 hF2.size
  have hgw : w.heap.size ≤ g := Nat.le_of_eq hg.symm
  replace hl := hl true
  simp only [if_true, knV] at hl
  have HW2 := Lib.hid hW2
  have HG2 := Lib.hid hg2
  refine calls_k fun R hR => ?_
  clear h h1 hs hn hget hfew hqC hqc hF1 hF2 hb1 hb2 hb12 hg12 hO hW2 hg2
  go_enter Tryz.func59, Tryz.ntmps59
  go_upto_region 1 with (fail)
  rw [← hW1, ← hg]
  clear hW1 hg
  go_upto_region 2 with (fail)
  rw [← HW2.out, ← HG2.out]
  clear hl hc
  go_wp2_with (first
    | (go_at_call 15; refine HCP.out.mono ?_; rintro e w3 ⟨A3, c3, rfl, ho3, hn3, hF3⟩
       simp only [blkV]
       have hb3 := (hF3.block g HS12.out (by simp)).trans HB12.out
       have f0 := cell_of hb3 0
       have f1 := cell_of hb3 1
       have f2 := cell_of hb3 2
       have f3 := cell_of hb3 3
       have f4 := cell_of hb3 4
       simp at f0 f1 f2 f3 f4
       have z0 := froz_of hb3 0
       have z1 := froz_of hb3 1
       have z2 := froz_of hb3 2
       have z3 := froz_of hb3 3
       have z4 := froz_of hb3 4
       have HO3 := Lib.hid ho3
       have HN3 := Lib.hid hn3
       have HF3 := Lib.hid hF3
       have HB3 := Lib.hid hb3
       clear ho3 hn3 hF3 hb3 HCP i0 i1 i2 i3 i4))
  have hb4 := put5_heap HB3.out (.int .i64 q.b.f0) (.int .i64 q.b.f1) (.int .i64 q.b.f2) (.int .i64 q.b.f3) (.slice A3 q.b.f4.length c3)
  have hf4 := put5_fr (HF12.out.trans HF3.out (by simp)) (.inr hgw) (.int .i64 q.b.f0) (.int .i64 q.b.f1) (.int .i64 q.b.f2) (.int .i64 q.b.f3) (.slice A3 q.b.f4.length c3)
  have hf34 := put5_fr (b := g) (Fr.refl [g] w3) (.inl (by simp)) (.int .i64 q.b.f0) (.int .i64 q.b.f1) (.int .i64 q.b.f2) (.int .i64 q.b.f3) (.slice A3 q.b.f4.length c3)
  unfold put5 at hb4 hf4 hf34
  have hrow := row_fr HO3.out hf34 (fun k hk hm => by
    have := HN3.out k hk
    have := HS12.out
    simp at hm; omega)
  refine bodyPost_ret (results_ct rfl _ _ g 35 _ (0, 0) _ rfl hb4 Tryz.underlying35 rfl (by kernel_rfl)) rfl ?_
  refine hR.out _ _ ⟨A3, c3, by simp [blkV], hrow, fun k hk => ?_, hf4⟩
  have := HN3.out k hk
  have := HF12.out.size
  omega
def Tr.back (t : Tr) (n s : Int) : Int := if ((t.path n).length : Int) ≤ max 0 s then 0 else (t.path n).getD ((t.path n).length - 1 - s.toNat) 0
theorem OwnI.at {base : Nat} {w : World} {A : Option Addr} {c : Nat} {l : List Int} (h : OwnI base w (.slice A l.length c) l) (j : Nat) (hj : j < l.length) : ∃ g, A = some ⟨g, 0, none⟩ ∧ w.cell? ⟨g, j, none⟩ = some (.int .i64 (l.getD j 0)) := by
  refine row_at h.1 j _ ?_
  simp [List.getD_eq_getElem?_getD, List.getElem?_eq_getElem hj]
theorem OwnI.form {base : Nat} {w : World} {v : Value} {l : List Int} (h : OwnI base w v l) : ∃ A c, v = .slice A l.length c := slice_form h.1
theorem OwnI.formN {base : Nat} {w : World} {v : Value} {l : List Int} {N : Nat} (h : OwnI base w v l) (hN : l.length = N) : ∃ A c, v = .slice A N c := by subst hN; exact slice_form h.1
set_option maxHeartbeats 4000000 in
set_option maxRecDepth 100000 in
theorem back_calls {X : Nat → Prop} {w : World} {p : Nat} {t : Tr} (h : TrAt X w p t) (hG : t.Good) (n s : Int) :
    Calls Tryz.prog 56 #[.pointer (some ⟨p, 0, none⟩), .int .i64 n, .int .i64 s] w fun e w' => e = .returned (.int .i64 (t.back n s)) ∧ Fr [] w w' := by
  have HP := Lib.hid (path_calls h hG n)
  have hlen := hG.path400 n
  refine calls_k fun R hR => ?_
  unfold Tr.back at hR
  generalize t.path n = L at *
  clear h hG
  obtain ⟨k, hm⟩ : ∃ k : Nat, max 0 s = (k : Int) := ⟨s.toNat, by omega⟩
  have hk : s.toNat = k := by omega
  rw [hm, hk] at hR
  clear hk
  obtain ⟨N, hN⟩ : ∃ N, L.length = N := ⟨_, rfl⟩
  rw [hN] at hR hlen
  have HN := Lib.hid hN
  clear hN
  by_cases hle : (N : Int) ≤ (k : Int)
  · rw [if_pos hle] at hR
    have hle' : N ≤ k := by omega
    go_enter Tryz.func56, Tryz.ntmps56
    go_wp2_with (go_at_call 58; refine HP.out.mono ?_; rintro e w1 ⟨v, rfl, hO, hF⟩; obtain ⟨A, c, rfl⟩ := hO.formN HN.out)
    exact hR.out _ _ ⟨rfl, hF⟩
  · rw [if_neg hle] at hR
    obtain ⟨j, rfl⟩ : ∃ j, N = k + 1 + j := ⟨N - (k + 1), by omega⟩
    have e1 : k + 1 + j - 1 - k = j := by omega
    rw [e1] at hR
    have hle' : ¬ (k + 1 + j ≤ k) := by omega
    have hle2 : ¬ ((k : Int) + 1 + (j : Int) ≤ (k : Int)) := by omega
    have e2 : (k : Int) + 1 + (j : Int) - 1 = (k : Int) + (j : Int) := by omega
    have e3 : (j : Int) < (k : Int) + 1 + (j : Int) := by omega
    have e4 : j < k + 1 + j := by omega
    clear e1 hle
    go_enter Tryz.func56, Tryz.ntmps56
    go_wp2_with (go_at_call 58; refine HP.out.mono ?_; rintro e w1 ⟨v, rfl, hO, hF⟩; obtain ⟨A, c, rfl⟩ := hO.formN HN.out; obtain ⟨g, rfl, hcell⟩ := OwnI.at (A := A) (c := c) (l := L) (by rw [HN.out]; exact hO) j (by rw [HN.out]; omega); have HF := Lib.hid hF; clear hO hF)
    exact hR.out _ _ ⟨rfl, HF.out⟩
end Go.Np.Tryz
set_option linter.unusedVariables false
set_option linter.unusedSimpArgs false
namespace Go.Np
section
variable {P : Program} {ops : Array Oper} {Q : Exit → Act → World → Prop} {md : Region.Mode} {S : World → Prop} {l n : Nat}
theorem at_of_drop {i : Nat} {o : Oper} {rest : List Oper} (h : ops.toList.drop i = o :: rest) : ops[i]? = some o := by
  rw [← Array.getElem?_toList]
  have := List.getElem?_drop (xs := ops.toList) (i := i) (j := 0)
  rw [h] at this
  simpa using this.symm
theorem held_take {i : Nat} {oi : Oper} {rest : List Oper} {v : Value} {fuel : Nat} {listed : Array Bool} {a : Act} {w : World} (hi : ops.toList.drop i = oi :: rest)
    (hs : Region.noSelect ops = true) (hf : Region.free md ops listed i = true) (hr : (Region.ready md ops listed).contains i = true)
    (hQ : ∀ c a w, Q (.panic c) (a.put oi.dst v) w → Q (.panic c) a w) (hy : YieldsIf P ops S oi v a) (hS : S w)
    (h : wpAnyH P md ops Q S fuel (listed.setIfInBounds i true) (a.put oi.dst v) w) : wpAnyH P md ops Q S (fuel + 1) listed a w :=
  wpAnyH_take (at_of_drop hi) hs hf hr hQ hy hS h
theorem held_one {i : Nat} {oi : Oper} {rest : List Oper} {fuel : Nat} {listed : Array Bool} {a : Act} {w : World} (hi : ops.toList.drop i = oi :: rest) (hr : Region.ready md ops listed = [i])
    (hw : Region.wanted oi (yielded ops a.tmps) = true)
    (h : ∀ K' : Act → World → Prop, Shut (∀ a w, S w → (S w → wpAnyH P md ops Q S fuel (listed.setIfInBounds i true) a w) → K' a w) → Oper.wp P oi a w K' Q) : wpAnyH P md ops Q S (fuel + 1) listed a w := by
  refine wpAnyH_all hr (by simp) (fun j hj => ?_)
  obtain rfl : j = i := by simpa using hj
  unfold wpOp
  simp only [at_of_drop hi, hw, if_true]
  exact .inl (h _ (fun a w hS hW => ⟨hS, hW hS⟩))
end
end Go.Np
set_option linter.unusedVariables false
set_option linter.unusedSimpArgs false
set_option linter.unusedVariables false
set_option linter.unusedSimpArgs false
namespace Go.Np.Tryz
open Go.RowKit Go.Proofs Go.Proofs.YtlllhpnpgcphcaaGreat.PX Go.Proofs.YtlllhpnpgcphcaaGreatW.PrintWords
def orP (l : List Int) : Int := (l.find? (fun x => decide (x ≠ 0))).getD 0
theorem SlI.at {w : World} {A : Option Addr} {c : Nat} {l : List Int} (h : SlI w (.slice A l.length c) l) (j : Nat) (hj : j < l.length) : ∃ ad, A = some ad ∧ w.cell? (ad.add j) = some (.int .i64 (l.getD j 0)) := by
  obtain ⟨B, d, e, _, hC⟩ := h
  injection e with e1 _ e3
  subst e1
  obtain ⟨ad, e, hc⟩ := Kd.at_int hC (j : Int) (by omega) (by omega)
  exact ⟨ad, e, by simpa [rd] using hc⟩
set_option maxHeartbeats 4000000 in
set_option maxRecDepth 100000 in
theorem or_calls {w : World} {A : Option Addr} {c : Nat} {l : List Int} {N : Nat} (hN : N = l.length) (h : SlI w (.slice A l.length c) l) (hl : l.length ≤ 100000) :
    Calls Tryz.prog 53 #[.slice A N c] w fun e w' => e = .returned (.int .i64 (orP l)) ∧ Fr [] w w' := by
  refine calls_k fun R hR => ?_
  have HN := Lib.hid hN
  have HS := Lib.hid h
  have hl' : N ≤ 100000 := by omega
  clear h hl hN
  go_enter Tryz.func53, Tryz.ntmps53
  go_upto_region 3 with (fail)
  go_loopg [8] N (fun gn i wr => ∃ (m j : Nat), m = gn ∧ i = .int .i64 j ∧ m + j = N ∧ Hid (orP l = orP (l.drop j)) ∧ Hid (Fr [] w wr))
  case atStart => exact ⟨_, 0, rfl, rfl, rfl, by unfold Hid; simp, Fr.refl _ _⟩
  case round =>
    obtain ⟨m, j, rfl, rfl, hj, HE, HF⟩ := hrel
    by_cases hlt : j < N
    · have hjl : j < l.length := by have := HN.out; omega
      obtain ⟨ad, rfl, hc⟩ := SlI.at (HS.out.fr HF.out) j hjl
      have hd : l.drop j = l.getD j 0 :: l.drop (j + 1) := by
        rw [List.drop_eq_getElem_cons hjl]; simp [List.getD_eq_getElem?_getD, hjl]
      have he := HE.out
      rw [hd] at he
      by_cases hz : l.getD j 0 = 0
      · rw [hz] at he hc
        have he2 : orP l = orP (l.drop (j + 1)) := by rw [he]; simp [orP]
        have HE2 := Lib.hid he2
        clear he hz hd he2
        go_wp2
        obtain ⟨m', rfl⟩ : ∃ m', m = m' + 1 := ⟨m - 1, by omega⟩
        go_roundg m'
        case rel => exact ⟨m', j + 1, rfl, by go_num, by omega, HE2, HF⟩
        case measure => omega
      · have he2 : orP l = l.getD j 0 := by rw [he]; simp only [orP, List.find?_cons]; rw [show decide (l.getD j 0 ≠ 0) = true from decide_eq_true hz]; rfl
        rw [he2] at hR
        have hzb : (l.getD j 0 != 0) = true := by simpa using hz
        generalize l.getD j 0 = z at *
        clear he he2 hd hz
        go_wp2
        exact hR.out _ _ ⟨rfl, HF.out⟩
    · obtain rfl : j = N := by omega
      have he := HE.out
      rw [HN.out, List.drop_length] at he
      rw [he] at hR
      clear he
      go_wp2
      exact hR.out _ _ ⟨rfl, HF.out⟩
theorem OwnI.two (w : World) (x y : Int) : OwnI w.heap.size (w.alloc (.cells #[.int .i64 x, .int .i64 y] 3)) (.slice (some ⟨w.heap.size, 0, none⟩) 2 2) [x, y] :=
  ⟨⟨rfl, .inr ⟨w.heap.size, 2, #[.int .i64 x, .int .i64 y], rfl, Nat.zero_le _, heap_alloc_new w _, Nat.le_refl _, by decide, rfl, rfl⟩⟩, fun k hk => by simp [Value.ownBlock] at hk; omega⟩
theorem OwnI.slN {base : Nat} {w : World} {A : Option Addr} {c : Nat} {l : List Int} (h : OwnI base w (.slice A l.length c) l) : SlI w (.slice A l.length c) l := h.sl
def Tr.cmp (t : Tr) (a b : Int) : Int := orP [Lib.compareInt (t.high b) (t.high a), Lib.compareInt a b]
theorem Tr.cmp_neg {t : Tr} {a b : Int} : t.cmp a b < 0 ↔ t.high b < t.high a ∨ (t.high b = t.high a ∧ a < b) := by
  unfold Tr.cmp orP Lib.compareInt
  by_cases h1 : t.high b < t.high a
  · simp [h1]
  · by_cases h2 : t.high b > t.high a
    · have h3 : ¬ t.high b = t.high a := by omega
      simp [h1, h2, h3]
    · have h3 : t.high b = t.high a := by omega
      simp only [h3, Int.lt_irrefl, if_false, gt_iff_lt, false_or, true_and]
      by_cases h4 : a < b
      · simp [h4]
      · by_cases h5 : b < a
        · simp [h4, h5]
        · simp [h4, h5]
set_option maxHeartbeats 4000000 in
set_option maxRecDepth 100000 in
theorem cmp_calls {X : Nat → Prop} {w : World} {p bx : Nat} {t : Tr} (h : TrAt X w p t) (hb : w.cell? ⟨bx, 0, none⟩ = some (.pointer (some ⟨p, 0, none⟩))) (a b : Int) :
    Calls Tryz.prog 52 #[.int .i64 a, .int .i64 b, .pointer (some ⟨bx, 0, none⟩)] w fun e w' => e = .returned (.int .i64 (t.cmp a b)) ∧ Fr [] w w' := by
  refine calls_k fun R hR => ?_
  have HH := Lib.hid h
  have HSF : Hid (∀ W', Fr [] w W' → W'.cell? ⟨bx, 0, none⟩ = some (.pointer (some ⟨p, 0, none⟩))) := fun W' hF => cellF hF hb
  have HFD : Hid (Fr [] w w.drew) := (Fr.refl _ _).drew
  clear h hb
  go_enter Tryz.func52, Tryz.ntmps52
  go_wp2_with fail
  have hSD := HSF.out _ HFD.out
  go_region_held3 (fun W => W.cell? ⟨bx, 0, none⟩ = some (.pointer (some ⟨p, 0, none⟩)))
    (first | assumption | exact HSF.out _ (HF2.out.alloc _))
    (first
      | (go_at_call 55; refine (height_calls (HH.out.fr HFD.out) b).mono ?_; rintro e w1 ⟨rfl, hF1⟩; have HF1 := Lib.hid (HFD.out.trans hF1 (by simp)); have hS1 := HSF.out _ HF1.out; clear hF1 HFD)
      | (go_at_call 55; refine (height_calls (HH.out.fr HF1.out) a).mono ?_; rintro e w2 ⟨rfl, hF2⟩; have HF2 := Lib.hid (HF1.out.trans hF2 (by simp)); have hS2 := HSF.out _ HF2.out; clear hF2 HF1)
      | (go_at_call 54; refine (Tryz.cmp_Compare_int _ _ _).mono ?_; rintro e w3 ⟨rfl, rfl⟩)
      | (go_at_call 53; refine (or_calls rfl (OwnI.two _ _ _).slN (by simp)).mono ?_; rintro e w4 ⟨rfl, hF4⟩; have HF4 := Lib.hid ((HF2.out.alloc _).trans hF4 (by simp)); have hS4 := HSF.out _ HF4.out; clear hF4))
  all_goals (go_wp2; exact hR.out _ _ ⟨rfl, HF4.out⟩)
def Tr.low (t : Tr) (m y : Int) : Int := if t.cmp y m < 0 then y else m
def Tr.tipOf (t : Tr) : List Int → Int
  | [] => 0
  | x :: l => l.foldl t.low x
def Tr.tip (t : Tr) : Int := t.tipOf t.names
set_option maxHeartbeats 4000000 in
set_option maxRecDepth 100000 in
theorem min_calls {X : Nat → Prop} {w : World} {p bx N c : Nat} {A : Option Addr} {t : Tr} {l : List Int} (h : TrAt X w p t) (hb : w.cell? ⟨bx, 0, none⟩ = some (.pointer (some ⟨p, 0, none⟩))) (hN : l.length = N + 1) (hO : OwnI 0 w (.slice A (N + 1) c) l) (hl : N ≤ 100000) :
    Calls Tryz.prog 50 #[.slice A (N + 1) c, .func (.func 52) #[] #[.pointer (some ⟨bx, 0, none⟩)]] w fun e w' => e = .returned (.int .i64 (t.tipOf l)) ∧ Fr [] w w' := by
  refine calls_k fun R hR => ?_
  have HH := Lib.hid h
  have HSF : Hid (∀ W', Fr [] w W' → W'.cell? ⟨bx, 0, none⟩ = some (.pointer (some ⟨p, 0, none⟩))) := fun W' hF => cellF hF hb
  have HN := Lib.hid hN
  have HO := Lib.hid hO
  cases l with
  | nil => simp at hN
  | cons x l =>
    obtain ⟨g, rfl, hc0⟩ := OwnI.at (A := A) (c := c) (l := x :: l) (by rw [HN.out]; exact hO) 0 (by simp)
    simp at hc0
    clear h hb hN hO
    go_enter Tryz.func50, Tryz.ntmps50
    go_upto_region 5 with (fail)
    clear hc0
    go_loopg [5, 6] N (fun gn o i wr => ∃ (m j : Nat), m = gn ∧ o = .int .i64 ((l.take j).foldl t.low x) ∧ i = .int .i64 ((j : Int) + 1) ∧ m + j = N ∧ Hid (Fr [] w wr))
    case atStart => exact ⟨_, 0, rfl, by simp, by simp, rfl, Fr.refl _ _⟩
    case round =>
      obtain ⟨m, j, rfl, rfl, rfl, hj, HF⟩ := hrel
      by_cases hlt : j < N
      · have hlN : l.length = N := by have := HN.out; simpa using this
        obtain ⟨g', e', hc⟩ := OwnI.at (A := some ⟨g, 0, none⟩) (c := c) (l := x :: l) (by rw [HN.out]; exact HO.out.fr HF.out (by simp)) (j + 1) (by simp; omega)
        injection e' with e'
        injection e' with e'
        subst e'
        have hfold : (l.take (j + 1)).foldl t.low x = t.low ((l.take j).foldl t.low x) (l.getD j 0) := by
          rw [List.take_succ_eq_append_getElem (by omega), List.foldl_append]
          simp [List.getD_eq_getElem?_getD, show j < l.length by omega]
        have hy : (x :: l).getD (j + 1) 0 = l.getD j 0 := by simp
        rw [hy] at hc
        generalize l.getD j 0 = y at *
        generalize (l.take j).foldl t.low x = u at *
        have HFO := Lib.hid hfold
        have HCM := Lib.hid (cmp_calls (HH.out.fr HF.out) (HSF.out _ HF.out) y u)
        have e1 : ((j : Int) + 1).toNat = j + 1 := by omega
        have e2 : (0 : Int) ≤ (j : Int) + 1 := by omega
        have e3 : (j : Int) + 1 < (N : Int) + 1 := by omega
        clear hfold hy hlN
        obtain ⟨m', rfl⟩ : ∃ m', m = m' + 1 := ⟨m - 1, by omega⟩
        by_cases hlow : t.cmp y u < 0
        · have hlw : t.low u y = y := if_pos hlow
          have HLW := Lib.hid hlw
          clear hlw
          go_wp2_with (go_at_call 52; refine HCM.out.mono ?_; rintro e w1 ⟨rfl, hF1⟩; replace hc := cellF hF1 hc; have HF1 := Lib.hid hF1; clear hF1 HCM)
          go_roundg m'
          case rel => exact ⟨m', j + 1, rfl, by rw [HFO.out, HLW.out], by go_num, by omega, HF.out.trans HF1.out (by simp)⟩
          case measure => omega
        · have hlw : t.low u y = u := if_neg hlow
          have HLW := Lib.hid hlw
          clear hlw
          go_wp2_with (go_at_call 52; refine HCM.out.mono ?_; rintro e w1 ⟨rfl, hF1⟩; replace hc := cellF hF1 hc; have HF1 := Lib.hid hF1; clear hF1 HCM)
          go_roundg m'
          case rel => exact ⟨m', j + 1, rfl, by rw [HFO.out, HLW.out], by go_num, by omega, HF.out.trans HF1.out (by simp)⟩
          case measure => omega
      · obtain rfl : j = N := by omega
        have hlN : l.length = j := by have := HN.out; simpa using this
        have ht : t.tipOf (x :: l) = (l.take j).foldl t.low x := by rw [List.take_of_length_le (by omega)]; rfl
        rw [ht] at hR
        clear ht hlN
        go_wp2
        exact hR.out _ _ ⟨rfl, HF.out⟩
theorem names_len {t : Tr} (h : t.Ok) : t.names.length = t.known.length := by
  have hn : (t.known.map (·.name)).Nodup := (List.nodup_append.1 h.nodup).1
  have h1 := (Go.Np.unlike_iff (t.known.map (·.name))).2 hn
  simpa [Tr.names, uniq] using h1
set_option maxHeartbeats 4000000 in
set_option maxRecDepth 100000 in
theorem tip_calls {X : Nat → Prop} {w : World} {p : Nat} {t : Tr} (h : TrAt X w p t) (hO : t.Ok) :
    Calls Tryz.prog 21 #[.pointer (some ⟨p, 0, none⟩)] w fun e w' => e = .returned (.int .i64 t.tip) ∧ Fr [] w w' := by
  refine calls_k fun R hR => ?_
  obtain ⟨W, hW⟩ : ∃ W, W = w.alloc (.cells #[.pointer (some ⟨p, 0, none⟩)] 53) := ⟨_, rfl⟩
  obtain ⟨bx, hbx⟩ : ∃ bx, bx = w.heap.size := ⟨_, rfl⟩
  have hF : Fr [] w W := by rw [hW]; exact (Fr.refl _ _).alloc _
  have hbl : W.heap[bx]? = some (.cells #[.pointer (some ⟨p, 0, none⟩)] 53 (0, 0)) := by rw [hW, hbx]; exact heap_alloc_new _ _
  have hcb := cell_of hbl 0
  simp at hcb
  have HT := Lib.hid (h.fr hF)
  obtain ⟨b, v, ds, qs, h1⟩ := h.fr hF
  have hc := cell_of h1.hp 0
  simp at hc
  obtain ⟨es, cl, hb, hme, _⟩ := h1.hM
  have hsz : es.size = t.known.length := by
    have := congrArg List.length hme
    rw [← h1.ds_len]
    simpa using this
  have hnl := names_len hO
  have hlen := fun ty => len_map hb ty
  have hfew := hO.few
  have HF := Lib.hid hF
  clear h h1 hF hbl hme hO
  by_cases h0 : t.known.length = 0
  · have htip : t.tip = 0 := by
      unfold Tr.tip
      rw [List.eq_nil_of_length_eq_zero (by omega : t.names.length = 0)]
      rfl
    have hz : ((es.size : Int) == 0) = true := by rw [show es.size = 0 by omega]; rfl
    have hz2 : es.size = 0 := by omega
    have hes : es = #[] := by simpa using hz2
    rw [htip] at hR
    clear hsz hnl htip hz2
    subst hes
    go_enter Tryz.func21, Tryz.ntmps21
    go_upto_region 1 with (fail)
    rw [← hW, ← hbx]
    clear hW hbx
    go_wp2
    exact hR.out _ _ ⟨rfl, HF.out⟩
  · have hz : ((es.size : Int) == 0) = false := by simp; rintro rfl; simp at hsz; omega
    obtain ⟨N, hN⟩ : ∃ N, t.names.length = N + 1 := ⟨t.names.length - 1, by omega⟩
    have hN4 : N ≤ 100000 := by omega
    have HN := Lib.hid hN
    have HNM := Lib.hid (names_calls HT.out (Nat.le_trans hfew (by decide)))
    have HSF : Hid (∀ W', Fr [] W W' → W'.cell? ⟨bx, 0, none⟩ = some (.pointer (some ⟨p, 0, none⟩))) := fun W' hF => cellF hF hcb
    unfold Tr.tip at hR
    clear hsz hnl hN h0 hfew
    go_enter Tryz.func21, Tryz.ntmps21
    go_upto_region 1 with (fail)
    rw [← hW, ← hbx]
    clear hW hbx
    go_wp2_with (first
      | (go_at_call 51; refine HNM.out.mono ?_; rintro e w1 ⟨v1, rfl, hO1, hF1⟩
         obtain ⟨A1, c1, rfl⟩ := hO1.formN HN.out
         have HMI := Lib.hid (min_calls (HT.out.fr hF1) (HSF.out _ hF1) HN.out ⟨hO1.1, fun k hk => Nat.zero_le _⟩ hN4)
         have HF1 := Lib.hid hF1
         clear hF1 hO1 HNM)
      | (go_at_call 50; refine HMI.out.mono ?_; rintro e w2 ⟨rfl, hF2⟩))
    exact hR.out _ _ ⟨rfl, (HF.out.trans HF1.out (by simp)).trans hF2 (by simp)⟩
end Go.Np.Tryz
set_option linter.unusedVariables false
set_option linter.unusedSimpArgs false
namespace Go.Np.Tryz
open Go.RowKit Go.Proofs Go.Proofs.YtlllhpnpgcphcaaGreat.PX Go.Proofs.YtlllhpnpgcphcaaGreatW.PrintWords
theorem same_sl {w : World} {u v : Value} {a b : List Int} (ha : SlI w u a) (hb : SlI w v b) : Calls Tryz.prog 17 #[u, v] w fun e w' => e = .returned (.bool (decide (a = b))) ∧ Fr [] w w' := by
  obtain ⟨A, c, rfl, _, h1⟩ := ha
  obtain ⟨B, d, rfl, _, h2⟩ := hb
  refine (same_calls h1 h2).mono ?_
  rintro e w' ⟨rfl, n, rfl⟩
  exact ⟨rfl, (Fr.refl _ _).drewN n⟩
theorem FrX.old {w w1 w' : World} (h : FrX (fun k => k < w.heap.size) w1 w') (h0 : Fr [] w w1) : Fr [] w w' := by
  obtain ⟨S, h1, h2⟩ := h
  exact h0.trans h1 (fun x hx => .inr (Nat.le_of_not_lt (h2 x hx))) |>.mono (fun x hx => by simp at hx)
theorem C_none (w : World) : k67.C w none 0 ([] : List S67) := ⟨rfl, Nat.zero_le _, fun h => absurd h (Nat.lt_irrefl 0)⟩
end Go.Np.Tryz
