/- What CheckNames needs. -/
import Derived.Test.YtgfiglcmhlbjjaaQCheckNamesCkX
import Derived.Sort.LoopGhostIn
set_option linter.unusedVariables false
set_option linter.unusedSimpArgs false
namespace Go.Np.Try
open Go.RowKit Go.Proofs Go.Shelf Go.Lib
attribute [local go_sem] Oper.semAt_some
def valQ (q : Int × Value) : Int := match q.2 with | .int _ v => v | _ => 0
theorem valQ_int (x z : Int) : valQ (x, Value.int .i64 z) = z := rfl
set_option maxRecDepth 100000 in
set_option maxHeartbeats 2000000 in
theorem vq_keys1_in (F : Fence) (n : Nat) (h7 : F.fn 60) (hro : F.round = none) (hn : 1 ≤ n) (l Bm b : Nat) (mm : List (Int × Value)) (hv : ∀ q ∈ mm, q.2 = Value.int .i64 (valQ q)) (J Jx : List Int → World → Prop)
    (hY : ∀ pre x W, J pre W → pre.length < mm.length → YieldAt F (n - 1) Try.prog l #[.int .i64 x] W fun e W' =>
      (e = .returned (.bool true) ∧ J (pre ++ [x]) W' ∧ KeepsWalks W W') ∨ (e = .returned (.bool false) ∧ Jx (pre ++ [x]) W'))
    (W : World) (hJ : AbidesFrom W.heap.size J) (hm : W.cell? ⟨Bm, 0, none⟩ = some (.map (some b))) (hM : MapIs keyE W b mm) (h0 : J [] W) :
    CallsIn F n Try.prog 60 #[.func (.yield l) #[] #[], .pointer (some ⟨Bm, 0, none⟩)] W fun e W' => (∃ v, e = .returned v) ∧
      ((∃ ys, ys.Perm (mm.map valQ) ∧ J ys W') ∨ (∃ pre : List Int, Jx pre W')) := by
  obtain ⟨ob, hranges, hI⟩ := IterIs.begin (P := Try.prog) (k := 3) hM
  have hrange := hranges 34 3 Try.underlying34
  clear hranges
  have hJ0 : J [] (W.alloc ob) := hJ [] W _ none h0 (World.grownBy_alloc W ob none) (fun r e => by cases e)
  have hsz0 : W.heap.size ≤ (W.alloc ob).heap.size := by simp
  obtain ⟨r, hr⟩ : ∃ r, r = W.heap.size := ⟨_, rfl⟩
  obtain ⟨W2, hW2⟩ : ∃ W2, W2 = W.alloc ob := ⟨_, rfl⟩
  rw [← hr, ← hW2] at hrange hI
  rw [← hW2] at hJ0
  have hrr : W.heap.size ≤ r := Nat.le_of_eq hr.symm
  clear hr hW2 hsz0
  have HI := Lib.hid hI
  clear hI
  refine callsIn_of_wp Try.func60 rfl h7 ?_ hro
  simp only [Try.ntmps60, List.size_toArray, List.length_cons, List.length_nil, Nat.reduceAdd, Nat.reduceSub, Array.replicate_succ, Array.replicate_zero, List.push_toArray, List.append_toArray, List.nil_append, List.cons_append]
  gi_wp2
  clear hrange hm
  gi_loopg [4] mm.length (fun gn _ wr => ∃ (left : List (Int × Value)) (ss : List Int), gn = left.length ∧ Hid (IterIs keyE wr r b left) ∧ ss.length + left.length = mm.length ∧ Hid ((ss ++ left.map valQ).Perm (mm.map valQ)) ∧ Hid (J ss wr) ∧ Hid (∀ q ∈ left, q.2 = Value.int .i64 (valQ q)))
  case atStart => exact ⟨mm, [], rfl, HI, by simp, by show List.Perm _ _; simp, hJ0, hv⟩
  case round =>
    obtain ⟨left, ss, rfl, HIr, hlen, HP, HJ, HV⟩ := hrel
    rcases HIr.out.run_next (P := Try.prog) 0 with ⟨rfl, hnext⟩ | ⟨l1, x, y, l2, w', rfl, hnext, hI', hF', hsz', hentry⟩
    · gi_wp2
      go_end0
      exact ⟨⟨_, rfl⟩, .inl ⟨ss, by simpa using HP.out, HJ.out⟩⟩
    · obtain ⟨z, rfl⟩ : ∃ z, y = Value.int .i64 z := ⟨_, HV.out (x, y) (by simp)⟩
      have HV2 : Hid (∀ q ∈ l1 ++ l2, q.2 = Value.int .i64 (valQ q)) := fun q hq => HV.out q (by rcases List.mem_append.1 hq with h | h <;> simp [h])
      have hJ2 : J ss w' := hJ ss wr w' (some r) HJ.out (grown_fr hF') (fun r' e => by cases e; exact ⟨hrr, iter_walk HIr.out⟩)
      obtain ⟨fn, tmps, assign, body, hy, hR⟩ := hY ss z w' hJ2 (by simp at hlen; omega)
      have HI' := Lib.hid hI'
      have HR := Lib.hid hR
      have hl2 : (l1 ++ l2).length < (l1 ++ (x, Value.int .i64 z) :: l2).length := by simp
      have hl3 : (ss ++ [z]).length + (l1 ++ l2).length = mm.length := by simp at hlen ⊢; omega
      have hp3 : ((ss ++ [z]) ++ (l1 ++ l2).map valQ).Perm (mm.map valQ) := by
        refine List.Perm.trans ?_ HP.out
        simp only [List.map_append, List.map_cons, List.append_assoc, List.singleton_append, valQ_int]
        exact List.Perm.append_left _ List.perm_middle.symm
      have HP3 := Lib.hid hp3
      clear hp3 hI' hR hF' hsz' hJ2 HJ HP HIr hlen HV
      gi_wp2
      refine HR.out.mono ?_
      rintro e W3 (⟨rfl, hJ3, hk3⟩ | ⟨rfl, hJx3⟩)
      · gi_wp2
        go_roundg (l1 ++ l2).length
        case measure => exact hl2
        case rel => exact ⟨l1 ++ l2, ss ++ [z], rfl, iter_keeps HI'.out hk3, hl3, HP3, hJ3, HV2⟩
      · gi_wp2
        refine bodyPost_ret (results_none rfl _ _ _) rfl ?_
        exact ⟨⟨_, rfl⟩, .inr ⟨ss ++ [z], hJx3⟩⟩
theorem vq_stops (F : Fence) (n : Nat) (h7 : F.fn 60) (hro : F.round = none) (hn : 1 ≤ n) (Bm b : Nat) (mm : List (Int × Value)) (hv : ∀ q ∈ mm, q.2 = Value.int .i64 (valQ q)) (w : World) (hBs : Bm < w.heap.size)
    (hc : w.cell? ⟨Bm, 0, none⟩ = some (.map (some b))) (hM : MapIs keyE w b mm) :
    SeqStopsK F n Try.prog 60 #[.pointer (some ⟨Bm, 0, none⟩)] (fun x : Int => #[Value.int .i64 x]) KeepsWalks (fun ys => ys.Perm (mm.map valQ)) (fun _ => True) mm.length w := fun l J Jx W hW hJ _ hY h0 => by
  have hbl : b < w.heap.size := by obtain ⟨es, cl, g, _⟩ := hM; exact (Array.getElem?_eq_some_iff.1 g).1
  refine (vq_keys1_in F n h7 hro hn l Bm b mm hv J Jx hY W hJ ((hW.cell (p := ⟨Bm, 0, none⟩) hBs).trans hc) (hM.move (hW.block b hbl)) h0).mono ?_
  rintro e W' ⟨he, h | ⟨pre, hj⟩⟩
  · exact ⟨he, .inl h⟩
  · exact ⟨he, .inr ⟨pre, trivial, hj⟩⟩
set_option maxRecDepth 100000 in
set_option maxHeartbeats 2000000 in
theorem vq_appendSeq_in (Bm b : Nat) (mm : List (Int × Value)) (hv : ∀ q ∈ mm, q.2 = Value.int .i64 (valQ q)) (hreach : mm.length * 8 ≤ 140737488351232) (w : World) (hBs : Bm < w.heap.size) (hc : w.cell? ⟨Bm, 0, none⟩ = some (.map (some b))) (hM : MapIs keyE w b mm) :
    CallsIn Fence.wide 6 Try.prog 69 #[.slice none 0 0, .func (.func 60) #[] #[.pointer (some ⟨Bm, 0, none⟩)]] w fun e W' => ∃ (v : Value) (ys : List Int), e = .returned v ∧ ys.Perm (mm.map valQ) ∧ W'.ownsRow w.heap.size 3 1 v ys.length (ys.map (Value.int .i64)) ∧ Below w.heap.size w W' := by
  have hlen : mm.length ≤ maxLen := by unfold maxLen; omega
  have hbytes : mm.length * 8 ≤ 140737488355328 := by omega
  obtain ⟨i0, hi, hz0, hz1, hz2⟩ := info_parts infoZ
  refine callsIn_of_wp_marks Try.func69 rfl trivial ?_ rfl
  simp only [Try.ntmps69, List.size_toArray, List.length_cons, List.length_nil, Nat.reduceAdd, Nat.reduceSub, Array.replicate_succ, Array.replicate_zero, List.push_toArray, List.append_toArray, List.nil_append, List.cons_append]
  gi_wp2
  have bO := Boxed.new w 24 (.slice none 0 0)
  have hB0 : Below w.heap.size w (w.alloc (.cells #[.slice none 0 0] 24)) := (Below.refl _ w).alloc (Nat.le_refl _) _
  refine wpIn_rangeFunc_ownG rfl (by omega) (gf := 60) (lb := #[.pointer (some ⟨Bm, 0, none⟩)]) rfl trivial (enters_of Try.func60 (by kernel_rfl) rfl)
    (vq_stops Fence.wide 5 trivial rfl (by omega) Bm b mm hv (w.alloc (.cells #[.slice none 0 0] 24)) (by simp; omega) ((hB0.cell (p := ⟨Bm, 0, none⟩) hBs).trans hc) (hM.alloc _)) walksK_t (fun W l o o' => walksK_b (w := w) W l o o' ∘ (fun h => by simp at h; omega)) (Below.refl _ _) (fun _ => rfl)
    (fun pre W => (∃ v, Boxed W w.heap.size 24 v ∧ W.ownsRow w.heap.size 3 1 v pre.length (pre.map (Value.int .i64)) ∧ (v = .slice none 0 0 ↔ pre = [])) ∧ Below w.heap.size w W)
    (fun _ _ _ => False)
    (OwnFrom.and (Own.from (holdsRow_own w.heap.size w.heap.size 24 3 1 (fun pre => pre.length) (fun pre => pre.map (Value.int .i64)) (fun pre v => v = .slice none 0 0 ↔ pre = [])) _) (ownFrom_below (Nat.le_refl _) (by simp)))
    (fun _ _ _ _ _ hs _ _ => hs)
    ⟨⟨_, bO, World.ownsRow_nil _ _ _ _, by simp⟩, hB0⟩
    (fun x => { tmps := #[.slice none 0 0, .func (.func 60) #[] #[.pointer (some ⟨Bm, 0, none⟩)], .pointer (some ⟨w.heap.size, 0, none⟩), undef, .slice none 0 0, .int .i64 x, .func (.func 60) #[] #[.pointer (some ⟨Bm, 0, none⟩)], .int .i64 x, undef, undef, undef, undef, undef], defers := [] }) ?assign ?body ?done ?stop
  case assign =>
    intro l x W K hK
    gi_wp2
    exact hK
  case body =>
    rintro l pre x W ⟨⟨v, hv, hrow, hnil⟩, hB⟩ hlt
    have hc := hv.cell
    gi_wp2_with (gi_at_builtin; refine wpListIn_append_own _ rfl _ _ 24 rfl w.heap.size 3 i0 (.int .i64 0) 1 8 Try.underlying24 hi hz0 hz1 hz2 rfl (by decide) _ _ _ rfl (hrow.alloc _) ⟨W.heap.size, 0, none⟩ 1 1 [.int .i64 x] rfl rfl (cell_one_new _ _ _) (by simp [Value.oneCell']) (by omega) (by omega) (by have := hB.size; simp; omega) ?_; intro v' w1 hown' hgrow _; obtain ⟨g', cap', rfl⟩ := ownsRow_succ hown'; obtain ⟨hv1, hv2, hr2, hk2, hb2⟩ := hv.appended (by decide) hrow hB.size (Nat.le_refl _) hown' hgrow; have hc1 := hv1.cell; have hf1 := hv1.frozen)
    exact ⟨hk2.from _, ⟨hk2.size, fun k o ho hw => hk2.same k o ho (Obj.not_cells_of_walk hw)⟩, ⟨_, hv2, by simpa using hr2, by simp⟩, hB.trans hb2⟩
  case done =>
    rintro D ys W hD hperm ⟨⟨v, hv, hrow, hnil⟩, hB⟩ hK
    have hc := hv.cell
    gi_wp2
    refine ⟨by simp, .inl ⟨_, _, rfl, run_takeDeferred hK, ?_⟩⟩
    exact ⟨_, results_tmp rfl _ _ _, v, ys, rfl, hperm, ownsRow_putObj hrow _ hK rfl, hB.trans (belowK_b (w := w) (Nat.le_refl _) W D _ _ (by simp at hD; omega) hK rfl rfl)⟩
  case stop =>
    rintro D c pre W _ _ h _
    exact h.elim
set_option maxHeartbeats 1000000 in
theorem vq_keys_in (F : Fence) (n : Nat) (h5 : F.fn 46) (hro : F.round = none) (b : Nat) (w : World) :
    CallsIn F n Try.prog 46 #[.map (some b)] w fun e w' => e = .returned (.func (.func 60) #[] #[.pointer (some ⟨w.heap.size, 0, none⟩)]) ∧ w' = w.alloc (.cells #[.map (some b)] 34) := by
  refine callsIn_of_wp Try.func46 rfl h5 ?_ hro
  simp only [Try.ntmps46, List.size_toArray, List.length_cons, List.length_nil, Nat.reduceAdd, Nat.reduceSub, Array.replicate_succ, Array.replicate_zero, List.push_toArray, List.append_toArray, List.nil_append, List.cons_append]
  gi_wp2
  go_ret
  exact ⟨rfl, rfl⟩
set_option maxHeartbeats 1000000 in
set_option maxRecDepth 100000 in
theorem vq_collect {w : World} (Bm b : Nat) (mm : List (Int × Value)) (hv : ∀ q ∈ mm, q.2 = Value.int .i64 (valQ q)) (hreach : mm.length * 8 ≤ 140737488351232) (hBs : Bm < w.heap.size) (hc : w.cell? ⟨Bm, 0, none⟩ = some (.map (some b))) (hM : MapIs keyE w b mm) :
    Calls Try.prog 58 #[.func (.func 60) #[] #[.pointer (some ⟨Bm, 0, none⟩)]] w fun e W' => ∃ (v : Value) (ys : List Int), e = .returned v ∧ ys.Perm (mm.map valQ) ∧ W'.ownsRow w.heap.size 3 1 v ys.length (ys.map (Value.int .i64)) ∧ Below w.heap.size w W' := by
  have HA := Lib.hid ((callsIn_wide (n := 6)).1 (vq_appendSeq_in Bm b mm hv hreach w hBs hc hM))
  refine calls_k fun R hR => ?_
  clear hM hc
  go_enter Try.func58, Try.ntmps58
  go_wp2_with (go_at_call 69; refine HA.out.mono ?_; rintro e w1 ⟨v, ys, rfl, h1, h2, h3⟩)
  exact hR.out _ _ ⟨v, ys, rfl, h1, h2, h3⟩
theorem sorted_ext : ∀ (l k : List Int), l.Pairwise (· ≤ ·) → k.Pairwise (· ≤ ·) → l.Perm k → l = k := by
  intro l
  induction l with
  | nil => intro k _ _ h; exact (List.nil_perm.1 h).symm
  | cons x l ih =>
    intro k hl hk h
    cases k with
    | nil => exact absurd h.symm (by simp)
    | cons y k =>
      rw [List.pairwise_cons] at hl hk
      have e : x = y := by
        rcases List.mem_cons.1 (h.subset (List.mem_cons_self ..)) with e | e
        · exact e
        · rcases List.mem_cons.1 (h.symm.subset (List.mem_cons_self ..)) with e2 | e2
          · exact e2.symm
          · exact Int.le_antisymm (hl.1 _ e2) (hk.1 _ e)
      subst e
      rw [ih k hl.2 hk.2 (List.Perm.cons_inv h)]
theorem ms_perm {l k : List Int} (h : l.Perm k) : (l.mergeSort fun x y => decide (x ≤ y)) = k.mergeSort fun x y => decide (x ≤ y) :=
  sorted_ext _ _ (sorted_ms l) (sorted_ms k) (((List.mergeSort_perm l _).trans h).trans (List.mergeSort_perm k _).symm)
set_option maxHeartbeats 1000000 in
set_option maxRecDepth 100000 in
theorem vq_sorted {w : World} (Bm b : Nat) (mm : List (Int × Value)) (hv : ∀ q ∈ mm, q.2 = Value.int .i64 (valQ q)) (hreach : mm.length * 8 ≤ 140737488351232) (hBs : Bm < w.heap.size) (hc : w.cell? ⟨Bm, 0, none⟩ = some (.map (some b))) (hM : MapIs keyE w b mm) :
    Calls Try.prog 45 #[.func (.func 60) #[] #[.pointer (some ⟨Bm, 0, none⟩)]] w fun e W' => ∃ v, e = .returned v ∧ OwnI w.heap.size W' v ((mm.map valQ).mergeSort fun x y => decide (x ≤ y)) ∧ Fr [] w W' := by
  have HA := Lib.hid (vq_collect Bm b mm hv hreach hBs hc hM)
  have HND : Hid (∀ ys : List Int, ys.Perm (mm.map valQ) → ys.length = mm.length ∧ (ys.mergeSort fun x y => decide (x ≤ y)) = ((mm.map valQ).mergeSort fun x y => decide (x ≤ y))) := fun ys hp => ⟨by simpa using hp.length_eq, ms_perm hp⟩
  refine calls_k fun R hR => ?_
  clear hM hc
  go_enter Try.func45, Try.ntmps45
  go_wp2_with (first
    | (go_at_call 58; refine HA.out.mono ?_; rintro e w1 ⟨v, ys, rfl, hp, h1, h2⟩; obtain ⟨n1, n2⟩ := HND.out ys hp; have HS := Lib.hid (sort_own h1 (by omega)); rw [n2] at HS; have H2 := Lib.hid h2; clear h1 h2 hp n1 n2)
    | (go_at_call 59; refine HS.out.mono ?_; rintro e w2 ⟨rfl, h3, h4⟩))
  exact hR.out _ _ ⟨v, rfl, OwnI.of_base h3, Fr.of_below [] (H2.out.grown h4 H2.out.size (fun k hk => Go.Proofs.YtgfiglcmhlbjjaaW.PrintWords.own_base h3 k hk))⟩
end Go.Np.Try
