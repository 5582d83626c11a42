/- TreeTurns: the walk. (Printed by tools/gen_tturn8.py.) -/
import Derived.Test.YtdfoalbkfdnmcaaTreeTp
import Derived.Test.YtdfoalbkfdnmcaaTreeGl
set_option linter.unusedVariables false
set_option linter.unusedSimpArgs false
namespace Go.Np.Try
open Go.RowKit Go.Proofs Go.ChangeShapes Go.WideShapes Go.Proofs.Ytdfoalbkfdnmcaa.PX Go.Proofs.YtdfoalbkfdnmcaaW.PrintWords
/-- A slice of blocks, with room for what it has. -/
def BlocksAt2 (W : World) (v : Value) (l : List Blk) : Prop := BlocksAt W v l ∧ ∃ A n c, v = .slice A n c ∧ n ≤ c
set_option maxRecDepth 100000 in
theorem open_blocks2 {H : Type} {enc : TypeId × Value → H} {W : World} {base b0 : Nat} {sp : Nat → Bool} {held : Bool} {v : Value} {d : DataW H} {ps : List MemPlace} {ts : List TypeId} {ds : List (DataW H)} {j : Nat}
    (hs : (DataW.weightsEach Try.prog ts ds).all (· ≤ reachBytes) = true) (ht : ts[j]? = some 22) (hd : ds[j]? = some d)
    (hv : Value.okWide Try.prog W .any b0 22 v) (h : DataW.Trod enc Try.prog W base sp held 22 v d ps) : ∃ l : List Blk, BlocksAt2 W v l := by
  obtain ⟨l, hl⟩ := open_blocks hs ht hd hv h
  refine ⟨l, hl, ?_⟩
  obtain ⟨a, n, c, rfl⟩ := okWide_slice Try.underlying22 hv
  obtain ⟨fuel, hf⟩ := h
  rcases Go.Deep.open_slice Try.underlying22 hf with ⟨hcs, _⟩ | ⟨ad, len, cap, m, k, D, Pl, hcs, _, hlc, hcm, hm, hxx, hx⟩
  · simp [Value.cells] at hcs
    obtain ⟨rfl, rfl, rfl⟩ := hcs
    exact ⟨_, _, _, rfl, Nat.le_refl _⟩
  · simp [Value.cells] at hcs
    obtain ⟨rfl, rfl, rfl⟩ := hcs
    exact ⟨_, _, _, rfl, hlc⟩
theorem turned_succ (l : List Blk) (T i : Nat) : turned l T (i + 1) = turned l T i ++ [l.getD ((T + l.length - 1 - i) % l.length) z28] := by
  unfold turned
  rw [List.range_succ, List.map_append]; rfl
theorem turned_new {l : List Blk} (hn : (l.map nameB).Nodup) (T : Nat) {i : Nat} (hi : i < l.length) : nameB (l.getD ((T + l.length - 1 - i) % l.length) z28) ∉ (turned l T i).map nameB := by
  have h1 := ((turned_perm l T hn).map nameB).nodup_iff.1 hn
  have h2 : (turned l T (i + 1)).Sublist (turned l T l.length) := by
    unfold turned
    refine List.Sublist.map _ ?_
    exact List.range_sublist.2 (by omega)
  have h3 := (h2.map nameB).nodup h1
  rw [turned_succ, List.map_append, List.nodup_append] at h3
  intro hm
  exact h3.2.2 _ hm _ (by simp) rfl
set_option maxHeartbeats 8000000 in
set_option maxRecDepth 100000 in
theorem TreeTurns_walk (w : World) (v : Value) (l : List Blk) (hv : BlocksAt2 w v l) (turn : Int) (wt : (Lit.int .i64 turn).wf = true) : Calls Try.prog 7 #[v, .int .i64 turn] w fun e w' => e = .returned (.bool true) ∧ Fr [] w w' := by
  obtain ⟨⟨A, c, rfl, hC, hSZ⟩, A', n', c', hcc, hcap⟩ := hv
  injection hcc with hc1 hc2 hc3
  subst hc1 hc2 hc3
  have HSZ := Lib.hid hSZ
  obtain ⟨N, hN⟩ : ∃ N, l.length = N := ⟨_, rfl⟩
  rw [hN] at hC hcap ⊢
  have HC := Lib.hid hC
  have HN := Lib.hid hN
  have HAL := Lib.hid (alive_calls (w := w))
  refine calls_k fun R hR => ?_
  clear hC hN hSZ
  by_cases hbig : (16 : Int) < (N : Int)
  · go_enter Try.func7, Try.ntmps7
    go_wp2_with (go_at_call 10; refine HAL.out.mono ?_; rintro e w1 ⟨rfl, hF1⟩)
    exact hR.out _ _ ⟨rfl, hF1⟩
  by_cases hneg : turn < 0
  · go_enter Try.func7, Try.ntmps7
    go_wp2_with (go_at_call 10; refine HAL.out.mono ?_; rintro e w1 ⟨rfl, hF1⟩)
    exact hR.out _ _ ⟨rfl, hF1⟩
  have k1 : True := trivial
  go_enter Try.func7, Try.ntmps7
  go_upto_region 7 with (first
    | (go_at_call 10; refine HAL.out.mono ?_; rintro e w1 ⟨rfl, hF1⟩
       have HF1 := Lib.hid hF1
       have HNW := Lib.hid (new_calls (w := w1))
       clear hF1 HAL)
    | (have _t := k1; go_at_call 11; refine HNW.out.mono ?_; rintro e w2 ⟨pa, rfl, hT2, hF2, hp2⟩
       have HF2 := Lib.hid (HF1.out.trans hF2 (by simp))
       have HTA2 := Lib.hid hT2
       have HNV := Lib.hid (new_calls (w := w2))
       clear hF2 hT2 HNW hp2 k1)
    | (go_at_call 11; refine HNV.out.mono ?_; rintro e w3 ⟨pb, rfl, hT3, hF3, hp3⟩
       have HF23 := Lib.hid hF3
       have HF3 := Lib.hid (HF2.out.trans hF3 (by simp))
       have HTB3 := Lib.hid hT3
       clear hF3 hT3 HNV hp3))
  have hs1 := HF1.out.size
  have hs2 := HF2.out.size
  have hs3 := HF23.out.size
  obtain ⟨RB, hRB⟩ : ∃ RB : Nat → Prop, RB = fun k => w2.heap.size ≤ k ∧ k < w3.heap.size := ⟨_, rfl⟩
  obtain ⟨Xa, hXa⟩ : ∃ Xa : Nat → Prop, Xa = fun k => k < w.heap.size ∨ RB k := ⟨_, rfl⟩
  obtain ⟨Xb, hXb⟩ : ∃ Xb : Nat → Prop, Xb = fun k => ¬ RB k := ⟨_, rfl⟩
  have HTA : Hid (TrAt Xa w3 pa ⟨[], []⟩) := by
    refine (HTA2.out.later HF23.out (by simp)).grow (fun k hk _ => ?_)
    rw [hXa, hRB] at hk
    rcases hk with hk | hk
    · exact .inl (by omega)
    · exact .inr hk
  have HTB : Hid (TrAt Xb w3 pb ⟨[], []⟩) := by
    refine HTB3.out.grow (fun k hk hl => ?_)
    rw [hXb, hRB] at hk
    simp only [not_and, Nat.not_lt] at hk
    by_cases h : w2.heap.size ≤ k
    · have := hk h; omega
    · omega
  have HRW : Hid (∀ k, RB k → w.heap.size ≤ k ∧ k < w3.heap.size) := by
    intro k hk
    rw [hRB] at hk
    exact ⟨by omega, hk.2⟩
  have HXA : Hid (∀ k, Xa k ↔ (k < w.heap.size ∨ RB k)) := fun k => by rw [hXa]
  have HXB : Hid (∀ k, Xb k ↔ ¬ RB k) := fun k => by rw [hXb]
  clear hRB hXa hXb HTA2 HTB3 HF23 HF2 HF1 hs1 hs2 hs3
  go_loopg [25] N (fun gn i wr => ∃ (m j : Nat) (t : Tr), m = gn ∧ i = .int .i64 j ∧ m + j = N ∧ Hid (t.Full (l.take j)) ∧ Hid (((l.take j).map nameB).Nodup) ∧ Hid (TrAt Xa wr pa t) ∧ Hid (TrAt Xb wr pb ⟨[], []⟩) ∧ Hid (Fr [] w wr) ∧ Hid (w3.heap.size ≤ wr.heap.size))
  case atStart => exact ⟨_, 0, ⟨[], []⟩, rfl, rfl, rfl, Tr.full_nil, by unfold Hid; simp, HTA, HTB, HF3, Nat.le_refl _⟩
  case round =>
    obtain ⟨m, j, t, rfl, rfl, hj, HFU, HND, HT, HT', HF, HS3⟩ := hrel
    clear HTA HTB HF3
    by_cases hlt : j < N
    · obtain ⟨wO, rfl⟩ : ∃ wO, wO = wr := ⟨_, rfl⟩
      obtain ⟨ad, q, hq, rfl, c0, c1, c2, c3, c4, hqc, hqC⟩ := blocks_at HC.out j hlt
      replace c0 := cellF HF.out c0
      replace c1 := cellF HF.out c1
      replace c2 := cellF HF.out c2
      replace c3 := cellF HF.out c3
      replace c4 := cellF HF.out c4
      have hqs := HSZ.out q.b (List.mem_of_getElem? hq)
      have HQ := Lib.hid hq
      have HQC := Lib.hid hqC
      obtain ⟨W8, hW8⟩ : ∃ W8, W8 = wO.alloc (.cells #[.int .i64 q.b.f0, .int .i64 q.b.f1, .int .i64 q.b.f2, .int .i64 q.b.f3, .slice q.A q.b.f4.length q.c] 28) := ⟨_, rfl⟩
      obtain ⟨g, hg⟩ : ∃ g, g = wO.heap.size := ⟨_, rfl⟩
      have hF8 : Fr [] wO W8 := by rw [hW8]; exact (Fr.refl _ _).alloc _
      have hB8 : BlkIn W8 g q := by rw [hg]; exact BlkIn.made hW8
      have HB8 := Lib.hid hB8
      have HFO8 := Lib.hid hF8
      have HFW8 := Lib.hid (HF.out.trans hF8 (by simp))
      have hjc : j ≤ c := by omega
      have hjN : (j : Int) ≤ (N : Int) := by omega
      clear hqC hq hF8 hB8
      go_upto_region 9 with (fail)
      rw [← hW8, ← hg]
      clear hW8 hg c0 c1 c2 c3 c4
      go_upto_region 10 with (fail)
      go_loopg [34] j (fun gn i wr => ∃ (m2 k : Nat), m2 = gn ∧ i = .int .i64 k ∧ m2 + k = j ∧ Hid (∀ i, i < k → nameB (l.getD i z28) ≠ nameB q.b) ∧ Hid (Fr [] W8 wr))
      case atStart => exact ⟨_, 0, rfl, rfl, rfl, fun i hi => absurd hi (Nat.not_lt_zero _), Fr.refl _ _⟩
      case round =>
        obtain ⟨m2, k, rfl, rfl, hk, HUN, HFx⟩ := hrel
        by_cases hkl : k < j
        · obtain ⟨ad2, q2, hq2, he2, c0, c1, c2, c3, c4, hq2c, hq2C⟩ := blocks_at HC.out k (by omega)
          injection he2 with he2
          subst he2
          have HFwx := Lib.hid (HFW8.out.trans HFx.out (by simp))
          replace c0 := cellF HFwx.out c0
          replace c1 := cellF HFwx.out c1
          replace c2 := cellF HFwx.out c2
          replace c3 := cellF HFwx.out c3
          replace c4 := cellF HFwx.out c4
          have hgd : l.getD k z28 = q2.b := by rw [List.getD_eq_getElem?_getD, hq2]; rfl
          obtain ⟨W9, hW9⟩ : ∃ W9, W9 = wr.alloc (.cells #[.int .i64 q2.b.f0, .int .i64 q2.b.f1, .int .i64 q2.b.f2, .int .i64 q2.b.f3, .slice q2.A q2.b.f4.length q2.c] 28) := ⟨_, rfl⟩
          obtain ⟨g2, hg2⟩ : ∃ g2, g2 = wr.heap.size := ⟨_, rfl⟩
          have hF9 : Fr [] wr W9 := by rw [hW9]; exact (Fr.refl _ _).alloc _
          have hB9 : BlkIn W9 g2 q2 := by rw [hg2]; exact BlkIn.made hW9
          have HF9 := Lib.hid (HFx.out.trans hF9 (by simp))
          have HFw9 := Lib.hid (HFwx.out.trans hF9 (by simp))
          have HSF : Hid (∀ W, Fr [] W9 W → W.cell? ⟨g, 0, none⟩ = some (.int .i64 q.b.f0) ∧ W.cell? ⟨g, 1, none⟩ = some (.int .i64 q.b.f1) ∧ W.cell? ⟨g, 2, none⟩ = some (.int .i64 q.b.f2) ∧ W.cell? ⟨g, 3, none⟩ = some (.int .i64 q.b.f3) ∧ W.cell? ⟨g, 4, none⟩ = some (.slice q.A q.b.f4.length q.c) ∧ W.cell? ⟨g2, 0, none⟩ = some (.int .i64 q2.b.f0) ∧ W.cell? ⟨g2, 1, none⟩ = some (.int .i64 q2.b.f1) ∧ W.cell? ⟨g2, 2, none⟩ = some (.int .i64 q2.b.f2) ∧ W.cell? ⟨g2, 3, none⟩ = some (.int .i64 q2.b.f3) ∧ W.cell? ⟨g2, 4, none⟩ = some (.slice q2.A q2.b.f4.length q2.c)) := fun W hW => by
            obtain ⟨x0, x1, x2, x3, x4⟩ := (HB8.out.fr (HF9.out.trans hW (by simp))).cells
            obtain ⟨y0, y1, y2, y3, y4⟩ := (hB9.fr hW).cells
            exact ⟨x0, x1, x2, x3, x4, y0, y1, y2, y3, y4⟩
          have HNM1 : Hid (∀ W, Fr [] W9 W → Calls Try.prog 22 #[.agg #[.int .i64 q.b.f0, .int .i64 q.b.f1, .int .i64 q.b.f2, .int .i64 q.b.f3, .slice q.A q.b.f4.length q.c]] W fun e w' => e = .returned (.int .i64 (nameB q.b)) ∧ Fr [] W w') := fun W hW =>
            (name_calls q.b q.A q.c (Kd.C_below HQC.out (HFw9.out.trans hW (by simp)).below) hqc).mono (fun e w' h => ⟨h.1, Fr.of_below [] h.2⟩)
          have HNM2 : Hid (∀ W, Fr [] W9 W → Calls Try.prog 22 #[.agg #[.int .i64 q2.b.f0, .int .i64 q2.b.f1, .int .i64 q2.b.f2, .int .i64 q2.b.f3, .slice q2.A q2.b.f4.length q2.c]] W fun e w' => e = .returned (.int .i64 (nameB q2.b)) ∧ Fr [] W w') := fun W hW =>
            (name_calls q2.b q2.A q2.c (Kd.C_below hq2C (HFw9.out.trans hW (by simp)).below) hq2c).mono (fun e w' h => ⟨h.1, Fr.of_below [] h.2⟩)
          clear hq2C hq2 hF9 hB9
          go_upto_region 12 with (fail)
          rw [← hW9, ← hg2]
          clear hW9 hg2 c0 c1 c2 c3 c4
          have HD0 : Hid (Fr [] W9 W9.drew) := (Fr.refl _ _).drew
          have hSD := HSF.out _ HD0.out
          by_cases hsame : nameB q.b = nameB q2.b
          · have hsb : (nameB q.b == nameB q2.b) = true := by simpa using hsame
            clear hsame
            go_region_held3 (fun W => W.cell? ⟨g, 0, none⟩ = some (.int .i64 q.b.f0) ∧ W.cell? ⟨g, 1, none⟩ = some (.int .i64 q.b.f1) ∧ W.cell? ⟨g, 2, none⟩ = some (.int .i64 q.b.f2) ∧ W.cell? ⟨g, 3, none⟩ = some (.int .i64 q.b.f3) ∧ W.cell? ⟨g, 4, none⟩ = some (.slice q.A q.b.f4.length q.c) ∧ W.cell? ⟨g2, 0, none⟩ = some (.int .i64 q2.b.f0) ∧ W.cell? ⟨g2, 1, none⟩ = some (.int .i64 q2.b.f1) ∧ W.cell? ⟨g2, 2, none⟩ = some (.int .i64 q2.b.f2) ∧ W.cell? ⟨g2, 3, none⟩ = some (.int .i64 q2.b.f3) ∧ W.cell? ⟨g2, 4, none⟩ = some (.slice q2.A q2.b.f4.length q2.c))
              (assumption)
              (first
                | (go_at_call 22; refine (HNM1.out _ HD0.out).mono ?_; rintro e z1 ⟨rfl, hF1⟩; have HD1 := Lib.hid (HD0.out.trans hF1 (by simp)); have hS1 := HSF.out _ HD1.out; clear hF1 HNM1)
                | (go_at_call 22; refine (HNM2.out _ HD1.out).mono ?_; rintro e z2 ⟨rfl, hF2⟩; have HD2 := Lib.hid (HD1.out.trans hF2 (by simp)); have hS2 := HSF.out _ HD2.out; clear hF2 HNM2))
            all_goals (go_wp2; exact hR.out _ _ ⟨rfl, HFw9.out.trans HD2.out (by simp)⟩)
          · have hsb : (nameB q.b == nameB q2.b) = false := by simpa using hsame
            have HNE := Lib.hid hsame
            have HGD := Lib.hid hgd
            clear hsame hgd
            go_region_held3 (fun W => W.cell? ⟨g, 0, none⟩ = some (.int .i64 q.b.f0) ∧ W.cell? ⟨g, 1, none⟩ = some (.int .i64 q.b.f1) ∧ W.cell? ⟨g, 2, none⟩ = some (.int .i64 q.b.f2) ∧ W.cell? ⟨g, 3, none⟩ = some (.int .i64 q.b.f3) ∧ W.cell? ⟨g, 4, none⟩ = some (.slice q.A q.b.f4.length q.c) ∧ W.cell? ⟨g2, 0, none⟩ = some (.int .i64 q2.b.f0) ∧ W.cell? ⟨g2, 1, none⟩ = some (.int .i64 q2.b.f1) ∧ W.cell? ⟨g2, 2, none⟩ = some (.int .i64 q2.b.f2) ∧ W.cell? ⟨g2, 3, none⟩ = some (.int .i64 q2.b.f3) ∧ W.cell? ⟨g2, 4, none⟩ = some (.slice q2.A q2.b.f4.length q2.c))
              (assumption)
              (first
                | (go_at_call 22; refine (HNM1.out _ HD0.out).mono ?_; rintro e z1 ⟨rfl, hF1⟩; have HD1 := Lib.hid (HD0.out.trans hF1 (by simp)); have hS1 := HSF.out _ HD1.out; clear hF1 HNM1)
                | (go_at_call 22; refine (HNM2.out _ HD1.out).mono ?_; rintro e z2 ⟨rfl, hF2⟩; have HD2 := Lib.hid (HD1.out.trans hF2 (by simp)); have hS2 := HSF.out _ HD2.out; clear hF2 HNM2))
            all_goals
              go_wp2
              obtain ⟨m3, rfl⟩ : ∃ m3, m2 = m3 + 1 := ⟨m2 - 1, by omega⟩
              go_roundg m3
              case rel =>
                refine ⟨m3, k + 1, rfl, by go_num, by omega, fun i hi => ?_, HF9.out.trans HD2.out (by simp)⟩
                by_cases hik : i = k
                · subst hik; rw [HGD.out]; exact fun e => HNE.out e.symm
                · exact HUN.out i (by omega)
              case measure => omega
        · obtain rfl : k = j := by omega
          have hnew : nameB q.b ∉ (l.take k).map nameB := by
            intro hm
            obtain ⟨b, hb, hbn⟩ := List.mem_map.1 hm
            obtain ⟨i, hi⟩ := List.mem_iff_getElem?.1 hb
            have hil := (List.getElem?_eq_some_iff.1 hi).1
            rw [List.length_take] at hil
            rw [List.getElem?_take, if_pos (by omega)] at hi
            have := HUN.out i (by omega)
            rw [List.getD_eq_getElem?_getD, hi] at this
            exact this hbn
          have hll : (l.take k).length < 16 := by rw [List.length_take, HN.out]; omega
          have hfull := HFU.out.step hll hnew
          have htk : l.take (k + 1) = l.take k ++ [q.b] := by rw [List.take_add_one, HQ.out]; rfl
          have hnd' : ((l.take (k + 1)).map nameB).Nodup := by
            rw [htk, List.map_append, List.nodup_append]
            exact ⟨HND.out, by simp, fun x hx y hy => by simp at hy; subst hy; intro e; subst e; exact hnew hx⟩
          rw [← htk] at hfull
          obtain ⟨T', L3, OK, hadd⟩ : ∃ T' L3 OK, t.add q.b = (T', L3, OK) := ⟨_, _, _, rfl⟩
          rw [hadd] at hfull
          have HADD := Lib.hid hadd
          have HFU' : Hid (T'.Full (l.take (k + 1))) := hfull
          have HND' := Lib.hid hnd'
          have HFwx := Lib.hid (HFW8.out.trans HFx.out (by simp))
          have HFOx := Lib.hid (HFO8.out.trans HFx.out (by simp))
          obtain ⟨e0, e1, e2, e3, e4⟩ := (HB8.out.fr HFx.out).cells
          have HCP := Lib.hid (copy_C q (Kd.C_below HQC.out HFwx.out.below) hqs)
          clear hnew hll hfull htk hnd' hadd
          go_wp2_with (first
            | (go_at_call 17; refine HCP.out.mono ?_; rintro e wf ⟨A3, d3, rfl, hd3, hC3, hFf⟩
               have HFwf := Lib.hid (HFwx.out.trans hFf (by simp))
               have HFOf := Lib.hid (HFOx.out.trans hFf (by simp))
               have hsO := HFOf.out.size
               have hXlt : ∀ k', Xa k' → k' < wf.heap.size := fun k' hk' => by
                 have h3 := HS3.out
                 have h4 := HFwf.out.size
                 rcases (HXA.out k').1 hk' with h5 | h5
                 · omega
                 · have := (HRW.out k' h5).2; omega
               have HAC := Lib.hid (add_C (HT.out.fr HFOf.out) HFU.out.good q.b hC3 hd3 hXlt HADD.out)
               clear hFf hC3 HCP hXlt hsO)
            | (go_at_call 16; refine HAC.out.mono ?_; rintro e wg ⟨A4, d4, rfl, hO4, hTg, hXg⟩
               have HTg := Lib.hid hTg
               have HFwg := Lib.hid (hXg.keep (fun k' hk' => (HXA.out k').2 (.inl hk')) HFwf.out)
               have HTBg : Hid (TrAt Xb wg pb ⟨[], []⟩) := by
                 obtain ⟨S, h1, h2⟩ := hXg
                 exact (HT'.out.fr HFOf.out).frX h1 (fun k' hk' => .inl ((HXB.out k').2 (fun hr => h2 k' hk' ((HXA.out k').2 (.inr hr)))))
               have HSg : Hid (w3.heap.size ≤ wg.heap.size) := by
                 have := HS3.out
                 have := HFOf.out.size
                 have := hXg.size
                 unfold Hid; omega
               clear hO4 hTg hXg HAC e0 e1 e2 e3 e4))
          obtain ⟨m', rfl⟩ : ∃ m', m = m' + 1 := ⟨m - 1, by omega⟩
          go_roundg m'
          case rel => exact ⟨m', k + 1, T', rfl, by go_num, by omega, HFU', HND', HTg, HTBg, HFwg, HSg⟩
          case measure => omega
    · obtain rfl : N = j := by omega
      obtain ⟨wz, rfl⟩ : ∃ wz, wz = wr := ⟨_, rfl⟩
      have hfu := HFU.out
      have hnd := HND.out
      rw [List.take_of_length_le (by rw [HN.out]; exact Nat.le_refl _)] at hfu hnd
      obtain ⟨T, hT, hT1⟩ : ∃ T : Nat, Int.tmod turn 1000 = (T : Int) ∧ T < 1000 := by
        refine ⟨(turn % 1000).toNat, ?_, by omega⟩
        rw [Int.tmod_eq_emod_of_nonneg (by omega)]; omega
      obtain ⟨Xb2, hXb2⟩ : ∃ X : Nat → Prop, X = fun k => k < wz.heap.size ∧ ¬ RB k := ⟨_, rfl⟩
      obtain ⟨Xa2, hXa2⟩ : ∃ X : Nat → Prop, X = fun k => wz.heap.size ≤ k ∨ RB k := ⟨_, rfl⟩
      have HXB2 : Hid (∀ k, Xb2 k ↔ (k < wz.heap.size ∧ ¬ RB k)) := fun k => by rw [hXb2]
      have HXA2 : Hid (∀ k, Xa2 k ↔ (wz.heap.size ≤ k ∨ RB k)) := fun k => by rw [hXa2]
      have HTB0 : Hid (TrAt Xb2 wz pb ⟨[], []⟩) := HT'.out.grow (fun k hk _ => (HXB.out k).2 ((HXB2.out k).1 hk).2)
      have HTA0 : Hid (TrAt Xa2 wz pa t) := HT.out.grow (fun k hk hl => (HXA.out k).2 (.inr (((HXA2.out k).1 hk).resolve_left (by omega))))
      have HFUL := Lib.hid hfu
      have HNDL := Lib.hid hnd
      clear hXb2 hXa2 hfu hnd
      go_upto_region 18 with (fail)
      go_loopg [51] N (fun gn i wr => ∃ (m2 i2 : Nat) (s : Tr), m2 = gn ∧ i = .int .i64 i2 ∧ m2 + i2 = N ∧ Hid (s.Full (turned l T i2)) ∧ Hid (TrAt Xb2 wr pb s) ∧ Hid (TrAt Xa2 wr pa t) ∧ Hid (Fr [] w wr) ∧ Hid (wz.heap.size ≤ wr.heap.size))
      case atStart => exact ⟨_, 0, ⟨[], []⟩, rfl, rfl, rfl, Tr.full_nil, HTB0, HTA0, HF, Nat.le_refl _⟩
      case round =>
        obtain ⟨m2, i2, s, rfl, rfl, hi2, HFS, HTS, HTT, HFr, HSZ3⟩ := hrel
        clear HTB0 HTA0
        by_cases hlt2 : i2 < N
        · obtain ⟨J, hJ⟩ : ∃ J, J = (T + N - 1 - i2) % N := ⟨_, rfl⟩
          have hJN : J < N := by rw [hJ]; exact Nat.mod_lt _ (by omega)
          obtain ⟨ad, q, hq, rfl, c0, c1, c2, c3, c4, hqc, hqC⟩ := blocks_at HC.out J hJN
          replace c0 := cellF HFr.out c0
          replace c1 := cellF HFr.out c1
          replace c2 := cellF HFr.out c2
          replace c3 := cellF HFr.out c3
          replace c4 := cellF HFr.out c4
          have hqs := HSZ.out q.b (List.mem_of_getElem? hq)
          have hqd : l.getD ((T + l.length - 1 - i2) % l.length) z28 = q.b := by
            rw [HN.out, ← hJ, List.getD_eq_getElem?_getD, hq]; rfl
          have hnew := turned_new HNDL.out T (i := i2) (by rw [HN.out]; exact hlt2)
          have hstep := HFS.out.step (by unfold turned; simp; omega) hnew
          rw [← turned_succ, hqd] at hstep
          obtain ⟨T', L3, OK, hadd⟩ : ∃ T' L3 OK, s.add q.b = (T', L3, OK) := ⟨_, _, _, rfl⟩
          rw [hadd] at hstep
          have HSTEP : Hid (T'.Full (turned l T (i2 + 1))) := hstep
          have HADD := Lib.hid hadd
          have HCP := Lib.hid (copy_C q (Kd.C_below hqC HFr.out.below) hqs)
          have hN1 : (N : Int) ≠ 0 := by omega
          have hN2 : N ≠ 0 := by omega
          have hJ1 : (J : Int) < (N : Int) := by omega
          have hJ2 : (0 : Int) ≤ (J : Int) := by omega
          have b0 : -9223372036854775808 ≤ (T : Int) + (N : Int) ∧ (T : Int) + (N : Int) ≤ 9223372036854775807 := by omega
          have b1 : -9223372036854775808 ≤ (T : Int) + (N : Int) - 1 ∧ (T : Int) + (N : Int) - 1 ≤ 9223372036854775807 := by omega
          have b2 : -9223372036854775808 ≤ (T : Int) + (N : Int) - 1 - (i2 : Int) ∧ (T : Int) + (N : Int) - 1 - (i2 : Int) ≤ 9223372036854775807 := by omega
          have b3 : -9223372036854775808 ≤ (J : Int) ∧ (J : Int) ≤ 9223372036854775807 := by omega
          have b4 : (T : Int) + (N : Int) - 1 - (i2 : Int) = ((T + N - 1 - i2 : Nat) : Int) := by omega
          have h66 : ∀ [Inhabited Nat], Int.tmod ((T : Int) + (N : Int) - 1 - (i2 : Int)) (N : Int) = (J : Int) := by
            intro _
            rw [b4, Int.tmod_eq_emod_of_nonneg (Int.natCast_nonneg _), hJ]
            exact (Int.natCast_emod _ _).symm
          have h60 : ∀ [Inhabited Nat], wrap64 ((T : Int) + (N : Int)) = (T : Int) + (N : Int) := by intro _; exact wr_in _ b0
          have h61 : ∀ [Inhabited Nat], wrap64 ((T : Int) + (N : Int) - 1) = (T : Int) + (N : Int) - 1 := by intro _; exact wr_in _ b1
          have h63 : ∀ [Inhabited Nat], wrap64 ((T : Int) + (N : Int) - 1 - (i2 : Int)) = (T : Int) + (N : Int) - 1 - (i2 : Int) := by intro _; exact wr_in _ b2
          have hwJ : ∀ [Inhabited Nat], wrap64 (J : Int) = (J : Int) := by intro _; exact wr_in _ b3
          clear b0 b1 b2 b3 b4
          clear hqC hq hqd hnew hstep hadd hJ
          go_wp2_with (first
            | (go_at_call 17; refine HCP.out.mono ?_; rintro e wf ⟨A3, d3, rfl, hd3, hC3, hFf⟩
               clear h60 h61 h63 h66 hwJ
               have HFf := Lib.hid hFf
               have HFwf := Lib.hid (HFr.out.trans hFf (by simp))
               have hXlt : ∀ k', Xb2 k' → k' < wf.heap.size := fun k' hk' => by
                 have h3 := HSZ3.out
                 have h4 := HFf.out.size
                 have := ((HXB2.out k').1 hk').1
                 omega
               have HAC := Lib.hid (add_C (HTS.out.fr hFf) HFS.out.good q.b hC3 hd3 hXlt HADD.out)
               clear hFf hC3 HCP hXlt)
            | (go_at_call 16; refine HAC.out.mono ?_; rintro e wg ⟨A4, d4, rfl, hO4, hTg, hXg⟩
               have HTg := Lib.hid hTg
               have HFwg := Lib.hid (hXg.keep (fun k' hk' => (HXB2.out k').2 ⟨Nat.lt_of_lt_of_le hk' HF.out.size, fun hr => by have := (HRW.out k' hr).1; omega⟩) HFwf.out)
               have HTTg : Hid (TrAt Xa2 wg pa t) := by
                 obtain ⟨S, h1, h2⟩ := hXg
                 refine (HTT.out.fr HFf.out).frX h1 (fun k' hk' => .inl ((HXA2.out k').2 ?_))
                 by_cases hz : wz.heap.size ≤ k'
                 · exact .inl hz
                 · exact .inr (Classical.byContradiction (fun hr => h2 k' hk' ((HXB2.out k').2 ⟨by omega, hr⟩)))
               have HSg : Hid (wz.heap.size ≤ wg.heap.size) := by
                 have := HSZ3.out
                 have := HFf.out.size
                 have := hXg.size
                 unfold Hid; omega
               clear hO4 hTg hXg HAC))
          obtain ⟨m', rfl⟩ : ∃ m', m2 = m' + 1 := ⟨m2 - 1, by omega⟩
          go_roundg m'
          case rel => exact ⟨m', i2 + 1, T', rfl, by go_num, by omega, HSTEP, HTg, HTTg, HFwg, HSg⟩
          case measure => omega
        · obtain rfl : N = i2 := by omega
          have hsame : t.Same s := Tr.turns HFUL.out (by have := HFS.out; rw [← HN.out] at this; exact this) (turned_perm l T HNDL.out) HNDL.out
          have HS := Lib.hid hsame
          have hgT := HFUL.out.good
          have hgS := HFS.out.good
          have HGT := Lib.hid hgT
          have HGS := Lib.hid hgS
          have HFc : Hid (Fr [] wr wr) := Fr.refl _ _
          have t1 : True := trivial
          have t2 : True := trivial
          have t3 : True := trivial
          have t4 : True := trivial
          have t5 : True := trivial
          clear hsame hgT hgS
          go_wp2_with (first
            | (have _t := t1; go_at_call 12; refine (names_calls (HTT.out.fr HFc.out) HGT.out.kn).mono ?_; rintro e x1 ⟨v1, rfl, hO1, hF1⟩
               replace HFc := Lib.hid (HFc.out.trans hF1 (by simp))
               have HO1 := Lib.hid hO1
               clear hF1 hO1 t1)
            | (go_at_call 12; refine (names_calls (HTS.out.fr HFc.out) HGS.out.kn).mono ?_; rintro e x2 ⟨v2, rfl, hO2, hF2⟩
               rw [← HS.out.names] at hO2
               replace HFc := Lib.hid (HFc.out.trans hF2 (by simp))
               have HSM := Lib.hid (same_sl (HO1.out.fr hF2 (by simp)).sl hO2.sl)
               simp only [decide_true] at HSM
               clear hF2 hO2)
            | (have _t := t2; go_at_call 18; refine HSM.out.mono ?_; rintro e x3 ⟨rfl, hF3⟩
               replace HFc := Lib.hid (HFc.out.trans hF3 (by simp))
               clear hF3 HSM t2)
            | (have _t := t3; go_at_call 13; refine (tip_calls (HTT.out.fr HFc.out) HGT.out.ok).mono ?_; rintro e x4 ⟨rfl, hF4⟩
               replace HFc := Lib.hid (HFc.out.trans hF4 (by simp))
               clear hF4 t3)
            | (go_at_call 13; refine (tip_calls (HTS.out.fr HFc.out) HGS.out.ok).mono ?_; rintro e x5 ⟨rfl, hF5⟩
               rw [← HS.out.tip]
               replace HFc := Lib.hid (HFc.out.trans hF5 (by simp))
               clear hF5)
            | (have _t := t4; go_at_call 20; refine (waiting_calls (HTT.out.fr HFc.out) HGT.out.wt).mono ?_; rintro e x6 ⟨v6, rfl, hO6, hF6⟩
               obtain ⟨A6, d6, rfl⟩ := hO6.formN (N := t.wait.length) (by simp)
               replace HFc := Lib.hid (HFc.out.trans hF6 (by simp))
               clear hF6 hO6 t4)
            | (go_at_call 20; refine (waiting_calls (HTS.out.fr HFc.out) HGS.out.wt).mono ?_; rintro e x7 ⟨v7, rfl, hO7, hF7⟩
               obtain ⟨A7, d7, rfl⟩ := hO7.formN (N := t.wait.length) (by rw [List.length_map]; exact HS.out.wait.symm)
               replace HFc := Lib.hid (HFc.out.trans hF7 (by simp))
               clear hF7 hO7)
            | (have _t := t5; go_at_call 25; refine (missing_calls (HTT.out.fr HFc.out) HGT.out.wt).mono ?_; rintro e x8 ⟨v8, rfl, hO8, hF8⟩
               replace HFc := Lib.hid (HFc.out.trans hF8 (by simp))
               have HO8 := Lib.hid hO8
               clear hF8 hO8 t5)
            | (go_at_call 25; refine (missing_calls (HTS.out.fr HFc.out) HGS.out.wt).mono ?_; rintro e x9 ⟨v9, rfl, hO9, hF9⟩
               rw [← HS.out.missing] at hO9
               replace HFc := Lib.hid (HFc.out.trans hF9 (by simp))
               have HSN := Lib.hid (same_sl (HO8.out.fr hF9 (by simp)).sl hO9.sl)
               simp only [decide_true] at HSN
               clear hF9 hO9)
            | (go_at_call 18; refine HSN.out.mono ?_; rintro e y1 ⟨rfl, hF10⟩
               replace HFc := Lib.hid (HFc.out.trans hF10 (by simp))
               clear hF10 HSN))
          exact hR.out _ _ ⟨rfl, HFr.out.trans HFc.out (by simp)⟩
end Go.Np.Try
