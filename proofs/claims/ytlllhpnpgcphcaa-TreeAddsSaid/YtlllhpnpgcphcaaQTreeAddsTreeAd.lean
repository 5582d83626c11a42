/- A text that the row of TreeAdds needs. (Pruned by tools/prune.py.) -/
import Derived.Test.YtlllhpnpgcphcaaQTreeAddsTreeRj
set_option linter.unusedVariables false
set_option linter.unusedSimpArgs false
namespace Go.Np.Try
open Go.RowKit Go.Proofs Go.Proofs.Ytlllhpnpgcphcaa.PX Go.Proofs.YtlllhpnpgcphcaaW.PrintWords
theorem own_set {w : World} {e : TypeId} {sz n g c i : Nat} {xs : List Value} (h : w.ownsRow 0 e sz (.slice (some ⟨g, 0, none⟩) n c) n xs) (hi : i < xs.length) (u : Value) : (w.setCell ⟨g, i, none⟩ u).ownsRow 0 e sz (.slice (some ⟨g, 0, none⟩) n c) n (xs.set i u) := by
  obtain ⟨h1, h2⟩ := h
  refine ⟨by simpa using h1, ?_⟩
  rcases h2 with ⟨h2, h3⟩ | ⟨g', cap, cur, h2, h3, h4, h5, h6, h7, h8⟩
  · simp at h2
  · injection h2 with h9 _ h10
    injection h9 with h9
    injection h9 with h9 _ _
    subst h9 h10
    refine .inr ⟨g, c, cur.setIfInBounds i u, rfl, h3, obj_set h4 i u, h5, h6, by simpa using h7, ?_⟩
    rw [← h8]
    apply List.ext_getElem?
    intro m
    simp only [List.getElem?_take, List.getElem?_set, Array.toList_setIfInBounds, List.length_take]
    have hcs : cur.toList.length = c * sz := by simpa using h7
    have hnc : n * sz ≤ c * sz := Nat.mul_le_mul_right _ h5
    by_cases hm : m < n * sz
    · rw [if_pos hm, if_pos hm]
      by_cases e : i = m
      · subst e
        rw [if_pos rfl, if_pos rfl, if_pos (by omega), if_pos (by omega)]
      · rw [if_neg e, if_neg e]
    · rw [if_neg hm, if_neg hm]
      by_cases e : i = m
      · subst e; exact absurd hi (by rw [h1]; exact hm)
      · rw [if_neg e]
theorem flatT_set (l : List S52) (j : Nat) (q : S52) (hq : l[j]? = some q) (b : Int) : (flatT l).set (j * 2 + 1) (.int .i64 b) = flatT (l.set j ⟨q.f0, b⟩) := by
  obtain ⟨hj, rfl⟩ := List.getElem?_eq_some_iff.1 hq
  apply List.ext_getElem?
  intro i
  rw [List.getElem?_set, flatT_get, flatT_get, flatT_len, List.getElem?_set]
  by_cases h1 : j * 2 + 1 = i
  · subst h1
    rw [if_pos rfl, if_pos (by omega), show (j * 2 + 1) / 2 = j by omega, show (j * 2 + 1) % 2 = 1 by omega, if_pos rfl, if_pos hj]
    rfl
  · rw [if_neg h1]
    by_cases h2 : j = i / 2
    · subst h2
      have h3 : i % 2 = 0 := by omega
      rw [if_pos rfl, if_pos hj, h3, List.getElem?_eq_getElem hj]
      rfl
    · rw [if_neg h2]
theorem own_tx {w : World} {A : Option Addr} {n c : Nat} {l : List S52} (h : w.ownsRow 0 52 2 (.slice A n c) n (flatT l)) (j : Nat) (q : S52) (hq : l[j]? = some q) : ∃ g, A = some ⟨g, 0, none⟩ ∧ w.cell? ⟨g, j * 2 + 1, none⟩ = some (.int .i64 q.f1) ∧ w.frozen? ⟨g, j * 2 + 1, none⟩ = false := by
  have hj := (List.getElem?_eq_some_iff.1 hq).1
  have h1 := h.1
  rw [flatT_len] at h1
  rcases h.2 with ⟨h2, h3⟩ | ⟨g, cap, cur, h2, _, h4, _, _, _, h5⟩
  · omega
  · injection h2 with h2 _ _
    have hu : (flatT l)[j * 2 + 1]? = some (.int .i64 q.f1) := by
      rw [flatT_get, show (j * 2 + 1) / 2 = j by omega, show (j * 2 + 1) % 2 = 1 by omega, hq]; rfl
    refine ⟨g, h2, ?_, froz_of h4 _⟩
    rw [cell_of h4, ← Array.getElem?_toList]
    rw [← h5, List.getElem?_take] at hu
    split at hu
    · exact hu
    · cases hu
theorem GRW.wrote {w W W' : World} {p g5 : Nat} {t s : Tr} {v0 v1 : Value} {X Y : Nat → Prop} {S : List Nat} (h : GRW w W p g5 t s v0 v1 X Y) (hF : Fr S W W') (hS : ∀ k ∈ S, X k ∧ ¬ Y k ∧ k ≠ g5) : GRW w W' p g5 t s v0 v1 X Y := by
  have hV : ∀ {v : Value} {l : List Blk}, VB W Y v l → VB W' Y v l := fun hv => Kd.V_step hv (fun k hk hl => hF.block k hl (fun hm => (hS k hm).2.1 hk))
  refine ⟨h.tr.frX hF (fun k hk => .inl (hS k hk).1), (hF.block g5 h.box.lt (fun hm => (hS _ hm).2.2 rfl)).trans h.box, hV h.ks, hV h.wait, h.y, fun k hk => Nat.lt_of_lt_of_le (h.x k hk) hF.size, h.old, h.g, h.fr.trans hF (fun k hk => .inr (Nat.le_of_not_lt (fun hl => (hS k hk).2.1 (h.old k hl))))⟩
theorem alloc_kept {w w' : World} {cs : Array Value} {t : TypeId} (h : Fr [] (w.alloc (.cells cs t)) w') : w'.heap[w.heap.size]? = some (.cells cs t (0, 0)) :=
  (h.block w.heap.size (by simp) (by simp)).trans (heap_alloc_new w _)
theorem alloc_kept' {w w' : World} {cs : Array Value} {t : TypeId} (h : Fr [] (w.alloc (.cells cs t)).drew w') : w'.heap[w.heap.size]? = some (.cells cs t (0, 0)) :=
  (h.block w.heap.size (by show _ < (w.alloc _).heap.size; simp) (by simp)).trans (heap_alloc_new w _)
theorem five_cells {w : World} {b : Nat} {x0 x1 x2 x3 x4 : Value} {t : TypeId} (h : w.heap[b]? = some (.cells #[x0, x1, x2, x3, x4] t (0, 0))) :
    w.cell? ⟨b, 0, none⟩ = some x0 ∧ w.cell? ⟨b, 1, none⟩ = some x1 ∧ w.cell? ⟨b, 2, none⟩ = some x2 ∧ w.cell? ⟨b, 3, none⟩ = some x3 ∧ w.cell? ⟨b, 4, none⟩ = some x4 ∧ w.frozen? ⟨b, 0, none⟩ = false ∧ w.frozen? ⟨b, 1, none⟩ = false ∧ w.frozen? ⟨b, 2, none⟩ = false ∧ w.frozen? ⟨b, 3, none⟩ = false ∧ w.frozen? ⟨b, 4, none⟩ = false := by
  have e0 := cell_of h 0
  have e1 := cell_of h 1
  have e2 := cell_of h 2
  have e3 := cell_of h 3
  have e4 := cell_of h 4
  simp at e0 e1 e2 e3 e4
  exact ⟨e0, e1, e2, e3, e4, froz_of h 0, froz_of h 1, froz_of h 2, froz_of h 3, froz_of h 4⟩
theorem get_few {t : Tr} (hO : t.Ok) (n : Int) : (t.get n).f4.length ≤ 1000000 := by
  unfold Tr.get
  cases hf : t.find n with
  | none => exact Nat.zero_le _
  | some e =>
    obtain ⟨h1, h2⟩ := Tr.find_some hf
    obtain ⟨h3, h4, _⟩ := hO.known e h1
    have := txs_few (b := e.blk) (by rw [← h3]; exact h4)
    show e.blk.f4.length ≤ _
    omega
set_option maxHeartbeats 16000000 in
set_option maxRecDepth 100000 in
theorem TreeAdds_walk (w : World) (v : Value) (l : List Blk) (hv : BlocksR w v l) : Calls Try.prog 4 #[v] w fun e w' => e = .returned (.bool true) ∧ Fr [] w w' := by
  obtain ⟨⟨A, c, rfl, hC, hSZ⟩, hRB⟩ := hv
  have HSZ := Lib.hid hSZ
  have HRB := Lib.hid hRB
  obtain ⟨N, hN⟩ : ∃ N, l.length = N := ⟨_, rfl⟩
  rw [hN] at hC ⊢
  have HC := Lib.hid hC
  have hNm : N ≤ 9223372036854775807 := hC.2.1
  have HAL := Lib.hid (alive_calls (w := w))
  refine calls_k fun R hR => ?_
  clear hC hN hSZ hRB
  by_cases hbig : (60 : Int) < (N : Int)
  · go_enter Try.func4, Try.ntmps4
    go_wp2_with (go_at_call 13; refine HAL.out.mono ?_; rintro e w1 ⟨rfl, hFn⟩)
    exact hR.out _ _ ⟨rfl, hFn⟩
  go_enter Try.func4, Try.ntmps4
  go_upto_region 6 with (first
    | (go_at_call 13; refine HAL.out.mono ?_; rintro e w0 ⟨rfl, hFn⟩
       have HF1 := Lib.hid hFn
       have HNW := Lib.hid (new_calls (w := w0))
       clear hFn HAL)
    | (go_at_call 26; refine HNW.out.mono ?_; rintro e w1 ⟨p, rfl, hT1, hF2, hp1⟩
       have HT1 := Lib.hid hT1
       have HF2 := Lib.hid hF2
       clear hT1 hF2 HNW hp1))
  go_upto_region 7 with (fail)
  obtain ⟨W2, hW2⟩ : ∃ W2, W2 = w1.alloc (.cells #[.slice none 0 0, .slice none 0 0] 27) := ⟨_, rfl⟩
  have hst := GRW.start HF1.out HF2.out HT1.out hW2
  obtain ⟨g5, hg5⟩ : ∃ g5, g5 = w1.heap.size := ⟨_, rfl⟩
  rw [← hg5] at hst
  have HST : Hid (∃ X Y : Nat → Prop, GRW w W2 p g5 ⟨[], []⟩ ⟨[], []⟩ (.slice none 0 0) (.slice none 0 0) X Y) := ⟨_, _, hst⟩
  rw [← hW2, ← hg5]
  clear hW2 hg5 hst HT1 HF2 HF1
  go_upto_region 8 with (fail)
  go_loopg [27] N (fun gn i wr => ∃ (m j : Nat) (t : Tr) (B0 : Option Addr) (d0 : Nat) (B1 : Option Addr) (d1 : Nat), m = gn ∧ i = .int .i64 j ∧ m + j = N ∧ Hid t.Good ∧ Hid t.Rng ∧ Hid (∃ X Y : Nat → Prop, GRW w wr p g5 t t (.slice B0 t.ks.length d0) (.slice B1 t.wait.length d1) X Y))
  case atStart => exact ⟨_, 0, ⟨[], []⟩, none, 0, none, 0, rfl, rfl, rfl, Tr.empty_good, Tr.empty_rng, HST⟩
  case round =>
    obtain ⟨m, j, t, B0, d0, B1, d1, rfl, rfl, hj, HG, HRG, HGW⟩ := hrel
    obtain ⟨wO, rfl⟩ : ∃ wO, wO = wr := ⟨_, rfl⟩
    clear HST
    obtain ⟨X, Y, hgw1⟩ := HGW.out
    have HG0 := Lib.hid hgw1
    clear hgw1 HGW
    by_cases hlt : j < N
    · obtain ⟨ad, q, hq, rfl, c0, c1, c2, c3, c4, hqc, hqC⟩ := blocks_at HC.out j hlt
      replace c0 := cellF HG0.out.fr c0
      replace c1 := cellF HG0.out.fr c1
      replace c2 := cellF HG0.out.fr c2
      replace c3 := cellF HG0.out.fr c3
      replace c4 := cellF HG0.out.fr c4
      have hqs := HSZ.out q.b (List.mem_of_getElem? hq)
      have HQR := Lib.hid (HRB.out q.b (List.mem_of_getElem? hq))
      have HQF := Lib.hid (txs_F hqC)
      have HQC := Lib.hid hqC
      have n1 : g5 < wO.heap.size := HG0.out.x g5 HG0.out.g
      obtain ⟨W8, hW8⟩ : ∃ W8, W8 = wO.alloc (.cells #[.int .i64 q.b.f0, .int .i64 q.b.f1, .int .i64 q.b.f2, .int .i64 q.b.f3, .slice q.A q.b.f4.length q.c] 32) := ⟨_, rfl⟩
      obtain ⟨g6, hg⟩ : ∃ g, g = wO.heap.size := ⟨_, rfl⟩
      have hF8 : Fr [] wO W8 := by rw [hW8]; exact (Fr.refl _ _).alloc _
      have hB8 : BlkIn W8 g6 q := by rw [hg]; exact BlkIn.made hW8
      have n2 : W8.heap.size = g6 + 1 := by rw [hW8, hg]; simp
      obtain ⟨e0, e1, e2, e3, e4⟩ := hB8.cells
      have HG8 := Lib.hid (HG0.out.mv hF8)
      have HCP := Lib.hid (copy_calls q (Kd.C_below HQC.out HG8.out.fr.below) hqs)
      simp only [blkV] at HCP
      obtain ⟨T', L3, OK, hadd⟩ : ∃ T' L3 OK, t.add q.b = (T', L3, OK) := ⟨_, _, _, rfl⟩
      have hG' := Tr.add_good HG.out q.b
      have hR' := Tr.add_rng HRG.out HQR.out
      rw [hadd] at hG' hR'
      have HAD := Lib.hid hadd
      have HG' := Lib.hid hG'
      have HR' := Lib.hid hR'
      have HB8 := Lib.hid hB8
      have HY8 : Hid (∀ k, Y k → k < g6) := fun k hk => by rw [hg]; exact HG0.out.x k (HG0.out.y k hk).1
      have n1' : g5 < g6 := by omega
      have HX6 : Hid ((fun k => X k ∨ (wO.heap.size ≤ k ∧ k < W8.heap.size)) g6) := .inr ⟨by omega, by omega⟩
      have n2' : g6 + 1 ≤ W8.heap.size := by omega
      have n2b : W8.heap.size ≤ g6 + 1 := by omega
      clear hqC hq hF8 hB8 hadd hG' hR' n1 n2
      go_upto_region 10 with (fail)
      rw [← hW8, ← hg]
      clear hW8 hg c0 c1 c2 c3 c4
      go_upto_region 11 with (first
        | (go_at_call 27; refine HCP.out.mono ?_; rintro e wf ⟨A3, d3, rfl, hr3, hn3, hFf⟩
           simp only [blkV]
           have HR3 := Lib.hid hr3
           have HN3 := Lib.hid hn3
           have HGf := Lib.hid (HG8.out.mv hFf)
           have HBf := Lib.hid (HB8.out.fr hFf)
           have n3 := hFf.size
           clear hFf hr3 hn3 HCP e0 e1 e2 e3 e4))
      obtain ⟨W9, hW9⟩ : ∃ W9, W9 = wf.alloc (.cells #[.int .i64 q.b.f0, .int .i64 q.b.f1, .int .i64 q.b.f2, .int .i64 q.b.f3, .slice A3 q.b.f4.length d3] 32) := ⟨_, rfl⟩
      obtain ⟨g7, hg7⟩ : ∃ g, g = wf.heap.size := ⟨_, rfl⟩
      have hF9 : Fr [] wf W9 := by rw [hW9]; exact (Fr.refl _ _).alloc _
      have hB9 : BlkIn W9 g7 ⟨q.b, A3, d3⟩ := by rw [hg7]; exact BlkIn.made hW9
      have n4 : W9.heap.size = g7 + 1 := by rw [hW9, hg7]; simp
      have HG9 := Lib.hid (HGf.out.mv hF9)
      have HB9 := Lib.hid hB9
      have HBf9 := Lib.hid (HBf.out.fr hF9)
      have HR9 := Lib.hid (row_fr HR3.out hF9 (fun k hk => by simp))
      have HRL : Hid (∀ k ∈ (Value.slice A3 q.b.f4.length d3).ownBlock.toList, g6 < k ∧ k < g7) := fun k hk => ⟨by have := HN3.out k hk; omega, by rw [hg7]; exact row_lt HR3.out k hk⟩
      have HX9 : Hid (∀ k, W8.heap.size ≤ k → k < W9.heap.size → ((X k ∨ wO.heap.size ≤ k ∧ k < W8.heap.size) ∨ W8.heap.size ≤ k ∧ k < wf.heap.size) ∨ wf.heap.size ≤ k ∧ k < W9.heap.size) := fun k h1 h2 => by
        by_cases h3 : k < wf.heap.size
        · exact .inl (.inr ⟨h1, h3⟩)
        · exact .inr ⟨by omega, h2⟩
      obtain ⟨B3', dd3', hee, hlc3, hC3⟩ := flatT_C HR9.out
      injection hee with hee1 _ hee3
      subst hee1 hee3
      have HAC := Lib.hid (add_C HG9.out.tr HG.out q.b hC3 hlc3 HG9.out.x HAD.out)
      have n3' : g6 < g7 := by omega
      have n4' : g7 < W9.heap.size := by omega
      have n4b : W8.heap.size ≤ g7 := by omega
      rw [← hW9, ← hg7]
      clear hW9 hF9 hB9 hC3 hg7 n4 n3
      obtain ⟨e0, e1, e2, e3, e4⟩ := HB9.out.cells
      go_upto_region 12 with (first
        | (go_at_call 28; refine HAC.out.mono ?_; rintro e wg ⟨A4, d4, rfl, hO4, hTg, hXg⟩
           have HGg := Lib.hid (HG9.out.added hTg hXg)
           have HBg := Lib.hid (HBf9.out.frX hXg (.inl (.inl HX6.out)))
           have HB7 := Lib.hid (HB9.out.frX hXg (HX9.out g7 n4b n4'))
           have HR7 : Hid (wg.ownsRow 0 52 2 (.slice A3 q.b.f4.length d3) q.b.f4.length (flatT q.b.f4)) := by
             obtain ⟨S, h1, h2⟩ := hXg
             exact row_fr HR9.out h1 (fun k hk hm => h2 k hm (HX9.out k (by have := HRL.out k hk; omega) (by have := HRL.out k hk; omega)))
           have HO4 := Lib.hid hO4
           have n5 := hXg.size
           clear hO4 hTg hXg HAC e0 e1 e2 e3 e4))
      obtain ⟨e0, e1, e2, e3, e4⟩ := HBg.out.cells
      obtain ⟨x20, x21, x22, x23⟩ := HGg.out.box.cells
      have HRA := Lib.hid (radd_calls' HG.out HRG.out HGg.out.ks HGg.out.wait q hqc (Kd.F_mono (Kd.F_below HQF.out HGg.out.fr.below) HGg.out.old) HQR.out)
      unfold RAddRes at HRA
      rw [HAD.out] at HRA
      go_upto_region 13 with (first
        | (go_at_call 29; refine HRA.out.mono ?_; rintro e wh ⟨C0, f0, C1, f1, D, d, rfl, hv0, hv1, hS, hFh⟩
           have HV0 := Lib.hid hv0
           have HV1 := Lib.hid hv1
           have HFh := Lib.hid hFh
           have HK := Lib.hid hS
           clear hv0 hv1 hS hFh HRA e0 e1 e2 e3 e4 x20 x21 x22 x23))
      obtain ⟨W10, hW10⟩ : ∃ W10, W10 = wh.alloc (.cells #[.slice C0 T'.ks.length f0, .slice C1 T'.wait.length f1] 27) := ⟨_, rfl⟩
      obtain ⟨g10, hg10⟩ : ∃ g, g = wh.heap.size := ⟨_, rfl⟩
      have hF10 : Fr [] wh W10 := by rw [hW10]; exact (Fr.refl _ _).alloc _
      have hN10 : TreeIn W10 g10 (.slice C0 T'.ks.length f0) (.slice C1 T'.wait.length f1) := by rw [hW10, hg10]; exact heap_alloc_new _ _
      have hFgA : Fr [] wg W10 := HFh.out.trans hF10 (by simp)
      have HGA := Lib.hid (HGg.out.doc hFgA (HV0.out.fr hF10) (HV1.out.fr hF10))
      have hBX := (HGg.out.mv hFgA).box
      obtain ⟨x20, x21, x22, x23⟩ := hBX.cells
      obtain ⟨y20, y21, y22, y23⟩ := hN10.cells
      have HFgA := Lib.hid hFgA
      have HK10 := Lib.hid (HK.out.fr hF10 (by simp))
      rw [← hW10, ← hg10]
      clear hW10 hg10 hF10 hN10 hFgA hBX
      go_upto_region 14 with (fail)
      obtain ⟨WA, hWA⟩ : ∃ WA, WA = (W10.setCell ⟨g5, 0, none⟩ (.slice C0 T'.ks.length f0)).setCell ⟨g5, 1, none⟩ (.slice C1 T'.wait.length f1) := ⟨_, rfl⟩
      have hF5 : Fr [g5] W10 WA := by rw [hWA]; exact ((Fr.refl _ _).setCell (.inl (by simp)) _).setCell (.inl (by simp)) _
      have hFA : Fr [g5] wg WA := (HFgA.out.mono (by simp)).trans hF5 (fun x hx => .inl hx)
      have hblk : ∀ {g : Nat} {r : BV}, g ≠ g5 → BlkIn wg g r → BlkIn WA g r := fun {g} {r} hne hb => (hFA.block g (Array.getElem?_eq_some_iff.1 hb).1 (by simpa using hne)).trans hb
      have HB6A := Lib.hid (hblk (by omega) HBg.out)
      have HB7A := Lib.hid (hblk (by omega) HB7.out)
      have HRA7 := Lib.hid (row_fr HR7.out hFA (fun k hk hm => by have := (HRL.out k hk).1; simp at hm; omega))
      have HLA : Hid (OwnI W9.heap.size WA (.slice A4 L3.length d4) L3) := HO4.out.fr hFA (fun k hk hm => by have := HO4.out.2 k hk; simp at hm; omega)
      have HKA : Hid (OwnI wg.heap.size WA (.slice D L3.length d) L3) := HK10.out.fr hF5 (fun k hk hm => by have := HK10.out.2 k hk; simp at hm; omega)
      have HGA' : Hid (∃ X Y : Nat → Prop, GRW w WA p g5 T' T' (.slice C0 T'.ks.length f0) (.slice C1 T'.wait.length f1) X Y ∧ ∀ k ∈ (Value.slice A3 q.b.f4.length d3).ownBlock.toList, X k ∧ ¬ Y k ∧ k ≠ g5) := by
        refine ⟨_, _, by rw [hWA]; exact HGA.out, fun k hk => ?_⟩
        have h1 := HRL.out k hk
        refine ⟨.inl (HX9.out k (by omega) (by omega)), fun hy => ?_, by omega⟩
        rcases hy.1 with h2 | h2
        · have := HY8.out k h2; omega
        · omega
      rw [← hWA]
      clear hWA hF5 hFA hblk x20 x21 x22 x23 y20 y21 y22 y23 HGA HFgA HK HK10 HV0 HV1 HFh HGg HBg HB7 HR7 HO4 HG9 HB9 HBf9 HR9 HX9 HGf HBf HR3 HN3 HG8 HB8 HY8 HX6
      obtain ⟨z0, z1, z2, z3, z4⟩ := HB7A.out.cells
      obtain ⟨n, hn⟩ : ∃ n, q.b.f4.length = n := ⟨_, rfl⟩
      have hqs' : n ≤ 8796093022208 := by omega
      have HNQ := Lib.hid hn
      have HRA8 : Hid (∃ l' : List S52, l'.length = n ∧ WA.ownsRow 0 52 2 (.slice A3 n d3) n (flatT l')) := ⟨q.b.f4, hn, by have := HRA7.out; rw [hn] at this; exact this⟩
      simp only [hn] at z4 hqs ⊢
      have HRL8 : Hid (∀ k ∈ (Value.slice A3 n d3).ownBlock.toList, g6 < k ∧ k < g7) := by have := HRL.out; rw [hn] at this; exact this
      have HGA8 : Hid (∃ X Y : Nat → Prop, GRW w WA p g5 T' T' (.slice C0 T'.ks.length f0) (.slice C1 T'.wait.length f1) X Y ∧ ∀ k ∈ (Value.slice A3 n d3).ownBlock.toList, X k ∧ ¬ Y k ∧ k ≠ g5) := by have := HGA'.out; rw [hn] at this; exact this
      have HZ4 : Hid (WA.cell? ⟨g7, 4, none⟩ = some (.slice A3 n d3)) := z4
      clear hn HRA7 HRL HGA' z0 z1 z2 z3 hqs
      go_upto_region 15 with (fail)
      clear z4
      go_loopg [50] n (fun gn i wr => ∃ (m2 k : Nat), m2 = gn ∧ i = .int .i64 k ∧ m2 + k = n ∧ Hid (∃ l' : List S52, l'.length = n ∧ wr.ownsRow 0 52 2 (.slice A3 n d3) n (flatT l')) ∧ Hid (Fr (Value.slice A3 n d3).ownBlock.toList WA wr))
      case atStart => exact ⟨_, 0, rfl, rfl, rfl, HRA8, Fr.refl _ _⟩
      case round =>
        obtain ⟨m2, k, rfl, rfl, hk2, HRX, HFX⟩ := hrel
        obtain ⟨wx, rfl⟩ : ∃ wx, wx = wr := ⟨_, rfl⟩
        clear HRA8
        by_cases hlt2 : k < n
        · obtain ⟨l', hl', hrow⟩ := HRX.out
          have hq2 : l'[k]? = some l'[k] := List.getElem?_eq_getElem (by omega)
          obtain ⟨q2, hq2e⟩ : ∃ q2, l'[k] = q2 := ⟨_, rfl⟩
          rw [hq2e] at hq2
          obtain ⟨B, hA3, hcell, hfroz⟩ := own_tx hrow k q2 hq2
          subst hA3
          have hF7 := (HFX.out.block g7 (Array.getElem?_eq_some_iff.1 HB7A.out).1 (fun hm => by have := HRL8.out g7 hm; omega))
          have z4 : wx.cell? ⟨g7, 4, none⟩ = some (.slice (some ⟨B, 0, none⟩) n d3) := (World.cell?_of_block (w := WA) hF7).trans HZ4.out
          have HRN : Hid (∀ b : Int, ∃ l'' : List S52, l''.length = n ∧ (wx.setCell ⟨B, k * 2 + 1, none⟩ (.int .i64 b)).ownsRow 0 52 2 (.slice (some ⟨B, 0, none⟩) n d3) n (flatT l'')) := fun b => by
            refine ⟨l'.set k ⟨q2.f0, b⟩, by simpa using hl', ?_⟩
            rw [← flatT_set l' k q2 hq2 b]
            exact own_set hrow (by rw [flatT_len]; omega) _
          have HFN : Hid (∀ b : Int, Fr (Value.slice (some ⟨B, 0, none⟩) n d3).ownBlock.toList WA (wx.setCell ⟨B, k * 2 + 1, none⟩ (.int .i64 b))) := fun b => HFX.out.setCell (.inl (by simp [Value.ownBlock])) _
          clear hrow hq2 hq2e hl' hF7 HRX
          go_wp2
          obtain ⟨m3, rfl⟩ : ∃ m3, m2 = m3 + 1 := ⟨m2 - 1, by omega⟩
          go_roundg m3
          case rel => exact ⟨m3, k + 1, rfl, by go_num, by omega, HRN.out _, HFN.out _⟩
          case measure => omega
        · obtain ⟨X', Y', hgx, hxs⟩ := HGA8.out
          have HGX := Lib.hid (hgx.wrote HFX.out hxs)
          have hmv : ∀ {g : Nat} {r : BV}, ¬ (g6 < g ∧ g < g7) → BlkIn WA g r → BlkIn wx g r := fun {g} {r} hne hb => (HFX.out.block g (Array.getElem?_eq_some_iff.1 hb).1 (fun hm => hne (HRL8.out g hm))).trans hb
          have HB6X := Lib.hid (hmv (by omega) HB6A.out)
          have HLX : Hid (OwnI W9.heap.size wx (.slice A4 L3.length d4) L3) := HLA.out.fr HFX.out (fun k hk hm => by have := HLA.out.2 k hk; have := HRL8.out k hm; omega)
          have HKX : Hid (OwnI wg.heap.size wx (.slice D L3.length d) L3) := HKA.out.fr HFX.out (fun k hk hm => by have := HKA.out.2 k hk; have := HRL8.out k hm; omega)
          clear hgx hxs hmv HGA8 HB6A HB7A HLA HKA HRX HFX HZ4 HRL8 HAD
          have HSF : Hid (∀ W, Fr [] wx W → W.cell? ⟨g5, 0, none⟩ = some (.slice C0 T'.ks.length f0) ∧ W.cell? ⟨g5, 1, none⟩ = some (.slice C1 T'.wait.length f1)) := fun W hW => ⟨(HGX.out.box.fr hW).cells.1, (HGX.out.box.fr hW).cells.2.1⟩
          have HFc : Hid (Fr [] wx wx.drew) := (Fr.refl _ _).drew
          have hS0 := HSF.out _ HFc.out
          have HSM1 : Hid (∀ W, Fr [] wx W → Calls Try.prog 19 #[.slice A4 L3.length d4, .slice D L3.length d] W fun e w' => e = .returned (.bool true) ∧ Fr [] W w') := fun W hW => by
            have h := same_sl (HLX.out.fr hW (by simp)).sl (HKX.out.fr hW (by simp)).sl
            simp only [decide_true] at h
            exact h
          have HWA1 : Hid (∀ W, Fr [] wx W → Calls Try.prog 30 #[.pointer (some ⟨p, 0, none⟩)] W fun e w' => ∃ v, e = .returned v ∧ OwnI W.heap.size w' v (T'.wait.map nameB) ∧ Fr [] W w') := fun W hW => waiting_calls (HGX.out.tr.fr hW) HG'.out.wt
          have HWA2 : Hid (∀ W, Fr [] wx W → Calls Try.prog 31 #[.agg #[.slice C0 T'.ks.length f0, .slice C1 T'.wait.length f1]] W fun e w' => ∃ v, e = .returned v ∧ SlI w' v (T'.wait.map nameB) ∧ Fr [] W w') := fun W hW => rwaiting_calls HG'.out HR'.out (HGX.out.ks.fr hW) (HGX.out.wait.fr hW)
          have HMI1 : Hid (∀ W, Fr [] wx W → Calls Try.prog 32 #[.pointer (some ⟨p, 0, none⟩)] W fun e w' => ∃ v, e = .returned v ∧ OwnI W.heap.size w' v T'.missing ∧ Fr [] W w') := fun W hW => missing_calls (HGX.out.tr.fr hW) HG'.out.wt
          have HMI2 : Hid (∀ W, Fr [] wx W → Calls Try.prog 33 #[.agg #[.slice C0 T'.ks.length f0, .slice C1 T'.wait.length f1]] W fun e w' => ∃ v, e = .returned v ∧ SlI w' v T'.missing ∧ Fr [] W w') := fun W hW => rmissing_calls HG'.out HR'.out (HGX.out.ks.fr hW) (HGX.out.wait.fr hW)
          have HTI1 : Hid (∀ W, Fr [] wx W → Calls Try.prog 34 #[.pointer (some ⟨p, 0, none⟩)] W fun e w' => e = .returned (.int .i64 T'.tip) ∧ Fr [] W w') := fun W hW => tip_calls (HGX.out.tr.fr hW) HG'.out.ok
          have HTI2 : Hid (∀ W, Fr [] wx W → Calls Try.prog 35 #[.agg #[.slice C0 T'.ks.length f0, .slice C1 T'.wait.length f1]] W fun e w' => e = .returned (.int .i64 T'.tip) ∧ Fr [] W w') := fun W hW => rtip_calls HG'.out HR'.out (HGX.out.ks.fr hW) (HGX.out.wait.fr hW)
          have t1 : True := trivial
          have t2 : True := trivial
          go_upto_region 19 with (fail)
          cases OK
          all_goals
            have s1 : True := trivial
            have s2 : True := trivial
            have s3 : True := trivial
            go_region_held3 (fun W => W.cell? ⟨g5, 0, none⟩ = some (.slice C0 T'.ks.length f0) ∧ W.cell? ⟨g5, 1, none⟩ = some (.slice C1 T'.wait.length f1))
              (assumption)
              (first
                | (have _t := s1; go_at_call 19; refine (HSM1.out _ HFc.out).mono ?_; rintro e y1 ⟨rfl, hF1⟩; have HD1 := Lib.hid (HFc.out.trans hF1 (by simp)); have hS1 := HSF.out _ HD1.out; clear hF1 HSM1 s1)
                | (go_at_call 30; refine (HWA1.out _ HD1.out).mono ?_; rintro e y2 ⟨v2, rfl, hO, hF1⟩; have HO2 := Lib.hid hO.sl; have HD2 := Lib.hid (HD1.out.trans hF1 (by simp)); have hS2 := HSF.out _ HD2.out; clear hF1 HWA1 hO)
                | (go_at_call 31; refine (HWA2.out _ HD2.out).mono ?_; rintro e y3 ⟨v3, rfl, hO, hF1⟩; have HSM2 := Lib.hid (same_sl (HO2.out.fr hF1) hO); have HD3 := Lib.hid (HD2.out.trans hF1 (by simp)); have hS3 := HSF.out _ HD3.out; simp only [decide_true] at HSM2; clear hF1 HWA2 hO HO2)
                | (have _t := s2; go_at_call 19; refine HSM2.out.mono ?_; rintro e y4 ⟨rfl, hF1⟩; have HD4 := Lib.hid (HD3.out.trans hF1 (by simp)); have hS4 := HSF.out _ HD4.out; clear hF1 HSM2 s2)
                | (go_at_call 32; refine (HMI1.out _ HD4.out).mono ?_; rintro e y5 ⟨v5, rfl, hO, hF1⟩; have HO5 := Lib.hid hO.sl; have HD5 := Lib.hid (HD4.out.trans hF1 (by simp)); have hS5 := HSF.out _ HD5.out; clear hF1 HMI1 hO)
                | (go_at_call 33; refine (HMI2.out _ HD5.out).mono ?_; rintro e y6 ⟨v6, rfl, hO, hF1⟩; have HSM3 := Lib.hid (same_sl (HO5.out.fr hF1) hO); have HD6 := Lib.hid (HD5.out.trans hF1 (by simp)); have hS6 := HSF.out _ HD6.out; simp only [decide_true] at HSM3; clear hF1 HMI2 hO HO5)
                | (have _t := s3; go_at_call 19; refine HSM3.out.mono ?_; rintro e y7 ⟨rfl, hF1⟩; have HD7 := Lib.hid (HD6.out.trans hF1 (by simp)); have hS7 := HSF.out _ HD7.out; clear hF1 HSM3 s3)
                | (go_at_call 34; refine (HTI1.out _ HD7.out).mono ?_; rintro e y8 ⟨rfl, hF1⟩; have HD8 := Lib.hid (HD7.out.trans hF1 (by simp)); have hS8 := HSF.out _ HD8.out; clear hF1 HTI1)
                | (go_at_call 35; refine (HTI2.out _ HD8.out).mono ?_; rintro e y9 ⟨rfl, hF1⟩; have HD9 := Lib.hid (HD8.out.trans hF1 (by simp)); have hS9 := HSF.out _ HD9.out; clear hF1 HTI2))
            all_goals
              clear hS0 hS1 hS2 hS3 hS4 hS5 hS6 hS7 hS8 hS9 HD1 HD2 HD3 HD4 HD5 HD6 HD7 HD8
              obtain ⟨n0, hn0⟩ : ∃ n0, n0 = nameB q.b := ⟨_, rfl⟩
              obtain ⟨e0, e1, e2, e3, e4⟩ := (HB6X.out.fr HD9.out).cells
              have HNM : Hid (∀ W, Fr [] wx W → Calls Try.prog 37 #[.agg #[.int .i64 q.b.f0, .int .i64 q.b.f1, .int .i64 q.b.f2, .int .i64 q.b.f3, .slice q.A q.b.f4.length q.c]] W fun e w' => e = .returned (.int .i64 n0) ∧ Fr [] W w') := fun W hW => by
                rw [hn0]
                exact rname_calls q.b q.A q.c (Kd.C_below HQC.out (HGX.out.fr.trans hW (by simp)).below) hqc HQR.out
              have HGT : Hid (∀ W, Fr [] wx W → Calls Try.prog 36 #[.pointer (some ⟨p, 0, none⟩), .int .i64 n0] W fun e w' => ∃ A' c', e = .returned (.tuple #[.agg #[.int .i64 (T'.get n0).f0, .int .i64 (T'.get n0).f1, .int .i64 (T'.get n0).f2, .int .i64 (T'.get n0).f3, .slice A' (T'.get n0).f4.length c'], .bool (T'.has n0)]) ∧ ((T'.get n0).f4.length ≤ c' ∧ k52.C w' A' (T'.get n0).f4.length (T'.get n0).f4) ∧ Fr [] W w') := fun W hW => by
                refine (get_calls (HGX.out.tr.fr hW) HG'.out.ok n0).mono ?_
                rintro e w' ⟨A', c', rfl, h1, h2, h3⟩
                obtain ⟨B, dd, ee, h4, h5⟩ := flatT_C h1
                injection ee with ee1 _ ee3
                subst ee1 ee3
                exact ⟨_, _, rfl, ⟨h4, h5⟩, h3⟩
              have HRG2 : Hid (∀ W, Fr [] wx W → Calls Try.prog 15 #[.agg #[.slice C0 T'.ks.length f0, .slice C1 T'.wait.length f1], .int .i64 n0] W fun e w' => ∃ A' c', e = .returned (.tuple #[.agg #[.int .i64 (T'.get n0).f0, .int .i64 (T'.get n0).f1, .int .i64 (T'.get n0).f2, .int .i64 (T'.get n0).f3, .slice A' (T'.get n0).f4.length c'], .bool (T'.has n0)]) ∧ ((T'.get n0).f4.length ≤ c' ∧ Kd.F k52 w' (fun k => Y' k ∨ W.heap.size ≤ k) A' (T'.get n0).f4.length (T'.get n0).f4) ∧ Fr [] W w') := fun W hW => by
                refine (rget_calls HG'.out HR'.out (HGX.out.ks.fr hW) (HGX.out.wait.fr hW) n0).mono ?_
                rintro e w' ⟨A', c', rfl, h1, h2, h3⟩
                exact ⟨_, _, rfl, ⟨h1, h2⟩, h3⟩
              have HGF := Lib.hid (get_few HG'.out.ok n0)
              clear hn0
              generalize T'.get n0 = gb at *
              generalize T'.has n0 = hb at *
              go_upto_region 22 with (first
                | (go_at_call 37; refine (HNM.out _ HD9.out).mono ?_; rintro e x1 ⟨rfl, hF1⟩; have HE1 := Lib.hid (HD9.out.trans hF1 (by simp)); clear hF1 HD9 e0 e1 e2 e3 e4)
                | (go_at_call 36; refine (HGT.out _ HE1.out).mono ?_; rintro e x2 ⟨A7, d7, rfl, hC7, hF1⟩; have HC7 := Lib.hid hC7; have HE2 := Lib.hid (HE1.out.trans hF1 (by simp)); clear hF1 HGT hC7 HE1))
              obtain ⟨W12, hW12⟩ : ∃ W12, W12 = x2.alloc (.cells #[.int .i64 gb.f0, .int .i64 gb.f1, .int .i64 gb.f2, .int .i64 gb.f3, .slice A7 gb.f4.length d7] 32) := ⟨_, rfl⟩
              obtain ⟨g14, hg14⟩ : ∃ g, g = x2.heap.size := ⟨_, rfl⟩
              have hF12 : Fr [] x2 W12 := by rw [hW12]; exact (Fr.refl _ _).alloc _
              have hB12 : BlkIn W12 g14 ⟨gb, A7, d7⟩ := by rw [hg14]; exact BlkIn.made hW12
              have HE3 := Lib.hid (HE2.out.trans hF12 (by simp))
              have HC8 : Hid (gb.f4.length ≤ d7 ∧ k52.C W12 A7 gb.f4.length gb.f4) := ⟨HC7.out.1, Kd.C_below HC7.out.2 hF12.below⟩
              have HB12 := Lib.hid hB12
              rw [← hW12, ← hg14]
              clear hW12 hg14 hF12 hB12 HE2 HC7
              have HSG : Hid (∀ W, Fr [] wx W → (W.cell? ⟨g5, 0, none⟩ = some (.slice C0 T'.ks.length f0) ∧ W.cell? ⟨g5, 1, none⟩ = some (.slice C1 T'.wait.length f1)) ∧ W.cell? ⟨g6, 0, none⟩ = some (.int .i64 q.b.f0) ∧ W.cell? ⟨g6, 1, none⟩ = some (.int .i64 q.b.f1) ∧ W.cell? ⟨g6, 2, none⟩ = some (.int .i64 q.b.f2) ∧ W.cell? ⟨g6, 3, none⟩ = some (.int .i64 q.b.f3) ∧ W.cell? ⟨g6, 4, none⟩ = some (.slice q.A q.b.f4.length q.c)) := fun W hW => ⟨HSF.out W hW, (HB6X.out.fr hW).cells⟩
              have HQA : Hid (∀ W, Fr [] W12 W → (W.cell? ⟨g5, 0, none⟩ = some (.slice C0 T'.ks.length f0) ∧ W.cell? ⟨g5, 1, none⟩ = some (.slice C1 T'.wait.length f1)) ∧ W.cell? ⟨g6, 0, none⟩ = some (.int .i64 q.b.f0) ∧ W.cell? ⟨g6, 1, none⟩ = some (.int .i64 q.b.f1) ∧ W.cell? ⟨g6, 2, none⟩ = some (.int .i64 q.b.f2) ∧ W.cell? ⟨g6, 3, none⟩ = some (.int .i64 q.b.f3) ∧ W.cell? ⟨g6, 4, none⟩ = some (.slice q.A q.b.f4.length q.c)) := fun W hW => HSG.out W (HE3.out.trans hW (by simp))
              have hm0 : Fr [] W12 W12.drew := (Fr.refl _ _).drew
              have HNM2 : Hid (∀ W, Fr [] W12 W → _) := fun W hW => HNM.out W (HE3.out.trans hW (by simp))
              have HRG3 : Hid (∀ W, Fr [] W12 W → _) := fun W hW => HRG2.out W (HE3.out.trans hW (by simp))
              have hm0s : W12.heap.size ≤ W12.drew.heap.size := Nat.le_refl _
              go_region_held3 (fun W => (W.cell? ⟨g5, 0, none⟩ = some (.slice C0 T'.ks.length f0) ∧ W.cell? ⟨g5, 1, none⟩ = some (.slice C1 T'.wait.length f1)) ∧ W.cell? ⟨g6, 0, none⟩ = some (.int .i64 q.b.f0) ∧ W.cell? ⟨g6, 1, none⟩ = some (.int .i64 q.b.f1) ∧ W.cell? ⟨g6, 2, none⟩ = some (.int .i64 q.b.f2) ∧ W.cell? ⟨g6, 3, none⟩ = some (.int .i64 q.b.f3) ∧ W.cell? ⟨g6, 4, none⟩ = some (.slice q.A q.b.f4.length q.c))
                (exact HQA.out _ (by repeat (first | assumption | apply Fr.drew | apply Fr.alloc | exact Fr.refl _ _ | refine Fr.setCell ?_ (.inr (by first | assumption | exact Nat.le_refl _)) _)))
                (first
                  | (go_at_call 37; refine (HNM2.out _ (by repeat (first | assumption | apply Fr.drew | apply Fr.alloc | exact Fr.refl _ _))).mono ?_; rintro e x3 ⟨rfl, hF1⟩; have hm1 : Fr [] W12 x3 := Fr.trans (by repeat (first | assumption | apply Fr.drew | apply Fr.alloc | exact Fr.refl _ _)) hF1 (by simp); have hm1s := hm1.size; (try (have HZ3 := Lib.hid (alloc_kept hF1))); (try (have HZ3 := Lib.hid (alloc_kept' hF1))); clear hF1)
                  | (go_at_call 15; refine (HRG3.out _ (by repeat (first | assumption | apply Fr.drew | apply Fr.alloc | exact Fr.refl _ _))).mono ?_; rintro e x4 ⟨A9, d9, rfl, hC9, hF1⟩; have HC9 := Lib.hid hC9; have hm2 : Fr [] W12 x4 := Fr.trans (by repeat (first | assumption | apply Fr.drew | apply Fr.alloc | exact Fr.refl _ _)) hF1 (by simp); (try (have HZ4 := Lib.hid (alloc_kept hF1))); (try (have HZ4 := Lib.hid ((hF1.block _ (Array.getElem?_eq_some_iff.1 HZ3.out).1 (by simp)).trans HZ3.out))); clear hF1 hC9; (try (have hz5 := five_cells HZ4.out; obtain ⟨z0, z1, z2, z3, z4, u0, u1, u2, u3, u4⟩ := hz5))))
              all_goals
                have hYb : ∀ k, Y' k → k < W12.heap.size := fun k hk => Nat.lt_of_lt_of_le (HGX.out.x k (HGX.out.y k hk).1) HE3.out.size
                have HYB := Lib.hid hYb
                clear hYb
                first
                  | (obtain ⟨Wf, hWf⟩ : ∃ Wf, Wf = x4.alloc (.cells #[.int .i64 gb.f0, .int .i64 gb.f1, .int .i64 gb.f2, .int .i64 gb.f3, .slice A9 gb.f4.length d9] 32) := ⟨_, rfl⟩
                     obtain ⟨g16, hg16⟩ : ∃ g, g = x4.heap.size := ⟨_, rfl⟩
                     rw [← hWf, ← hg16]
                     have hfx : Fr [] x4 Wf := by rw [hWf]; exact (Fr.refl _ _).alloc _
                     have HFZ := Lib.hid (hm2.trans hfx (by simp))
                     have HBY : Hid (BlkIn Wf g16 ⟨gb, A9, d9⟩) := by rw [hg16]; exact BlkIn.made (q := ⟨gb, A9, d9⟩) hWf
                     have HCY : Hid (k52.C Wf A9 gb.f4.length gb.f4) := Kd.C_below (Kd.F_now HC9.out.2) hfx.below
                     clear hfx hWf hg16)
                  | (obtain ⟨Wf, hWf⟩ : ∃ Wf, Wf = put5 x4 x3.heap.size (.int .i64 gb.f0) (.int .i64 gb.f1) (.int .i64 gb.f2) (.int .i64 gb.f3) (.slice A9 gb.f4.length d9) := ⟨_, rfl⟩
                     have hWf2 := hWf
                     unfold put5 at hWf2
                     rw [← hWf2]
                     clear hWf2
                     obtain ⟨g16, hg16⟩ : ∃ g, g = x3.heap.size := ⟨_, rfl⟩
                     rw [← hg16]
                     have hfx : Fr [x3.heap.size] x4 Wf := by rw [hWf]; exact put5_fr (Fr.refl _ _) (.inl (by simp)) _ _ _ _ _
                     have HFZ : Hid (Fr [] W12 Wf) := by rw [hWf]; exact put5_fr hm2 (.inr hm1s) _ _ _ _ _
                     have HBY : Hid (BlkIn Wf g16 ⟨gb, A9, d9⟩) := by rw [hg16, hWf]; exact put5_heap HZ4.out _ _ _ _ _
                     have HCY : Hid (k52.C Wf A9 gb.f4.length gb.f4) := Kd.F_now (Kd.F_step HC9.out.2 (fun k hk hl => hfx.block k hl (by
                       intro hm
                       simp at hm
                       rcases hk with hk | hk
                       · have := HYB.out k hk; omega
                       · simp at hk; omega)))
                     clear hfx hWf hg16)
                  | (obtain ⟨Wf, hWf⟩ : ∃ Wf, Wf = put5 x4 W12.heap.size (.int .i64 gb.f0) (.int .i64 gb.f1) (.int .i64 gb.f2) (.int .i64 gb.f3) (.slice A9 gb.f4.length d9) := ⟨_, rfl⟩
                     have hWf2 := hWf
                     unfold put5 at hWf2
                     rw [← hWf2]
                     clear hWf2
                     obtain ⟨g16, hg16⟩ : ∃ g, g = W12.heap.size := ⟨_, rfl⟩
                     rw [← hg16]
                     have hlt3 := (Array.getElem?_eq_some_iff.1 HZ3.out).1
                     have hfx : Fr [W12.heap.size] x4 Wf := by rw [hWf]; exact put5_fr (Fr.refl _ _) (.inl (by simp)) _ _ _ _ _
                     have HFZ : Hid (Fr [] W12 Wf) := by rw [hWf]; exact put5_fr hm2 (.inr (Nat.le_refl _)) _ _ _ _ _
                     have HBY : Hid (BlkIn Wf g16 ⟨gb, A9, d9⟩) := by rw [hg16, hWf]; exact put5_heap HZ4.out _ _ _ _ _
                     have HCY : Hid (k52.C Wf A9 gb.f4.length gb.f4) := Kd.F_now (Kd.F_step HC9.out.2 (fun k hk hl => hfx.block k hl (by
                       intro hm
                       simp at hm
                       rcases hk with hk | hk
                       · have := HYB.out k hk; omega
                       · omega)))
                     clear hfx hWf hg16 hlt3)
                (try clear z0 z1 z2 z3 z4 u0 u1 u2 u3 u4)
                clear hm0 hm0s hm1 hm1s hm2
                obtain ⟨e0, e1, e2, e3, e4⟩ := (HB12.out.fr HFZ.out).cells
                obtain ⟨y0, y1, y2, y3, y4⟩ := HBY.out.cells
                have HSB := Lib.hid (rsame_blk (w := Wf) (b := gb) (A := A7) (A' := A9) (c := d7) (c' := d9) HGF.out (Kd.C_below HC8.out.2 HFZ.out.below) HC8.out.1 HCY.out HC9.out.1)
                cases hb
                all_goals
                  go_wp2_with (first
                    | (go_at_call 38; refine HSB.out.mono ?_; rintro e x9 ⟨rfl, hF1⟩; have HFE := Lib.hid ((HE3.out.trans HFZ.out (by simp)).trans hF1 (by simp)); clear hF1 HSB e0 e1 e2 e3 e4 y0 y1 y2 y3 y4))
                  obtain ⟨m', rfl⟩ : ∃ m', m = m' + 1 := ⟨m - 1, by omega⟩
                  go_roundg m'
                  case rel => exact ⟨m', j + 1, T', C0, f0, C1, f1, rfl, by go_num, by omega, HG', HR', ⟨_, _, HGX.out.mv HFE.out⟩⟩
                  case measure => omega
    · obtain ⟨x20, x21, x22, x23⟩ := HG0.out.box.cells
      have HSF : Hid (∀ W, Fr [] wO W → W.cell? ⟨g5, 0, none⟩ = some (.slice B0 t.ks.length d0) ∧ W.cell? ⟨g5, 1, none⟩ = some (.slice B1 t.wait.length d1)) := fun W hW => ⟨(HG0.out.box.fr hW).cells.1, (HG0.out.box.fr hW).cells.2.1⟩
      have HFc : Hid (Fr [] wO wO.drew) := (Fr.refl _ _).drew
      have hS0 := HSF.out _ HFc.out
      have HN1 : Hid (∀ W, Fr [] wO W → Calls Try.prog 39 #[.pointer (some ⟨p, 0, none⟩)] W fun e w' => ∃ v, e = .returned v ∧ OwnI W.heap.size w' v t.names ∧ Fr [] W w') := fun W hW => names_calls (HG0.out.tr.fr hW) HG.out.kn
      have HN2 : Hid (∀ W, Fr [] wO W → Calls Try.prog 40 #[.agg #[.slice B0 t.ks.length d0, .slice B1 t.wait.length d1]] W fun e w' => ∃ v, e = .returned v ∧ SlI w' v t.names ∧ Fr [] W w') := fun W hW => rnames_calls HG.out HRG.out (HG0.out.ks.fr hW) (HG0.out.wait.fr hW)
      go_upto_region 26 with (fail)
      go_region_held3 (fun W => W.cell? ⟨g5, 0, none⟩ = some (.slice B0 t.ks.length d0) ∧ W.cell? ⟨g5, 1, none⟩ = some (.slice B1 t.wait.length d1))
        (assumption)
        (first
          | (go_at_call 39; refine (HN1.out _ HFc.out).mono ?_; rintro e z1 ⟨v1, rfl, hO, hF1⟩; have HO1 := Lib.hid hO.sl; have HD1 := Lib.hid (HFc.out.trans hF1 (by simp)); have hS1 := HSF.out _ HD1.out; clear hF1 HN1 hO)
          | (go_at_call 40; refine (HN2.out _ HD1.out).mono ?_; rintro e z2 ⟨v2, rfl, hO, hF1⟩; have HSM := Lib.hid (same_sl (HO1.out.fr hF1) hO); have HD2 := Lib.hid (HD1.out.trans hF1 (by simp)); have hS2 := HSF.out _ HD2.out; simp only [decide_true] at HSM; clear hF1 HN2 hO HO1)
          | (go_at_call 19; refine HSM.out.mono ?_; rintro e z3 ⟨rfl, hF1⟩; have HD3 := Lib.hid (HD2.out.trans hF1 (by simp)); have hS3 := HSF.out _ HD3.out; clear hF1 HSM))
      all_goals
        go_wp2
        exact hR.out _ _ ⟨rfl, HG0.out.fr.trans HD3.out (by simp)⟩
end Go.Np.Try
