/- TreeGrows: the walk. -/
import Derived.Test.YtdfoalbkfdnmcaaTreeY
set_option linter.unusedVariables false
set_option linter.unusedSimpArgs false
namespace Go.Np
open Go.RowKit
theorem FrX.keep {X : Nat → Prop} {w w1 w' : World} (h : FrX X w1 w') (hX : ∀ k, k < w.heap.size → X k) (h0 : Fr [] w w1) : Fr [] w w' := by
  obtain ⟨S, h1, h2⟩ := h
  exact (h0.trans h1 (fun x hx => .inr (Nat.le_of_not_lt (fun hl => h2 x hx (hX x hl))))).mono (fun x hx => by simp at hx)
end Go.Np
namespace Go.Np.Try
open Go.RowKit Go.Proofs Go.Proofs.Ytdfoalbkfdnmcaa.PX Go.Proofs.YtdfoalbkfdnmcaaW.PrintWords
/-- Not below w, and none of what was made between two worlds. -/
def XB (w wa wb : World) : Nat → Prop := fun k => k < w.heap.size ∨ (wa.heap.size ≤ k ∧ k < wb.heap.size)
theorem TrAt.xb {w wa wb : World} {p : Nat} {t : Tr} (h : TrAt (fun k => k < w.heap.size) wa p t) (hF : Fr [] wa wb) : TrAt (XB w wa wb) wb p t := h.later hF (by simp)
theorem XB.lt {w wa wb : World} (h : w.heap.size ≤ wb.heap.size) : ∀ k, XB w wa wb k → k < wb.heap.size := fun k hk => by
  rcases hk with hk | hk
  · omega
  · exact hk.2
theorem XB.own {w wa wb wc : World} {v : Value} {l : List Int} {base : Nat} (h : OwnI base wc v l) (h1 : wa.heap.size ≤ base) (h2 : wc.heap.size ≤ wb.heap.size) : ∀ k ∈ v.ownBlock.toList, XB w wa wb k := fun k hk => .inr ⟨Nat.le_trans h1 (h.2 k hk), Nat.lt_of_lt_of_le (h.lt k hk) h2⟩
/-- A block's five cells. -/
def BlkIn (W : World) (g : Nat) (q : BV) : Prop := W.heap[g]? = some (.cells #[.int .i64 q.b.f0, .int .i64 q.b.f1, .int .i64 q.b.f2, .int .i64 q.b.f3, .slice q.A q.b.f4.length q.c] 28 (0, 0))
theorem BlkIn.cells {W : World} {g : Nat} {q : BV} (h : BlkIn W g q) : W.cell? ⟨g, 0, none⟩ = some (.int .i64 q.b.f0) ∧ W.cell? ⟨g, 1, none⟩ = some (.int .i64 q.b.f1) ∧ W.cell? ⟨g, 2, none⟩ = some (.int .i64 q.b.f2) ∧ W.cell? ⟨g, 3, none⟩ = some (.int .i64 q.b.f3) ∧ W.cell? ⟨g, 4, none⟩ = some (.slice q.A q.b.f4.length q.c) := by
  have e0 := cell_of h 0
  have e1 := cell_of h 1
  have e2 := cell_of h 2
  have e3 := cell_of h 3
  have e4 := cell_of h 4
  simp at e0 e1 e2 e3 e4
  exact ⟨e0, e1, e2, e3, e4⟩
theorem BlkIn.fr {W W' : World} {g : Nat} {q : BV} (h : BlkIn W g q) (hF : Fr [] W W') : BlkIn W' g q := (hF.block g (Array.getElem?_eq_some_iff.1 h).1 (by simp)).trans h
theorem BlkIn.frX {X : Nat → Prop} {W W' : World} {g : Nat} {q : BV} (h : BlkIn W g q) (hF : FrX X W W') (hx : X g) : BlkIn W' g q := (hF.block (Array.getElem?_eq_some_iff.1 h).1 hx).trans h
theorem BlkIn.made {w W : World} {q : BV} (hW : W = w.alloc (.cells #[.int .i64 q.b.f0, .int .i64 q.b.f1, .int .i64 q.b.f2, .int .i64 q.b.f3, .slice q.A q.b.f4.length q.c] 28)) : BlkIn W w.heap.size q := by rw [hW]; exact heap_alloc_new _ _
/-- Copy, with its row of transactions. -/
theorem copy_C {w : World} (q : BV) (h : k59.C w q.A q.b.f4.length q.b.f4) (hl : q.b.f4.length ≤ 8796093022208) :
    Calls Try.prog 17 #[.agg #[.int .i64 q.b.f0, .int .i64 q.b.f1, .int .i64 q.b.f2, .int .i64 q.b.f3, .slice q.A q.b.f4.length q.c]] w fun e w' => ∃ A' c', e = .returned (.agg #[.int .i64 q.b.f0, .int .i64 q.b.f1, .int .i64 q.b.f2, .int .i64 q.b.f3, .slice A' q.b.f4.length c']) ∧ q.b.f4.length ≤ c' ∧ k59.C w' A' q.b.f4.length q.b.f4 ∧ Fr [] w w' := by
  refine (copy_calls q h hl).mono ?_
  rintro e w' ⟨A', c', rfl, h1, h2, h3⟩
  obtain ⟨B, d, e, h4, h5⟩ := flatT_C h1
  injection e with e1 _ e3
  subst e1 e3
  exact ⟨_, _, rfl, h4, h5, h3⟩
/-- Add, with the numbers as a slice. -/
theorem add_C {X : Nat → Prop} {w : World} {p : Nat} {t t' : Tr} {L : List Int} {ok : Bool} (h : TrAt X w p t) (hG : t.Good) (b : Blk) {A : Option Addr} {c : Nat} (hC : k59.C w A b.f4.length b.f4) (hc : b.f4.length ≤ c) (hXw : ∀ k, X k → k < w.heap.size) (ha : t.add b = (t', L, ok)) :
    Calls Try.prog 16 #[.pointer (some ⟨p, 0, none⟩), .agg #[.int .i64 b.f0, .int .i64 b.f1, .int .i64 b.f2, .int .i64 b.f3, .slice A b.f4.length c]] w fun e w' =>
      ∃ D d, e = .returned (.tuple #[.slice D L.length d, .bool ok]) ∧ OwnI w.heap.size w' (.slice D L.length d) L ∧ TrAt X w' p t' ∧ FrX X w w' :=
  (add_calls h hG ⟨b, A, c⟩ hC hc hXw).mono (fun e w' h => add_step h ha)
theorem Tr.Good.kn {t : Tr} (h : t.Good) : t.known.length ≤ 100000 := Nat.le_trans h.ok.few (by decide)
theorem Tr.Good.wt {t : Tr} (h : t.Good) : t.wait.length ≤ 100000 := Nat.le_trans h.wl (by decide)
set_option maxHeartbeats 8000000 in
set_option maxRecDepth 100000 in
theorem TreeGrows_walk (w : World) (v : Value) (l : List Blk) (hv : BlocksAt w v l) : Calls Try.prog 3 #[v] w fun e w' => e = .returned (.bool true) ∧ Fr [] w w' := by
  obtain ⟨A, c, rfl, hC, hSZ⟩ := hv
  have HSZ := Lib.hid hSZ
  obtain ⟨N, hN⟩ : ∃ N, l.length = N := ⟨_, rfl⟩
  rw [hN] at hC ⊢
  have HC := Lib.hid hC
  have HN := Lib.hid hN
  have HAL := Lib.hid (alive_calls (w := w))
  refine calls_k fun R hR => ?_
  clear hC hN hSZ
  by_cases hbig : (40 : Int) < (N : Int)
  · go_enter Try.func3, Try.ntmps3
    go_wp2_with (go_at_call 10; refine HAL.out.mono ?_; rintro e w1 ⟨rfl, hF1⟩)
    exact hR.out _ _ ⟨rfl, hF1⟩
  go_enter Try.func3, Try.ntmps3
  go_upto_region 7 with (first
    | (go_at_call 10; refine HAL.out.mono ?_; rintro e w1 ⟨rfl, hF1⟩
       have HF1 := Lib.hid hF1
       have HNW := Lib.hid (new_calls (w := w1))
       clear hF1 HAL)
    | (go_at_call 11; refine HNW.out.mono ?_; rintro e w2 ⟨p, rfl, hT2, hF2, hp2⟩
       have HF2 := Lib.hid (HF1.out.trans hF2 (by simp))
       have hs1 := HF1.out.size
       have HT2 : Hid (TrAt (fun k => k < w.heap.size) w2 p ⟨[], []⟩) := hT2.grow (fun k hk _ => by omega)
       clear hF2 hT2 HNW hp2 hs1 HF1))
  go_loopg [26] N (fun gn i wr => ∃ (m j : Nat) (t : Tr), m = gn ∧ i = .int .i64 j ∧ m + j = N ∧ Hid t.Good ∧ Hid (TrAt (fun k => k < w.heap.size) wr p t) ∧ Hid (Fr [] w wr))
  case atStart => exact ⟨_, 0, ⟨[], []⟩, rfl, rfl, rfl, Tr.empty_good, HT2, HF2⟩
  case round =>
    obtain ⟨m, j, t, rfl, rfl, hj, HG, HT, HF⟩ := hrel
    clear HT2 HF2
    by_cases hlt : j < N
    · obtain ⟨wO, rfl⟩ : ∃ wO, wO = wr := ⟨_, rfl⟩
      obtain ⟨ad, q, hq, rfl, c0, c1, c2, c3, c4, hqc, hqC⟩ := blocks_at HC.out j hlt
      replace c0 := cellF HF.out c0
      replace c1 := cellF HF.out c1
      replace c2 := cellF HF.out c2
      replace c3 := cellF HF.out c3
      replace c4 := cellF HF.out c4
      have hqs := HSZ.out q.b (List.mem_of_getElem? hq)
      have HQC := Lib.hid hqC
      obtain ⟨W8, hW8⟩ : ∃ W8, W8 = wO.alloc (.cells #[.int .i64 q.b.f0, .int .i64 q.b.f1, .int .i64 q.b.f2, .int .i64 q.b.f3, .slice q.A q.b.f4.length q.c] 28) := ⟨_, rfl⟩
      obtain ⟨g, hg⟩ : ∃ g, g = wO.heap.size := ⟨_, rfl⟩
      have hF8 : Fr [] wO W8 := by rw [hW8]; exact (Fr.refl _ _).alloc _
      have hB8 : BlkIn W8 g q := by rw [hg]; exact BlkIn.made hW8
      have hs8 : g < W8.heap.size := (Array.getElem?_eq_some_iff.1 hB8).1
      have hrg : wO.heap.size ≤ g := Nat.le_of_eq hg.symm
      have hsr := HF.out.size
      have HB8 := Lib.hid hB8
      have HT8 := Lib.hid (HT.out.fr hF8)
      have HFW8 := Lib.hid (HF.out.trans hF8 (by simp))
      have HF8 := Lib.hid hF8
      have HN1 := Lib.hid (names_calls HT8.out HG.out.kn)
      obtain ⟨T', L3, OK, hadd⟩ : ∃ T' L3 OK, t.add q.b = (T', L3, OK) := ⟨_, _, _, rfl⟩
      have hlen := Tr.grows_len HG.out q.b
      have hhigh := Tr.grows_tip HG.out q.b
      have hpath := Tr.grows_path HG.out q.b
      have hhas : ∀ n, n ∈ t.names → (t.add q.b).1.has n = true := fun n hn => Tr.grows_has q.b hn
      have htw := Tr.add_twice HG.out q.b
      have hG' := Tr.add_good HG.out q.b
      rw [hadd] at hlen hhigh hpath hhas htw hG'
      simp only at hlen hhigh hpath hhas htw hG'
      have HAD := Lib.hid hadd
      have HPA := Lib.hid hpath
      have HHS := Lib.hid hhas
      have HTW := Lib.hid htw
      have HG' := Lib.hid hG'
      have hk4 := hG'.ok.few
      rw [← names_len hG'.ok] at hk4
      have hlI : wrap64 ((t.names.length : Int) + (L3.length : Int)) = (T'.names.length : Int) := by rw [wr_in _ (by omega)]; omega
      have hnl : t.high t.tip ≤ T'.high T'.tip := hhigh
      clear hk4 hqC hq hF8 hB8 hadd hlen hhigh hpath hhas htw hG'
      go_upto_region 9 with (fail)
      rw [← hW8, ← hg]
      clear hW8 hg c0 c1 c2 c3 c4
      go_upto_region 10 with (first
        | (go_at_call 12; refine HN1.out.mono ?_; rintro e wa ⟨v1, rfl, hO1, hFa⟩
           obtain ⟨A1, d1, rfl⟩ := hO1.formN rfl
           have HFa := Lib.hid hFa
           have HO1 := Lib.hid hO1
           have HT1 := Lib.hid (tip_calls (HT8.out.fr HFa.out) HG.out.ok)
           clear hO1 hFa HN1)
        | (go_at_call 13; refine HT1.out.mono ?_; rintro e wb ⟨rfl, hFb⟩
           have HFb := Lib.hid (HFa.out.trans hFb (by simp))
           have HFab := Lib.hid hFb
           have HT2 := Lib.hid (tip_calls (HT8.out.fr HFb.out) HG.out.ok)
           clear hFb HT1)
        | (go_at_call 13; refine HT2.out.mono ?_; rintro e wc ⟨rfl, hFc⟩
           have HFc := Lib.hid (HFb.out.trans hFc (by simp))
           have HFac := Lib.hid (HFab.out.trans hFc (by simp))
           have HH1 := Lib.hid (height_calls (HT8.out.fr HFc.out) t.tip)
           clear hFc HT2)
        | (go_at_call 14; refine HH1.out.mono ?_; rintro e wd ⟨rfl, hFd⟩
           have HFd := Lib.hid (HFc.out.trans hFd (by simp))
           have HFad := Lib.hid (HFac.out.trans hFd (by simp))
           have HP1 := Lib.hid (path_calls (HT8.out.fr HFd.out) HG.out t.tip)
           clear hFd HH1))
      go_upto_region 11 with (first
        | (go_at_call 15; refine HP1.out.mono ?_; rintro e we ⟨v2, rfl, hO2, hFe⟩
           obtain ⟨A2, d2, rfl⟩ := hO2.formN rfl
           have HFe := Lib.hid (HFd.out.trans hFe (by simp))
           have HO1e := Lib.hid (HO1.out.fr (HFad.out.trans hFe (by simp)) (by simp))
           have HO2 := Lib.hid hO2
           clear hO2 hFe HP1))
      have hsa : W8.heap.size ≤ wd.heap.size := HFd.out.size
      obtain ⟨e0, e1, e2, e3, e4⟩ := (HB8.out.fr HFe.out).cells
      have HCP := Lib.hid (copy_C q (Kd.C_below HQC.out (HFW8.out.trans HFe.out (by simp)).below) hqs)
      clear HFa HFb HFc HFd HFab HFac HFad HO1
      go_upto_region 12 with (first
        | (go_at_call 17; refine HCP.out.mono ?_; rintro e wf ⟨A3, d3, rfl, hd3, hC3, hFf⟩
           have HFf := Lib.hid (HFe.out.trans hFf (by simp))
           have HFwf := Lib.hid (HFW8.out.trans HFf.out (by simp))
           have HFrf := Lib.hid (HF8.out.trans HFf.out (by simp))
           have HTf := TrAt.xb HT.out HFrf.out
           have HAC := Lib.hid (add_C HTf HG.out q.b hC3 hd3 (XB.lt HFwf.out.size) HAD.out)
           have HO1f := Lib.hid (HO1e.out.fr hFf (by simp))
           have HO2f := Lib.hid (HO2.out.fr hFf (by simp))
           clear HTf hFf hC3 HCP)
        | (go_at_call 16; refine HAC.out.mono ?_; rintro e wg ⟨A4, d4, rfl, hO4, hTg, hXg⟩
           have HXg := Lib.hid hXg
           have HTg := Lib.hid hTg
           have HFwg := Lib.hid (hXg.keep (fun k hk => .inl hk) HFwf.out)
           have hsf := HFf.out.size
           have HBg := Lib.hid ((HB8.out.fr HFf.out).frX hXg (.inr ⟨hrg, by omega⟩))
           have HO1g := Lib.hid (HO1f.out.frX hXg (XB.own HO1f.out HF8.out.size (Nat.le_refl _)))
           have HO2g := Lib.hid (HO2f.out.frX hXg (XB.own HO2f.out (Nat.le_trans HF8.out.size hsa) (Nat.le_refl _)))
           have HN4 := Lib.hid (names_calls hTg HG'.out.kn)
           clear hO4 hTg hXg HAC hsf))
      clear e0 e1 e2 e3 e4 HO1e HO1f HO2f HO2 HFe HT8
      go_upto_region 15 with (first
        | (go_at_call 12; refine HN4.out.mono ?_; rintro e wh ⟨v5, rfl, hO5, hFh⟩
           obtain ⟨A5, d5, rfl⟩ := hO5.formN rfl
           have HFh := Lib.hid hFh
           have HT4 := Lib.hid (tip_calls (HTg.out.fr HFh.out) HG'.out.ok)
           clear hO5 hFh HN4)
        | (go_at_call 13; refine HT4.out.mono ?_; rintro e wi ⟨rfl, hFi⟩
           have HFi := Lib.hid (HFh.out.trans hFi (by simp))
           have HH4 := Lib.hid (height_calls (HTg.out.fr HFi.out) T'.tip)
           clear hFi HT4)
        | (go_at_call 14; refine HH4.out.mono ?_; rintro e wj ⟨rfl, hFj⟩
           have HFj := Lib.hid (HFi.out.trans hFj (by simp))
           have HP4 := Lib.hid (path_calls (HTg.out.fr HFj.out) HG'.out t.tip)
           rw [HPA.out] at HP4
           clear hFj HH4)
        | (go_at_call 15; refine HP4.out.mono ?_; rintro e wk ⟨v6, rfl, hO6, hFk⟩
           have HFk := Lib.hid (HFj.out.trans hFk (by simp))
           have HS4 := Lib.hid (same_sl hO6.sl (HO2g.out.fr HFk.out (by simp)).sl)
           simp only [decide_true] at HS4
           clear hO6 hFk HP4)
        | (go_at_call 18; refine HS4.out.mono ?_; rintro e wl ⟨rfl, hFl⟩
           have HFl := Lib.hid (HFk.out.trans hFl (by simp))
           clear hFl HS4))
      clear HFh HFi HFj HFk hlI hnl HO2g
      have HTl := Lib.hid (HTg.out.fr HFl.out)
      have HO1l := Lib.hid (HO1g.out.fr HFl.out (by simp))
      obtain ⟨NN, hNN⟩ : ∃ NN, t.names.length = NN := ⟨_, rfl⟩
      have hNB : NN ≤ 400 := by rw [← hNN, names_len HG.out.ok]; exact HG.out.ok.few
      have HNN := Lib.hid hNN
      rw [hNN]
      clear hNN
      go_loopg [75] NN (fun gn i wr => ∃ (m2 k : Nat), m2 = gn ∧ i = .int .i64 k ∧ m2 + k = NN ∧ Hid (Fr [] wl wr))
      case atStart => exact ⟨_, 0, rfl, rfl, rfl, Fr.refl _ _⟩
      case round =>
        obtain ⟨m2, k, rfl, rfl, hk, HFx⟩ := hrel
        by_cases hkl : k < NN
        · obtain ⟨g1, rfl, hcx⟩ := OwnI.at (A := A1) (c := d1) (l := t.names) (by exact HO1l.out.fr HFx.out (by simp)) k (by rw [HNN.out]; exact hkl)
          have hin : t.names.getD k 0 ∈ t.names := by
            have := HNN.out
            rw [List.getD_eq_getElem?_getD, List.getElem?_eq_getElem (by omega)]
            exact List.getElem_mem _
          have HHX := Lib.hid (has_calls (HTl.out.fr HFx.out) (t.names.getD k 0))
          rw [HHS.out _ hin] at HHX
          generalize t.names.getD k 0 = y at *
          clear hin
          go_wp2_with (go_at_call 19; refine HHX.out.mono ?_; rintro e wy ⟨rfl, hFy⟩; have HFy := Lib.hid (HFx.out.trans hFy (by simp)); clear hFy HHX)
          obtain ⟨m3, rfl⟩ : ∃ m3, m2 = m3 + 1 := ⟨m2 - 1, by omega⟩
          go_roundg m3
          case rel => exact ⟨m3, k + 1, rfl, by go_num, by omega, HFy⟩
          case measure => omega
        · have HTx := Lib.hid (HTl.out.fr HFx.out)
          have HFgx := Lib.hid (HFl.out.trans HFx.out (by simp))
          have HN6 := Lib.hid (names_calls HTx.out HG'.out.kn)
          have hsx : wg.heap.size ≤ wr.heap.size := HFgx.out.size
          go_upto_region 21 with (first
            | (go_at_call 12; refine HN6.out.mono ?_; rintro e wm ⟨v6, rfl, hO6, hFm⟩
               obtain ⟨A6, d6, rfl⟩ := hO6.formN rfl
               have HO6 := Lib.hid hO6
               have HFm := Lib.hid hFm
               have HW7 := Lib.hid (waiting_calls (HTx.out.fr hFm) HG'.out.wt)
               clear hO6 hFm HN6)
            | (go_at_call 20; refine HW7.out.mono ?_; rintro e wn ⟨v7, rfl, hO7, hFn⟩
               obtain ⟨A7, d7, rfl⟩ := hO7.formN (N := T'.wait.length) (by simp)
               have HO7 := Lib.hid hO7
               have HO6n := Lib.hid (HO6.out.fr hFn (by simp))
               have hsn : wr.heap.size ≤ wm.heap.size := HFm.out.size
               have HFn := Lib.hid (HFm.out.trans hFn (by simp))
               clear hO7 hFn HO6))
          have HFgn := Lib.hid (HFgx.out.trans HFn.out (by simp))
          obtain ⟨e0, e1, e2, e3, e4⟩ := (HBg.out.fr HFgn.out).cells
          have HCP2 := Lib.hid (copy_C q (Kd.C_below HQC.out (HFwg.out.trans HFgn.out (by simp)).below) hqs)
          go_upto_region 22 with (first
            | (go_at_call 17; refine HCP2.out.mono ?_; rintro e wo ⟨A9, d9, rfl, hd9, hC9, hFo⟩
               have HFgo := Lib.hid (HFgn.out.trans hFo (by simp))
               have HFwo := Lib.hid (HFwg.out.trans HFgo.out (by simp))
               have hTo := HTg.out.later HFgo.out (by simp)
               have hso := HFgo.out.size
               have hsg := HXg.out.size
               have HXo : Hid (∀ k', (XB w wO wf k' ∨ (wg.heap.size ≤ k' ∧ k' < wo.heap.size)) → k' < wo.heap.size) := fun k' hx => by
                 rcases hx with hx | hx
                 · have := XB.lt HFwf.out.size k' hx
                   omega
                 · exact hx.2
               have HAC2 := Lib.hid (add_C hTo HG'.out q.b hC9 hd9 HXo.out HTW.out)
               have HO6o := Lib.hid (HO6n.out.fr hFo (by simp))
               have HO7o := Lib.hid (HO7.out.fr hFo (by simp))
               clear hTo hFo hC9 HCP2)
            | (go_at_call 16; refine HAC2.out.mono ?_; rintro e wp ⟨A10, d10, rfl, hO10, hTp, hXp⟩
               have HTp := Lib.hid hTp
               have HFwp := Lib.hid (hXp.keep (fun k' hk' => .inl (.inl hk')) HFwo.out)
               have HO6p := Lib.hid (HO6o.out.frX hXp (fun k' hk' => .inr ⟨Nat.le_trans hsx (HO6o.out.2 k' hk'), HO6o.out.lt k' hk'⟩))
               have HO7p := Lib.hid (HO7o.out.frX hXp (fun k' hk' => .inr ⟨Nat.le_trans (Nat.le_trans hsx hsn) (HO7o.out.2 k' hk'), HO7o.out.lt k' hk'⟩))
               have HN9 := Lib.hid (names_calls hTp HG'.out.kn)
               clear hO10 hTp hXp HAC2))
          clear e0 e1 e2 e3 e4
          cases OK
          all_goals
            go_wp2_with (first
              | (go_at_call 12; refine HN9.out.mono ?_; rintro e wq ⟨v9, rfl, hO9, hFq⟩
                 have HFq := Lib.hid hFq
                 have HS9 := Lib.hid (same_sl hO9.sl (HO6p.out.fr hFq (by simp)).sl)
                 simp only [decide_true] at HS9
                 clear hO9 hFq HN9)
              | (go_at_call 18; refine HS9.out.mono ?_; rintro e ws ⟨rfl, hFs⟩
                 have HFs := Lib.hid (HFq.out.trans hFs (by simp))
                 have HW9 := Lib.hid (waiting_calls (HTp.out.fr HFs.out) HG'.out.wt)
                 clear hFs HS9)
              | (go_at_call 20; refine HW9.out.mono ?_; rintro e wt ⟨v10, rfl, hO11, hFt⟩
                 have HFt := Lib.hid (HFs.out.trans hFt (by simp))
                 have HS10 := Lib.hid (same_sl hO11.sl (HO7p.out.fr HFt.out (by simp)).sl)
                 simp only [decide_true] at HS10
                 clear hO11 hFt HW9)
              | (go_at_call 18; refine HS10.out.mono ?_; rintro e wu ⟨rfl, hFu⟩
                 have HFu := Lib.hid (HFt.out.trans hFu (by simp))
                 clear hFu HS10))
            have HTu : Hid (TrAt (fun k => k < w.heap.size) wu p T') := (HTp.out.grow (fun k' hk' _ => .inl (.inl hk'))).fr HFu.out
            have HFwu := Lib.hid (HFwp.out.trans HFu.out (by simp))
            obtain ⟨m', rfl⟩ : ∃ m', m = m' + 1 := ⟨m - 1, by omega⟩
            go_roundg m'
            case rel => exact ⟨m', j + 1, T', rfl, by go_num, by omega, HG', HTu, HFwu⟩
            case measure => omega
    · obtain rfl : j = N := by omega
      go_wp2
      exact hR.out _ _ ⟨rfl, HF.out⟩
end Go.Np.Try
