/- A text that the row of LedgerCleans needs. (Pruned by tools/prune.py.) -/
import Derived.Test.YtlllhpnpgcphcaaQLedgerCleansLedk
set_option linter.unusedVariables false
set_option linter.unusedSimpArgs false
namespace Go.Np.Try
open Go.RowKit Go.Proofs Go.Proofs.Ytlllhpnpgcphcaa.PX Go.Proofs.YtlllhpnpgcphcaaW.PrintWords
theorem ints_made (w : World) (l : List Int) (hl : l.length ≤ 1000) : SlI (w.alloc (.cells (l.map (Value.int .i64)).toArray 3)) (.slice (some ⟨w.heap.size, 0, none⟩) l.length l.length) l := by
  have h : OwnI 0 (w.alloc (.cells (l.map (Value.int .i64)).toArray 3)) (.slice (some ⟨w.heap.size, 0, none⟩) l.length l.length) l := by
    refine ⟨⟨by simp, .inr ⟨w.heap.size, l.length, (l.map (Value.int .i64)).toArray, rfl, Nat.zero_le _, heap_alloc_new w _, Nat.le_refl _, by unfold maxLen; omega, by simp, ?_⟩⟩, fun k _ => Nat.zero_le _⟩
    show List.take (l.length * 1) (l.map (Value.int .i64)) = _
    rw [Nat.mul_one]; exact List.take_of_length_le (by simp)
  exact h.sl
theorem SlI.C {w : World} {A : Option Addr} {n c : Nat} {l : List Int} (h : SlI w (.slice A n c) l) : n = l.length ∧ l.length ≤ c ∧ (Kd.int .i64).C w A l.length l := by
  obtain ⟨A', c', e, hle, hC⟩ := h
  injection e with e1 e2 e3
  subst e1 e3
  exact ⟨e2, hle, hC⟩
def eB1 : Blk := ⟨1, 0, 0, 0, [⟨1, 0⟩, ⟨2, 0⟩]⟩
def eB2 : Blk := ⟨1, 1, 0, 0, [⟨1, 0⟩]⟩
def eB3 : Blk := ⟨2, 1, 0, 65792, [⟨3, 0⟩]⟩
def eT1 : Tr := ⟨[⟨65536, eB1, [65536]⟩], []⟩
def eT2 : Tr := ⟨[⟨65536, eB1, [65536]⟩, ⟨65792, eB2, [65792]⟩], []⟩
def eT3 : Tr := ⟨[⟨65536, eB1, [65536]⟩, ⟨65792, eB2, [65792]⟩, ⟨131328, eB3, [65792, 131328]⟩], []⟩
def eC0 : Ch := ⟨⟨[], []⟩, [3, 3], 0, 2⟩
def eC1 : Ch := ⟨eT1, [3, 3], 0, 2⟩
def eC2 : Ch := ⟨eT2, [3, 3], 0, 2⟩
def eC3 : Ch := ⟨eT3, [3, 3], 0, 2⟩
theorem e_add1 : (⟨[], []⟩ : Tr).add eB1 = (eT1, [65536], true) := by rfl
theorem e_add2 : eT1.add eB2 = (eT2, [65792], true) := by rfl
theorem e_add3 : eT2.add eB3 = (eT3, [131328], true) := by rfl
theorem e_take1 : eC0.take eB1 = (eC1, [65536], 0) := by rfl
theorem e_take2 : eC1.take eB2 = (eC2, [65792], 0) := by rfl
theorem e_take3 : eC2.take eB3 = (eC3, [131328], 0) := by rfl
theorem eT1_good : eT1.Good := by
  have := Tr.add_good Tr.empty_good eB1
  rw [e_add1] at this; exact this
theorem eT2_good : eT2.Good := by
  have := Tr.add_good eT1_good eB2
  rw [e_add2] at this; exact this
theorem eT3_good : eT3.Good := by
  have := Tr.add_good eT2_good eB3
  rw [e_add3] at this; exact this
theorem eT3_tip : eT3.tip = 131328 := by
  have h : eT3.names = [65536, 65792, 131328] := by
    refine strict_ext _ _ (uniq_strict _) (by simp) (fun x => ?_)
    rw [Tr.names, uniq_mem]
    simp [eT3]
  unfold Tr.tip
  rw [h]
  rfl
theorem e_conf : eC3.conf = 131328 := by
  unfold Ch.conf
  rw [show eC3.t.tip = 131328 from eT3_tip]
  rfl
theorem e_avail : availL eC3 [65536] = [1, 2, 3] := by
  unfold availL
  rw [e_conf]
  rfl
theorem e_final : finalL eC3 [65536, 6488064, 0] = [1, 2] := by rfl
theorem e_settled : settledN eC3 [0, 6488064, 0] = 1 := by rfl
theorem avail_lit {X : Nat → Prop} {W : World} {c : Nat} {C : Ch} (h : ChAt X W c C) (hG : C.t.Good) (l r : List Int) (hl : l.length ≤ 40) (hr : availL C l = r) :
    Calls Try.prog 60 #[.pointer (some ⟨c, 0, none⟩), .slice (some ⟨W.heap.size, 0, none⟩) l.length l.length] (W.alloc (.cells (l.map (Value.int .i64)).toArray 3)) fun e w' => ∃ A' c', e = .returned (.slice A' r.length c') ∧ SlI w' (.slice A' r.length c') r ∧ Fr [] W w' := by
  have hF : Fr [] W (W.alloc (.cells (l.map (Value.int .i64)).toArray 3)) := (Fr.refl _ _).alloc _
  have hs := (ints_made W l (by omega)).C
  have h1 := avail_calls (h.fr hF) hG hs.2.2 hs.2.1 hl
  rw [hr] at h1
  refine h1.mono ?_
  rintro e w' ⟨A, c, rfl, h2, h3⟩
  exact ⟨A, c, rfl, h2, hF.trans h3 (by simp)⟩
theorem final_lit {X : Nat → Prop} {W : World} {c : Nat} {C : Ch} (h : ChAt X W c C) (hG : C.t.Good) (l r : List Int) (hl : l.length ≤ 40) (hr : finalL C l = r) :
    Calls Try.prog 59 #[.pointer (some ⟨c, 0, none⟩), .slice (some ⟨W.heap.size, 0, none⟩) l.length l.length] (W.alloc (.cells (l.map (Value.int .i64)).toArray 3)) fun e w' => ∃ A' c', e = .returned (.slice A' r.length c') ∧ SlI w' (.slice A' r.length c') r ∧ Fr [] W w' := by
  have hF : Fr [] W (W.alloc (.cells (l.map (Value.int .i64)).toArray 3)) := (Fr.refl _ _).alloc _
  have hs := (ints_made W l (by omega)).C
  have h1 := final_calls (h.fr hF) hG hs.2.2 hs.2.1 hl
  rw [hr] at h1
  refine h1.mono ?_
  rintro e w' ⟨v, rfl, ⟨A, c, rfl, h4, h5⟩, h3⟩
  exact ⟨A, c, rfl, ⟨A, c, rfl, h4, h5⟩, hF.trans h3 (by simp)⟩
theorem settled_lit {X : Nat → Prop} {W : World} {c : Nat} {C : Ch} (h : ChAt X W c C) (l : List Int) (r : Nat) (hl : l.length ≤ 40) (hr : settledN C l = r) :
    Calls Try.prog 61 #[.pointer (some ⟨c, 0, none⟩), .slice (some ⟨W.heap.size, 0, none⟩) l.length l.length] (W.alloc (.cells (l.map (Value.int .i64)).toArray 3)) fun e w' => e = .returned (.int .i64 r) ∧ Fr [] W w' := by
  have hF : Fr [] W (W.alloc (.cells (l.map (Value.int .i64)).toArray 3)) := (Fr.refl _ _).alloc _
  have hs := (ints_made W l (by omega)).C
  have h1 := settled_calls (cp := l.length) (h.fr hF) hs.2.2
  rw [hr] at h1
  refine h1.mono ?_
  rintro e w' ⟨rfl, h3⟩
  exact ⟨rfl, hF.trans h3 (by simp)⟩
theorem same_lit {W : World} {v : Value} {l : List Int} (h : SlI W v l) (hl : l.length ≤ 1000) : Calls Try.prog 19 #[v, .slice (some ⟨W.heap.size, 0, none⟩) l.length l.length] (W.alloc (.cells (l.map (Value.int .i64)).toArray 3)) fun e w' => e = .returned (.bool true) ∧ Fr [] W w' := by
  have hF : Fr [] W (W.alloc (.cells (l.map (Value.int .i64)).toArray 3)) := (Fr.refl _ _).alloc _
  refine (same_sl (h.fr hF) (ints_made W l hl)).mono ?_
  rintro e w' ⟨rfl, h3⟩
  exact ⟨by simp, hF.trans h3 (by simp)⟩
set_option maxHeartbeats 4000000 in
set_option maxRecDepth 100000 in
theorem lalive_calls {w : World} : Calls Try.prog 57 #[] w fun e w' => e = .returned (.bool true) ∧ Fr [] w w' := by
  obtain ⟨W1, hW1⟩ : ∃ W1, W1 = w.alloc (.cells #[.int .i64 3, .int .i64 3] 3) := ⟨_, rfl⟩
  obtain ⟨g1, hg1⟩ : ∃ g, g = w.heap.size := ⟨_, rfl⟩
  have hF1 : Fr [] w W1 := by rw [hW1]; exact (Fr.refl _ _).alloc _
  have hC1 : (Kd.int .i64).C W1 (some ⟨g1, 0, none⟩) 2 [3, 3] := by rw [hW1, hg1]; exact (ints_made w [3, 3] (by simp)).C.2.2
  have HNEW := Lib.hid (ch_new (w := W1) (c := 2) (dr := [3, 3]) hC1 (by simp) 0)
  simp only [List.length_cons, List.length_nil, Nat.zero_add, Nat.reduceAdd] at HNEW
  have HF1 := Lib.hid hF1
  refine calls_k fun R hR => ?_
  clear hF1 hC1
  go_enter Try.func57, Try.ntmps57
  go_upto_region 1 with (fail)
  go_upto_region 3 with (first
    | (rw [← hW1, ← hg1]; go_at_call 41; refine HNEW.out.mono ?_; rintro e w2 ⟨c, rfl, hc2, hF2⟩
       have HF2 := Lib.hid (HF1.out.trans hF2 (by simp))
       have hX2 : ChAt (fun k => k < w.heap.size) w2 c ⟨⟨[], []⟩, [3, 3], 0, 0⟩ := hc2.less (fun k hk => Nat.lt_of_lt_of_le hk HF1.out.size)
       have HNX := Lib.hid (ch_next hX2 2)
       clear hc2 hX2 hF2 HNEW hW1 hg1)
    | (go_at_call 47; refine HNX.out.mono ?_; rintro e w4 ⟨rfl, hc4, hX4⟩
       have HC4 : Hid (ChAt (fun k => k < w.heap.size) w4 c eC0) := hc4
       have HF4 := Lib.hid (FrX.old hX4 HF2.out)
       clear hc4 hX4 HNX))
  obtain ⟨W5, hW5⟩ : ∃ W5, W5 = w4.alloc (.cells #[.int .i64 1, .int .i64 0, .int .i64 2, .int .i64 0] 52) := ⟨_, rfl⟩
  obtain ⟨g5, hg5⟩ : ∃ g, g = w4.heap.size := ⟨_, rfl⟩
  have hF5 : Fr [] w4 W5 := by rw [hW5]; exact (Fr.refl _ _).alloc _
  have hC5 : k52.C W5 (some ⟨g5, 0, none⟩) 2 [⟨1, 0⟩, ⟨2, 0⟩] := by rw [hW5, hg5]; exact txs_made w4 [⟨1, 0⟩, ⟨2, 0⟩] (by simp)
  have HF5 := Lib.hid (HF4.out.trans hF5 (by simp))
  have HTK := Lib.hid (ch_takeC (HC4.out.fr hF5) Tr.empty_good (fun k hk => Nat.lt_of_lt_of_le hk HF5.out.size) eB1 (cb := 2) hC5 (Nat.le_refl _) e_take1)
  simp only [eB1, List.length_cons, List.length_nil, Nat.zero_add, Nat.reduceAdd] at HTK
  clear hF5 hC5
  go_upto_region 4 with (first
    | (rw [← hW5, ← hg5]; go_at_call 42; refine HTK.out.mono ?_; rintro e w6 ⟨D6, d6, rfl, hO6, hc6, hX6⟩
       have HC6 := Lib.hid hc6
       have HF6 := Lib.hid (FrX.old hX6 HF5.out)
       clear hO6 hc6 hX6 HTK hW5 hg5))
  obtain ⟨W7, hW7⟩ : ∃ W7, W7 = w6.alloc (.cells #[.int .i64 1, .int .i64 0] 52) := ⟨_, rfl⟩
  obtain ⟨g7, hg7⟩ : ∃ g, g = w6.heap.size := ⟨_, rfl⟩
  have hF7 : Fr [] w6 W7 := by rw [hW7]; exact (Fr.refl _ _).alloc _
  have hC7 : k52.C W7 (some ⟨g7, 0, none⟩) 1 [⟨1, 0⟩] := by rw [hW7, hg7]; exact txs_made w6 [⟨1, 0⟩] (by simp)
  have HF7 := Lib.hid (HF6.out.trans hF7 (by simp))
  have HTK2 := Lib.hid (ch_takeC (HC6.out.fr hF7) eT1_good (fun k hk => Nat.lt_of_lt_of_le hk HF7.out.size) eB2 (cb := 1) hC7 (Nat.le_refl _) e_take2)
  simp only [eB2, List.length_cons, List.length_nil, Nat.zero_add, Nat.reduceAdd] at HTK2
  clear hF7 hC7
  go_upto_region 5 with (first
    | (rw [← hW7, ← hg7]; go_at_call 42; refine HTK2.out.mono ?_; rintro e w8 ⟨D8, d8, rfl, hO8, hc8, hX8⟩
       have HC8 := Lib.hid hc8
       have HF8 := Lib.hid (FrX.old hX8 HF7.out)
       clear hO8 hc8 hX8 HTK2 hW7 hg7))
  obtain ⟨W9, hW9⟩ : ∃ W9, W9 = w8.alloc (.cells #[.int .i64 3, .int .i64 0] 52) := ⟨_, rfl⟩
  obtain ⟨g9, hg9⟩ : ∃ g, g = w8.heap.size := ⟨_, rfl⟩
  have hF9 : Fr [] w8 W9 := by rw [hW9]; exact (Fr.refl _ _).alloc _
  have hC9 : k52.C W9 (some ⟨g9, 0, none⟩) 1 [⟨3, 0⟩] := by rw [hW9, hg9]; exact txs_made w8 [⟨3, 0⟩] (by simp)
  have HF9 := Lib.hid (HF8.out.trans hF9 (by simp))
  have HTK3 := Lib.hid (ch_takeC (HC8.out.fr hF9) eT2_good (fun k hk => Nat.lt_of_lt_of_le hk HF9.out.size) eB3 (cb := 1) hC9 (Nat.le_refl _) e_take3)
  simp only [eB3, List.length_cons, List.length_nil, Nat.zero_add, Nat.reduceAdd] at HTK3
  clear hF9 hC9
  go_upto_region 6 with (first
    | (rw [← hW9, ← hg9]; go_at_call 42; refine HTK3.out.mono ?_; rintro e w10 ⟨D10, d10, rfl, hO10, hc10, hX10⟩
       have HC10 := Lib.hid hc10
       have HF10 := Lib.hid (FrX.old hX10 HF9.out)
       have HAV := Lib.hid (avail_lit hc10 eT3_good [65536] [1, 2, 3] (by simp) e_avail)
       clear hO10 hc10 hX10 HTK3 hW9 hg9))
  simp only [List.length_cons, List.length_nil, Nat.zero_add, Nat.reduceAdd, List.map_cons, List.map_nil] at HAV
  have tok1 := Lib.hid True.intro
  go_wp2_with (first
    | (go_at_call 60; refine HAV.out.mono ?_; rintro e w11 ⟨A11, c11, rfl, hS11, hF11⟩
       have HS1 := Lib.hid (same_lit hS11 (by simp))
       simp only [List.length_cons, List.length_nil, Nat.zero_add, Nat.reduceAdd, List.map_cons, List.map_nil] at HS1
       have HF11 := Lib.hid hF11
       clear hS11 hF11 HAV)
    | (go_at_call 19; have _t := tok1; refine HS1.out.mono ?_; rintro e w12 ⟨rfl, hF12⟩
       have HF12 := Lib.hid (HF11.out.trans hF12 (by simp))
       have HFI := Lib.hid (final_lit (HC10.out.fr HF12.out) eT3_good [65536, 6488064, 0] [1, 2] (by simp) e_final)
       simp only [List.length_cons, List.length_nil, Nat.zero_add, Nat.reduceAdd, List.map_cons, List.map_nil] at HFI
       clear hF12 tok1)
    | (go_at_call 59; refine HFI.out.mono ?_; rintro e w13 ⟨A13, c13, rfl, hS13, hF13⟩
       have HS2 := Lib.hid (same_lit hS13 (by simp))
       simp only [List.length_cons, List.length_nil, Nat.zero_add, Nat.reduceAdd, List.map_cons, List.map_nil] at HS2
       have HF13 := Lib.hid (HF12.out.trans hF13 (by simp))
       clear hS13 hF13 HFI)
    | (go_at_call 19; refine HS2.out.mono ?_; rintro e w14 ⟨rfl, hF14⟩
       have HF14 := Lib.hid (HF13.out.trans hF14 (by simp))
       have HSE := Lib.hid (settled_lit (HC10.out.fr HF14.out) [0, 6488064, 0] 1 (by simp) e_settled)
       simp only [List.length_cons, List.length_nil, Nat.zero_add, Nat.reduceAdd, List.map_cons, List.map_nil] at HSE
       clear hF14 HS2)
    | (go_at_call 61; refine HSE.out.mono ?_; rintro e w15 ⟨rfl, hF15⟩
       have HF15 := Lib.hid (HF14.out.trans hF15 (by simp))
       clear hF15 HSE))
  exact hR.out _ _ ⟨rfl, HF10.out.trans HF15.out (by simp)⟩
end Go.Np.Try
