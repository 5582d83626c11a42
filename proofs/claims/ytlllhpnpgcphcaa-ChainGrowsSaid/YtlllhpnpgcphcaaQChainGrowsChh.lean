/- A text that the row of ChainGrows needs. (Pruned by tools/prune.py.) -/
import Derived.Test.YtlllhpnpgcphcaaQChainGrowsChg
set_option linter.unusedVariables false
set_option linter.unusedSimpArgs false
namespace Go.Np.Try
open Go.RowKit Go.Proofs Go.Proofs.Ytlllhpnpgcphcaa.PX Go.Proofs.YtlllhpnpgcphcaaW.PrintWords
theorem ch_takeC {X : Nat → Prop} {w : World} {c : Nat} {C C' : Ch} {L : List Int} {E : Int} (h : ChAt X w c C) (hG : C.t.Good) (hXw : ∀ k, X k → k < w.heap.size) (b : Blk) {A : Option Addr} {cb : Nat} (hC : k52.C w A b.f4.length b.f4) (hc : b.f4.length ≤ cb) (ht : C.take b = (C', L, E)) :
    Calls Try.prog 42 #[.pointer (some ⟨c, 0, none⟩), .agg #[.int .i64 b.f0, .int .i64 b.f1, .int .i64 b.f2, .int .i64 b.f3, .slice A b.f4.length cb]] w fun e w' =>
      ∃ D d, e = .returned (.tuple #[.slice D L.length d, .int .i64 E]) ∧ OwnI w.heap.size w' (.slice D L.length d) L ∧ ChAt X w' c C' ∧ FrX X w w' := by
  refine (ch_take h hG hXw ⟨b, A, cb⟩ hC hc).mono ?_
  rintro e w' h
  unfold ChTake at h
  rw [ht] at h
  obtain ⟨v, rfl, hO, hT, hF⟩ := h
  obtain ⟨A, c, rfl⟩ := hO.formN rfl
  exact ⟨A, c, rfl, hO, hT, hF⟩
theorem ch_makeC {X : Nat → Prop} {w : World} {c : Nat} {C : Ch} {b : Blk} {ok : Bool} (h : ChAt X w c C) (hG : C.t.Good) (me : Int) (txs : List S52) {At : Option Addr} {ct : Nat} (hT : k52.C w At txs.length txs) (hm : C.make me txs = (b, ok)) :
    Calls Try.prog 50 #[.pointer (some ⟨c, 0, none⟩), .int .i64 me, .slice At txs.length ct] w fun e w' =>
      ∃ A' c', e = .returned (.tuple #[.agg #[.int .i64 b.f0, .int .i64 b.f1, .int .i64 b.f2, .int .i64 b.f3, .slice A' b.f4.length c'], .bool ok]) ∧ b.f4.length ≤ c' ∧ k52.C w' A' b.f4.length b.f4 ∧ w'.ownsRow 0 52 2 (.slice A' b.f4.length c') b.f4.length (flatT b.f4) ∧ (∀ k ∈ (Value.slice A' b.f4.length c').ownBlock.toList, w.heap.size ≤ k) ∧ Fr [] w w' := by
  refine (ch_make h hG me txs hT).mono ?_
  rintro e w' h
  unfold ChMake at h
  rw [hm] at h
  obtain ⟨A, c, rfl, h1, h2, h3⟩ := h
  obtain ⟨B', cb', hee, hlc, hCC⟩ := flatT_C h1
  injection hee with hee1 _ hee3
  subst hee1 hee3
  exact ⟨_, _, rfl, hlc, hCC, h1, h2, h3⟩
theorem txs_made (w : World) (l : List S52) (hl : l.length ≤ 1000) : k52.C (w.alloc (.cells (flatT l).toArray 52)) (some ⟨w.heap.size, 0, none⟩) l.length l := by
  have h : (w.alloc (.cells (flatT l).toArray 52)).ownsRow 0 52 2 (.slice (some ⟨w.heap.size, 0, none⟩) l.length l.length) l.length (flatT l) := by
    refine ⟨flatT_len l, .inr ⟨w.heap.size, l.length, (flatT l).toArray, rfl, Nat.zero_le _, heap_alloc_new w _, Nat.le_refl _, by unfold maxLen; omega, by simp [flatT_len], ?_⟩⟩
    rw [← flatT_len l]; simp
  obtain ⟨A, c, e, _, h2⟩ := flatT_C h
  injection e with e1 _ _
  rw [e1]; exact h2
def kB1 : Blk := ⟨1, 0, 0, 0, [⟨5, 0⟩]⟩
def kB2 : Blk := ⟨2, 0, 0, 65536, [⟨6, 0⟩]⟩
def kT1 : Tr := ⟨[⟨65536, kB1, [65536]⟩], []⟩
def kT2 : Tr := ⟨[⟨65536, kB1, [65536]⟩, ⟨131072, kB2, [65536, 131072]⟩], []⟩
def kC1 : Ch := ⟨⟨[], []⟩, [1, 1], 1, 2⟩
def kC2 : Ch := ⟨kT1, [1, 1], 1, 2⟩
def kC3 : Ch := ⟨kT2, [1, 1], 1, 2⟩
theorem k_add1 : (⟨[], []⟩ : Tr).add kB1 = (kT1, [65536], true) := by rfl
theorem k_add2 : kT1.add kB2 = (kT2, [131072], true) := by rfl
theorem k_take1 : kC1.take kB1 = (kC2, [65536], 0) := by rfl
theorem k_take2 : kC2.take kB2 = (kC3, [131072], 0) := by rfl
theorem kT1_good : kT1.Good := by
  have := Tr.add_good Tr.empty_good kB1
  rw [k_add1] at this; exact this
theorem kT2_good : kT2.Good := by
  have := Tr.add_good kT1_good kB2
  rw [k_add2] at this; exact this
theorem kT1_tip : kT1.tip = 65536 := by
  have h : kT1.names = [65536] := by
    refine strict_ext _ _ (uniq_strict _) (by simp) (fun x => ?_)
    rw [Tr.names, uniq_mem]
    simp [kT1]
  unfold Tr.tip
  rw [h]
  rfl
theorem kT2_tip : kT2.tip = 131072 := by
  have h : kT2.names = [65536, 131072] := by
    refine strict_ext _ _ (uniq_strict _) (by simp) (fun x => ?_)
    rw [Tr.names, uniq_mem]
    simp [kT2]
  unfold Tr.tip
  rw [h]
  rfl
theorem k_make : kC2.make 0 [⟨5, 0⟩, ⟨6, 0⟩] = (kB2, true) := by
  have h : kC2.blk 0 [⟨5, 0⟩, ⟨6, 0⟩] = kB2 := by
    unfold Ch.blk
    rw [show kC2.t.tip = 65536 from kT1_tip]
    rfl
  unfold Ch.make
  rw [h, show kC2.t.tip = 65536 from kT1_tip]
  rfl
theorem k_conf : kC3.conf = 65536 := by
  unfold Ch.conf
  rw [show kC3.t.tip = 131072 from kT2_tip]
  rfl
set_option maxHeartbeats 4000000 in
set_option maxRecDepth 100000 in
theorem calive_calls {w : World} : Calls Try.prog 43 #[] w fun e w' => e = .returned (.bool true) ∧ Fr [] w w' := by
  obtain ⟨W1, hW1⟩ : ∃ W1, W1 = w.alloc (.cells #[.int .i64 1, .int .i64 1] 3) := ⟨_, rfl⟩
  obtain ⟨g1, hg1⟩ : ∃ g, g = w.heap.size := ⟨_, rfl⟩
  have hF1 : Fr [] w W1 := by rw [hW1]; exact (Fr.refl _ _).alloc _
  have hO1 : OwnI w.heap.size W1 (.slice (some ⟨g1, 0, none⟩) 2 2) [1, 1] := by rw [hW1, hg1]; exact OwnI.two _ _ _
  have hC1 : (Kd.int .i64).C W1 (some ⟨g1, 0, none⟩) 2 [1, 1] := by
    obtain ⟨A, c, e, _, h⟩ := hO1.sl
    injection e with e1 _ _
    rw [e1]; exact h
  have HNEW := Lib.hid (ch_new (w := W1) (c := 2) (dr := [1, 1]) hC1 (by simp) 1)
  simp only [List.length_cons, List.length_nil, Nat.zero_add, Nat.reduceAdd] at HNEW
  have HF1 := Lib.hid hF1
  refine calls_k fun R hR => ?_
  clear hF1 hO1 hC1
  go_enter Try.func43, Try.ntmps43
  go_upto_region 1 with (fail)
  go_upto_region 2 with (first
    | (rw [← hW1, ← hg1]; go_at_call 41; refine HNEW.out.mono ?_; rintro e w2 ⟨c, rfl, hc2, hF2⟩
       have HF2 := Lib.hid (HF1.out.trans hF2 (by simp))
       have hX2 : ChAt (fun k => k < w.heap.size) w2 c ⟨⟨[], []⟩, [1, 1], 1, 0⟩ := hc2.less (fun k hk => Nat.lt_of_lt_of_le hk HF1.out.size)
       have HC2 := Lib.hid hX2
       clear hc2 hX2 hF2 HNEW hW1 hg1))
  obtain ⟨p2, v2, D2, hI2⟩ := HC2.out
  have HTR := Lib.hid (ch_tree hI2)
  clear hI2
  go_upto_region 5 with (first
    | (go_at_call 49; refine HTR.out.mono ?_; rintro e w3 ⟨rfl, hF3⟩
       have HF3 := Lib.hid (HF2.out.trans hF3 (by simp))
       have HNX := Lib.hid (ch_next (HC2.out.fr hF3) 2)
       clear hF3 HTR)
    | (go_at_call 47; refine HNX.out.mono ?_; rintro e w4 ⟨rfl, hc4, hX4⟩
       have HC4 : Hid (ChAt (fun k => k < w.heap.size) w4 c kC1) := hc4
       have HF4 := Lib.hid (FrX.old hX4 HF3.out)
       clear hc4 hX4 HNX))
  obtain ⟨W5, hW5⟩ : ∃ W5, W5 = w4.alloc (.cells #[.int .i64 5, .int .i64 0] 52) := ⟨_, rfl⟩
  obtain ⟨g5, hg5⟩ : ∃ g, g = w4.heap.size := ⟨_, rfl⟩
  have hF5 : Fr [] w4 W5 := by rw [hW5]; exact (Fr.refl _ _).alloc _
  have hC5 : k52.C W5 (some ⟨g5, 0, none⟩) 1 [⟨5, 0⟩] := by rw [hW5, hg5]; exact txs_made w4 [⟨5, 0⟩] (by simp)
  have HF5 := Lib.hid (HF4.out.trans hF5 (by simp))
  have HTK := Lib.hid (ch_takeC (HC4.out.fr hF5) Tr.empty_good (fun k hk => Nat.lt_of_lt_of_le hk HF5.out.size) kB1 (cb := 1) hC5 (Nat.le_refl _) k_take1)
  simp only [kB1, List.length_cons, List.length_nil, Nat.zero_add, Nat.reduceAdd] at HTK
  clear hF5 hC5
  go_upto_region 6 with (first
    | (rw [← hW5, ← hg5]; go_at_call 42; refine HTK.out.mono ?_; rintro e w6 ⟨D6, d6, rfl, hO6, hc6, hX6⟩
       have HC6 := Lib.hid hc6
       have HF6 := Lib.hid (FrX.old hX6 HF5.out)
       clear hO6 hc6 hX6 HTK hW5 hg5))
  obtain ⟨W7, hW7⟩ : ∃ W7, W7 = w6.alloc (.cells #[.int .i64 5, .int .i64 0, .int .i64 6, .int .i64 0] 52) := ⟨_, rfl⟩
  obtain ⟨g7, hg7⟩ : ∃ g, g = w6.heap.size := ⟨_, rfl⟩
  have hF7 : Fr [] w6 W7 := by rw [hW7]; exact (Fr.refl _ _).alloc _
  have hC7 : k52.C W7 (some ⟨g7, 0, none⟩) 2 [⟨5, 0⟩, ⟨6, 0⟩] := by rw [hW7, hg7]; exact txs_made w6 [⟨5, 0⟩, ⟨6, 0⟩] (by simp)
  have HF7 := Lib.hid hF7
  have HMA := Lib.hid (ch_makeC (ct := 2) (HC6.out.fr hF7) kT1_good 0 [⟨5, 0⟩, ⟨6, 0⟩] hC7 k_make)
  simp only [kB2, List.length_cons, List.length_nil, Nat.zero_add, Nat.reduceAdd] at HMA
  clear hF7 hC7
  go_upto_region 7 with (first
    | (rw [← hW7, ← hg7]; go_at_call 50; refine HMA.out.mono ?_; rintro e w8 ⟨A8, d8, rfl, hl8, hC8, _, _, hF8⟩
       have HC8 := Lib.hid hC8
       have HF8 := Lib.hid (HF7.out.trans hF8 (by simp))
       clear hC8 hF8 HMA hW7 hg7))
  obtain ⟨W9, hW9⟩ : ∃ W9, W9 = w8.alloc (.cells #[.int .i64 2, .int .i64 0, .int .i64 0, .int .i64 65536, .slice A8 1 d8] 32) := ⟨_, rfl⟩
  obtain ⟨g9, hg9⟩ : ∃ g, g = w8.heap.size := ⟨_, rfl⟩
  have hF9 : Fr [] w8 W9 := by rw [hW9]; exact (Fr.refl _ _).alloc _
  have hB9 : BlkIn W9 g9 ⟨kB2, A8, d8⟩ := by rw [hW9, hg9]; exact heap_alloc_new _ _
  have hs9 : W9.heap.size = g9 + 1 := by rw [hW9, hg9]; simp
  have hs8 := HF8.out.size
  have hF69 := HF8.out.trans hF9 (by simp)
  have hX9 := HC6.out.later hF69 (by simp)
  have HF9 := Lib.hid (HF6.out.trans hF69 (by simp))
  have HTK2 := Lib.hid (ch_takeC hX9 kT1_good (fun k hk => by
    rcases hk with hk | hk
    · exact Nat.lt_of_lt_of_le hk HF9.out.size
    · exact hk.2) kB2 (cb := d8) (Kd.C_below HC8.out hF9.below) hl8 k_take2)
  simp only [kB2, List.length_cons, List.length_nil, Nat.zero_add, Nat.reduceAdd] at HTK2
  have hgx : w6.heap.size ≤ g9 ∧ g9 < W9.heap.size := ⟨by omega, by omega⟩
  have HB9 := Lib.hid hB9
  have HGX := Lib.hid hgx
  obtain ⟨e0, e1, e2, e3, e4⟩ := hB9.cells
  simp only [kB2, List.length_cons, List.length_nil, Nat.zero_add, Nat.reduceAdd] at e0 e1 e2 e3 e4
  rw [← hW9, ← hg9]
  clear hW9 hg9 hF9 hB9 hs9 hs8 hF69 hX9 hgx hl8
  go_upto_region 8 with (first
    | (go_at_call 42; refine HTK2.out.mono ?_; rintro e w10 ⟨D10, d10, rfl, hO10, hc10, hX10⟩
       have HC10 := Lib.hid hc10
       have HB10 := Lib.hid (HB9.out.frX hX10 (.inr HGX.out))
       have HF10 := Lib.hid (hX10.keep (fun k hk => .inl hk) HF9.out)
       clear hO10 hc10 hX10 HTK2 e0 e1 e2 e3 e4))
  obtain ⟨e0, e1, e2, e3, e4⟩ := HB10.out.cells
  simp only [kB2, List.length_cons, List.length_nil, Nat.zero_add, Nat.reduceAdd] at e0 e1 e2 e3 e4
  have HCF := Lib.hid (ch_conf HC10.out kT2_good)
  rw [k_conf] at HCF
  obtain ⟨p3, v3, D3, hI3⟩ := HC10.out
  have HI3 := Lib.hid hI3
  clear hI3
  go_wp2_with (first
    | (go_at_call 44; refine HCF.out.mono ?_; rintro e w11 ⟨rfl, hF11⟩
       have HF11 := Lib.hid hF11
       have HTR3 := Lib.hid (ch_tree (HI3.out.fr hF11))
       clear hF11 HCF e0 e1 e2 e3 e4)
    | (go_at_call 49; refine HTR3.out.mono ?_; rintro e w12 ⟨rfl, hF12⟩
       have HF12 := Lib.hid (HF11.out.trans hF12 (by simp))
       have HTI := Lib.hid (tip_calls (HI3.out.tr.fr HF12.out) kT2_good.ok)
       rw [show kC3.t.tip = 131072 from kT2_tip] at HTI
       clear hF12 HTR3)
    | (go_at_call 34; refine HTI.out.mono ?_; rintro e w13 ⟨rfl, hF13⟩
       have HF13 := Lib.hid (HF12.out.trans hF13 (by simp))
       clear hF13 HTI))
  exact hR.out _ _ ⟨rfl, HF10.out.trans HF13.out (by simp)⟩
end Go.Np.Try
