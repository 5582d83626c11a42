/- treeAlive. -/
import Derived.Test.YtdfoalbkfdnmcaaTreeU
import Derived.Test.YtdfoalbkfdnmcaaSame
set_option linter.unusedVariables false
set_option linter.unusedSimpArgs false
namespace Go.Np.Try
open Go.RowKit Go.Proofs Go.Proofs.Ytdfoalbkfdnmcaa.PX Go.Proofs.YtdfoalbkfdnmcaaW.PrintWords
theorem same_sl {w : World} {u v : Value} {a b : List Int} (ha : SlI w u a) (hb : SlI w v b) : Calls Try.prog 18 #[u, v] w fun e w' => e = .returned (.bool (decide (a = b))) ∧ Fr [] w w' := by
  obtain ⟨A, c, rfl, _, h1⟩ := ha
  obtain ⟨B, d, rfl, _, h2⟩ := hb
  refine (same_calls h1 h2).mono ?_
  rintro e w' ⟨rfl, n, rfl⟩
  exact ⟨rfl, (Fr.refl _ _).drewN n⟩
theorem FrX.own {w w' : World} (h : FrX (fun k => k < w.heap.size) w w') : Fr [] w w' := by
  obtain ⟨S, h1, h2⟩ := h
  exact h1.mono (fun x hx => .inr (Nat.le_of_not_lt (h2 x hx)))
theorem FrX.old {w w1 w' : World} (h : FrX (fun k => k < w.heap.size) w1 w') (h0 : Fr [] w w1) : Fr [] w w' := by
  obtain ⟨S, h1, h2⟩ := h
  exact h0.trans h1 (fun x hx => .inr (Nat.le_of_not_lt (h2 x hx))) |>.mono (fun x hx => by simp at hx)
theorem add_step {X : Nat → Prop} {w w' : World} {p : Nat} {t t' : Tr} {b : Blk} {l : List Int} {ok : Bool} {e : Ending} (h : AddRes X w p t b e w') (ha : t.add b = (t', l, ok)) :
    ∃ A c, e = .returned (.tuple #[.slice A l.length c, .bool ok]) ∧ OwnI w.heap.size w' (.slice A l.length c) l ∧ TrAt X w' p t' ∧ FrX X w w' := by
  unfold AddRes at h
  rw [ha] at h
  obtain ⟨v, rfl, hO, hT, hF⟩ := h
  obtain ⟨A, c, rfl⟩ := hO.formN rfl
  exact ⟨A, c, rfl, hO, hT, hF⟩
theorem C_none (w : World) : k59.C w none 0 ([] : List S59) := ⟨rfl, Nat.zero_le _, fun h => absurd h (Nat.lt_irrefl 0)⟩
def aB1 : Blk := ⟨2, 0, 0, 65536, []⟩
def aB2 : Blk := ⟨1, 0, 0, 0, []⟩
def aT1 : Tr := ⟨[], [aB1]⟩
def aT2 : Tr := ⟨[⟨65536, aB2, [65536]⟩, ⟨131072, aB1, [65536, 131072]⟩], []⟩
theorem aN1 : nameB aB1 = 131072 := by decide
theorem aN2 : nameB aB2 = 65536 := by decide
theorem a_add1 : (⟨[], []⟩ : Tr).add aB1 = (aT1, [], true) := by rfl
theorem a_add2 : aT1.add aB2 = (aT2, [65536, 131072], true) := by rfl
theorem aT1_good : aT1.Good := by
  have := Tr.add_good Tr.empty_good aB1
  rw [a_add1] at this; exact this
theorem aT2_good : aT2.Good := by
  have := Tr.add_good aT1_good aB2
  rw [a_add2] at this; exact this
theorem aT2_names : aT2.names = [65536, 131072] := by
  refine strict_ext _ _ (uniq_strict _) (by simp) (fun x => ?_)
  rw [Tr.names, uniq_mem]
  simp [aT2]
theorem aT2_tip : aT2.tip = 131072 := by
  unfold Tr.tip
  rw [aT2_names]
  rfl
theorem aT2_high : aT2.high 131072 = 2 := by rfl
set_option maxHeartbeats 4000000 in
set_option maxRecDepth 100000 in
theorem alive_calls {w : World} : Calls Try.prog 10 #[] w fun e w' => e = .returned (.bool true) ∧ Fr [] w w' := by
  have HNEW := Lib.hid (new_calls (w := w))
  refine calls_k fun R hR => ?_
  go_enter Try.func10, Try.ntmps10
  go_upto_region 4 with (first
    | (go_at_call 11; refine HNEW.out.mono ?_; rintro e w1 ⟨p, rfl, hT1, hF1, hp1⟩
       have HA1 := Lib.hid ((add_calls hT1 Tr.empty_good ⟨aB1, none, 0⟩ (C_none w1) (Nat.le_refl _) (fun k hk => Nat.lt_of_lt_of_le hk hF1.size)).mono (fun e w' h => add_step h a_add1))
       simp only [blkV, aB1, List.length_nil] at HA1
       have HF1 := Lib.hid hF1
       clear hF1 hT1 HNEW))
  go_upto_region 5 with (first
    | (go_at_call 16; refine HA1.out.mono ?_; rintro e w2 ⟨A2, c2, rfl, hO2, hT2, hF2⟩
       have HF2 := Lib.hid (FrX.old hF2 HF1.out)
       have HA2 := Lib.hid ((add_calls hT2 aT1_good ⟨aB2, none, 0⟩ (C_none w2) (Nat.le_refl _) (fun k hk => Nat.lt_of_lt_of_le hk HF2.out.size)).mono (fun e w' h => add_step h a_add2))
       simp only [blkV, aB2, List.length_nil, List.length_cons, Nat.zero_add, Nat.reduceAdd] at HA2
       clear hO2 hT2 hF2 HA1))
  go_upto_region 6 with (first
    | (go_at_call 16; refine HA2.out.mono ?_; rintro e w3 ⟨A3, c3, rfl, hO3, hT3, hF3⟩
       have HF3 := Lib.hid (FrX.old hF3 HF2.out)
       have HO3 := Lib.hid hO3
       have HT3 := Lib.hid hT3
       clear hO3 hT3 hF3 HA2))
  obtain ⟨W4, hW4⟩ : ∃ W4, W4 = w3.alloc (.cells #[.int .i64 65536, .int .i64 131072] 3) := ⟨_, rfl⟩
  have hF4 : Fr [] w3 W4 := by rw [hW4]; exact (Fr.refl _ _).alloc _
  have hO4 : OwnI w3.heap.size W4 (.slice (some ⟨w3.heap.size, 0, none⟩) 2 2) [65536, 131072] := by rw [hW4]; exact OwnI.two _ _ _
  have HSA := Lib.hid (same_sl (HO3.out.fr hF4 (by simp)).sl hO4.sl)
  simp only [decide_true] at HSA
  rw [hW4] at HSA
  have HT4 := Lib.hid (HT3.out.fr hF4)
  have HF4 := Lib.hid (HF3.out.trans hF4 (by simp))
  clear hF4 hO4
  go_wp2_with (first
    | (go_at_call 18; refine HSA.out.mono ?_; rintro e w5 ⟨rfl, hF5⟩
       rw [← hW4] at hF5
       have HTI := Lib.hid (tip_calls (HT4.out.fr hF5) aT2_good.ok)
       rw [aT2_tip] at HTI
       have HF5 := Lib.hid hF5
       clear hF5 HSA)
    | (go_at_call 13; refine HTI.out.mono ?_; rintro e w6 ⟨rfl, hF6⟩
       have HHI := Lib.hid (height_calls (HT4.out.fr (HF5.out.trans hF6 (by simp))) 131072)
       rw [aT2_high] at HHI
       have HF6 := Lib.hid (HF5.out.trans hF6 (by simp))
       clear hF6 HTI)
    | (go_at_call 14; refine HHI.out.mono ?_; rintro e w7 ⟨rfl, hF7⟩))
  exact hR.out _ _ ⟨rfl, (HF4.out.trans HF6.out (by simp)).trans hF7 (by simp)⟩
end Go.Np.Try
