/- TallyCounts: the walk. (Printed by tools/gen_tcounts.py.) -/
import Derived.Test.YtjpdhgajpldjbaaTallyQ
import Derived.Deep.Slices
import Derived.OpenShut
import Derived.ChangeSlices
set_option linter.unusedVariables false
set_option linter.unusedSimpArgs false
namespace Go.Np.Try
open Go.RowKit Go.Proofs Go.Proofs.Ytjpdhgajpldjbaa.PX Go.Proofs.YtjpdhgajpldjbaaW.PrintWords
def SlI (w : World) (v : Value) (l : List Int) : Prop := ∃ A c, v = .slice A l.length c ∧ l.length ≤ c ∧ (Kd.int .i64).C w A l.length l
theorem SlI.fr {w w' : World} {v : Value} {l : List Int} (h : SlI w v l) (hF : Fr [] w w') : SlI w' v l := by
  obtain ⟨A, c, h1, h2, h3⟩ := h
  exact ⟨A, c, h1, h2, Kd.C_below h3 hF.below⟩
theorem same_sl {w : World} {u v : Value} {a b : List Int} (ha : SlI w u a) (hb : SlI w v b) : Calls Try.prog 19 #[u, v] w fun e w' => e = .returned (.bool (decide (a = b))) ∧ Fr [] w w' := by
  obtain ⟨A, c, rfl, _, h1⟩ := ha
  obtain ⟨B, d, rfl, _, h2⟩ := hb
  refine (same_calls h1 h2).mono ?_
  rintro e w' ⟨rfl, n, rfl⟩
  exact ⟨rfl, (Fr.refl _ _).drewN n⟩
theorem rChk {w : World} {A0 : Option Addr} {c0 : Nat} {st : List Int} (h : (Kd.int .i64).C w A0 st.length st) (hc : st.length ≤ c0) :
    Calls Try.prog 28 #[.slice A0 st.length c0] w fun e w' => e = .returned (.int .i64 (chk st)) ∧ Fr [] w w' := by
  obtain ⟨k, hk⟩ := rcheck_ev st
  refine (neaptideref03_Check.calls k A0 c0 st _ w h hc (hk k (Nat.le_refl _))).mono ?_
  rintro e w' ⟨rfl, h⟩
  exact ⟨rfl, Fr.of_below [] h.below⟩
/-- A slice of votes, each number in its range. -/
def VotesAt (w : World) (v : Value) (l : List S41) : Prop := ∃ A c, v = .slice A l.length c ∧ k41.C w A l.length l ∧ ∀ q ∈ l, wf64 q.f0 ∧ wf64 q.f1 ∧ wf64 q.f2
def VoteAt (v : Value) (q : S41) : Prop := v = .agg #[.int .i64 q.f0, .int .i64 q.f1, .int .i64 q.f2, .int .i64 q.f3] ∧ wf64 q.f0 ∧ wf64 q.f1 ∧ wf64 q.f2 ∧ wf64 q.f3
set_option maxHeartbeats 16000000 in
set_option maxRecDepth 100000 in
theorem TallyCounts_walk (w : World) (A0 : Option Addr) (c0 : Nat) (st : List Int) (h0 : (Kd.int .i64).C w A0 st.length st) (_hm : st.length ≤ maxLen) (_hs : st.length * 8 ≤ 140737488351232) (_hw : ∀ n ∈ st, (Lit.int .i64 n).wf = true) (hc0 : st.length ≤ c0)
    (v1 : Value) (l : List S41) (hv1 : VotesAt w v1 l) (v2 : Value) (q : S41) (hv2 : VoteAt v2 q) :
    Calls Try.prog 7 #[.slice A0 st.length c0, v1, v2] w fun e w' => e = .returned (.bool true) ∧ Fr [] w w' := by
  obtain ⟨Av, cv, rfl, hv, hwf⟩ := hv1
  obtain ⟨K, V, F, x⟩ := q
  obtain ⟨rfl, wK, wV, wF, wx⟩ := hv2
  simp only at wK wV wF wx
  obtain ⟨W1, hW1⟩ : ∃ W1, W1 = w.alloc (.cells #[.int .i64 K, .int .i64 V, .int .i64 F, .int .i64 x] 41) := ⟨_, rfl⟩
  obtain ⟨bq, hbq⟩ : ∃ bq, bq = w.heap.size := ⟨_, rfl⟩
  have hF1 : Fr [] w W1 := by rw [hW1]; exact (Fr.refl _ _).alloc _
  have hblk : W1.heap[bq]? = some (.cells #[.int .i64 K, .int .i64 V, .int .i64 F, .int .i64 x] 41 (0, 0)) := by rw [hW1, hbq]; exact heap_alloc_new _ _
  have a2 : W1.cell? ⟨bq, 0, none⟩ = some (.int .i64 K) := cell_of hblk 0
  have a3 : W1.cell? ⟨bq, 1, none⟩ = some (.int .i64 V) := cell_of hblk 1
  have a4 : W1.cell? ⟨bq, 2, none⟩ = some (.int .i64 F) := cell_of hblk 2
  have a5 : W1.cell? ⟨bq, 3, none⟩ = some (.int .i64 x) := cell_of hblk 3
  have HAL := Lib.hid (talive_calls W1)
  have HW1 := Lib.hid hW1
  have HBQ := Lib.hid hbq
  have HCH : Hid (∀ W, Fr [] w W → Calls Try.prog 28 #[.slice A0 st.length c0] W fun e w' => e = .returned (.int .i64 (chk st)) ∧ Fr [] W w') := fun W hF => rChk (Kd.C_below h0 hF.below) hc0
  have HCO : Hid (∀ W, okS st → l.length ≤ 80 → Fr [] w W → Calls Try.prog 29 #[.slice A0 st.length c0, .slice Av l.length cv] W fun e w' => ∃ p b B d, e = .returned (.tuple #[.pointer (some ⟨p, 0, none⟩), .agg #[.slice A0 st.length c0, .slice B (foldR st.length l).length d], .bool true]) ∧ RefT w' A0 c0 st B d (foldR st.length l) ∧ Tz W w' p b st (foldR st.length l) ∧ Fr [] W w') := fun W h1 h2 hF => counted_calls h1 (Kd.C_below h0 hF.below) hc0 (Kd.C_below hv hF.below) hwf h2
  have hmx : l.length ≤ 9223372036854775807 := hv.2.1
  have HF1 := Lib.hid hF1
  have HLEN := Lib.hid (foldR_len st.length l)
  have HWF : Hid (wf64 K ∧ wf64 V ∧ wf64 F) := ⟨wK, wV, wF⟩
  clear hW1 hbq hblk h0 hv hwf hF1 _hm _hs _hw wK wV wF wx hc0
  refine calls_k fun R hR => ?_
  go_enter Try.func7, Try.ntmps7
  go_upto_region 1 with (fail)
  rw [← HW1.out, ← HBQ.out]
  by_cases hok : okS st
  · have hchk : chk st = 0 := by unfold chk; rw [if_pos hok]
    rw [hchk] at HCH
    by_cases hl : l.length ≤ 80
    · have HOK := Lib.hid hok
      clear hok hchk
      go_upto_region 6 with (first
        | (go_at_call 25; refine HAL.out.mono ?_; rintro e w2 ⟨rfl, hF⟩; have hF2 : Fr [] w w2 := HF1.out.trans hF (by simp); replace a2 := cellF hF a2; replace a3 := cellF hF a3; replace a4 := cellF hF a4; replace a5 := cellF hF a5; have HF2 := Lib.hid hF2; clear hF hF2)
        | (go_at_call 28; refine (HCH.out _ HF2.out).mono ?_; rintro e w3 ⟨rfl, hF⟩; have hF3 : Fr [] w w3 := HF2.out.trans hF (by simp); replace a2 := cellF hF a2; replace a3 := cellF hF a3; replace a4 := cellF hF a4; replace a5 := cellF hF a5; have HF3 := Lib.hid hF3; clear hF hF3)
        | (go_at_call 29; refine (HCO.out _ HOK.out hl HF3.out).mono ?_; rintro e w4 ⟨p, b, B, d, rfl, hRT, hTZ, hF⟩; have hF4 : Fr [] w w4 := HF3.out.trans hF (by simp); replace a2 := cellF hF a2; replace a3 := cellF hF a3; replace a4 := cellF hF a4; replace a5 := cellF hF a5; have HF4 := Lib.hid hF4; have HRT := Lib.hid hRT; have HTZ := Lib.hid hTZ; clear hF hF4 hRT hTZ))
      obtain ⟨mS, hmS⟩ : ∃ mS, mS = foldR st.length l := ⟨_, rfl⟩
      have hml : mS.length < 1000000 := by rw [hmS]; have := HLEN.out; omega
      rw [← hmS] at HRT HTZ ⊢
      clear hmS
      obtain ⟨wq, hwq⟩ : ∃ wq, wq = w4.alloc (.cells #[.slice A0 st.length c0, .slice B mS.length d] 44) := ⟨_, rfl⟩
      obtain ⟨b8, hb8⟩ : ∃ b8, b8 = w4.heap.size := ⟨_, rfl⟩
      have hF4q : Fr [] w4 wq := by rw [hwq]; exact (Fr.refl _ _).alloc _
      have hblk8 : wq.heap[b8]? = some (.cells #[.slice A0 st.length c0, .slice B mS.length d] 44 (0, 0)) := by rw [hwq, hb8]; exact heap_alloc_new _ _
      have a0 : wq.cell? ⟨b8, 0, none⟩ = some (.slice A0 st.length c0) := cell_of hblk8 0
      have a1 : wq.cell? ⟨b8, 1, none⟩ = some (.slice B mS.length d) := cell_of hblk8 1
      replace a2 := cellF hF4q a2
      replace a3 := cellF hF4q a3
      replace a4 := cellF hF4q a4
      replace a5 := cellF hF4q a5
      rw [← hwq, ← hb8]
      have HTZq := Lib.hid (HTZ.out.step hF4q)
      have HRTq := Lib.hid (HRT.out.fr hF4q)
      have HFq : Hid (Fr [] w wq) := HF4.out.trans hF4q (by simp)
      clear hwq hb8 hblk8 hF4q HRT HTZ HF4 HF3 HF2 HCO HCH HAL
      obtain ⟨o1, ho1⟩ : ∃ o1, o1 = (ofR mS K V F).getD 0 := ⟨_, rfl⟩
      obtain ⟨o2, ho2⟩ : ∃ o2, o2 = (ofR mS K V F).isSome := ⟨_, rfl⟩
      obtain ⟨m1, hm1⟩ : ∃ m1, m1 = (mostR st mS K V).1 := ⟨_, rfl⟩
      obtain ⟨m2, hm2⟩ : ∃ m2, m2 = (mostR st mS K V).2 := ⟨_, rfl⟩
      obtain ⟨c1, hc1⟩ : ∃ c1, c1 = (comR st mS).1 := ⟨_, rfl⟩
      obtain ⟨c2, hc2⟩ : ∃ c2, c2 = (comR st mS).2 := ⟨_, rfl⟩
      obtain ⟨ah, hah⟩ : ∃ ah, ah = ahR st mS V := ⟨_, rfl⟩
      obtain ⟨L1, hL1⟩ : ∃ L1, L1 = whoR st.length mS K V x := ⟨_, rfl⟩
      obtain ⟨L2, hL2⟩ : ∃ L2, L2 = allR st.length mS K V := ⟨_, rfl⟩
      have C30 : Hid (∀ W, Fr [] wq W → Calls Try.prog 30 #[.pointer (some ⟨p, 0, none⟩), .int .i64 K, .int .i64 V, .int .i64 F] W fun e w' => e = .returned (.tuple #[.int .i64 o1, .bool o2]) ∧ Fr [] W w') := by
        intro W h; rw [ho1, ho2]; exact zVote (HTZq.out.step h) K V F HWF.out
      have C31 : Hid (∀ W, Fr [] wq W → Calls Try.prog 31 #[.agg #[.slice A0 st.length c0, .slice B mS.length d], .int .i64 K, .int .i64 V, .int .i64 F] W fun e w' => e = .returned (.tuple #[.int .i64 o1, .bool o2]) ∧ Fr [] W w') := by
        intro W h; rw [ho1, ho2]; exact rOf (HRTq.out.fr h) hml K V F
      have C24 : Hid (∀ W, Fr [] wq W → Calls Try.prog 24 #[.pointer (some ⟨p, 0, none⟩), .int .i64 K, .int .i64 V] W fun e w' => e = .returned (.tuple #[.int .i64 m1, .bool m2]) ∧ Fr [] W w') := by
        intro W h; rw [hm1, hm2]; exact zMost (HTZq.out.step h) K V HWF.out.1 HWF.out.2.1
      have C32 : Hid (∀ W, Fr [] wq W → Calls Try.prog 32 #[.agg #[.slice A0 st.length c0, .slice B mS.length d], .int .i64 K, .int .i64 V] W fun e w' => e = .returned (.tuple #[.int .i64 m1, .bool m2]) ∧ Fr [] W w') := by
        intro W h; rw [hm1, hm2]; exact rMost HOK.out (HRTq.out.fr h) hml K V
      have C23 : Hid (∀ W, Fr [] wq W → Calls Try.prog 23 #[.pointer (some ⟨p, 0, none⟩)] W fun e w' => e = .returned (.tuple #[.int .i64 c1, .bool c2]) ∧ Fr [] W w') := by
        intro W h; rw [hc1, hc2]; exact zCom (HTZq.out.step h)
      have C33 : Hid (∀ W, Fr [] wq W → Calls Try.prog 33 #[.agg #[.slice A0 st.length c0, .slice B mS.length d]] W fun e w' => e = .returned (.tuple #[.int .i64 c1, .bool c2]) ∧ Fr [] W w') := by
        intro W h; rw [hc1, hc2]; exact rCom HOK.out (HRTq.out.fr h) hml
      have C26 : Hid (∀ W, Fr [] wq W ∧ W.cell? ⟨b8, 0, none⟩ = some (.slice A0 st.length c0) ∧ W.cell? ⟨b8, 1, none⟩ = some (.slice B mS.length d) ∧ W.cell? ⟨bq, 0, none⟩ = some (.int .i64 K) ∧ W.cell? ⟨bq, 1, none⟩ = some (.int .i64 V) ∧ W.cell? ⟨bq, 2, none⟩ = some (.int .i64 F) ∧ W.cell? ⟨bq, 3, none⟩ = some (.int .i64 x) → Calls Try.prog 26 #[.pointer (some ⟨p, 0, none⟩), .int .i64 V] W fun e w' => e = .returned (.int .i64 ah) ∧ (Fr [] wq w' ∧ w'.cell? ⟨b8, 0, none⟩ = some (.slice A0 st.length c0) ∧ w'.cell? ⟨b8, 1, none⟩ = some (.slice B mS.length d) ∧ w'.cell? ⟨bq, 0, none⟩ = some (.int .i64 K) ∧ w'.cell? ⟨bq, 1, none⟩ = some (.int .i64 V) ∧ w'.cell? ⟨bq, 2, none⟩ = some (.int .i64 F) ∧ w'.cell? ⟨bq, 3, none⟩ = some (.int .i64 x)) ∧ Fr [] W w') := by
        intro W hS
        rw [hah]
        refine (zAh (HTZq.out.step hS.1) V).mono ?_
        rintro e w' ⟨rfl, hF⟩
        exact ⟨rfl, ⟨hS.1.trans hF (by simp), cellF hF hS.2.1, cellF hF hS.2.2.1, cellF hF hS.2.2.2.1, cellF hF hS.2.2.2.2.1, cellF hF hS.2.2.2.2.2.1, cellF hF hS.2.2.2.2.2.2⟩, hF⟩
      have C34 : Hid (∀ W, Fr [] wq W ∧ W.cell? ⟨b8, 0, none⟩ = some (.slice A0 st.length c0) ∧ W.cell? ⟨b8, 1, none⟩ = some (.slice B mS.length d) ∧ W.cell? ⟨bq, 0, none⟩ = some (.int .i64 K) ∧ W.cell? ⟨bq, 1, none⟩ = some (.int .i64 V) ∧ W.cell? ⟨bq, 2, none⟩ = some (.int .i64 F) ∧ W.cell? ⟨bq, 3, none⟩ = some (.int .i64 x) → Calls Try.prog 34 #[.agg #[.slice A0 st.length c0, .slice B mS.length d], .int .i64 V] W fun e w' => e = .returned (.int .i64 ah) ∧ (Fr [] wq w' ∧ w'.cell? ⟨b8, 0, none⟩ = some (.slice A0 st.length c0) ∧ w'.cell? ⟨b8, 1, none⟩ = some (.slice B mS.length d) ∧ w'.cell? ⟨bq, 0, none⟩ = some (.int .i64 K) ∧ w'.cell? ⟨bq, 1, none⟩ = some (.int .i64 V) ∧ w'.cell? ⟨bq, 2, none⟩ = some (.int .i64 F) ∧ w'.cell? ⟨bq, 3, none⟩ = some (.int .i64 x)) ∧ Fr [] W w') := by
        intro W hS
        rw [hah]
        refine (rAh HOK.out (HRTq.out.fr hS.1) hml V).mono ?_
        rintro e w' ⟨rfl, hF⟩
        exact ⟨rfl, ⟨hS.1.trans hF (by simp), cellF hF hS.2.1, cellF hF hS.2.2.1, cellF hF hS.2.2.2.1, cellF hF hS.2.2.2.2.1, cellF hF hS.2.2.2.2.2.1, cellF hF hS.2.2.2.2.2.2⟩, hF⟩
      have C35 : Hid (∀ W, Fr [] wq W ∧ W.cell? ⟨b8, 0, none⟩ = some (.slice A0 st.length c0) ∧ W.cell? ⟨b8, 1, none⟩ = some (.slice B mS.length d) ∧ W.cell? ⟨bq, 0, none⟩ = some (.int .i64 K) ∧ W.cell? ⟨bq, 1, none⟩ = some (.int .i64 V) ∧ W.cell? ⟨bq, 2, none⟩ = some (.int .i64 F) ∧ W.cell? ⟨bq, 3, none⟩ = some (.int .i64 x) → Calls Try.prog 35 #[.pointer (some ⟨p, 0, none⟩), .int .i64 K, .int .i64 V, .int .i64 x] W fun e w' => ∃ v, e = .returned v ∧ SlI w' v L1 ∧ (Fr [] wq w' ∧ w'.cell? ⟨b8, 0, none⟩ = some (.slice A0 st.length c0) ∧ w'.cell? ⟨b8, 1, none⟩ = some (.slice B mS.length d) ∧ w'.cell? ⟨bq, 0, none⟩ = some (.int .i64 K) ∧ w'.cell? ⟨bq, 1, none⟩ = some (.int .i64 V) ∧ w'.cell? ⟨bq, 2, none⟩ = some (.int .i64 F) ∧ w'.cell? ⟨bq, 3, none⟩ = some (.int .i64 x)) ∧ Fr [] W w') := by
        intro W hS
        rw [hL1]
        refine (zWho (HTZq.out.step hS.1) K V x).mono ?_
        rintro e w' ⟨A, c, rfl, h1, h2, hF⟩
        exact ⟨_, rfl, ⟨A, c, rfl, h1, h2⟩, ⟨hS.1.trans hF (by simp), cellF hF hS.2.1, cellF hF hS.2.2.1, cellF hF hS.2.2.2.1, cellF hF hS.2.2.2.2.1, cellF hF hS.2.2.2.2.2.1, cellF hF hS.2.2.2.2.2.2⟩, hF⟩
      have C36 : Hid (∀ W, Fr [] wq W ∧ W.cell? ⟨b8, 0, none⟩ = some (.slice A0 st.length c0) ∧ W.cell? ⟨b8, 1, none⟩ = some (.slice B mS.length d) ∧ W.cell? ⟨bq, 0, none⟩ = some (.int .i64 K) ∧ W.cell? ⟨bq, 1, none⟩ = some (.int .i64 V) ∧ W.cell? ⟨bq, 2, none⟩ = some (.int .i64 F) ∧ W.cell? ⟨bq, 3, none⟩ = some (.int .i64 x) → Calls Try.prog 36 #[.agg #[.slice A0 st.length c0, .slice B mS.length d], .int .i64 K, .int .i64 V, .int .i64 x] W fun e w' => ∃ v, e = .returned v ∧ SlI w' v L1 ∧ (Fr [] wq w' ∧ w'.cell? ⟨b8, 0, none⟩ = some (.slice A0 st.length c0) ∧ w'.cell? ⟨b8, 1, none⟩ = some (.slice B mS.length d) ∧ w'.cell? ⟨bq, 0, none⟩ = some (.int .i64 K) ∧ w'.cell? ⟨bq, 1, none⟩ = some (.int .i64 V) ∧ w'.cell? ⟨bq, 2, none⟩ = some (.int .i64 F) ∧ w'.cell? ⟨bq, 3, none⟩ = some (.int .i64 x)) ∧ Fr [] W w') := by
        intro W hS
        rw [hL1]
        refine (rWho HOK.out (HRTq.out.fr hS.1) hml K V x).mono ?_
        rintro e w' ⟨A, c, rfl, h1, h2, hF⟩
        exact ⟨_, rfl, ⟨A, c, rfl, h1, h2⟩, ⟨hS.1.trans hF (by simp), cellF hF hS.2.1, cellF hF hS.2.2.1, cellF hF hS.2.2.2.1, cellF hF hS.2.2.2.2.1, cellF hF hS.2.2.2.2.2.1, cellF hF hS.2.2.2.2.2.2⟩, hF⟩
      have C27 : Hid (∀ W, Fr [] wq W ∧ W.cell? ⟨b8, 0, none⟩ = some (.slice A0 st.length c0) ∧ W.cell? ⟨b8, 1, none⟩ = some (.slice B mS.length d) ∧ W.cell? ⟨bq, 0, none⟩ = some (.int .i64 K) ∧ W.cell? ⟨bq, 1, none⟩ = some (.int .i64 V) ∧ W.cell? ⟨bq, 2, none⟩ = some (.int .i64 F) ∧ W.cell? ⟨bq, 3, none⟩ = some (.int .i64 x) → Calls Try.prog 27 #[.pointer (some ⟨p, 0, none⟩), .int .i64 K, .int .i64 V] W fun e w' => ∃ v, e = .returned v ∧ SlI w' v L2 ∧ (Fr [] wq w' ∧ w'.cell? ⟨b8, 0, none⟩ = some (.slice A0 st.length c0) ∧ w'.cell? ⟨b8, 1, none⟩ = some (.slice B mS.length d) ∧ w'.cell? ⟨bq, 0, none⟩ = some (.int .i64 K) ∧ w'.cell? ⟨bq, 1, none⟩ = some (.int .i64 V) ∧ w'.cell? ⟨bq, 2, none⟩ = some (.int .i64 F) ∧ w'.cell? ⟨bq, 3, none⟩ = some (.int .i64 x)) ∧ Fr [] W w') := by
        intro W hS
        rw [hL2]
        refine (zAll (HTZq.out.step hS.1) K V).mono ?_
        rintro e w' ⟨A, c, rfl, h1, h2, hF⟩
        exact ⟨_, rfl, ⟨A, c, rfl, h1, h2⟩, ⟨hS.1.trans hF (by simp), cellF hF hS.2.1, cellF hF hS.2.2.1, cellF hF hS.2.2.2.1, cellF hF hS.2.2.2.2.1, cellF hF hS.2.2.2.2.2.1, cellF hF hS.2.2.2.2.2.2⟩, hF⟩
      have C37 : Hid (∀ W, Fr [] wq W ∧ W.cell? ⟨b8, 0, none⟩ = some (.slice A0 st.length c0) ∧ W.cell? ⟨b8, 1, none⟩ = some (.slice B mS.length d) ∧ W.cell? ⟨bq, 0, none⟩ = some (.int .i64 K) ∧ W.cell? ⟨bq, 1, none⟩ = some (.int .i64 V) ∧ W.cell? ⟨bq, 2, none⟩ = some (.int .i64 F) ∧ W.cell? ⟨bq, 3, none⟩ = some (.int .i64 x) → Calls Try.prog 37 #[.agg #[.slice A0 st.length c0, .slice B mS.length d], .int .i64 K, .int .i64 V] W fun e w' => ∃ v, e = .returned v ∧ SlI w' v L2 ∧ (Fr [] wq w' ∧ w'.cell? ⟨b8, 0, none⟩ = some (.slice A0 st.length c0) ∧ w'.cell? ⟨b8, 1, none⟩ = some (.slice B mS.length d) ∧ w'.cell? ⟨bq, 0, none⟩ = some (.int .i64 K) ∧ w'.cell? ⟨bq, 1, none⟩ = some (.int .i64 V) ∧ w'.cell? ⟨bq, 2, none⟩ = some (.int .i64 F) ∧ w'.cell? ⟨bq, 3, none⟩ = some (.int .i64 x)) ∧ Fr [] W w') := by
        intro W hS
        rw [hL2]
        refine (rAll HOK.out (HRTq.out.fr hS.1) hml K V).mono ?_
        rintro e w' ⟨A, c, rfl, h1, h2, hF⟩
        exact ⟨_, rfl, ⟨A, c, rfl, h1, h2⟩, ⟨hS.1.trans hF (by simp), cellF hF hS.2.1, cellF hF hS.2.2.1, cellF hF hS.2.2.2.1, cellF hF hS.2.2.2.2.1, cellF hF hS.2.2.2.2.2.1, cellF hF hS.2.2.2.2.2.2⟩, hF⟩
      have C19 : Hid (∀ W u v L, (Fr [] wq W ∧ W.cell? ⟨b8, 0, none⟩ = some (.slice A0 st.length c0) ∧ W.cell? ⟨b8, 1, none⟩ = some (.slice B mS.length d) ∧ W.cell? ⟨bq, 0, none⟩ = some (.int .i64 K) ∧ W.cell? ⟨bq, 1, none⟩ = some (.int .i64 V) ∧ W.cell? ⟨bq, 2, none⟩ = some (.int .i64 F) ∧ W.cell? ⟨bq, 3, none⟩ = some (.int .i64 x)) → SlI W u L → SlI W v L → Calls Try.prog 19 #[u, v] W fun e w' => e = .returned (.bool true) ∧ (Fr [] wq w' ∧ w'.cell? ⟨b8, 0, none⟩ = some (.slice A0 st.length c0) ∧ w'.cell? ⟨b8, 1, none⟩ = some (.slice B mS.length d) ∧ w'.cell? ⟨bq, 0, none⟩ = some (.int .i64 K) ∧ w'.cell? ⟨bq, 1, none⟩ = some (.int .i64 V) ∧ w'.cell? ⟨bq, 2, none⟩ = some (.int .i64 F) ∧ w'.cell? ⟨bq, 3, none⟩ = some (.int .i64 x)) ∧ Fr [] W w') := by
        intro W u v L hS hu hv
        refine (same_sl hu hv).mono ?_
        rintro e w' ⟨rfl, hF⟩
        exact ⟨by simp, ⟨hS.1.trans hF (by simp), cellF hF hS.2.1, cellF hF hS.2.2.1, cellF hF hS.2.2.2.1, cellF hF hS.2.2.2.2.1, cellF hF hS.2.2.2.2.2.1, cellF hF hS.2.2.2.2.2.2⟩, hF⟩
      have hR' : Hid (∀ W, Fr [] wq W → R (.returned (.bool true)) W) := fun W h => hR.out _ _ ⟨rfl, HFq.out.trans h (by simp)⟩
      have hid0 : Fr [] wq wq := Fr.refl _ _
      clear ho1 ho2 hm1 hm2 hc1 hc2 hah hL1 hL2 HTZq HRTq HFq HWF HOK hR HF1 HW1 HBQ HLEN hmx hl hml
      go_upto_region 14 with (first
        | (go_at_call 30; refine (C30.out _ hid0).mono ?_; rintro e w5 ⟨rfl, hF⟩; replace hid0 := hid0.trans hF (by simp); replace a0 := cellF hF a0; replace a1 := cellF hF a1; replace a2 := cellF hF a2; replace a3 := cellF hF a3; replace a4 := cellF hF a4; replace a5 := cellF hF a5; clear hF)
        | (go_at_call 31; refine (C31.out _ hid0).mono ?_; rintro e w6 ⟨rfl, hF⟩; replace hid0 := hid0.trans hF (by simp); replace a0 := cellF hF a0; replace a1 := cellF hF a1; replace a2 := cellF hF a2; replace a3 := cellF hF a3; replace a4 := cellF hF a4; replace a5 := cellF hF a5; clear hF)
        | (go_at_call 24; refine (C24.out _ hid0).mono ?_; rintro e w7 ⟨rfl, hF⟩; replace hid0 := hid0.trans hF (by simp); replace a0 := cellF hF a0; replace a1 := cellF hF a1; replace a2 := cellF hF a2; replace a3 := cellF hF a3; replace a4 := cellF hF a4; replace a5 := cellF hF a5; clear hF)
        | (go_at_call 32; refine (C32.out _ hid0).mono ?_; rintro e w8 ⟨rfl, hF⟩; replace hid0 := hid0.trans hF (by simp); replace a0 := cellF hF a0; replace a1 := cellF hF a1; replace a2 := cellF hF a2; replace a3 := cellF hF a3; replace a4 := cellF hF a4; replace a5 := cellF hF a5; clear hF)
        | (go_at_call 23; refine (C23.out _ hid0).mono ?_; rintro e w9 ⟨rfl, hF⟩; replace hid0 := hid0.trans hF (by simp); replace a0 := cellF hF a0; replace a1 := cellF hF a1; replace a2 := cellF hF a2; replace a3 := cellF hF a3; replace a4 := cellF hF a4; replace a5 := cellF hF a5; clear hF)
        | (go_at_call 33; refine (C33.out _ hid0).mono ?_; rintro e w10 ⟨rfl, hF⟩; replace hid0 := hid0.trans hF (by simp); replace a0 := cellF hF a0; replace a1 := cellF hF a1; replace a2 := cellF hF a2; replace a3 := cellF hF a3; replace a4 := cellF hF a4; replace a5 := cellF hF a5; clear hF))
      have CD : Hid ((fun W => Fr [] wq W ∧ W.cell? ⟨b8, 0, none⟩ = some (.slice A0 st.length c0) ∧ W.cell? ⟨b8, 1, none⟩ = some (.slice B mS.length d) ∧ W.cell? ⟨bq, 0, none⟩ = some (.int .i64 K) ∧ W.cell? ⟨bq, 1, none⟩ = some (.int .i64 V) ∧ W.cell? ⟨bq, 2, none⟩ = some (.int .i64 F) ∧ W.cell? ⟨bq, 3, none⟩ = some (.int .i64 x)) w10.drew) := ⟨hid0.drew, a0, a1, a2, a3, a4, a5⟩
      clear hid0 a0 a1 a2 a3 a4 a5 C30 C31 C24 C32 C23 C33
      go_region_held3 (fun W => Fr [] wq W ∧ W.cell? ⟨b8, 0, none⟩ = some (.slice A0 st.length c0) ∧ W.cell? ⟨b8, 1, none⟩ = some (.slice B mS.length d) ∧ W.cell? ⟨bq, 0, none⟩ = some (.int .i64 K) ∧ W.cell? ⟨bq, 1, none⟩ = some (.int .i64 V) ∧ W.cell? ⟨bq, 2, none⟩ = some (.int .i64 F) ∧ W.cell? ⟨bq, 3, none⟩ = some (.int .i64 x)) (first | exact CD.out | assumption)
        (first
          | (go_at_call 26; refine (C26.out _ (by assumption)).mono ?_; rintro e w11 ⟨rfl, hS11, hF11⟩)
          | (go_at_call 34; refine (C34.out _ (by assumption)).mono ?_; rintro e w12 ⟨rfl, hS12, hF12⟩))
      go_upto_region 16 with (fail)
      have CD2 : Hid ((fun W => Fr [] wq W ∧ W.cell? ⟨b8, 0, none⟩ = some (.slice A0 st.length c0) ∧ W.cell? ⟨b8, 1, none⟩ = some (.slice B mS.length d) ∧ W.cell? ⟨bq, 0, none⟩ = some (.int .i64 K) ∧ W.cell? ⟨bq, 1, none⟩ = some (.int .i64 V) ∧ W.cell? ⟨bq, 2, none⟩ = some (.int .i64 F) ∧ W.cell? ⟨bq, 3, none⟩ = some (.int .i64 x)) w12.drew) := ⟨hS12.1.drew, hS12.2.1, hS12.2.2.1, hS12.2.2.2.1, hS12.2.2.2.2.1, hS12.2.2.2.2.2.1, hS12.2.2.2.2.2.2⟩
      clear hS11 hS12 hF11 hF12 CD C26 C34
      go_region_held3 (fun W => Fr [] wq W ∧ W.cell? ⟨b8, 0, none⟩ = some (.slice A0 st.length c0) ∧ W.cell? ⟨b8, 1, none⟩ = some (.slice B mS.length d) ∧ W.cell? ⟨bq, 0, none⟩ = some (.int .i64 K) ∧ W.cell? ⟨bq, 1, none⟩ = some (.int .i64 V) ∧ W.cell? ⟨bq, 2, none⟩ = some (.int .i64 F) ∧ W.cell? ⟨bq, 3, none⟩ = some (.int .i64 x)) (first | exact CD2.out | assumption)
        (first
          | (go_at_call 35; refine (C35.out _ (by assumption)).mono ?_; rintro e w13 ⟨v13, rfl, hL13, hS13, hF13⟩)
          | (go_at_call 36; refine (C36.out _ (by assumption)).mono ?_; rintro e w14 ⟨v14, rfl, hL14, hS14, hF14⟩)
          | (go_at_call 27; refine (C27.out _ (by assumption)).mono ?_; rintro e w15 ⟨v15, rfl, hL15, hS15, hF15⟩)
          | (go_at_call 37; refine (C37.out _ (by assumption)).mono ?_; rintro e w16 ⟨v16, rfl, hL16, hS16, hF16⟩)
          | (go_at_call 19; refine (C19.out _ _ _ L1 (by assumption) (by first | assumption | exact SlI.fr (by assumption) (by assumption)) (by first | assumption | exact SlI.fr (by assumption) (by assumption))).mono ?_; rintro e w17 ⟨rfl, hS17, hF17⟩)
          | (go_at_call 19; refine (C19.out _ _ _ L2 (by assumption) (by first | assumption | exact SlI.fr (by assumption) (by assumption)) (by first | assumption | exact SlI.fr (by assumption) (by assumption))).mono ?_; rintro e w18 ⟨rfl, hS18, hF18⟩))
      all_goals (go_wp2; refine hR'.out _ ?_; have hSS : Fr [] wq w18 ∧ w18.cell? ⟨b8, 0, none⟩ = some (.slice A0 st.length c0) ∧ w18.cell? ⟨b8, 1, none⟩ = some (.slice B mS.length d) ∧ w18.cell? ⟨bq, 0, none⟩ = some (.int .i64 K) ∧ w18.cell? ⟨bq, 1, none⟩ = some (.int .i64 V) ∧ w18.cell? ⟨bq, 2, none⟩ = some (.int .i64 F) ∧ w18.cell? ⟨bq, 3, none⟩ = some (.int .i64 x) := by assumption
                 exact hSS.1)
    · go_wp2_with (first
        | (go_at_call 25; refine HAL.out.mono ?_; rintro e w2 ⟨rfl, hF⟩; have HF2 : Hid (Fr [] w w2) := HF1.out.trans hF (by simp))
        | (go_at_call 28; refine (HCH.out _ HF2.out).mono ?_; rintro e w3 ⟨rfl, hF3⟩))
      exact hR.out _ _ ⟨rfl, HF2.out.trans hF3 (by simp)⟩
  · have hchk : chk st = 31 := by unfold chk; rw [if_neg hok]
    rw [hchk] at HCH
    go_wp2_with (first
      | (go_at_call 25; refine HAL.out.mono ?_; rintro e w2 ⟨rfl, hF⟩; have HF2 : Hid (Fr [] w w2) := HF1.out.trans hF (by simp))
      | (go_at_call 28; refine (HCH.out _ HF2.out).mono ?_; rintro e w3 ⟨rfl, hF3⟩))
    exact hR.out _ _ ⟨rfl, HF2.out.trans hF3 (by simp)⟩
end Go.Np.Try
