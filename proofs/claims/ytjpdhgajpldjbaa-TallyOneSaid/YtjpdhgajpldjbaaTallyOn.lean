/- TallyOne: the walk. (Printed by tools/gen_tone.py.) -/
import Derived.Test.YtjpdhgajpldjbaaTallyFw
set_option linter.unusedVariables false
set_option linter.unusedSimpArgs false
namespace Go.Np.Try
open Go.RowKit Go.Proofs Go.ChangeShapes Go.WideShapes Go.Proofs.Ytjpdhgajpldjbaa.PX Go.Proofs.YtjpdhgajpldjbaaW.PrintWords
theorem many_succ (st : List Int) (a : List S41) (K V : Int) {L : List Int} {k : Nat} (hk : k < L.length) : manyP st a K V (L.take (k + 1)) = manyP st a K V (L.take k) + (mostB st (whoR st.length a K V ((ofR a K V (L.getD k 0)).getD 0))).toNat := by
  unfold manyP
  rw [List.take_succ_eq_append_getElem hk, List.filter_append, List.length_append, List.getD_eq_getElem?_getD, List.getElem?_eq_getElem hk]
  congr 1
  simp only [List.filter_cons, Option.getD_some, List.filter_nil]
  generalize mostB st (whoR st.length a K V ((ofR a K V L[k]).getD 0)) = bb
  cases bb <;> rfl
theorem allR_len (n : Nat) (a : List S41) (K V : Int) : (allR n a K V).length ≤ n := filter_len n
theorem whoR_len (n : Nat) (a : List S41) (K V X : Int) : (whoR n a K V X).length ≤ n := filter_len n
set_option maxHeartbeats 16000000 in
set_option maxRecDepth 100000 in
theorem TallyOne_walk (w : World) (A0 : Option Addr) (c0 : Nat) (st : List Int) (h0 : (Kd.int .i64).C w A0 st.length st) (_hm : st.length ≤ maxLen) (_hs : st.length * 8 ≤ 140737488351232) (_hw : ∀ n ∈ st, (Lit.int .i64 n).wf = true) (hc0 : st.length ≤ c0)
    (v1 : Value) (l : List S41) (hv1 : VotesC w v1 l) (v2 : Value) (q : S41) (hv2 : VoteAt v2 q) :
    Calls Try.prog 9 #[.slice A0 st.length c0, v1, v2] w fun e w' => e = .returned (.bool true) ∧ Fr [] w w' := by
  obtain ⟨Av, cv, rfl, hcv, hv, hwf⟩ := hv1
  obtain ⟨K, V, F, x⟩ := q
  obtain ⟨rfl, wK, wV, wF, wx⟩ := hv2
  simp only at wK wV wF wx
  obtain ⟨W1, hW1⟩ : ∃ W1, W1 = w.alloc (.cells #[.int .i64 K, .int .i64 V, .int .i64 F, .int .i64 x] 41) := ⟨_, rfl⟩
  obtain ⟨bq, hbq⟩ : ∃ bq, bq = w.heap.size := ⟨_, rfl⟩
  have hF1 : Fr [] w W1 := by rw [hW1]; exact (Fr.refl _ _).alloc _
  have hblk : W1.heap[bq]? = some (.cells #[.int .i64 K, .int .i64 V, .int .i64 F, .int .i64 x] 41 (0, 0)) := by rw [hW1, hbq]; exact heap_alloc_new _ _
  have a2 : W1.cell? ⟨bq, 0, none⟩ = some (.int .i64 K) := cell_of hblk 0
  have a3 : W1.cell? ⟨bq, 1, none⟩ = some (.int .i64 V) := cell_of hblk 1
  have a4 : W1.cell? ⟨bq, 2, none⟩ = some (.int .i64 F) := cell_of hblk 2
  have a5 : W1.cell? ⟨bq, 3, none⟩ = some (.int .i64 x) := cell_of hblk 3
  have HAL := Lib.hid (talive_calls W1)
  have HW1 := Lib.hid hW1
  have HBQ := Lib.hid hbq
  have HCH : Hid (∀ W, Fr [] w W → Calls Try.prog 28 #[.slice A0 st.length c0] W fun e w' => e = .returned (.int .i64 (chk st)) ∧ Fr [] W w') := fun W hF => rChk (Kd.C_below h0 hF.below) hc0
  have HCO : Hid (∀ W, okS st → l.length ≤ 80 → Fr [] w W → Calls Try.prog 29 #[.slice A0 st.length c0, .slice Av l.length cv] W fun e w' => ∃ p b B d, e = .returned (.tuple #[.pointer (some ⟨p, 0, none⟩), .agg #[.slice A0 st.length c0, .slice B (foldR st.length l).length d], .bool true]) ∧ RefT w' A0 c0 st B d (foldR st.length l) ∧ Tz W w' p b st (foldR st.length l) ∧ Fr [] W w') := fun W h1 h2 hF => counted_calls h1 (Kd.C_below h0 hF.below) hc0 (Kd.C_below hv hF.below) hwf h2
  have hmx : l.length ≤ 9223372036854775807 := hv.2.1
  have HF1 := Lib.hid hF1
  have H0 := Lib.hid h0
  have HC0 := Lib.hid hc0
  have HLEN := Lib.hid (foldR_len st.length l)
  have HWF : Hid (wf64 K ∧ wf64 V ∧ wf64 F) := ⟨wK, wV, wF⟩
  clear hW1 hbq hblk h0 hv hwf hF1 _hm _hs _hw wK wV wF wx hc0
  refine calls_k fun R hR => ?_
  go_enter Try.func9, Try.ntmps9
  go_upto_region 1 with (fail)
  rw [← HW1.out, ← HBQ.out]
  by_cases hok : okS st
  · have hchk : chk st = 0 := by unfold chk; rw [if_pos hok]
    rw [hchk] at HCH
    by_cases hl : l.length ≤ 60
    · have HOK := Lib.hid hok
      have hl80 : l.length ≤ 80 := by omega
      have HL80 := Lib.hid hl80
      clear hok hchk hl80
      go_upto_region 6 with (first
        | (go_at_call 25; refine HAL.out.mono ?_; rintro e w2 ⟨rfl, hF⟩; have hF2 : Fr [] w w2 := HF1.out.trans hF (by simp); replace a2 := cellF hF a2; replace a3 := cellF hF a3; replace a4 := cellF hF a4; replace a5 := cellF hF a5; have HF2 := Lib.hid hF2; clear hF hF2)
        | (go_at_call 28; refine (HCH.out _ HF2.out).mono ?_; rintro e w3 ⟨rfl, hF⟩; have hF3 : Fr [] w w3 := HF2.out.trans hF (by simp); replace a2 := cellF hF a2; replace a3 := cellF hF a3; replace a4 := cellF hF a4; replace a5 := cellF hF a5; have HF3 := Lib.hid hF3; clear hF hF3)
        | (go_at_call 29; refine (HCO.out _ HOK.out HL80.out HF3.out).mono ?_; rintro e w4 ⟨p, b, B, d, rfl, hRT, hTZ, hF⟩; have hF4 : Fr [] w w4 := HF3.out.trans hF (by simp); replace a2 := cellF hF a2; replace a3 := cellF hF a3; replace a4 := cellF hF a4; replace a5 := cellF hF a5; have HF4 := Lib.hid hF4; have HTZ := Lib.hid hTZ; clear hF hF4 hRT hTZ))
      obtain ⟨mS, hmS⟩ : ∃ mS, mS = foldR st.length l := ⟨_, rfl⟩
      have HML : Hid (mS.length < 999999) := by have := HLEN.out; rw [← hmS] at this; show mS.length < 999999; omega
      rw [← hmS] at HTZ ⊢
      clear hmS
      obtain ⟨wq, hwq⟩ : ∃ wq, wq = w4.alloc (.cells #[.slice A0 st.length c0, .slice B mS.length d] 44) := ⟨_, rfl⟩
      obtain ⟨b8, hb8⟩ : ∃ b8, b8 = w4.heap.size := ⟨_, rfl⟩
      have hF4q : Fr [] w4 wq := by rw [hwq]; exact (Fr.refl _ _).alloc _
      replace a2 := cellF hF4q a2
      replace a3 := cellF hF4q a3
      replace a4 := cellF hF4q a4
      replace a5 := cellF hF4q a5
      rw [← hwq, ← hb8]
      have HTZq := Lib.hid (HTZ.out.step hF4q)
      have HFq : Hid (Fr [] w wq) := HF4.out.trans hF4q (by simp)
      have HB0 : Hid (w.heap.size ≤ b) := Nat.le_trans HF3.out.size HTZ.out.b0
      clear hwq hb8 hF4q HTZ HF4 HF3 HF2 HCO HCH HAL HL80
      obtain ⟨m1, hm1⟩ : ∃ m1, m1 = (mostR st mS K V).1 := ⟨_, rfl⟩
      obtain ⟨o1, ho1⟩ : ∃ o1, o1 = (mostR st mS K V).2 := ⟨_, rfl⟩
      obtain ⟨L, hL⟩ : ∃ L, L = allR st.length mS K V := ⟨_, rfl⟩
      obtain ⟨LQ, hLQ⟩ : ∃ LQ, LQ = whoR st.length mS K V x := ⟨_, rfl⟩
      have HMI : Hid (o1 = decide (0 < manyP st mS K V L)) := by rw [ho1, hL]; exact many_iff HOK.out K V
      have hLL : L.length ≤ 7 := by rw [hL]; exact Nat.le_trans (allR_len _ _ _ _) HOK.out.2.1
      have hLQL : LQ.length ≤ L.length := by rw [hL, hLQ]; exact who_le_all _ _ _ _ _
      have HALL : Hid (∀ F ∈ L, wf64 F ∧ (ofR mS K V F).isSome = true) := by
        intro F hF
        rw [hL, allR_mem] at hF
        refine ⟨?_, hF.2⟩
        have := HOK.out.2.1
        show (Lit.int .i64 F).wf = true
        have e1 : IntKind.min .i64 = -9223372036854775808 := rfl
        have e2 : IntKind.max .i64 = 9223372036854775807 := rfl
        show (decide (IntKind.min .i64 ≤ F) && decide (F ≤ IntKind.max .i64)) = true
        rw [e1, e2]
        simp only [Bool.and_eq_true, decide_eq_true_eq]
        omega
      have HMO : Hid (∀ v, mostB st (whoR st.length mS K V v) = true → m1 = v ∧ o1 = true) := by
        intro v h
        rw [hm1, ho1, (mostR_iff HOK.out).1 v h]; exact ⟨rfl, rfl⟩
      have C24 : Hid (Calls Try.prog 24 #[.pointer (some ⟨p, 0, none⟩), .int .i64 K, .int .i64 V] wq fun e w' => e = .returned (.tuple #[.int .i64 m1, .bool o1]) ∧ Fr [] wq w') := by
        rw [hm1, ho1]; exact zMost HTZq.out K V HWF.out.1 HWF.out.2.1
      have C27 : Hid (∀ W, Tz w3 W p b st mS → Calls Try.prog 27 #[.pointer (some ⟨p, 0, none⟩), .int .i64 K, .int .i64 V] W fun e w' => ∃ A c, e = .returned (.slice A L.length c) ∧ L.length ≤ c ∧ (Kd.int .i64).C w' A L.length L ∧ Fr [] W w') := by
        intro W h; rw [hL]
        refine (zAll h K V).mono ?_
        rintro e w' ⟨A, c, rfl, h1, h2, hF⟩
        exact ⟨A, c, rfl, h1, h2, hF⟩
      have CWQ : Hid (∀ W, Tz w3 W p b st mS ∧ Fr [] w W ∧ W.cell? ⟨bq, 0, none⟩ = some (.int .i64 K) ∧ W.cell? ⟨bq, 1, none⟩ = some (.int .i64 V) ∧ W.cell? ⟨bq, 3, none⟩ = some (.int .i64 x) → Calls Try.prog 35 #[.pointer (some ⟨p, 0, none⟩), .int .i64 K, .int .i64 V, .int .i64 x] W fun e w' => ∃ A c, e = .returned (.slice A LQ.length c) ∧ (Tz w3 w' p b st mS ∧ Fr [] w w' ∧ w'.cell? ⟨bq, 0, none⟩ = some (.int .i64 K) ∧ w'.cell? ⟨bq, 1, none⟩ = some (.int .i64 V) ∧ w'.cell? ⟨bq, 3, none⟩ = some (.int .i64 x)) ∧ Fr [] W w') := by
        intro W hS
        rw [hLQ]
        refine (zWho hS.1 K V x).mono ?_
        rintro e w' ⟨A, c, rfl, h1, h2, hF⟩
        exact ⟨A, c, rfl, ⟨hS.1.step hF, hS.2.1.trans hF (by simp), cellF hF hS.2.2.1, cellF hF hS.2.2.2.1, cellF hF hS.2.2.2.2⟩, hF⟩
      have CAQ : Hid (∀ W, Tz w3 W p b st mS ∧ Fr [] w W ∧ W.cell? ⟨bq, 0, none⟩ = some (.int .i64 K) ∧ W.cell? ⟨bq, 1, none⟩ = some (.int .i64 V) ∧ W.cell? ⟨bq, 3, none⟩ = some (.int .i64 x) → Calls Try.prog 27 #[.pointer (some ⟨p, 0, none⟩), .int .i64 K, .int .i64 V] W fun e w' => ∃ A c, e = .returned (.slice A L.length c) ∧ (Tz w3 w' p b st mS ∧ Fr [] w w' ∧ w'.cell? ⟨bq, 0, none⟩ = some (.int .i64 K) ∧ w'.cell? ⟨bq, 1, none⟩ = some (.int .i64 V) ∧ w'.cell? ⟨bq, 3, none⟩ = some (.int .i64 x)) ∧ Fr [] W w') := by
        intro W hS
        refine (C27.out W hS.1).mono ?_
        rintro e w' ⟨A, c, rfl, h1, h2, hF⟩
        exact ⟨A, c, rfl, ⟨hS.1.step hF, hS.2.1.trans hF (by simp), cellF hF hS.2.2.1, cellF hF hS.2.2.2.1, cellF hF hS.2.2.2.2⟩, hF⟩
      clear hm1 ho1 hL hLQ
      go_upto_region 7 with (go_at_call 24; refine C24.out.mono ?_; rintro e w5 ⟨rfl, hF⟩; replace a2 := cellF hF a2; replace a3 := cellF hF a3; replace a4 := cellF hF a4; replace a5 := cellF hF a5; have HF5 : Hid (Fr [] w w5) := HFq.out.trans hF (by simp); have HT5 := Lib.hid (HTZq.out.step hF); clear hF)
      go_upto_region 8 with (fail)
      clear C24 HTZq HFq
      go_upto_region 9 with (go_at_call 27; refine (C27.out _ HT5.out).mono ?_; rintro e w6 ⟨A5, c5, rfl, hLc, hLC, hF⟩; replace a2 := cellF hF a2; replace a3 := cellF hF a3; replace a4 := cellF hF a4; replace a5 := cellF hF a5; have HF6 : Hid (Fr [] w w6) := HF5.out.trans hF (by simp); have HT6 := Lib.hid (HT5.out.step hF); have HLC := Lib.hid hLC; clear hF hLC)
      clear HF5 HT5
      go_loopw [12, 52] (fun s i wr => ∃ (k many : Nat), k ≤ L.length ∧ many ≤ k ∧ i = .int .i64 k ∧ s = .int .i64 many ∧ Hid (many = manyP st mS K V (L.take k)) ∧ Hid (Tz w3 wr p b st mS) ∧ Hid ((Kd.int .i64).C wr A5 L.length L) ∧ Hid (wr.cell? ⟨bq, 0, none⟩ = some (.int .i64 K) ∧ wr.cell? ⟨bq, 1, none⟩ = some (.int .i64 V) ∧ wr.cell? ⟨bq, 2, none⟩ = some (.int .i64 F) ∧ wr.cell? ⟨bq, 3, none⟩ = some (.int .i64 x)) ∧ Hid (Fr [] w wr)) (fun _ i _ => L.length - (RowKit.intOf i).toNat)
      case atStart => exact ⟨0, 0, Nat.zero_le _, Nat.le_refl _, rfl, rfl, by show 0 = _; simp [manyP], HT6, HLC, ⟨a2, a3, a4, a5⟩, HF6⟩
      case round =>
        obtain ⟨k, many, hk, hmk, rfl, rfl, HMP, HTr, HLr, HCr, HFr⟩ := hrel
        clear a2 a3 a4 a5
        obtain ⟨a2, a3, a4, a5⟩ := HCr.out
        by_cases hlt : k < L.length
        · clear CWQ CAQ C27
          have HL2 := HLr
          obtain ⟨ad, hav, hp⟩ := at_int_nat HLr.out k hlt
          subst hav
          have hnd : L.getD k 0 ∈ L := by rw [List.getD_eq_getElem?_getD, List.getElem?_eq_getElem hlt]; exact List.getElem_mem _
          obtain ⟨hnw, hns⟩ := HALL.out _ hnd
          have hms := many_succ st mS K V hlt
          clear hnd
          generalize L.getD k 0 = node at hp hnw hns hms
          obtain ⟨v, hv⟩ := Option.isSome_iff_exists.1 hns
          rw [hv] at hms
          simp only [Option.getD_some] at hms
          obtain ⟨LW, hLW⟩ : ∃ LW, LW = whoR st.length mS K V v := ⟨_, rfl⟩
          have hLW7 : LW.length ≤ 7 := by rw [hLW]; exact Nat.le_trans (whoR_len _ _ _ _ _) HOK.out.2.1
          have hmo := HMO.out v
          rw [← hLW] at hms hmo
          have CV : Hid (∀ W, Tz w3 W p b st mS → Calls Try.prog 30 #[.pointer (some ⟨p, 0, none⟩), .int .i64 K, .int .i64 V, .int .i64 node] W fun e w' => e = .returned (.tuple #[.int .i64 v, .bool true]) ∧ Fr [] W w') := by
            intro W h
            have := zVote h K V node ⟨HWF.out.1, HWF.out.2.1, hnw⟩
            rw [hv] at this
            exact this
          have CA : Hid (∀ W z, Tz w3 W p b st mS → Calls Try.prog 38 #[.pointer (some ⟨p, 0, none⟩), .int .i64 K, .int .i64 V, .int .i64 node, .int .i64 z] W fun e w' => e = .returned (.bool false) ∧ Tz w3 w' p b st mS ∧ Fr [b] W w') := fun W z h => zAddF h HML.out K V node z ⟨HWF.out.1, HWF.out.2.1, hnw⟩ (addR_there hns)
          have CW : Hid (∀ W, Tz w3 W p b st mS → Calls Try.prog 35 #[.pointer (some ⟨p, 0, none⟩), .int .i64 K, .int .i64 V, .int .i64 v] W fun e w' => ∃ A c, e = .returned (.slice A LW.length c) ∧ LW.length ≤ c ∧ (Kd.int .i64).C w' A LW.length LW ∧ Fr [] W w') := by
            intro W h; rw [hLW]
            refine (zWho h K V v).mono ?_
            rintro e w' ⟨A, c, rfl, h1, h2, hF⟩
            exact ⟨A, c, rfl, h1, h2, hF⟩
          obtain ⟨mb, hmb⟩ : ∃ mb, mb = mostB st LW := ⟨_, rfl⟩
          have CM : Hid (∀ W A c, Fr [] w W → (Kd.int .i64).C W A LW.length LW → LW.length ≤ c → Calls Try.prog 39 #[.slice A0 st.length c0, .slice A LW.length c] W fun e w' => e = .returned (.bool mb) ∧ Fr [] W w') := by
            intro W A c h h1 h2
            rw [hmb]
            exact rM39 HOK.out (Kd.C_below H0.out h.below) HC0.out h1 h2 (by unfold maxLen; omega)
          rw [← hmb] at hms hmo
          have HMS := Lib.hid hms
          clear hms hnw hns hv hLW hmb
          go_upto_region 12 with (go_at_call 30; refine (CV.out _ HTr.out).mono ?_; rintro e w11 ⟨rfl, hF⟩; replace a2 := cellF hF a2; replace a3 := cellF hF a3; replace a4 := cellF hF a4; replace a5 := cellF hF a5; have HF11 : Hid (Fr [] w w11) := HFr.out.trans hF (by simp); have HT11 := Lib.hid (HTr.out.step hF); have HL11 := Lib.hid (Kd.C_below HLr.out hF.below); clear hF)
          go_upto_region 14 with (go_at_call 38; refine (CA.out _ _ HT11.out).mono ?_; rintro e w12 ⟨rfl, hT, hF⟩; replace a2 := cell_keep hF a2 (fun s hs => by simp at hs; subst hs; exact HT11.out.noInt); replace a3 := cell_keep hF a3 (fun s hs => by simp at hs; subst hs; exact HT11.out.noInt); replace a4 := cell_keep hF a4 (fun s hs => by simp at hs; subst hs; exact HT11.out.noInt); replace a5 := cell_keep hF a5 (fun s hs => by simp at hs; subst hs; exact HT11.out.noInt); have HF12 : Hid (Fr [] w w12) := HF11.out.trans hF (fun s hs => by simp at hs; subst hs; exact .inr HB0.out); have HL12 := Lib.hid (int_keep hF (fun s hs => by simp at hs; subst hs; exact HT11.out.noInt) HL11.out); have HT12 := Lib.hid hT; clear hF hT)
          go_upto_region 15 with (go_at_call 30; refine (CV.out _ HT12.out).mono ?_; rintro e w13 ⟨rfl, hF⟩; replace a2 := cellF hF a2; replace a3 := cellF hF a3; replace a4 := cellF hF a4; replace a5 := cellF hF a5; have HF13 : Hid (Fr [] w w13) := HF12.out.trans hF (by simp); have HT13 := Lib.hid (HT12.out.step hF); have HL13 := Lib.hid (Kd.C_below HL12.out hF.below); clear hF)
          go_upto_region 17 with (fail)
          clear HT11 HT12 HL11 HL12 HF11 HF12 CV CA HL2 HLr HTr HFr
          cases mb with
          | false =>
            clear hmo
            go_wp2_with (first
              | (go_at_call 35; refine (CW.out _ HT13.out).mono ?_; rintro e w14 ⟨A14, c14, rfl, hlc, hLC, hF⟩; replace a2 := cellF hF a2; replace a3 := cellF hF a3; replace a4 := cellF hF a4; replace a5 := cellF hF a5; have HF14 : Hid (Fr [] w w14) := HF13.out.trans hF (by simp); have HT14 := Lib.hid (HT13.out.step hF); have HL14 := Lib.hid (Kd.C_below HL13.out hF.below); have HLW := Lib.hid hLC; have HLc := Lib.hid hlc; clear hF hLC hlc)
              | (go_at_call 39; refine (CM.out _ _ _ HF14.out HLW.out HLc.out).mono ?_; rintro e w15 ⟨rfl, hF⟩; replace a2 := cellF hF a2; replace a3 := cellF hF a3; replace a4 := cellF hF a4; replace a5 := cellF hF a5; have HF15 : Hid (Fr [] w w15) := HF14.out.trans hF (by simp); have HT15 := Lib.hid (HT14.out.step hF); have HL15 := Lib.hid (Kd.C_below HL14.out hF.below); clear hF))
            go_roundw
            case rel => exact ⟨k + 1, many, by omega, by omega, by go_num, rfl, by show many = _; rw [HMS.out, ← HMP.out]; simp, HT15, HL15, ⟨a2, a3, a4, a5⟩, HF15⟩
            case measure => simp [RowKit.intOf]; omega
          | true =>
            obtain ⟨rfl, rfl⟩ := hmo rfl
            go_wp2_with (first
              | (go_at_call 35; refine (CW.out _ HT13.out).mono ?_; rintro e w14 ⟨A14, c14, rfl, hlc, hLC, hF⟩; replace a2 := cellF hF a2; replace a3 := cellF hF a3; replace a4 := cellF hF a4; replace a5 := cellF hF a5; have HF14 : Hid (Fr [] w w14) := HF13.out.trans hF (by simp); have HT14 := Lib.hid (HT13.out.step hF); have HL14 := Lib.hid (Kd.C_below HL13.out hF.below); have HLW := Lib.hid hLC; have HLc := Lib.hid hlc; clear hF hLC hlc)
              | (go_at_call 39; refine (CM.out _ _ _ HF14.out HLW.out HLc.out).mono ?_; rintro e w15 ⟨rfl, hF⟩; replace a2 := cellF hF a2; replace a3 := cellF hF a3; replace a4 := cellF hF a4; replace a5 := cellF hF a5; have HF15 : Hid (Fr [] w w15) := HF14.out.trans hF (by simp); have HT15 := Lib.hid (HT14.out.step hF); have HL15 := Lib.hid (Kd.C_below HL14.out hF.below); clear hF))
            go_roundw
            case rel => exact ⟨k + 1, many + 1, by omega, by omega, by go_num, by go_num, by show many + 1 = _; rw [HMS.out, ← HMP.out]; simp, HT15, HL15, ⟨a2, a3, a4, a5⟩, HF15⟩
            case measure => simp [RowKit.intOf]; omega
        · obtain rfl : k = L.length := by omega
          have hmp := HMP.out
          rw [List.take_length] at hmp
          have hmi := HMI.out
          rw [← hmp] at hmi
          clear hmp HMP HMI C27
          rcases Nat.eq_zero_or_pos many with hz | hz
          · subst hz
            obtain rfl : o1 = false := by rw [hmi]; rfl
            clear hmi
            go_upto_region 22 with (fail)
            refine wp_region_held_drew (S := fun W => Tz w3 W p b st mS ∧ Fr [] w W ∧ W.cell? ⟨bq, 0, none⟩ = some (.int .i64 K) ∧ W.cell? ⟨bq, 1, none⟩ = some (.int .i64 V) ∧ W.cell? ⟨bq, 3, none⟩ = some (.int .i64 x)) (by kernel_rfl) ⟨HTr.out.step (Fr.refl _ _).drew, HFr.out.drew, a2, a3, a5⟩ (fun hHeld => ?_)
            refine held_take (i := 0) (v := ?_) rfl (by kernel_rfl) (by kernel_rfl) (by kernel_rfl) (fun _ _ _ h => h) (Or.inl ⟨by rfl, ?_⟩) (by assumption) ?_
            rotate_left
            · intro w hSw; obtain ⟨s1, s2, s3, s4, s5⟩ := hSw; (try go_simp); first | done | with_reducible rfl | assumption | omega | skip
            try simp only [Act.put, List.setIfInBounds_toArray, List.set_cons_zero, List.set_cons_succ]
            refine held_take (i := 1) (v := ?_) rfl (by kernel_rfl) (by kernel_rfl) (by kernel_rfl) (fun _ _ _ h => h) (Or.inl ⟨by rfl, ?_⟩) (by assumption) ?_
            rotate_left
            · intro w hSw; obtain ⟨s1, s2, s3, s4, s5⟩ := hSw; (try go_simp); first | done | with_reducible rfl | assumption | omega | skip
            try simp only [Act.put, List.setIfInBounds_toArray, List.set_cons_zero, List.set_cons_succ]
            refine held_take (i := 2) (v := .bool false) rfl (by kernel_rfl) (by kernel_rfl) (by kernel_rfl) (fun _ _ _ h => h) (Or.inl ⟨by rfl, ?_⟩) (by assumption) ?_
            · intro w hSw; obtain ⟨s1, s2, s3, s4, s5⟩ := hSw; (try go_simp); first | done | with_reducible rfl | assumption | omega | skip
            try simp only [Act.put, List.setIfInBounds_toArray, List.set_cons_zero, List.set_cons_succ]
            refine held_take (i := 3) (v := .bool true) rfl (by kernel_rfl) (by kernel_rfl) (by kernel_rfl) (fun _ _ _ h => h) (Or.inl ⟨by rfl, ?_⟩) (by assumption) ?_
            · intro w hSw; obtain ⟨s1, s2, s3, s4, s5⟩ := hSw; (try go_simp); first | done | with_reducible rfl | assumption | omega | skip
            try simp only [Act.put, List.setIfInBounds_toArray, List.set_cons_zero, List.set_cons_succ]
            refine held_take (i := 4) (v := ?_) rfl (by kernel_rfl) (by kernel_rfl) (by kernel_rfl) (fun _ _ _ h => h) (Or.inl ⟨by rfl, ?_⟩) (by assumption) ?_
            rotate_left
            · intro w hSw; obtain ⟨s1, s2, s3, s4, s5⟩ := hSw; (try go_simp); first | done | with_reducible rfl | assumption | omega | skip
            try simp only [Act.put, List.setIfInBounds_toArray, List.set_cons_zero, List.set_cons_succ]
            refine held_take (i := 5) (v := ?_) rfl (by kernel_rfl) (by kernel_rfl) (by kernel_rfl) (fun _ _ _ h => h) (Or.inl ⟨by rfl, ?_⟩) (by assumption) ?_
            rotate_left
            · intro w hSw; obtain ⟨s1, s2, s3, s4, s5⟩ := hSw; (try go_simp); first | done | with_reducible rfl | assumption | omega | skip
            try simp only [Act.put, List.setIfInBounds_toArray, List.set_cons_zero, List.set_cons_succ]
            refine held_take (i := 6) (v := ?_) rfl (by kernel_rfl) (by kernel_rfl) (by kernel_rfl) (fun _ _ _ h => h) (Or.inl ⟨by rfl, ?_⟩) (by assumption) ?_
            rotate_left
            · intro w hSw; obtain ⟨s1, s2, s3, s4, s5⟩ := hSw; (try go_simp); first | done | with_reducible rfl | assumption | omega | skip
            try simp only [Act.put, List.setIfInBounds_toArray, List.set_cons_zero, List.set_cons_succ]
            refine held_take (i := 7) (v := ?_) rfl (by kernel_rfl) (by kernel_rfl) (by kernel_rfl) (fun _ _ _ h => h) (Or.inl ⟨by rfl, ?_⟩) (by assumption) ?_
            rotate_left
            · intro w hSw; obtain ⟨s1, s2, s3, s4, s5⟩ := hSw; (try go_simp); first | done | with_reducible rfl | assumption | omega | skip
            try simp only [Act.put, List.setIfInBounds_toArray, List.set_cons_zero, List.set_cons_succ]
            refine held_take (i := 8) (v := ?_) rfl (by kernel_rfl) (by kernel_rfl) (by kernel_rfl) (fun _ _ _ h => h) (Or.inl ⟨by rfl, ?_⟩) (by assumption) ?_
            rotate_left
            · intro w hSw; obtain ⟨s1, s2, s3, s4, s5⟩ := hSw; (try go_simp); first | done | with_reducible rfl | assumption | omega | skip
            try simp only [Act.put, List.setIfInBounds_toArray, List.set_cons_zero, List.set_cons_succ]
            refine held_take (i := 9) (v := ?_) rfl (by kernel_rfl) (by kernel_rfl) (by kernel_rfl) (fun _ _ _ h => h) (Or.inl ⟨by rfl, ?_⟩) (by assumption) ?_
            rotate_left
            · intro w hSw; obtain ⟨s1, s2, s3, s4, s5⟩ := hSw; (try go_simp); first | done | with_reducible rfl | assumption | omega | skip
            try simp only [Act.put, List.setIfInBounds_toArray, List.set_cons_zero, List.set_cons_succ]
            refine held_take (i := 10) (v := ?_) rfl (by kernel_rfl) (by kernel_rfl) (by kernel_rfl) (fun _ _ _ h => h) (Or.inl ⟨by rfl, ?_⟩) (by assumption) ?_
            rotate_left
            · intro w hSw; obtain ⟨s1, s2, s3, s4, s5⟩ := hSw; (try go_simp); first | done | with_reducible rfl | assumption | omega | skip
            try simp only [Act.put, List.setIfInBounds_toArray, List.set_cons_zero, List.set_cons_succ]
            refine held_take (i := 11) (v := ?_) rfl (by kernel_rfl) (by kernel_rfl) (by kernel_rfl) (fun _ _ _ h => h) (Or.inl ⟨by rfl, ?_⟩) (by assumption) ?_
            rotate_left
            · intro w hSw; obtain ⟨s1, s2, s3, s4, s5⟩ := hSw; (try go_simp); first | done | with_reducible rfl | assumption | omega | skip
            try simp only [Act.put, List.setIfInBounds_toArray, List.set_cons_zero, List.set_cons_succ]
            refine held_take (i := 14) (v := ?_) rfl (by kernel_rfl) (by kernel_rfl) (by kernel_rfl) (fun _ _ _ h => h) (Or.inl ⟨by rfl, ?_⟩) (by assumption) ?_
            rotate_left
            · intro w hSw; obtain ⟨s1, s2, s3, s4, s5⟩ := hSw; (try go_simp); first | done | with_reducible rfl | assumption | omega | skip
            try simp only [Act.put, List.setIfInBounds_toArray, List.set_cons_zero, List.set_cons_succ]
            refine held_take (i := 15) (v := ?_) rfl (by kernel_rfl) (by kernel_rfl) (by kernel_rfl) (fun _ _ _ h => h) (Or.inl ⟨by rfl, ?_⟩) (by assumption) ?_
            rotate_left
            · intro w hSw; obtain ⟨s1, s2, s3, s4, s5⟩ := hSw; (try go_simp); first | done | with_reducible rfl | assumption | omega | skip
            try simp only [Act.put, List.setIfInBounds_toArray, List.set_cons_zero, List.set_cons_succ]
            refine held_take (i := 16) (v := ?_) rfl (by kernel_rfl) (by kernel_rfl) (by kernel_rfl) (fun _ _ _ h => h) (Or.inl ⟨by rfl, ?_⟩) (by assumption) ?_
            rotate_left
            · intro w hSw; obtain ⟨s1, s2, s3, s4, s5⟩ := hSw; (try go_simp); first | done | with_reducible rfl | assumption | omega | skip
            try simp only [Act.put, List.setIfInBounds_toArray, List.set_cons_zero, List.set_cons_succ]
            refine held_take (i := 17) (v := ?_) rfl (by kernel_rfl) (by kernel_rfl) (by kernel_rfl) (fun _ _ _ h => h) (Or.inl ⟨by rfl, ?_⟩) (by assumption) ?_
            rotate_left
            · intro w hSw; obtain ⟨s1, s2, s3, s4, s5⟩ := hSw; (try go_simp); first | done | with_reducible rfl | assumption | omega | skip
            try simp only [Act.put, List.setIfInBounds_toArray, List.set_cons_zero, List.set_cons_succ]
            refine held_take (i := 18) (v := ?_) rfl (by kernel_rfl) (by kernel_rfl) (by kernel_rfl) (fun _ _ _ h => h) (Or.inl ⟨by rfl, ?_⟩) (by assumption) ?_
            rotate_left
            · intro w hSw; obtain ⟨s1, s2, s3, s4, s5⟩ := hSw; (try go_simp); first | done | with_reducible rfl | assumption | omega | skip
            try simp only [Act.put, List.setIfInBounds_toArray, List.set_cons_zero, List.set_cons_succ]
            refine held_one (i := 12) rfl (by kernel_rfl) (by rfl) (fun K2 hK2 => ?_)
            go_simp
            refine (CWQ.out _ (by assumption)).mono ?_
            rintro e w21 ⟨A6, c6, rfl, hS21, hF21⟩
            refine hK2.out _ _ hS21 (fun hHeld2 => ?_)
            try simp only [Act.put, List.setIfInBounds_toArray, List.set_cons_zero, List.set_cons_succ]
            clear hK2 K2
            refine held_take (i := 13) (v := ?_) rfl (by kernel_rfl) (by kernel_rfl) (by kernel_rfl) (fun _ _ _ h => h) (Or.inl ⟨by rfl, ?_⟩) (by assumption) ?_
            rotate_left
            · intro w hSw; obtain ⟨s1, s2, s3, s4, s5⟩ := hSw; (try go_simp); first | done | with_reducible rfl | assumption | omega | skip
            try simp only [Act.put, List.setIfInBounds_toArray, List.set_cons_zero, List.set_cons_succ]
            refine held_one (i := 19) rfl (by kernel_rfl) (by rfl) (fun K2 hK2 => ?_)
            go_simp
            refine (CAQ.out _ (by assumption)).mono ?_
            rintro e w22 ⟨A7, c7, rfl, hS22, hF22⟩
            refine hK2.out _ _ hS22 (fun hHeld2 => ?_)
            try simp only [Act.put, List.setIfInBounds_toArray, List.set_cons_zero, List.set_cons_succ]
            clear hK2 K2
            refine held_take (i := 20) (v := ?_) rfl (by kernel_rfl) (by kernel_rfl) (by kernel_rfl) (fun _ _ _ h => h) (Or.inl ⟨by rfl, ?_⟩) (by assumption) ?_
            rotate_left
            · intro w hSw; obtain ⟨s1, s2, s3, s4, s5⟩ := hSw; (try go_simp); first | done | with_reducible rfl | assumption | omega | skip
            try simp only [Act.put, List.setIfInBounds_toArray, List.set_cons_zero, List.set_cons_succ]
            refine held_take (i := 21) (v := .bool true) rfl (by kernel_rfl) (by kernel_rfl) (by kernel_rfl) (fun _ _ _ h => h) (Or.inl ⟨by rfl, ?_⟩) (by assumption) ?_
            · intro w hSw; obtain ⟨s1, s2, s3, s4, s5⟩ := hSw; (try go_simp); first | done | with_reducible rfl | assumption | omega | skip
            try simp only [Act.put, List.setIfInBounds_toArray, List.set_cons_zero, List.set_cons_succ]
            refine held_take (i := 22) (v := ?_) rfl (by kernel_rfl) (by kernel_rfl) (by kernel_rfl) (fun _ _ _ h => h) (Or.inl ⟨by rfl, ?_⟩) (by assumption) ?_
            rotate_left
            · intro w hSw; obtain ⟨s1, s2, s3, s4, s5⟩ := hSw; (try go_simp); first | done | with_reducible rfl | assumption | omega | skip
            try simp only [Act.put, List.setIfInBounds_toArray, List.set_cons_zero, List.set_cons_succ]
            refine held_take (i := 23) (v := ?_) rfl (by kernel_rfl) (by kernel_rfl) (by kernel_rfl) (fun _ _ _ h => h) (Or.inl ⟨by rfl, ?_⟩) (by assumption) ?_
            rotate_left
            · intro w hSw; obtain ⟨s1, s2, s3, s4, s5⟩ := hSw; (try go_simp); first | done | with_reducible rfl | assumption | omega | skip
            try simp only [Act.put, List.setIfInBounds_toArray, List.set_cons_zero, List.set_cons_succ]
            refine wpAnyH_done (by kernel_rfl) ?_ _
            go_wp2
            exact hR.out _ _ ⟨rfl, hS22.2.1⟩
          · obtain rfl : o1 = true := by rw [hmi]; simp [hz]
            clear hmi
            go_upto_region 22 with (fail)
            refine wp_region_held_drew (S := fun W => Tz w3 W p b st mS ∧ Fr [] w W ∧ W.cell? ⟨bq, 0, none⟩ = some (.int .i64 K) ∧ W.cell? ⟨bq, 1, none⟩ = some (.int .i64 V) ∧ W.cell? ⟨bq, 3, none⟩ = some (.int .i64 x)) (by kernel_rfl) ⟨HTr.out.step (Fr.refl _ _).drew, HFr.out.drew, a2, a3, a5⟩ (fun hHeld => ?_)
            refine held_take (i := 0) (v := ?_) rfl (by kernel_rfl) (by kernel_rfl) (by kernel_rfl) (fun _ _ _ h => h) (Or.inl ⟨by rfl, ?_⟩) (by assumption) ?_
            rotate_left
            · intro w hSw; obtain ⟨s1, s2, s3, s4, s5⟩ := hSw; (try go_simp); first | done | with_reducible rfl | assumption | omega | skip
            try simp only [Act.put, List.setIfInBounds_toArray, List.set_cons_zero, List.set_cons_succ]
            refine held_take (i := 1) (v := ?_) rfl (by kernel_rfl) (by kernel_rfl) (by kernel_rfl) (fun _ _ _ h => h) (Or.inl ⟨by rfl, ?_⟩) (by assumption) ?_
            rotate_left
            · intro w hSw; obtain ⟨s1, s2, s3, s4, s5⟩ := hSw; (try go_simp); first | done | with_reducible rfl | assumption | omega | skip
            try simp only [Act.put, List.setIfInBounds_toArray, List.set_cons_zero, List.set_cons_succ]
            refine held_take (i := 2) (v := .bool true) rfl (by kernel_rfl) (by kernel_rfl) (by kernel_rfl) (fun _ _ _ h => h) (Or.inl ⟨by rfl, ?_⟩) (by assumption) ?_
            · intro w hSw; obtain ⟨s1, s2, s3, s4, s5⟩ := hSw; (try go_simp); first | done | with_reducible rfl | assumption | omega | skip
            try simp only [Act.put, List.setIfInBounds_toArray, List.set_cons_zero, List.set_cons_succ]
            refine held_take (i := 3) (v := .bool true) rfl (by kernel_rfl) (by kernel_rfl) (by kernel_rfl) (fun _ _ _ h => h) (Or.inl ⟨by rfl, ?_⟩) (by assumption) ?_
            · intro w hSw; obtain ⟨s1, s2, s3, s4, s5⟩ := hSw; (try go_simp); first | done | with_reducible rfl | assumption | omega | skip
            try simp only [Act.put, List.setIfInBounds_toArray, List.set_cons_zero, List.set_cons_succ]
            refine held_take (i := 4) (v := ?_) rfl (by kernel_rfl) (by kernel_rfl) (by kernel_rfl) (fun _ _ _ h => h) (Or.inl ⟨by rfl, ?_⟩) (by assumption) ?_
            rotate_left
            · intro w hSw; obtain ⟨s1, s2, s3, s4, s5⟩ := hSw; (try go_simp); first | done | with_reducible rfl | assumption | omega | skip
            try simp only [Act.put, List.setIfInBounds_toArray, List.set_cons_zero, List.set_cons_succ]
            refine held_take (i := 5) (v := ?_) rfl (by kernel_rfl) (by kernel_rfl) (by kernel_rfl) (fun _ _ _ h => h) (Or.inl ⟨by rfl, ?_⟩) (by assumption) ?_
            rotate_left
            · intro w hSw; obtain ⟨s1, s2, s3, s4, s5⟩ := hSw; (try go_simp); first | done | with_reducible rfl | assumption | omega | skip
            try simp only [Act.put, List.setIfInBounds_toArray, List.set_cons_zero, List.set_cons_succ]
            refine held_take (i := 6) (v := ?_) rfl (by kernel_rfl) (by kernel_rfl) (by kernel_rfl) (fun _ _ _ h => h) (Or.inl ⟨by rfl, ?_⟩) (by assumption) ?_
            rotate_left
            · intro w hSw; obtain ⟨s1, s2, s3, s4, s5⟩ := hSw; (try go_simp); first | done | with_reducible rfl | assumption | omega | skip
            try simp only [Act.put, List.setIfInBounds_toArray, List.set_cons_zero, List.set_cons_succ]
            refine held_take (i := 7) (v := ?_) rfl (by kernel_rfl) (by kernel_rfl) (by kernel_rfl) (fun _ _ _ h => h) (Or.inl ⟨by rfl, ?_⟩) (by assumption) ?_
            rotate_left
            · intro w hSw; obtain ⟨s1, s2, s3, s4, s5⟩ := hSw; (try go_simp); first | done | with_reducible rfl | assumption | omega | skip
            try simp only [Act.put, List.setIfInBounds_toArray, List.set_cons_zero, List.set_cons_succ]
            refine held_take (i := 8) (v := ?_) rfl (by kernel_rfl) (by kernel_rfl) (by kernel_rfl) (fun _ _ _ h => h) (Or.inl ⟨by rfl, ?_⟩) (by assumption) ?_
            rotate_left
            · intro w hSw; obtain ⟨s1, s2, s3, s4, s5⟩ := hSw; (try go_simp); first | done | with_reducible rfl | assumption | omega | skip
            try simp only [Act.put, List.setIfInBounds_toArray, List.set_cons_zero, List.set_cons_succ]
            refine held_take (i := 9) (v := ?_) rfl (by kernel_rfl) (by kernel_rfl) (by kernel_rfl) (fun _ _ _ h => h) (Or.inl ⟨by rfl, ?_⟩) (by assumption) ?_
            rotate_left
            · intro w hSw; obtain ⟨s1, s2, s3, s4, s5⟩ := hSw; (try go_simp); first | done | with_reducible rfl | assumption | omega | skip
            try simp only [Act.put, List.setIfInBounds_toArray, List.set_cons_zero, List.set_cons_succ]
            refine held_take (i := 10) (v := ?_) rfl (by kernel_rfl) (by kernel_rfl) (by kernel_rfl) (fun _ _ _ h => h) (Or.inl ⟨by rfl, ?_⟩) (by assumption) ?_
            rotate_left
            · intro w hSw; obtain ⟨s1, s2, s3, s4, s5⟩ := hSw; (try go_simp); first | done | with_reducible rfl | assumption | omega | skip
            try simp only [Act.put, List.setIfInBounds_toArray, List.set_cons_zero, List.set_cons_succ]
            refine held_take (i := 11) (v := ?_) rfl (by kernel_rfl) (by kernel_rfl) (by kernel_rfl) (fun _ _ _ h => h) (Or.inl ⟨by rfl, ?_⟩) (by assumption) ?_
            rotate_left
            · intro w hSw; obtain ⟨s1, s2, s3, s4, s5⟩ := hSw; (try go_simp); first | done | with_reducible rfl | assumption | omega | skip
            try simp only [Act.put, List.setIfInBounds_toArray, List.set_cons_zero, List.set_cons_succ]
            refine held_take (i := 14) (v := ?_) rfl (by kernel_rfl) (by kernel_rfl) (by kernel_rfl) (fun _ _ _ h => h) (Or.inl ⟨by rfl, ?_⟩) (by assumption) ?_
            rotate_left
            · intro w hSw; obtain ⟨s1, s2, s3, s4, s5⟩ := hSw; (try go_simp); first | done | with_reducible rfl | assumption | omega | skip
            try simp only [Act.put, List.setIfInBounds_toArray, List.set_cons_zero, List.set_cons_succ]
            refine held_take (i := 15) (v := ?_) rfl (by kernel_rfl) (by kernel_rfl) (by kernel_rfl) (fun _ _ _ h => h) (Or.inl ⟨by rfl, ?_⟩) (by assumption) ?_
            rotate_left
            · intro w hSw; obtain ⟨s1, s2, s3, s4, s5⟩ := hSw; (try go_simp); first | done | with_reducible rfl | assumption | omega | skip
            try simp only [Act.put, List.setIfInBounds_toArray, List.set_cons_zero, List.set_cons_succ]
            refine held_take (i := 16) (v := ?_) rfl (by kernel_rfl) (by kernel_rfl) (by kernel_rfl) (fun _ _ _ h => h) (Or.inl ⟨by rfl, ?_⟩) (by assumption) ?_
            rotate_left
            · intro w hSw; obtain ⟨s1, s2, s3, s4, s5⟩ := hSw; (try go_simp); first | done | with_reducible rfl | assumption | omega | skip
            try simp only [Act.put, List.setIfInBounds_toArray, List.set_cons_zero, List.set_cons_succ]
            refine held_take (i := 17) (v := ?_) rfl (by kernel_rfl) (by kernel_rfl) (by kernel_rfl) (fun _ _ _ h => h) (Or.inl ⟨by rfl, ?_⟩) (by assumption) ?_
            rotate_left
            · intro w hSw; obtain ⟨s1, s2, s3, s4, s5⟩ := hSw; (try go_simp); first | done | with_reducible rfl | assumption | omega | skip
            try simp only [Act.put, List.setIfInBounds_toArray, List.set_cons_zero, List.set_cons_succ]
            refine held_take (i := 18) (v := ?_) rfl (by kernel_rfl) (by kernel_rfl) (by kernel_rfl) (fun _ _ _ h => h) (Or.inl ⟨by rfl, ?_⟩) (by assumption) ?_
            rotate_left
            · intro w hSw; obtain ⟨s1, s2, s3, s4, s5⟩ := hSw; (try go_simp); first | done | with_reducible rfl | assumption | omega | skip
            try simp only [Act.put, List.setIfInBounds_toArray, List.set_cons_zero, List.set_cons_succ]
            refine held_one (i := 12) rfl (by kernel_rfl) (by rfl) (fun K2 hK2 => ?_)
            go_simp
            refine (CWQ.out _ (by assumption)).mono ?_
            rintro e w21 ⟨A6, c6, rfl, hS21, hF21⟩
            refine hK2.out _ _ hS21 (fun hHeld2 => ?_)
            try simp only [Act.put, List.setIfInBounds_toArray, List.set_cons_zero, List.set_cons_succ]
            clear hK2 K2
            refine held_take (i := 13) (v := ?_) rfl (by kernel_rfl) (by kernel_rfl) (by kernel_rfl) (fun _ _ _ h => h) (Or.inl ⟨by rfl, ?_⟩) (by assumption) ?_
            rotate_left
            · intro w hSw; obtain ⟨s1, s2, s3, s4, s5⟩ := hSw; (try go_simp); first | done | with_reducible rfl | assumption | omega | skip
            try simp only [Act.put, List.setIfInBounds_toArray, List.set_cons_zero, List.set_cons_succ]
            refine held_one (i := 19) rfl (by kernel_rfl) (by rfl) (fun K2 hK2 => ?_)
            go_simp
            refine (CAQ.out _ (by assumption)).mono ?_
            rintro e w22 ⟨A7, c7, rfl, hS22, hF22⟩
            refine hK2.out _ _ hS22 (fun hHeld2 => ?_)
            try simp only [Act.put, List.setIfInBounds_toArray, List.set_cons_zero, List.set_cons_succ]
            clear hK2 K2
            refine held_take (i := 20) (v := ?_) rfl (by kernel_rfl) (by kernel_rfl) (by kernel_rfl) (fun _ _ _ h => h) (Or.inl ⟨by rfl, ?_⟩) (by assumption) ?_
            rotate_left
            · intro w hSw; obtain ⟨s1, s2, s3, s4, s5⟩ := hSw; (try go_simp); first | done | with_reducible rfl | assumption | omega | skip
            try simp only [Act.put, List.setIfInBounds_toArray, List.set_cons_zero, List.set_cons_succ]
            refine held_take (i := 21) (v := .bool true) rfl (by kernel_rfl) (by kernel_rfl) (by kernel_rfl) (fun _ _ _ h => h) (Or.inl ⟨by rfl, ?_⟩) (by assumption) ?_
            · intro w hSw; obtain ⟨s1, s2, s3, s4, s5⟩ := hSw; (try go_simp); first | done | with_reducible rfl | assumption | omega | skip
            try simp only [Act.put, List.setIfInBounds_toArray, List.set_cons_zero, List.set_cons_succ]
            refine held_take (i := 22) (v := ?_) rfl (by kernel_rfl) (by kernel_rfl) (by kernel_rfl) (fun _ _ _ h => h) (Or.inl ⟨by rfl, ?_⟩) (by assumption) ?_
            rotate_left
            · intro w hSw; obtain ⟨s1, s2, s3, s4, s5⟩ := hSw; (try go_simp); first | done | with_reducible rfl | assumption | omega | skip
            try simp only [Act.put, List.setIfInBounds_toArray, List.set_cons_zero, List.set_cons_succ]
            refine held_take (i := 23) (v := ?_) rfl (by kernel_rfl) (by kernel_rfl) (by kernel_rfl) (fun _ _ _ h => h) (Or.inl ⟨by rfl, ?_⟩) (by assumption) ?_
            rotate_left
            · intro w hSw; obtain ⟨s1, s2, s3, s4, s5⟩ := hSw; (try go_simp); first | done | with_reducible rfl | assumption | omega | skip
            try simp only [Act.put, List.setIfInBounds_toArray, List.set_cons_zero, List.set_cons_succ]
            refine wpAnyH_done (by kernel_rfl) ?_ _
            go_wp2
            exact hR.out _ _ ⟨rfl, hS22.2.1⟩
    · go_wp2_with (first
        | (go_at_call 25; refine HAL.out.mono ?_; rintro e w2 ⟨rfl, hF⟩; have HF2 : Hid (Fr [] w w2) := HF1.out.trans hF (by simp))
        | (go_at_call 28; refine (HCH.out _ HF2.out).mono ?_; rintro e w3 ⟨rfl, hF3⟩))
      exact hR.out _ _ ⟨rfl, HF2.out.trans hF3 (by simp)⟩
  · have hchk : chk st = 31 := by unfold chk; rw [if_neg hok]
    rw [hchk] at HCH
    go_wp2_with (first
      | (go_at_call 25; refine HAL.out.mono ?_; rintro e w2 ⟨rfl, hF⟩; have HF2 : Hid (Fr [] w w2) := HF1.out.trans hF (by simp))
      | (go_at_call 28; refine (HCH.out _ HF2.out).mono ?_; rintro e w3 ⟨rfl, hF3⟩))
    exact hR.out _ _ ⟨rfl, HF2.out.trans hF3 (by simp)⟩
end Go.Np.Try
