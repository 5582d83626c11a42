/- TallyFew: the walk. (Printed by tools/gen_tfew.py.) -/
import Derived.Test.YtjpdhgajpldjbaaTallyTu
set_option linter.unusedVariables false
set_option linter.unusedSimpArgs false
namespace Go.Np.Try
open Go.RowKit Go.Proofs Go.ChangeShapes Go.WideShapes Go.Proofs.Ytjpdhgajpldjbaa.PX Go.Proofs.YtjpdhgajpldjbaaW.PrintWords
theorem rM39 {w : World} {st who : List Int} {A B : Option Addr} {c d : Nat} (hst : okS st) (h1 : (Kd.int .i64).C w A st.length st) (hc : st.length ≤ c) (h2 : (Kd.int .i64).C w B who.length who) (hd : who.length ≤ d) (hl : who.length ≤ maxLen) :
    Calls Try.prog 39 #[.slice A st.length c, .slice B who.length d] w fun e w' => e = .returned (.bool (mostB st who)) ∧ Fr [] w w' := by
  obtain ⟨k, hk⟩ := rmost_ev hst who hl
  refine (neaptideref03_Most.calls k A c st B d who _ w h1 hc h2 hd (hk k (Nat.le_refl _))).mono ?_
  rintro e w' ⟨rfl, h⟩
  exact ⟨rfl, Fr.of_below [] h.below⟩
theorem rM40 {w : World} {st who : List Int} {A B : Option Addr} {c d : Nat} (hst : okS st) (h1 : (Kd.int .i64).C w A st.length st) (hc : st.length ≤ c) (h2 : (Kd.int .i64).C w B who.length who) (hd : who.length ≤ d) (hl : who.length ≤ maxLen) :
    Calls Try.prog 40 #[.slice A st.length c, .slice B who.length d] w fun e w' => e = .returned (.bool (someB st who)) ∧ Fr [] w w' := by
  obtain ⟨k, hk⟩ := rsome_ev hst who hl
  refine (neaptideref03_Some.calls k A c st B d who _ w h1 hc h2 hd (hk k (Nat.le_refl _))).mono ?_
  rintro e w' ⟨rfl, h⟩
  exact ⟨rfl, Fr.of_below [] h.below⟩
def fltW (who : List Int) (l : List S41) : List S41 := l.filter fun q => who.contains q.f2
theorem fltW_succ (who : List Int) {l : List S41} {k : Nat} (hk : k < l.length) : fltW who (l.take (k + 1)) = fltW who (l.take k) ++ (if who.contains (l.getD k z41).f2 then [l.getD k z41] else []) := by
  unfold fltW
  rw [List.take_succ_eq_append_getElem hk, List.filter_append, List.getD_eq_getElem?_getD, List.getElem?_eq_getElem hk]
  congr 1
  simp [List.filter_cons]
theorem cont_succ {who : List Int} {j : Nat} (hj : j < who.length) (x : Int) : (who.take (j + 1)).contains x = ((who.take j).contains x || (who.getD j 0 == x)) := by
  rw [List.take_succ_eq_append_getElem hj, List.getD_eq_getElem?_getD, List.getElem?_eq_getElem hj]
  simp only [List.contains_append, Option.getD_some, List.contains_cons, List.contains_nil, Bool.or_false]
  have e : (x == who[j]) = (who[j] == x) := by rw [Bool.eq_iff_iff, beq_iff_eq, beq_iff_eq]; exact eq_comm
  rw [e]
set_option maxHeartbeats 16000000 in
set_option maxRecDepth 100000 in
theorem TallyFew_walk (w : World) (A0 : Option Addr) (c0 : Nat) (st : List Int) (h0 : (Kd.int .i64).C w A0 st.length st) (_hm : st.length ≤ maxLen) (_hs : st.length * 8 ≤ 140737488351232) (_hw : ∀ n ∈ st, (Lit.int .i64 n).wf = true) (hc0 : st.length ≤ c0)
    (v1 : Value) (l : List S41) (hv1 : VotesC w v1 l)
    (A2 : Option Addr) (c2 : Nat) (who : List Int) (h2 : (Kd.int .i64).C w A2 who.length who) (hm2 : who.length ≤ maxLen) (_hs2 : who.length * 8 ≤ 140737488351232) (_hw2 : ∀ n ∈ who, (Lit.int .i64 n).wf = true) (hc2 : who.length ≤ c2) :
    Calls Try.prog 11 #[.slice A0 st.length c0, v1, .slice A2 who.length c2] w fun e w' => e = .returned (.bool true) ∧ Fr [] w w' := by
  obtain ⟨Av, cv, rfl, hcv, hv, hwf⟩ := hv1
  have HAL := Lib.hid (talive_calls w)
  have HCH : Hid (∀ W, Fr [] w W → Calls Try.prog 28 #[.slice A0 st.length c0] W fun e w' => e = .returned (.int .i64 (chk st)) ∧ Fr [] W w') := fun W hF => rChk (Kd.C_below h0 hF.below) hc0
  have hmx : l.length ≤ 9223372036854775807 := hv.2.1
  have hmw : who.length ≤ 9223372036854775807 := h2.2.1
  have HV := Lib.hid hv
  have H0 := Lib.hid h0
  have H2 := Lib.hid h2
  have HWF := Lib.hid hwf
  have HC0 := Lib.hid hc0
  have HC2 := Lib.hid hc2
  have HM2 := Lib.hid hm2
  clear h0 hv hwf h2 _hm _hs _hw _hs2 _hw2 hc0 hc2 hm2
  refine calls_k fun R hR => ?_
  go_enter Try.func11, Try.ntmps11
  by_cases hok : okS st
  · have hchk : chk st = 0 := by unfold chk; rw [if_pos hok]
    rw [hchk] at HCH
    by_cases hl : l.length ≤ 60
    · by_cases hl2 : who.length ≤ 20
      · have HOK := Lib.hid hok
        clear hok hchk
        go_upto_region 5 with (first
          | (go_at_call 25; refine HAL.out.mono ?_; rintro e w2 ⟨rfl, hF⟩; have HF2 : Hid (Fr [] w w2) := hF; clear hF)
          | (go_at_call 28; refine (HCH.out _ HF2.out).mono ?_; rintro e w3 ⟨rfl, hF⟩; have HF3 : Hid (Fr [] w w3) := HF2.out.trans hF (by simp); clear hF))
        obtain ⟨Wb, hWb⟩ : ∃ Wb, Wb = w3.alloc (.cells #[] 41) := ⟨_, rfl⟩
        obtain ⟨b0, hb0⟩ : ∃ b0, b0 = w3.heap.size := ⟨_, rfl⟩
        have HFb : Hid (Fr [] w Wb) := by rw [hWb]; exact HF3.out.alloc _
        have HOb : Hid (Wb.ownsRow 0 41 4 (.slice (some ⟨b0, 0, none⟩) 0 0) 0 []) := by rw [hWb, hb0]; exact World.ownsRow_made w3 #[] 0 (Nat.zero_le _) (by unfold maxLen; omega) rfl
        have HLb : Hid (w.heap.size ≤ b0) := by rw [hb0]; exact HF3.out.size
        go_upto_region 6 with (fail)
        rw [← hWb, ← hb0]
        clear hWb hb0 HF2 HF3 HCH HAL
        go_upto_region 7 with (fail)
        go_loopw [7, 40] (fun v i wr => ∃ (k nd : Nat), k ≤ l.length ∧ i = .int .i64 k ∧ Hid (nd = (fltW who (l.take k)).length) ∧ wr.ownsRow 0 41 4 v nd (flatS (fltW who (l.take k))) ∧ Hid (∀ k ∈ v.ownBlock.toList, w.heap.size ≤ k) ∧ Hid (Fr [] w wr)) (fun _ i _ => l.length - (RowKit.intOf i).toNat)
        case atStart => exact ⟨0, 0, Nat.zero_le _, rfl, rfl, HOb.out, fun k hk => by simp [Value.ownBlock] at hk; subst hk; exact HLb.out, HFb⟩
        case round =>
          obtain ⟨k, nd, hk, rfl, HND, hown, HBL, HFr⟩ := hrel
          by_cases hlt : k < l.length
          · obtain ⟨ad, hav, _, hq0, hq1, hq2, hq3⟩ := vote_at (Kd.C_below HV.out HFr.out.below) k hlt
            subst hav
            have hfs := fltW_succ who hlt
            generalize l.getD k z41 = qq at hq0 hq1 hq2 hq3 hfs
            obtain ⟨K1, V1, F1, x1⟩ := qq
            simp only at hq0 hq1 hq2 hq3 hfs
            have hndl : nd ≤ 60 := by rw [HND.out]; have h1 : (fltW who (l.take k)).length ≤ (l.take k).length := List.length_filter_le _ _; rw [List.length_take] at h1; omega
            have hb63 : nd < maxLen := by unfold maxLen; omega
            have hbv : (nd + 1) * 32 ≤ 140737488355328 := by omega
            obtain ⟨W8, hW8⟩ : ∃ W8, W8 = wr.alloc (.cells #[.int .i64 K1, .int .i64 V1, .int .i64 F1, .int .i64 x1] 41) := ⟨_, rfl⟩
            obtain ⟨b8, hb8⟩ : ∃ b8, b8 = wr.heap.size := ⟨_, rfl⟩
            have hF8 : Fr [] wr W8 := by rw [hW8]; exact (Fr.refl _ _).alloc _
            have hbl8 : W8.heap[b8]? = some (.cells #[.int .i64 K1, .int .i64 V1, .int .i64 F1, .int .i64 x1] 41 (0, 0)) := by rw [hW8, hb8]; exact heap_alloc_new _ _
            have HB8 := Lib.hid hbl8
            have HFS := Lib.hid hfs
            have HOW := Lib.hid (row_fr hown hF8 (by simp))
            have HF8 : Hid (Fr [] w W8) := HFr.out.trans hF8 (by simp)
            clear hbl8 hfs hF8 hown
            go_upto_region 9 with (fail)
            rw [← hW8, ← hb8]
            clear hW8 hb8 hq0 hq1 hq2 hq3
            go_upto_region 11 with (fail)
            go_loopw [10, 46] (fun s i wr2 => ∃ (j : Nat) (bl : Bool), j ≤ who.length ∧ i = .int .i64 j ∧ s = .bool bl ∧ Hid (bl = (who.take j).contains F1) ∧ Hid (Fr [] W8 wr2)) (fun _ i _ => who.length - (RowKit.intOf i).toNat)
            case atStart => exact ⟨0, false, Nat.zero_le _, rfl, rfl, by show false = _; simp, Fr.refl _ _⟩
            case round =>
              obtain ⟨j, bl, hj, rfl, rfl, HBE, HFi⟩ := hrel
              have e2 : wr.cell? ⟨b8, 2, none⟩ = some (.int .i64 F1) := cellF HFi.out (cell_of HB8.out 2)
              by_cases hjk : j < who.length
              · obtain ⟨ad2, hav2, hp⟩ := at_int_nat (Kd.C_below H2.out (HF8.out.trans HFi.out (by simp)).below) j hjk
                subst hav2
                have hcs := cont_succ hjk F1
                rw [← HBE.out] at hcs
                generalize who.getD j 0 = y at hp hcs
                have HCS := Lib.hid hcs
                clear hcs
                cases bl with
                | true =>
                  go_wp2
                  go_roundw
                  case rel => exact ⟨j + 1, true, by omega, by go_num, rfl, by show true = _; rw [HCS.out]; rfl, HFi⟩
                  case measure => simp [RowKit.intOf]; omega
                | false =>
                  obtain ⟨be, hbe⟩ : ∃ be, be = (y == F1) := ⟨_, rfl⟩
                  have HBE2 := Lib.hid hbe
                  have hbe2 : (y == F1) = be := hbe.symm
                  clear hbe
                  go_wp2
                  go_roundw
                  case rel => exact ⟨j + 1, be, by omega, by go_num, rfl, by show be = _; rw [HCS.out, HBE2.out]; rfl, HFi⟩
                  case measure => simp [RowKit.intOf]; omega
              · obtain rfl : j = who.length := by omega
                rw [List.take_length] at HBE
                have HOW2 := Lib.hid (row_fr HOW.out HFi.out (by simp))
                have HFw : Hid (Fr [] w wr) := HF8.out.trans HFi.out (by simp)
                cases bl with
                | false =>
                  go_wp2
                  go_roundw
                  case rel =>
                    have e : fltW who (l.take (k + 1)) = fltW who (l.take k) := by rw [HFS.out, ← HBE.out]; simp
                    exact ⟨k + 1, nd, by omega, by go_num, by show nd = _; rw [e]; exact HND.out, by rw [e]; exact HOW2.out, HBL, HFw⟩
                  case measure => simp [RowKit.intOf]; omega
                | true =>
                  have e0 : wr.cell? ⟨b8, 0, none⟩ = some (.int .i64 K1) := cellF HFi.out (cell_of HB8.out 0)
                  have e1 : wr.cell? ⟨b8, 1, none⟩ = some (.int .i64 V1) := cellF HFi.out (cell_of HB8.out 1)
                  have e3 : wr.cell? ⟨b8, 3, none⟩ = some (.int .i64 x1) := cellF HFi.out (cell_of HB8.out 3)
                  go_wp2_with (at_builtin; refine wp_append1 rfl _ _ 39 41 rfl Try.underlying39 info41 rfl (by decide) HOW2.out rfl [.int .i64 K1, .int .i64 V1, .int .i64 F1, .int .i64 x1] rfl rfl (by simp [Value.oneCell']) hb63 hbv ?_; intro A6 c6 w7 hr7 hF7 hN7; have HR7 := Lib.hid hr7; have HF7 := Lib.hid hF7; have HN7 := Lib.hid hN7; clear hr7 hF7 hN7)
                  go_roundw
                  case rel =>
                    have e : fltW who (l.take (k + 1)) = fltW who (l.take k) ++ [⟨K1, V1, F1, x1⟩] := by rw [HFS.out, ← HBE.out]; simp
                    have ef : flatS (fltW who (l.take k) ++ [(⟨K1, V1, F1, x1⟩ : S41)]) = flatS (fltW who (l.take k)) ++ [.int .i64 K1, .int .i64 V1, .int .i64 F1, .int .i64 x1] := by simp [flatS, cells4]
                    refine ⟨k + 1, nd + 1, by omega, by go_num, ?_, ?_, ?_, HFw.out.trans HF7.out (fun k hk => .inr (HBL.out k hk))⟩
                    · show nd + 1 = _
                      rw [e, List.length_append, HND.out]; rfl
                    · rw [e, ef]; exact HR7.out
                    · intro k hk
                      rcases HN7.out k hk with h | h
                      · exact HBL.out k h
                      · exact Nat.le_trans HFw.out.size h
                  case measure => simp [RowKit.intOf]; omega
          · obtain rfl : k = l.length := by omega
            rw [List.take_length] at hown HND
            have hfl : (fltW who l).length ≤ 60 := Nat.le_trans (List.length_filter_le _ _) hl
            have hfw : ∀ q ∈ fltW who l, wf64 q.f0 ∧ wf64 q.f1 ∧ wf64 q.f2 := fun q hq => HWF.out q (List.mem_filter.1 hq).1
            have hfm : ∀ q ∈ foldR st.length (fltW who l), q.f2 ∈ who := fun q hq => by
              have := (List.mem_filter.1 (foldR_from _ q hq)).2
              simpa using this
            obtain ⟨l2, hl2e⟩ : ∃ l2, l2 = fltW who l := ⟨_, rfl⟩
            rw [← hl2e] at hown HND hfl hfw hfm
            obtain rfl : nd = l2.length := HND.out
            obtain ⟨A9, c9, rfl, hc9, hv9⟩ := flatS_C hown
            have hmx2 : l2.length ≤ 9223372036854775807 := by omega
            have HCO : Hid (∀ W, Fr [] wr W → Calls Try.prog 29 #[.slice A0 st.length c0, .slice A9 l2.length c9] W fun e w' => ∃ p b B d, e = .returned (.tuple #[.pointer (some ⟨p, 0, none⟩), .agg #[.slice A0 st.length c0, .slice B (foldR st.length l2).length d], .bool true]) ∧ RefT w' A0 c0 st B d (foldR st.length l2) ∧ Tz W w' p b st (foldR st.length l2) ∧ Fr [] W w') := fun W hF => counted_calls HOK.out (Kd.C_below H0.out (HFr.out.trans hF (by simp)).below) HC0.out (Kd.C_below hv9 hF.below) hfw (by omega)
            have HV9 := Lib.hid hv9
            have HWF9 := Lib.hid hfw
            have HFM := Lib.hid hfm
            have HC9 := Lib.hid hc9
            clear hown hv9 hfw hfm hl2e HND HBL hc9
            go_upto_region 19 with (go_at_call 29; refine (HCO.out _ (Fr.refl _ _)).mono ?_; rintro e w4 ⟨p, b, B, d, rfl, hRT, hTZ, hF⟩; have HF4 := Lib.hid hF; have HTZ := Lib.hid hTZ; clear hF hRT hTZ)
            obtain ⟨wL, hwL⟩ : ∃ wL, wL = w4.alloc (.cells #[.slice A0 st.length c0, .slice B (foldR st.length l2).length d] 44) := ⟨_, rfl⟩
            have hF5L : Fr [] w4 wL := by rw [hwL]; exact (Fr.refl _ _).alloc _
            have HZ := Lib.hid (HTZ.out.step hF5L)
            have HG := Lib.hid HZ.out.good
            have HWL : Hid (Fr [] wr wL) := HF4.out.trans hF5L (by simp)
            have HFL : Hid (Fr [] w wL) := HFr.out.trans HWL.out (by simp)
            rw [← hwL]
            obtain ⟨m1, hm1⟩ : ∃ m1, m1 = foldR st.length l2 := ⟨_, rfl⟩
            rw [← hm1] at HZ HFM HG ⊢
            clear hm1 hwL hF5L HTZ HF4 HCO
            obtain ⟨cc, hcc⟩ : ∃ cc, cc = (comR st m1).1 := ⟨_, rfl⟩
            obtain ⟨oc, hoc⟩ : ∃ oc, oc = (comR st m1).2 := ⟨_, rfl⟩
            have HC : Hid (Calls Try.prog 23 #[.pointer (some ⟨p, 0, none⟩)] wL fun e w' => e = .returned (.tuple #[.int .i64 cc, .bool oc]) ∧ Fr [] wL w') := by
              rw [hcc, hoc]; exact zCom HZ.out
            have HMC : Hid (oc = true → mostB st who = true) := by intro h; rw [hoc] at h; exact few_com HOK.out HG.out HFM.out h
            have HM : Hid (∀ W, Fr [] wL W → Calls Try.prog 39 #[.slice A0 st.length c0, .slice A2 who.length c2] W fun e w' => e = .returned (.bool (mostB st who)) ∧ Fr [] W w') := fun W h => rM39 HOK.out (Kd.C_below H0.out (HFL.out.trans h (by simp)).below) HC0.out (Kd.C_below H2.out (HFL.out.trans h (by simp)).below) HC2.out HM2.out
            have HSO : Hid (∀ W, Fr [] wL W → Calls Try.prog 40 #[.slice A0 st.length c0, .slice A2 who.length c2] W fun e w' => e = .returned (.bool (someB st who)) ∧ Fr [] W w') := fun W h => rM40 HOK.out (Kd.C_below H0.out (HFL.out.trans h (by simp)).below) HC0.out (Kd.C_below H2.out (HFL.out.trans h (by simp)).below) HC2.out HM2.out
            have hR' : Hid (∀ W, Fr [] wL W → R (.returned (.bool true)) W) := fun W h => hR.out _ _ ⟨rfl, HFL.out.trans h (by simp)⟩
            clear hcc hoc hR
            go_upto_region 20 with (go_at_call 23; refine HC.out.mono ?_; rintro e w5 ⟨rfl, hF⟩; have HF5 := Lib.hid hF; clear hF HC)
            go_upto_region 21 with (fail)
            go_loopw [78] (fun i wr2 => ∃ k : Nat, k ≤ l2.length ∧ i = .int .i64 k ∧ Hid (Fr [] wL wr2)) (fun i _ => l2.length - (RowKit.intOf i).toNat)
            case atStart => exact ⟨0, Nat.zero_le _, rfl, HF5⟩
            case round =>
              obtain ⟨k, hk2, rfl, HFs⟩ := hrel
              by_cases hlt2 : k < l2.length
              · obtain ⟨ad, hav, hqm, hq0, hq1, hq2, hq3⟩ := vote_at (Kd.C_below HV9.out (HWL.out.trans HFs.out (by simp)).below) k hlt2
                subst hav
                have hwq := HWF9.out _ hqm
                clear hqm
                generalize l2.getD k z41 = qq at hq0 hq1 hq2 hq3 hwq
                obtain ⟨K, V, F, x⟩ := qq
                simp only at hq0 hq1 hq2 hq3 hwq
                obtain ⟨W6, hW6⟩ : ∃ W6, W6 = wr.alloc (.cells #[.int .i64 K, .int .i64 V, .int .i64 F, .int .i64 x] 41) := ⟨_, rfl⟩
                obtain ⟨bb, hbb⟩ : ∃ bb, bb = wr.heap.size := ⟨_, rfl⟩
                have hF6 : Fr [] wL W6 := by rw [hW6]; exact HFs.out.alloc _
                have hblk : W6.heap[bb]? = some (.cells #[.int .i64 K, .int .i64 V, .int .i64 F, .int .i64 x] 41 (0, 0)) := by rw [hW6, hbb]; exact heap_alloc_new _ _
                have a0 : W6.cell? ⟨bb, 0, none⟩ = some (.int .i64 K) := cell_of hblk 0
                have a1 : W6.cell? ⟨bb, 1, none⟩ = some (.int .i64 V) := cell_of hblk 1
                obtain ⟨x1, hx1⟩ : ∃ x1, x1 = (mostR st m1 K V).1 := ⟨_, rfl⟩
                obtain ⟨o1, ho1⟩ : ∃ o1, o1 = (mostR st m1 K V).2 := ⟨_, rfl⟩
                obtain ⟨ah, hah⟩ : ∃ ah, ah = ahR st m1 V := ⟨_, rfl⟩
                have C1 : Hid (Calls Try.prog 24 #[.pointer (some ⟨p, 0, none⟩), .int .i64 K, .int .i64 V] W6 fun e w' => e = .returned (.tuple #[.int .i64 x1, .bool o1]) ∧ Fr [] W6 w') := by
                  rw [hx1, ho1]; exact zMost (HZ.out.step hF6) K V hwq.1 hwq.2.1
                have D26 : Hid (∀ W, Fr [] wL W ∧ W.cell? ⟨bb, 1, none⟩ = some (.int .i64 V) → Calls Try.prog 26 #[.pointer (some ⟨p, 0, none⟩), .int .i64 V] W fun e w' => e = .returned (.int .i64 ah) ∧ (Fr [] wL w' ∧ w'.cell? ⟨bb, 1, none⟩ = some (.int .i64 V)) ∧ Fr [] W w') := by
                  intro W hS
                  rw [hah]
                  refine (zAh (HZ.out.step hS.1) V).mono ?_
                  rintro e w' ⟨rfl, hF⟩
                  exact ⟨rfl, ⟨hS.1.trans hF (by simp), cellF hF hS.2⟩, hF⟩
                have M39 : o1 = true → Hid (∀ W, Fr [] wL W ∧ W.cell? ⟨bb, 1, none⟩ = some (.int .i64 V) → Calls Try.prog 39 #[.slice A0 st.length c0, .slice A2 who.length c2] W fun e w' => e = .returned (.bool true) ∧ (Fr [] wL w' ∧ w'.cell? ⟨bb, 1, none⟩ = some (.int .i64 V)) ∧ Fr [] W w') := by
                  intro ho W hS
                  have hm := few_most HOK.out HG.out HFM.out (K := K) (V := V) (by rw [← ho1, ho])
                  refine (HM.out W hS.1).mono ?_
                  rintro e w' ⟨rfl, hF⟩
                  exact ⟨by rw [hm], ⟨hS.1.trans hF (by simp), cellF hF hS.2⟩, hF⟩
                have M40 : ah ≠ V → Hid (∀ W, Fr [] wL W ∧ W.cell? ⟨bb, 1, none⟩ = some (.int .i64 V) → Calls Try.prog 40 #[.slice A0 st.length c0, .slice A2 who.length c2] W fun e w' => e = .returned (.bool true) ∧ (Fr [] wL w' ∧ w'.cell? ⟨bb, 1, none⟩ = some (.int .i64 V)) ∧ Fr [] W w') := by
                  intro ho W hS
                  have hm := few_ah HOK.out HFM.out (v := V) (by rw [← hah]; exact ho)
                  refine (HSO.out W hS.1).mono ?_
                  rintro e w' ⟨rfl, hF⟩
                  exact ⟨by rw [hm], ⟨hS.1.trans hF (by simp), cellF hF hS.2⟩, hF⟩
                have HF6 := Lib.hid hF6
                clear hx1 ho1 hah hblk hwq hF6
                go_upto_region 23 with (fail)
                rw [← hW6, ← hbb]
                clear hW6 hbb hq0 hq1 hq2 hq3
                go_upto_region 24 with (go_at_call 24; refine C1.out.mono ?_; rintro e w7 ⟨rfl, hF⟩; replace a1 := cellF hF a1; have HF7 : Hid (Fr [] wL w7) := HF6.out.trans hF (by simp); clear hF C1)
                cases o1 with
                | false =>
                  clear M39
                  by_cases hne : V = ah
                  · subst hne
                    clear M40
                    refine wp_region_held_drew (S := fun W => Fr [] wL W ∧ W.cell? ⟨bb, 1, none⟩ = some (.int .i64 V)) (by kernel_rfl) ⟨HF7.out.drew, a1⟩ (fun hHeld => ?_)
                    refine held_take (i := 0) (v := ?_) rfl (by kernel_rfl) (by kernel_rfl) (by kernel_rfl) (fun _ _ _ h => h) (Or.inl ⟨by rfl, ?_⟩) (by assumption) ?_
                    rotate_left
                    · intro w hSw; obtain ⟨s1, s2⟩ := hSw; (try go_simp); first | done | with_reducible rfl | assumption | skip
                    try simp only [Act.put, List.setIfInBounds_toArray, List.set_cons_zero, List.set_cons_succ]
                    refine held_take (i := 1) (v := ?_) rfl (by kernel_rfl) (by kernel_rfl) (by kernel_rfl) (fun _ _ _ h => h) (Or.inl ⟨by rfl, ?_⟩) (by assumption) ?_
                    rotate_left
                    · intro w hSw; obtain ⟨s1, s2⟩ := hSw; (try go_simp); first | done | with_reducible rfl | assumption | skip
                    try simp only [Act.put, List.setIfInBounds_toArray, List.set_cons_zero, List.set_cons_succ]
                    refine held_take (i := 2) (v := undef) rfl (by kernel_rfl) (by kernel_rfl) (by kernel_rfl) (fun _ _ _ h => h) (Or.inr ⟨by rfl, rfl⟩) (by assumption) ?_
                    try simp only [Act.put, List.setIfInBounds_toArray, List.set_cons_zero, List.set_cons_succ]
                    refine held_take (i := 3) (v := undef) rfl (by kernel_rfl) (by kernel_rfl) (by kernel_rfl) (fun _ _ _ h => h) (Or.inr ⟨by rfl, rfl⟩) (by assumption) ?_
                    try simp only [Act.put, List.setIfInBounds_toArray, List.set_cons_zero, List.set_cons_succ]
                    refine held_take (i := 4) (v := undef) rfl (by kernel_rfl) (by kernel_rfl) (by kernel_rfl) (fun _ _ _ h => h) (Or.inr ⟨by rfl, rfl⟩) (by assumption) ?_
                    try simp only [Act.put, List.setIfInBounds_toArray, List.set_cons_zero, List.set_cons_succ]
                    refine held_take (i := 5) (v := undef) rfl (by kernel_rfl) (by kernel_rfl) (by kernel_rfl) (fun _ _ _ h => h) (Or.inr ⟨by rfl, rfl⟩) (by assumption) ?_
                    try simp only [Act.put, List.setIfInBounds_toArray, List.set_cons_zero, List.set_cons_succ]
                    refine held_take (i := 6) (v := ?_) rfl (by kernel_rfl) (by kernel_rfl) (by kernel_rfl) (fun _ _ _ h => h) (Or.inl ⟨by rfl, ?_⟩) (by assumption) ?_
                    rotate_left
                    · intro w hSw; obtain ⟨s1, s2⟩ := hSw; (try go_simp); first | done | with_reducible rfl | assumption | skip
                    try simp only [Act.put, List.setIfInBounds_toArray, List.set_cons_zero, List.set_cons_succ]
                    refine held_take (i := 7) (v := ?_) rfl (by kernel_rfl) (by kernel_rfl) (by kernel_rfl) (fun _ _ _ h => h) (Or.inl ⟨by rfl, ?_⟩) (by assumption) ?_
                    rotate_left
                    · intro w hSw; obtain ⟨s1, s2⟩ := hSw; (try go_simp); first | done | with_reducible rfl | assumption | skip
                    try simp only [Act.put, List.setIfInBounds_toArray, List.set_cons_zero, List.set_cons_succ]
                    refine held_take (i := 8) (v := ?_) rfl (by kernel_rfl) (by kernel_rfl) (by kernel_rfl) (fun _ _ _ h => h) (Or.inl ⟨by rfl, ?_⟩) (by assumption) ?_
                    rotate_left
                    · intro w hSw; obtain ⟨s1, s2⟩ := hSw; (try go_simp); first | done | with_reducible rfl | assumption | skip
                    try simp only [Act.put, List.setIfInBounds_toArray, List.set_cons_zero, List.set_cons_succ]
                    refine held_take (i := 9) (v := ?_) rfl (by kernel_rfl) (by kernel_rfl) (by kernel_rfl) (fun _ _ _ h => h) (Or.inl ⟨by rfl, ?_⟩) (by assumption) ?_
                    rotate_left
                    · intro w hSw; obtain ⟨s1, s2⟩ := hSw; (try go_simp); first | done | with_reducible rfl | assumption | skip
                    try simp only [Act.put, List.setIfInBounds_toArray, List.set_cons_zero, List.set_cons_succ]
                    refine held_take (i := 10) (v := ?_) rfl (by kernel_rfl) (by kernel_rfl) (by kernel_rfl) (fun _ _ _ h => h) (Or.inl ⟨by rfl, ?_⟩) (by assumption) ?_
                    rotate_left
                    · intro w hSw; obtain ⟨s1, s2⟩ := hSw; (try go_simp); first | done | with_reducible rfl | assumption | skip
                    try simp only [Act.put, List.setIfInBounds_toArray, List.set_cons_zero, List.set_cons_succ]
                    refine held_take (i := 12) (v := ?_) rfl (by kernel_rfl) (by kernel_rfl) (by kernel_rfl) (fun _ _ _ h => h) (Or.inl ⟨by rfl, ?_⟩) (by assumption) ?_
                    rotate_left
                    · intro w hSw; obtain ⟨s1, s2⟩ := hSw; (try go_simp); first | done | with_reducible rfl | assumption | skip
                    try simp only [Act.put, List.setIfInBounds_toArray, List.set_cons_zero, List.set_cons_succ]
                    refine held_take (i := 13) (v := ?_) rfl (by kernel_rfl) (by kernel_rfl) (by kernel_rfl) (fun _ _ _ h => h) (Or.inl ⟨by rfl, ?_⟩) (by assumption) ?_
                    rotate_left
                    · intro w hSw; obtain ⟨s1, s2⟩ := hSw; (try go_simp); first | done | with_reducible rfl | assumption | skip
                    try simp only [Act.put, List.setIfInBounds_toArray, List.set_cons_zero, List.set_cons_succ]
                    refine held_one (i := 11) rfl (by kernel_rfl) (by rfl) (fun K2 hK2 => ?_)
                    go_simp
                    refine (D26.out _ (by assumption)).mono ?_
                    rintro e w22 ⟨rfl, hS22, hF22⟩
                    refine hK2.out _ _ hS22 (fun hHeld2 => ?_)
                    try simp only [Act.put, List.setIfInBounds_toArray, List.set_cons_zero, List.set_cons_succ]
                    clear hK2 K2
                    refine held_take (i := 14) (v := .bool false) rfl (by kernel_rfl) (by kernel_rfl) (by kernel_rfl) (fun _ _ _ h => h) (Or.inl ⟨by rfl, ?_⟩) (by assumption) ?_
                    · intro w hSw; obtain ⟨s1, s2⟩ := hSw; (try go_simp); first | done | with_reducible rfl | assumption | skip
                    try simp only [Act.put, List.setIfInBounds_toArray, List.set_cons_zero, List.set_cons_succ]
                    refine held_take (i := 15) (v := ?_) rfl (by kernel_rfl) (by kernel_rfl) (by kernel_rfl) (fun _ _ _ h => h) (Or.inl ⟨by rfl, ?_⟩) (by assumption) ?_
                    rotate_left
                    · intro w hSw; obtain ⟨s1, s2⟩ := hSw; (try go_simp); first | done | with_reducible rfl | assumption | skip
                    try simp only [Act.put, List.setIfInBounds_toArray, List.set_cons_zero, List.set_cons_succ]
                    refine held_take (i := 16) (v := undef) rfl (by kernel_rfl) (by kernel_rfl) (by kernel_rfl) (fun _ _ _ h => h) (Or.inr ⟨by rfl, rfl⟩) (by assumption) ?_
                    try simp only [Act.put, List.setIfInBounds_toArray, List.set_cons_zero, List.set_cons_succ]
                    refine held_take (i := 17) (v := undef) rfl (by kernel_rfl) (by kernel_rfl) (by kernel_rfl) (fun _ _ _ h => h) (Or.inr ⟨by rfl, rfl⟩) (by assumption) ?_
                    try simp only [Act.put, List.setIfInBounds_toArray, List.set_cons_zero, List.set_cons_succ]
                    refine held_take (i := 18) (v := undef) rfl (by kernel_rfl) (by kernel_rfl) (by kernel_rfl) (fun _ _ _ h => h) (Or.inr ⟨by rfl, rfl⟩) (by assumption) ?_
                    try simp only [Act.put, List.setIfInBounds_toArray, List.set_cons_zero, List.set_cons_succ]
                    refine held_take (i := 19) (v := undef) rfl (by kernel_rfl) (by kernel_rfl) (by kernel_rfl) (fun _ _ _ h => h) (Or.inr ⟨by rfl, rfl⟩) (by assumption) ?_
                    try simp only [Act.put, List.setIfInBounds_toArray, List.set_cons_zero, List.set_cons_succ]
                    refine held_take (i := 20) (v := ?_) rfl (by kernel_rfl) (by kernel_rfl) (by kernel_rfl) (fun _ _ _ h => h) (Or.inl ⟨by rfl, ?_⟩) (by assumption) ?_
                    rotate_left
                    · intro w hSw; obtain ⟨s1, s2⟩ := hSw; (try go_simp); first | done | with_reducible rfl | assumption | skip
                    try simp only [Act.put, List.setIfInBounds_toArray, List.set_cons_zero, List.set_cons_succ]
                    refine held_take (i := 21) (v := ?_) rfl (by kernel_rfl) (by kernel_rfl) (by kernel_rfl) (fun _ _ _ h => h) (Or.inl ⟨by rfl, ?_⟩) (by assumption) ?_
                    rotate_left
                    · intro w hSw; obtain ⟨s1, s2⟩ := hSw; (try go_simp); first | done | with_reducible rfl | assumption | skip
                    try simp only [Act.put, List.setIfInBounds_toArray, List.set_cons_zero, List.set_cons_succ]
                    refine wpAnyH_done (by kernel_rfl) ?_ _
                    go_wp2
                    go_roundw
                    case rel => exact ⟨k + 1, by omega, by go_num, hS22.1⟩
                    case measure => simp [RowKit.intOf]; omega
                  · replace M40 := M40 (fun h => hne (Eq.symm h))
                    have hg : ¬ ah = V := fun h => hne h.symm
                    refine wp_region_held_drew (S := fun W => Fr [] wL W ∧ W.cell? ⟨bb, 1, none⟩ = some (.int .i64 V)) (by kernel_rfl) ⟨HF7.out.drew, a1⟩ (fun hHeld => ?_)
                    refine held_take (i := 0) (v := ?_) rfl (by kernel_rfl) (by kernel_rfl) (by kernel_rfl) (fun _ _ _ h => h) (Or.inl ⟨by rfl, ?_⟩) (by assumption) ?_
                    rotate_left
                    · intro w hSw; obtain ⟨s1, s2⟩ := hSw; (try go_simp); first | done | with_reducible rfl | assumption | skip
                    try simp only [Act.put, List.setIfInBounds_toArray, List.set_cons_zero, List.set_cons_succ]
                    refine held_take (i := 1) (v := ?_) rfl (by kernel_rfl) (by kernel_rfl) (by kernel_rfl) (fun _ _ _ h => h) (Or.inl ⟨by rfl, ?_⟩) (by assumption) ?_
                    rotate_left
                    · intro w hSw; obtain ⟨s1, s2⟩ := hSw; (try go_simp); first | done | with_reducible rfl | assumption | skip
                    try simp only [Act.put, List.setIfInBounds_toArray, List.set_cons_zero, List.set_cons_succ]
                    refine held_take (i := 2) (v := undef) rfl (by kernel_rfl) (by kernel_rfl) (by kernel_rfl) (fun _ _ _ h => h) (Or.inr ⟨by rfl, rfl⟩) (by assumption) ?_
                    try simp only [Act.put, List.setIfInBounds_toArray, List.set_cons_zero, List.set_cons_succ]
                    refine held_take (i := 3) (v := undef) rfl (by kernel_rfl) (by kernel_rfl) (by kernel_rfl) (fun _ _ _ h => h) (Or.inr ⟨by rfl, rfl⟩) (by assumption) ?_
                    try simp only [Act.put, List.setIfInBounds_toArray, List.set_cons_zero, List.set_cons_succ]
                    refine held_take (i := 4) (v := undef) rfl (by kernel_rfl) (by kernel_rfl) (by kernel_rfl) (fun _ _ _ h => h) (Or.inr ⟨by rfl, rfl⟩) (by assumption) ?_
                    try simp only [Act.put, List.setIfInBounds_toArray, List.set_cons_zero, List.set_cons_succ]
                    refine held_take (i := 5) (v := undef) rfl (by kernel_rfl) (by kernel_rfl) (by kernel_rfl) (fun _ _ _ h => h) (Or.inr ⟨by rfl, rfl⟩) (by assumption) ?_
                    try simp only [Act.put, List.setIfInBounds_toArray, List.set_cons_zero, List.set_cons_succ]
                    refine held_take (i := 6) (v := ?_) rfl (by kernel_rfl) (by kernel_rfl) (by kernel_rfl) (fun _ _ _ h => h) (Or.inl ⟨by rfl, ?_⟩) (by assumption) ?_
                    rotate_left
                    · intro w hSw; obtain ⟨s1, s2⟩ := hSw; (try go_simp); first | done | with_reducible rfl | assumption | skip
                    try simp only [Act.put, List.setIfInBounds_toArray, List.set_cons_zero, List.set_cons_succ]
                    refine held_take (i := 7) (v := ?_) rfl (by kernel_rfl) (by kernel_rfl) (by kernel_rfl) (fun _ _ _ h => h) (Or.inl ⟨by rfl, ?_⟩) (by assumption) ?_
                    rotate_left
                    · intro w hSw; obtain ⟨s1, s2⟩ := hSw; (try go_simp); first | done | with_reducible rfl | assumption | skip
                    try simp only [Act.put, List.setIfInBounds_toArray, List.set_cons_zero, List.set_cons_succ]
                    refine held_take (i := 8) (v := ?_) rfl (by kernel_rfl) (by kernel_rfl) (by kernel_rfl) (fun _ _ _ h => h) (Or.inl ⟨by rfl, ?_⟩) (by assumption) ?_
                    rotate_left
                    · intro w hSw; obtain ⟨s1, s2⟩ := hSw; (try go_simp); first | done | with_reducible rfl | assumption | skip
                    try simp only [Act.put, List.setIfInBounds_toArray, List.set_cons_zero, List.set_cons_succ]
                    refine held_take (i := 9) (v := ?_) rfl (by kernel_rfl) (by kernel_rfl) (by kernel_rfl) (fun _ _ _ h => h) (Or.inl ⟨by rfl, ?_⟩) (by assumption) ?_
                    rotate_left
                    · intro w hSw; obtain ⟨s1, s2⟩ := hSw; (try go_simp); first | done | with_reducible rfl | assumption | skip
                    try simp only [Act.put, List.setIfInBounds_toArray, List.set_cons_zero, List.set_cons_succ]
                    refine held_take (i := 10) (v := ?_) rfl (by kernel_rfl) (by kernel_rfl) (by kernel_rfl) (fun _ _ _ h => h) (Or.inl ⟨by rfl, ?_⟩) (by assumption) ?_
                    rotate_left
                    · intro w hSw; obtain ⟨s1, s2⟩ := hSw; (try go_simp); first | done | with_reducible rfl | assumption | skip
                    try simp only [Act.put, List.setIfInBounds_toArray, List.set_cons_zero, List.set_cons_succ]
                    refine held_take (i := 12) (v := ?_) rfl (by kernel_rfl) (by kernel_rfl) (by kernel_rfl) (fun _ _ _ h => h) (Or.inl ⟨by rfl, ?_⟩) (by assumption) ?_
                    rotate_left
                    · intro w hSw; obtain ⟨s1, s2⟩ := hSw; (try go_simp); first | done | with_reducible rfl | assumption | skip
                    try simp only [Act.put, List.setIfInBounds_toArray, List.set_cons_zero, List.set_cons_succ]
                    refine held_take (i := 13) (v := ?_) rfl (by kernel_rfl) (by kernel_rfl) (by kernel_rfl) (fun _ _ _ h => h) (Or.inl ⟨by rfl, ?_⟩) (by assumption) ?_
                    rotate_left
                    · intro w hSw; obtain ⟨s1, s2⟩ := hSw; (try go_simp); first | done | with_reducible rfl | assumption | skip
                    try simp only [Act.put, List.setIfInBounds_toArray, List.set_cons_zero, List.set_cons_succ]
                    refine held_one (i := 11) rfl (by kernel_rfl) (by rfl) (fun K2 hK2 => ?_)
                    go_simp
                    refine (D26.out _ (by assumption)).mono ?_
                    rintro e w22 ⟨rfl, hS22, hF22⟩
                    refine hK2.out _ _ hS22 (fun hHeld2 => ?_)
                    try simp only [Act.put, List.setIfInBounds_toArray, List.set_cons_zero, List.set_cons_succ]
                    clear hK2 K2
                    refine held_take (i := 14) (v := .bool true) rfl (by kernel_rfl) (by kernel_rfl) (by kernel_rfl) (fun _ _ _ h => h) (Or.inl ⟨by rfl, ?_⟩) (by assumption) ?_
                    · intro w hSw; obtain ⟨s1, s2⟩ := hSw; (try go_simp); first | done | with_reducible rfl | assumption | skip
                    try simp only [Act.put, List.setIfInBounds_toArray, List.set_cons_zero, List.set_cons_succ]
                    refine held_take (i := 15) (v := ?_) rfl (by kernel_rfl) (by kernel_rfl) (by kernel_rfl) (fun _ _ _ h => h) (Or.inl ⟨by rfl, ?_⟩) (by assumption) ?_
                    rotate_left
                    · intro w hSw; obtain ⟨s1, s2⟩ := hSw; (try go_simp); first | done | with_reducible rfl | assumption | skip
                    try simp only [Act.put, List.setIfInBounds_toArray, List.set_cons_zero, List.set_cons_succ]
                    refine held_take (i := 16) (v := ?_) rfl (by kernel_rfl) (by kernel_rfl) (by kernel_rfl) (fun _ _ _ h => h) (Or.inl ⟨by rfl, ?_⟩) (by assumption) ?_
                    rotate_left
                    · intro w hSw; obtain ⟨s1, s2⟩ := hSw; (try go_simp); first | done | with_reducible rfl | assumption | skip
                    try simp only [Act.put, List.setIfInBounds_toArray, List.set_cons_zero, List.set_cons_succ]
                    refine held_take (i := 17) (v := ?_) rfl (by kernel_rfl) (by kernel_rfl) (by kernel_rfl) (fun _ _ _ h => h) (Or.inl ⟨by rfl, ?_⟩) (by assumption) ?_
                    rotate_left
                    · intro w hSw; obtain ⟨s1, s2⟩ := hSw; (try go_simp); first | done | with_reducible rfl | assumption | skip
                    try simp only [Act.put, List.setIfInBounds_toArray, List.set_cons_zero, List.set_cons_succ]
                    refine held_one (i := 18) rfl (by kernel_rfl) (by rfl) (fun K2 hK2 => ?_)
                    go_simp
                    refine (M40.out _ (by assumption)).mono ?_
                    rintro e w23 ⟨rfl, hS23, hF23⟩
                    refine hK2.out _ _ hS23 (fun hHeld2 => ?_)
                    try simp only [Act.put, List.setIfInBounds_toArray, List.set_cons_zero, List.set_cons_succ]
                    clear hK2 K2
                    refine held_take (i := 19) (v := ?_) rfl (by kernel_rfl) (by kernel_rfl) (by kernel_rfl) (fun _ _ _ h => h) (Or.inl ⟨by rfl, ?_⟩) (by assumption) ?_
                    rotate_left
                    · intro w hSw; obtain ⟨s1, s2⟩ := hSw; (try go_simp); first | done | with_reducible rfl | assumption | skip
                    try simp only [Act.put, List.setIfInBounds_toArray, List.set_cons_zero, List.set_cons_succ]
                    refine held_take (i := 20) (v := ?_) rfl (by kernel_rfl) (by kernel_rfl) (by kernel_rfl) (fun _ _ _ h => h) (Or.inl ⟨by rfl, ?_⟩) (by assumption) ?_
                    rotate_left
                    · intro w hSw; obtain ⟨s1, s2⟩ := hSw; (try go_simp); first | done | with_reducible rfl | assumption | skip
                    try simp only [Act.put, List.setIfInBounds_toArray, List.set_cons_zero, List.set_cons_succ]
                    refine held_take (i := 21) (v := ?_) rfl (by kernel_rfl) (by kernel_rfl) (by kernel_rfl) (fun _ _ _ h => h) (Or.inl ⟨by rfl, ?_⟩) (by assumption) ?_
                    rotate_left
                    · intro w hSw; obtain ⟨s1, s2⟩ := hSw; (try go_simp); first | done | with_reducible rfl | assumption | skip
                    try simp only [Act.put, List.setIfInBounds_toArray, List.set_cons_zero, List.set_cons_succ]
                    refine wpAnyH_done (by kernel_rfl) ?_ _
                    go_wp2
                    go_roundw
                    case rel => exact ⟨k + 1, by omega, by go_num, hS23.1⟩
                    case measure => simp [RowKit.intOf]; omega
                | true =>
                  replace M39 := M39 rfl
                  by_cases hne : V = ah
                  · subst hne
                    clear M40
                    refine wp_region_held_drew (S := fun W => Fr [] wL W ∧ W.cell? ⟨bb, 1, none⟩ = some (.int .i64 V)) (by kernel_rfl) ⟨HF7.out.drew, a1⟩ (fun hHeld => ?_)
                    refine held_take (i := 0) (v := ?_) rfl (by kernel_rfl) (by kernel_rfl) (by kernel_rfl) (fun _ _ _ h => h) (Or.inl ⟨by rfl, ?_⟩) (by assumption) ?_
                    rotate_left
                    · intro w hSw; obtain ⟨s1, s2⟩ := hSw; (try go_simp); first | done | with_reducible rfl | assumption | skip
                    try simp only [Act.put, List.setIfInBounds_toArray, List.set_cons_zero, List.set_cons_succ]
                    refine held_take (i := 1) (v := ?_) rfl (by kernel_rfl) (by kernel_rfl) (by kernel_rfl) (fun _ _ _ h => h) (Or.inl ⟨by rfl, ?_⟩) (by assumption) ?_
                    rotate_left
                    · intro w hSw; obtain ⟨s1, s2⟩ := hSw; (try go_simp); first | done | with_reducible rfl | assumption | skip
                    try simp only [Act.put, List.setIfInBounds_toArray, List.set_cons_zero, List.set_cons_succ]
                    refine held_take (i := 2) (v := ?_) rfl (by kernel_rfl) (by kernel_rfl) (by kernel_rfl) (fun _ _ _ h => h) (Or.inl ⟨by rfl, ?_⟩) (by assumption) ?_
                    rotate_left
                    · intro w hSw; obtain ⟨s1, s2⟩ := hSw; (try go_simp); first | done | with_reducible rfl | assumption | skip
                    try simp only [Act.put, List.setIfInBounds_toArray, List.set_cons_zero, List.set_cons_succ]
                    refine held_take (i := 3) (v := ?_) rfl (by kernel_rfl) (by kernel_rfl) (by kernel_rfl) (fun _ _ _ h => h) (Or.inl ⟨by rfl, ?_⟩) (by assumption) ?_
                    rotate_left
                    · intro w hSw; obtain ⟨s1, s2⟩ := hSw; (try go_simp); first | done | with_reducible rfl | assumption | skip
                    try simp only [Act.put, List.setIfInBounds_toArray, List.set_cons_zero, List.set_cons_succ]
                    refine held_one (i := 4) rfl (by kernel_rfl) (by rfl) (fun K2 hK2 => ?_)
                    go_simp
                    refine (M39.out _ (by assumption)).mono ?_
                    rintro e w21 ⟨rfl, hS21, hF21⟩
                    refine hK2.out _ _ hS21 (fun hHeld2 => ?_)
                    try simp only [Act.put, List.setIfInBounds_toArray, List.set_cons_zero, List.set_cons_succ]
                    clear hK2 K2
                    refine held_take (i := 5) (v := ?_) rfl (by kernel_rfl) (by kernel_rfl) (by kernel_rfl) (fun _ _ _ h => h) (Or.inl ⟨by rfl, ?_⟩) (by assumption) ?_
                    rotate_left
                    · intro w hSw; obtain ⟨s1, s2⟩ := hSw; (try go_simp); first | done | with_reducible rfl | assumption | skip
                    try simp only [Act.put, List.setIfInBounds_toArray, List.set_cons_zero, List.set_cons_succ]
                    refine held_take (i := 6) (v := ?_) rfl (by kernel_rfl) (by kernel_rfl) (by kernel_rfl) (fun _ _ _ h => h) (Or.inl ⟨by rfl, ?_⟩) (by assumption) ?_
                    rotate_left
                    · intro w hSw; obtain ⟨s1, s2⟩ := hSw; (try go_simp); first | done | with_reducible rfl | assumption | skip
                    try simp only [Act.put, List.setIfInBounds_toArray, List.set_cons_zero, List.set_cons_succ]
                    refine held_take (i := 7) (v := ?_) rfl (by kernel_rfl) (by kernel_rfl) (by kernel_rfl) (fun _ _ _ h => h) (Or.inl ⟨by rfl, ?_⟩) (by assumption) ?_
                    rotate_left
                    · intro w hSw; obtain ⟨s1, s2⟩ := hSw; (try go_simp); first | done | with_reducible rfl | assumption | skip
                    try simp only [Act.put, List.setIfInBounds_toArray, List.set_cons_zero, List.set_cons_succ]
                    refine held_take (i := 8) (v := ?_) rfl (by kernel_rfl) (by kernel_rfl) (by kernel_rfl) (fun _ _ _ h => h) (Or.inl ⟨by rfl, ?_⟩) (by assumption) ?_
                    rotate_left
                    · intro w hSw; obtain ⟨s1, s2⟩ := hSw; (try go_simp); first | done | with_reducible rfl | assumption | skip
                    try simp only [Act.put, List.setIfInBounds_toArray, List.set_cons_zero, List.set_cons_succ]
                    refine held_take (i := 9) (v := ?_) rfl (by kernel_rfl) (by kernel_rfl) (by kernel_rfl) (fun _ _ _ h => h) (Or.inl ⟨by rfl, ?_⟩) (by assumption) ?_
                    rotate_left
                    · intro w hSw; obtain ⟨s1, s2⟩ := hSw; (try go_simp); first | done | with_reducible rfl | assumption | skip
                    try simp only [Act.put, List.setIfInBounds_toArray, List.set_cons_zero, List.set_cons_succ]
                    refine held_take (i := 10) (v := ?_) rfl (by kernel_rfl) (by kernel_rfl) (by kernel_rfl) (fun _ _ _ h => h) (Or.inl ⟨by rfl, ?_⟩) (by assumption) ?_
                    rotate_left
                    · intro w hSw; obtain ⟨s1, s2⟩ := hSw; (try go_simp); first | done | with_reducible rfl | assumption | skip
                    try simp only [Act.put, List.setIfInBounds_toArray, List.set_cons_zero, List.set_cons_succ]
                    refine held_take (i := 12) (v := ?_) rfl (by kernel_rfl) (by kernel_rfl) (by kernel_rfl) (fun _ _ _ h => h) (Or.inl ⟨by rfl, ?_⟩) (by assumption) ?_
                    rotate_left
                    · intro w hSw; obtain ⟨s1, s2⟩ := hSw; (try go_simp); first | done | with_reducible rfl | assumption | skip
                    try simp only [Act.put, List.setIfInBounds_toArray, List.set_cons_zero, List.set_cons_succ]
                    refine held_take (i := 13) (v := ?_) rfl (by kernel_rfl) (by kernel_rfl) (by kernel_rfl) (fun _ _ _ h => h) (Or.inl ⟨by rfl, ?_⟩) (by assumption) ?_
                    rotate_left
                    · intro w hSw; obtain ⟨s1, s2⟩ := hSw; (try go_simp); first | done | with_reducible rfl | assumption | skip
                    try simp only [Act.put, List.setIfInBounds_toArray, List.set_cons_zero, List.set_cons_succ]
                    refine held_one (i := 11) rfl (by kernel_rfl) (by rfl) (fun K2 hK2 => ?_)
                    go_simp
                    refine (D26.out _ (by assumption)).mono ?_
                    rintro e w22 ⟨rfl, hS22, hF22⟩
                    refine hK2.out _ _ hS22 (fun hHeld2 => ?_)
                    try simp only [Act.put, List.setIfInBounds_toArray, List.set_cons_zero, List.set_cons_succ]
                    clear hK2 K2
                    refine held_take (i := 14) (v := .bool false) rfl (by kernel_rfl) (by kernel_rfl) (by kernel_rfl) (fun _ _ _ h => h) (Or.inl ⟨by rfl, ?_⟩) (by assumption) ?_
                    · intro w hSw; obtain ⟨s1, s2⟩ := hSw; (try go_simp); first | done | with_reducible rfl | assumption | skip
                    try simp only [Act.put, List.setIfInBounds_toArray, List.set_cons_zero, List.set_cons_succ]
                    refine held_take (i := 15) (v := ?_) rfl (by kernel_rfl) (by kernel_rfl) (by kernel_rfl) (fun _ _ _ h => h) (Or.inl ⟨by rfl, ?_⟩) (by assumption) ?_
                    rotate_left
                    · intro w hSw; obtain ⟨s1, s2⟩ := hSw; (try go_simp); first | done | with_reducible rfl | assumption | skip
                    try simp only [Act.put, List.setIfInBounds_toArray, List.set_cons_zero, List.set_cons_succ]
                    refine held_take (i := 16) (v := undef) rfl (by kernel_rfl) (by kernel_rfl) (by kernel_rfl) (fun _ _ _ h => h) (Or.inr ⟨by rfl, rfl⟩) (by assumption) ?_
                    try simp only [Act.put, List.setIfInBounds_toArray, List.set_cons_zero, List.set_cons_succ]
                    refine held_take (i := 17) (v := undef) rfl (by kernel_rfl) (by kernel_rfl) (by kernel_rfl) (fun _ _ _ h => h) (Or.inr ⟨by rfl, rfl⟩) (by assumption) ?_
                    try simp only [Act.put, List.setIfInBounds_toArray, List.set_cons_zero, List.set_cons_succ]
                    refine held_take (i := 18) (v := undef) rfl (by kernel_rfl) (by kernel_rfl) (by kernel_rfl) (fun _ _ _ h => h) (Or.inr ⟨by rfl, rfl⟩) (by assumption) ?_
                    try simp only [Act.put, List.setIfInBounds_toArray, List.set_cons_zero, List.set_cons_succ]
                    refine held_take (i := 19) (v := undef) rfl (by kernel_rfl) (by kernel_rfl) (by kernel_rfl) (fun _ _ _ h => h) (Or.inr ⟨by rfl, rfl⟩) (by assumption) ?_
                    try simp only [Act.put, List.setIfInBounds_toArray, List.set_cons_zero, List.set_cons_succ]
                    refine held_take (i := 20) (v := ?_) rfl (by kernel_rfl) (by kernel_rfl) (by kernel_rfl) (fun _ _ _ h => h) (Or.inl ⟨by rfl, ?_⟩) (by assumption) ?_
                    rotate_left
                    · intro w hSw; obtain ⟨s1, s2⟩ := hSw; (try go_simp); first | done | with_reducible rfl | assumption | skip
                    try simp only [Act.put, List.setIfInBounds_toArray, List.set_cons_zero, List.set_cons_succ]
                    refine held_take (i := 21) (v := ?_) rfl (by kernel_rfl) (by kernel_rfl) (by kernel_rfl) (fun _ _ _ h => h) (Or.inl ⟨by rfl, ?_⟩) (by assumption) ?_
                    rotate_left
                    · intro w hSw; obtain ⟨s1, s2⟩ := hSw; (try go_simp); first | done | with_reducible rfl | assumption | skip
                    try simp only [Act.put, List.setIfInBounds_toArray, List.set_cons_zero, List.set_cons_succ]
                    refine wpAnyH_done (by kernel_rfl) ?_ _
                    go_wp2
                    go_roundw
                    case rel => exact ⟨k + 1, by omega, by go_num, hS22.1⟩
                    case measure => simp [RowKit.intOf]; omega
                  · replace M40 := M40 (fun h => hne (Eq.symm h))
                    have hg : ¬ ah = V := fun h => hne h.symm
                    refine wp_region_held_drew (S := fun W => Fr [] wL W ∧ W.cell? ⟨bb, 1, none⟩ = some (.int .i64 V)) (by kernel_rfl) ⟨HF7.out.drew, a1⟩ (fun hHeld => ?_)
                    refine held_take (i := 0) (v := ?_) rfl (by kernel_rfl) (by kernel_rfl) (by kernel_rfl) (fun _ _ _ h => h) (Or.inl ⟨by rfl, ?_⟩) (by assumption) ?_
                    rotate_left
                    · intro w hSw; obtain ⟨s1, s2⟩ := hSw; (try go_simp); first | done | with_reducible rfl | assumption | skip
                    try simp only [Act.put, List.setIfInBounds_toArray, List.set_cons_zero, List.set_cons_succ]
                    refine held_take (i := 1) (v := ?_) rfl (by kernel_rfl) (by kernel_rfl) (by kernel_rfl) (fun _ _ _ h => h) (Or.inl ⟨by rfl, ?_⟩) (by assumption) ?_
                    rotate_left
                    · intro w hSw; obtain ⟨s1, s2⟩ := hSw; (try go_simp); first | done | with_reducible rfl | assumption | skip
                    try simp only [Act.put, List.setIfInBounds_toArray, List.set_cons_zero, List.set_cons_succ]
                    refine held_take (i := 2) (v := ?_) rfl (by kernel_rfl) (by kernel_rfl) (by kernel_rfl) (fun _ _ _ h => h) (Or.inl ⟨by rfl, ?_⟩) (by assumption) ?_
                    rotate_left
                    · intro w hSw; obtain ⟨s1, s2⟩ := hSw; (try go_simp); first | done | with_reducible rfl | assumption | skip
                    try simp only [Act.put, List.setIfInBounds_toArray, List.set_cons_zero, List.set_cons_succ]
                    refine held_take (i := 3) (v := ?_) rfl (by kernel_rfl) (by kernel_rfl) (by kernel_rfl) (fun _ _ _ h => h) (Or.inl ⟨by rfl, ?_⟩) (by assumption) ?_
                    rotate_left
                    · intro w hSw; obtain ⟨s1, s2⟩ := hSw; (try go_simp); first | done | with_reducible rfl | assumption | skip
                    try simp only [Act.put, List.setIfInBounds_toArray, List.set_cons_zero, List.set_cons_succ]
                    refine held_one (i := 4) rfl (by kernel_rfl) (by rfl) (fun K2 hK2 => ?_)
                    go_simp
                    refine (M39.out _ (by assumption)).mono ?_
                    rintro e w21 ⟨rfl, hS21, hF21⟩
                    refine hK2.out _ _ hS21 (fun hHeld2 => ?_)
                    try simp only [Act.put, List.setIfInBounds_toArray, List.set_cons_zero, List.set_cons_succ]
                    clear hK2 K2
                    refine held_take (i := 5) (v := ?_) rfl (by kernel_rfl) (by kernel_rfl) (by kernel_rfl) (fun _ _ _ h => h) (Or.inl ⟨by rfl, ?_⟩) (by assumption) ?_
                    rotate_left
                    · intro w hSw; obtain ⟨s1, s2⟩ := hSw; (try go_simp); first | done | with_reducible rfl | assumption | skip
                    try simp only [Act.put, List.setIfInBounds_toArray, List.set_cons_zero, List.set_cons_succ]
                    refine held_take (i := 6) (v := ?_) rfl (by kernel_rfl) (by kernel_rfl) (by kernel_rfl) (fun _ _ _ h => h) (Or.inl ⟨by rfl, ?_⟩) (by assumption) ?_
                    rotate_left
                    · intro w hSw; obtain ⟨s1, s2⟩ := hSw; (try go_simp); first | done | with_reducible rfl | assumption | skip
                    try simp only [Act.put, List.setIfInBounds_toArray, List.set_cons_zero, List.set_cons_succ]
                    refine held_take (i := 7) (v := ?_) rfl (by kernel_rfl) (by kernel_rfl) (by kernel_rfl) (fun _ _ _ h => h) (Or.inl ⟨by rfl, ?_⟩) (by assumption) ?_
                    rotate_left
                    · intro w hSw; obtain ⟨s1, s2⟩ := hSw; (try go_simp); first | done | with_reducible rfl | assumption | skip
                    try simp only [Act.put, List.setIfInBounds_toArray, List.set_cons_zero, List.set_cons_succ]
                    refine held_take (i := 8) (v := ?_) rfl (by kernel_rfl) (by kernel_rfl) (by kernel_rfl) (fun _ _ _ h => h) (Or.inl ⟨by rfl, ?_⟩) (by assumption) ?_
                    rotate_left
                    · intro w hSw; obtain ⟨s1, s2⟩ := hSw; (try go_simp); first | done | with_reducible rfl | assumption | skip
                    try simp only [Act.put, List.setIfInBounds_toArray, List.set_cons_zero, List.set_cons_succ]
                    refine held_take (i := 9) (v := ?_) rfl (by kernel_rfl) (by kernel_rfl) (by kernel_rfl) (fun _ _ _ h => h) (Or.inl ⟨by rfl, ?_⟩) (by assumption) ?_
                    rotate_left
                    · intro w hSw; obtain ⟨s1, s2⟩ := hSw; (try go_simp); first | done | with_reducible rfl | assumption | skip
                    try simp only [Act.put, List.setIfInBounds_toArray, List.set_cons_zero, List.set_cons_succ]
                    refine held_take (i := 10) (v := ?_) rfl (by kernel_rfl) (by kernel_rfl) (by kernel_rfl) (fun _ _ _ h => h) (Or.inl ⟨by rfl, ?_⟩) (by assumption) ?_
                    rotate_left
                    · intro w hSw; obtain ⟨s1, s2⟩ := hSw; (try go_simp); first | done | with_reducible rfl | assumption | skip
                    try simp only [Act.put, List.setIfInBounds_toArray, List.set_cons_zero, List.set_cons_succ]
                    refine held_take (i := 12) (v := ?_) rfl (by kernel_rfl) (by kernel_rfl) (by kernel_rfl) (fun _ _ _ h => h) (Or.inl ⟨by rfl, ?_⟩) (by assumption) ?_
                    rotate_left
                    · intro w hSw; obtain ⟨s1, s2⟩ := hSw; (try go_simp); first | done | with_reducible rfl | assumption | skip
                    try simp only [Act.put, List.setIfInBounds_toArray, List.set_cons_zero, List.set_cons_succ]
                    refine held_take (i := 13) (v := ?_) rfl (by kernel_rfl) (by kernel_rfl) (by kernel_rfl) (fun _ _ _ h => h) (Or.inl ⟨by rfl, ?_⟩) (by assumption) ?_
                    rotate_left
                    · intro w hSw; obtain ⟨s1, s2⟩ := hSw; (try go_simp); first | done | with_reducible rfl | assumption | skip
                    try simp only [Act.put, List.setIfInBounds_toArray, List.set_cons_zero, List.set_cons_succ]
                    refine held_one (i := 11) rfl (by kernel_rfl) (by rfl) (fun K2 hK2 => ?_)
                    go_simp
                    refine (D26.out _ (by assumption)).mono ?_
                    rintro e w22 ⟨rfl, hS22, hF22⟩
                    refine hK2.out _ _ hS22 (fun hHeld2 => ?_)
                    try simp only [Act.put, List.setIfInBounds_toArray, List.set_cons_zero, List.set_cons_succ]
                    clear hK2 K2
                    refine held_take (i := 14) (v := .bool true) rfl (by kernel_rfl) (by kernel_rfl) (by kernel_rfl) (fun _ _ _ h => h) (Or.inl ⟨by rfl, ?_⟩) (by assumption) ?_
                    · intro w hSw; obtain ⟨s1, s2⟩ := hSw; (try go_simp); first | done | with_reducible rfl | assumption | skip
                    try simp only [Act.put, List.setIfInBounds_toArray, List.set_cons_zero, List.set_cons_succ]
                    refine held_take (i := 15) (v := ?_) rfl (by kernel_rfl) (by kernel_rfl) (by kernel_rfl) (fun _ _ _ h => h) (Or.inl ⟨by rfl, ?_⟩) (by assumption) ?_
                    rotate_left
                    · intro w hSw; obtain ⟨s1, s2⟩ := hSw; (try go_simp); first | done | with_reducible rfl | assumption | skip
                    try simp only [Act.put, List.setIfInBounds_toArray, List.set_cons_zero, List.set_cons_succ]
                    refine held_take (i := 16) (v := ?_) rfl (by kernel_rfl) (by kernel_rfl) (by kernel_rfl) (fun _ _ _ h => h) (Or.inl ⟨by rfl, ?_⟩) (by assumption) ?_
                    rotate_left
                    · intro w hSw; obtain ⟨s1, s2⟩ := hSw; (try go_simp); first | done | with_reducible rfl | assumption | skip
                    try simp only [Act.put, List.setIfInBounds_toArray, List.set_cons_zero, List.set_cons_succ]
                    refine held_take (i := 17) (v := ?_) rfl (by kernel_rfl) (by kernel_rfl) (by kernel_rfl) (fun _ _ _ h => h) (Or.inl ⟨by rfl, ?_⟩) (by assumption) ?_
                    rotate_left
                    · intro w hSw; obtain ⟨s1, s2⟩ := hSw; (try go_simp); first | done | with_reducible rfl | assumption | skip
                    try simp only [Act.put, List.setIfInBounds_toArray, List.set_cons_zero, List.set_cons_succ]
                    refine held_one (i := 18) rfl (by kernel_rfl) (by rfl) (fun K2 hK2 => ?_)
                    go_simp
                    refine (M40.out _ (by assumption)).mono ?_
                    rintro e w23 ⟨rfl, hS23, hF23⟩
                    refine hK2.out _ _ hS23 (fun hHeld2 => ?_)
                    try simp only [Act.put, List.setIfInBounds_toArray, List.set_cons_zero, List.set_cons_succ]
                    clear hK2 K2
                    refine held_take (i := 19) (v := ?_) rfl (by kernel_rfl) (by kernel_rfl) (by kernel_rfl) (fun _ _ _ h => h) (Or.inl ⟨by rfl, ?_⟩) (by assumption) ?_
                    rotate_left
                    · intro w hSw; obtain ⟨s1, s2⟩ := hSw; (try go_simp); first | done | with_reducible rfl | assumption | skip
                    try simp only [Act.put, List.setIfInBounds_toArray, List.set_cons_zero, List.set_cons_succ]
                    refine held_take (i := 20) (v := ?_) rfl (by kernel_rfl) (by kernel_rfl) (by kernel_rfl) (fun _ _ _ h => h) (Or.inl ⟨by rfl, ?_⟩) (by assumption) ?_
                    rotate_left
                    · intro w hSw; obtain ⟨s1, s2⟩ := hSw; (try go_simp); first | done | with_reducible rfl | assumption | skip
                    try simp only [Act.put, List.setIfInBounds_toArray, List.set_cons_zero, List.set_cons_succ]
                    refine held_take (i := 21) (v := ?_) rfl (by kernel_rfl) (by kernel_rfl) (by kernel_rfl) (fun _ _ _ h => h) (Or.inl ⟨by rfl, ?_⟩) (by assumption) ?_
                    rotate_left
                    · intro w hSw; obtain ⟨s1, s2⟩ := hSw; (try go_simp); first | done | with_reducible rfl | assumption | skip
                    try simp only [Act.put, List.setIfInBounds_toArray, List.set_cons_zero, List.set_cons_succ]
                    refine wpAnyH_done (by kernel_rfl) ?_ _
                    go_wp2
                    go_roundw
                    case rel => exact ⟨k + 1, by omega, by go_num, hS23.1⟩
                    case measure => simp [RowKit.intOf]; omega
              · obtain rfl : k = l2.length := by omega
                cases oc with
                | false =>
                  go_wp2_with (fail)
                  exact hR'.out _ HFs.out
                | true =>
                  have hm := HMC.out rfl
                  have HM9 := HM.out _ HFs.out
                  rw [hm] at HM9
                  have HM9 := Lib.hid HM9
                  clear hm
                  go_wp2_with (go_at_call 39; refine HM9.out.mono ?_; rintro e w9 ⟨rfl, hF9⟩)
                  exact hR'.out _ (HFs.out.trans hF9 (by simp))
      · go_wp2_with (first
          | (go_at_call 25; refine HAL.out.mono ?_; rintro e w2 ⟨rfl, hF⟩; have HF2 : Hid (Fr [] w w2) := hF)
          | (go_at_call 28; refine (HCH.out _ HF2.out).mono ?_; rintro e w3 ⟨rfl, hF3⟩))
        exact hR.out _ _ ⟨rfl, HF2.out.trans hF3 (by simp)⟩
    · go_wp2_with (first
        | (go_at_call 25; refine HAL.out.mono ?_; rintro e w2 ⟨rfl, hF⟩; have HF2 : Hid (Fr [] w w2) := hF)
        | (go_at_call 28; refine (HCH.out _ HF2.out).mono ?_; rintro e w3 ⟨rfl, hF3⟩))
      exact hR.out _ _ ⟨rfl, HF2.out.trans hF3 (by simp)⟩
  · have hchk : chk st = 31 := by unfold chk; rw [if_neg hok]
    rw [hchk] at HCH
    go_wp2_with (first
      | (go_at_call 25; refine HAL.out.mono ?_; rintro e w2 ⟨rfl, hF⟩; have HF2 : Hid (Fr [] w w2) := hF)
      | (go_at_call 28; refine (HCH.out _ HF2.out).mono ?_; rintro e w3 ⟨rfl, hF3⟩))
    exact hR.out _ _ ⟨rfl, HF2.out.trans hF3 (by simp)⟩
end Go.Np.Try
