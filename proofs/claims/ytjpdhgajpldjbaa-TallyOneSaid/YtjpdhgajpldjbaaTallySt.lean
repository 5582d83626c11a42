/- TallyStays: the walk. (Printed by tools/gen_tstays.py.) -/
import Derived.Test.YtjpdhgajpldjbaaTallyO
import Derived.Test.YtjpdhgajpldjbaaTallyV
set_option linter.unusedVariables false
set_option linter.unusedSimpArgs false
namespace Go.Np.Try
open Go.RowKit Go.Proofs Go.ChangeShapes Go.WideShapes Go.Proofs.Ytjpdhgajpldjbaa.PX Go.Proofs.YtjpdhgajpldjbaaW.PrintWords
/-- A slice of votes, with its bound. -/
def VotesC (w : World) (v : Value) (l : List S41) : Prop := ∃ A c, v = .slice A l.length c ∧ l.length ≤ c ∧ k41.C w A l.length l ∧ ∀ q ∈ l, wf64 q.f0 ∧ wf64 q.f1 ∧ wf64 q.f2
set_option maxRecDepth 100000 in
theorem open_votesC {H : Type} {enc : TypeId × Value → H} {W : World} {base b0 : Nat} {sp : Nat → Bool} {held : Bool} {v : Value} {d : DataW H} {ps : List MemPlace}
    (hv : Value.okWide Try.prog W .any b0 39 v) (h : DataW.Trod enc Try.prog W base sp held 39 v d ps) : ∃ l : List S41, VotesC W v l := by
  obtain ⟨l, A, c, he, h1, h2⟩ := open_votes hv h
  obtain ⟨fuel, hf⟩ := h
  rcases Go.Deep.open_slice Try.underlying39 hf with ⟨hcs, _⟩ | ⟨ad, len, cap, m, k, D, Pl, hcs, _, hlc, hcm, hm, _, hx⟩
  · rw [he] at hcs
    simp [Value.cells] at hcs
    exact ⟨l, A, c, he, by simp [hcs.2.1], h1, h2⟩
  · rw [he] at hcs
    simp [Value.cells] at hcs
    exact ⟨l, A, c, he, by omega, h1, h2⟩
set_option maxHeartbeats 16000000 in
set_option maxRecDepth 100000 in
theorem TallyStays_walk (w : World) (A0 : Option Addr) (c0 : Nat) (st : List Int) (h0 : (Kd.int .i64).C w A0 st.length st) (_hm : st.length ≤ maxLen) (_hs : st.length * 8 ≤ 140737488351232) (_hw : ∀ n ∈ st, (Lit.int .i64 n).wf = true) (hc0 : st.length ≤ c0)
    (v1 : Value) (l : List S41) (hv1 : VotesC w v1 l) (at_ : Int) (_hat : (Lit.int .i64 at_).wf = true) :
    Calls Try.prog 10 #[.slice A0 st.length c0, v1, .int .i64 at_] w fun e w' => e = .returned (.bool true) ∧ Fr [] w w' := by
  obtain ⟨Av, cv, rfl, hcv, hv, hwf⟩ := hv1
  have HAL := Lib.hid (talive_calls w)
  have HCH : Hid (∀ W, Fr [] w W → Calls Try.prog 28 #[.slice A0 st.length c0] W fun e w' => e = .returned (.int .i64 (chk st)) ∧ Fr [] W w') := fun W hF => rChk (Kd.C_below h0 hF.below) hc0
  have hmx : l.length ≤ 9223372036854775807 := hv.2.1
  have HV := Lib.hid hv
  have H0 := Lib.hid h0
  have HWF := Lib.hid hwf
  clear h0 hv hwf _hm _hs _hw
  refine calls_k fun R hR => ?_
  go_enter Try.func10, Try.ntmps10
  by_cases hok : okS st
  · have hchk : chk st = 0 := by unfold chk; rw [if_pos hok]
    rw [hchk] at HCH
    by_cases hl : l.length ≤ 60
    · by_cases ha0 : at_ < 0
      · go_wp2_with (first
          | (go_at_call 25; refine HAL.out.mono ?_; rintro e w2 ⟨rfl, hF⟩; have HF2 : Hid (Fr [] w w2) := hF)
          | (go_at_call 28; refine (HCH.out _ HF2.out).mono ?_; rintro e w3 ⟨rfl, hF3⟩))
        exact hR.out _ _ ⟨rfl, HF2.out.trans hF3 (by simp)⟩
      · by_cases ha1 : (l.length : Int) < at_
        · go_wp2_with (first
            | (go_at_call 25; refine HAL.out.mono ?_; rintro e w2 ⟨rfl, hF⟩; have HF2 : Hid (Fr [] w w2) := hF)
            | (go_at_call 28; refine (HCH.out _ HF2.out).mono ?_; rintro e w3 ⟨rfl, hF3⟩))
          exact hR.out _ _ ⟨rfl, HF2.out.trans hF3 (by simp)⟩
        · obtain ⟨a, rfl⟩ : ∃ a : Nat, at_ = (a : Int) := ⟨at_.toNat, by omega⟩
          have hal : a ≤ l.length := by omega
          have hta : (l.take a).length = a := by rw [List.length_take]; omega
          have HCO1 : Hid (∀ W, Fr [] w W → Calls Try.prog 29 #[.slice A0 st.length c0, .slice Av a cv] W fun e w' => ∃ p b B d, e = .returned (.tuple #[.pointer (some ⟨p, 0, none⟩), .agg #[.slice A0 st.length c0, .slice B (foldR st.length (l.take a)).length d], .bool true]) ∧ RefT w' A0 c0 st B d (foldR st.length (l.take a)) ∧ Tz W w' p b st (foldR st.length (l.take a)) ∧ Fr [] W w') := by
            intro W hF
            have := counted_calls (cv := cv) hok (Kd.C_below H0.out hF.below) hc0 (Kd.C_below (Kd.C_take HV.out hal) hF.below) (fun q hq => HWF.out q (List.mem_of_mem_take hq)) (by omega)
            rw [hta] at this
            exact this
          have HCO2 : Hid (∀ W, Fr [] w W → Calls Try.prog 29 #[.slice A0 st.length c0, .slice Av l.length cv] W fun e w' => ∃ p b B d, e = .returned (.tuple #[.pointer (some ⟨p, 0, none⟩), .agg #[.slice A0 st.length c0, .slice B (foldR st.length l).length d], .bool true]) ∧ RefT w' A0 c0 st B d (foldR st.length l) ∧ Tz W w' p b st (foldR st.length l) ∧ Fr [] W w') := fun W hF => counted_calls hok (Kd.C_below H0.out hF.below) hc0 (Kd.C_below HV.out hF.below) HWF.out (by omega)
          have HOK := Lib.hid hok
          have hacv : a ≤ cv := by omega
          clear hok hchk hc0 hta
          go_upto_region 8 with (first
            | (go_at_call 25; refine HAL.out.mono ?_; rintro e w2 ⟨rfl, hF2⟩; have HF2 := Lib.hid hF2; clear hF2)
            | (go_at_call 28; refine (HCH.out _ HF2.out).mono ?_; rintro e w3 ⟨rfl, hF⟩; have hF3 : Fr [] w w3 := HF2.out.trans hF (by simp); have HF3 := Lib.hid hF3; clear hF hF3)
            | (go_at_call 29; have _t := HCO1; refine (HCO1.out _ HF3.out).mono ?_; rintro e w4 ⟨p, b, B, d, rfl, hRT, hTZ, hF⟩; have hF4 : Fr [] w w4 := HF3.out.trans hF (by simp); have HF4 := Lib.hid hF4; have HTZ := Lib.hid hTZ; have HF4a : Hid (∀ o, Fr [] w (w4.alloc o)) := fun o => HF4.out.alloc o; clear hF hF4 hRT hTZ HCO1)
            | (go_at_call 29; refine (HCO2.out _ (HF4a.out _)).mono ?_; rintro e w5 ⟨p2, b2, B2, d2, rfl, hRT, hTZ, hF⟩; have hF5 : Fr [] w w5 := (HF4a.out _).trans hF (by simp); have HF5 := Lib.hid hF5; have HTZ2 := Lib.hid hTZ; have HTZ1 := Lib.hid ((HTZ.out.step ((Fr.refl _ _).alloc _)).step hF); clear hF hF5 hRT hTZ HCO2))
          obtain ⟨wL, hwL⟩ : ∃ wL, wL = w5.alloc (.cells #[.slice A0 st.length c0, .slice B2 (foldR st.length l).length d2] 44) := ⟨_, rfl⟩
          have hF5L : Fr [] w5 wL := by rw [hwL]; exact (Fr.refl _ _).alloc _
          have HZ1 := Lib.hid (HTZ1.out.step hF5L)
          have HZ2 := Lib.hid (HTZ2.out.step hF5L)
          have HFL : Hid (Fr [] w wL) := HF5.out.trans hF5L (by simp)
          have HSUB : Hid (∀ q ∈ foldR st.length (l.take a), q ∈ foldR st.length l) := foldR_take l a
          have HG1 := Lib.hid HZ1.out.good
          have HG2 := Lib.hid HZ2.out.good
          rw [← hwL]
          obtain ⟨m1, hm1⟩ : ∃ m1, m1 = foldR st.length (l.take a) := ⟨_, rfl⟩
          obtain ⟨m2, hm2⟩ : ∃ m2, m2 = foldR st.length l := ⟨_, rfl⟩
          rw [← hm1] at HZ1 HSUB HG1 ⊢
          rw [← hm2] at HZ2 HSUB HG2 ⊢
          clear hm1 hm2 hwL hF5L HTZ1 HTZ2 HTZ HF5 HF4a HF4 HF3 HF2 HAL HCH
          have hR' : Hid (∀ W, Fr [] wL W → R (.returned (.bool true)) W) := fun W h => hR.out _ _ ⟨rfl, HFL.out.trans h (by simp)⟩
          clear hR
          have hamx : a ≤ 9223372036854775807 := by omega
          go_loopw [63] (fun i wr => ∃ k : Nat, k ≤ a ∧ i = .int .i64 k ∧ Hid (Fr [] wL wr)) (fun i _ => a - (RowKit.intOf i).toNat)
          case atStart => exact ⟨0, Nat.zero_le _, rfl, Fr.refl _ _⟩
          case round =>
            obtain ⟨k, hk, rfl, HFr⟩ := hrel
            by_cases hlt : k < a
            · obtain ⟨ad, hav, hq0, hq1, hq2, hq3⟩ := at_T41 (Kd.C_below HV.out (HFL.out.trans HFr.out (by simp)).below) (k : Int) (by omega) (by omega)
              subst hav
              have hqm : rd_T41 l (k : Int) ∈ l := by rw [show rd_T41 l (k : Int) = l.getD k z41 by simp [rd_T41], List.getD_eq_getElem?_getD, List.getElem?_eq_getElem (by omega)]; exact List.getElem_mem _
              have hwq := HWF.out _ hqm
              generalize rd_T41 l (k : Int) = qq at hq0 hq1 hq2 hq3 hwq
              obtain ⟨K, V, F, x⟩ := qq
              simp only [Int.toNat_natCast] at hq0 hq1 hq2 hq3 hwq
              obtain ⟨W6, hW6⟩ : ∃ W6, W6 = wr.alloc (.cells #[.int .i64 K, .int .i64 V, .int .i64 F, .int .i64 x] 41) := ⟨_, rfl⟩
              obtain ⟨bb, hbb⟩ : ∃ bb, bb = wr.heap.size := ⟨_, rfl⟩
              have hF6 : Fr [] wL W6 := by rw [hW6]; exact HFr.out.alloc _
              have hblk : W6.heap[bb]? = some (.cells #[.int .i64 K, .int .i64 V, .int .i64 F, .int .i64 x] 41 (0, 0)) := by rw [hW6, hbb]; exact heap_alloc_new _ _
              have a0 : W6.cell? ⟨bb, 0, none⟩ = some (.int .i64 K) := cell_of hblk 0
              have a1 : W6.cell? ⟨bb, 1, none⟩ = some (.int .i64 V) := cell_of hblk 1
              obtain ⟨x1, hx1⟩ : ∃ x1, x1 = (mostR st m1 K V).1 := ⟨_, rfl⟩
              obtain ⟨o1, ho1⟩ : ∃ o1, o1 = (mostR st m1 K V).2 := ⟨_, rfl⟩
              obtain ⟨x2, hx2⟩ : ∃ x2, x2 = (mostR st m2 K V).1 := ⟨_, rfl⟩
              obtain ⟨o2, ho2⟩ : ∃ o2, o2 = (mostR st m2 K V).2 := ⟨_, rfl⟩
              obtain ⟨h1, hh1⟩ : ∃ h1, h1 = ahR st m1 V := ⟨_, rfl⟩
              obtain ⟨h2, hh2⟩ : ∃ h2, h2 = ahR st m2 V := ⟨_, rfl⟩
              have hah : h1 ≤ h2 := by rw [hh1, hh2]; exact ahR_mono HOK.out HSUB.out V
              have hmost : o1 = true → x2 = x1 ∧ o2 = true := by
                intro h
                have e : mostR st m1 K V = (x1, true) := by rw [hx1, ← h, ho1]
                have e2 := mostR_mono HOK.out HG1.out HG2.out HSUB.out e
                rw [hx2, ho2, e2]; exact ⟨rfl, rfl⟩
              have C1 : Hid (∀ W, Fr [] wL W → Calls Try.prog 24 #[.pointer (some ⟨p, 0, none⟩), .int .i64 K, .int .i64 V] W fun e w' => e = .returned (.tuple #[.int .i64 x1, .bool o1]) ∧ Fr [] W w') := by
                intro W h; rw [hx1, ho1]; exact zMost (HZ1.out.step h) K V hwq.1 hwq.2.1
              have C2 : Hid (∀ W, Fr [] wL W → Calls Try.prog 24 #[.pointer (some ⟨p2, 0, none⟩), .int .i64 K, .int .i64 V] W fun e w' => e = .returned (.tuple #[.int .i64 x2, .bool o2]) ∧ Fr [] W w') := by
                intro W h; rw [hx2, ho2]; exact zMost (HZ2.out.step h) K V hwq.1 hwq.2.1
              have D1 : Hid (∀ W, Fr [] wL W ∧ W.cell? ⟨bb, 0, none⟩ = some (.int .i64 K) ∧ W.cell? ⟨bb, 1, none⟩ = some (.int .i64 V) → Calls Try.prog 26 #[.pointer (some ⟨p, 0, none⟩), .int .i64 V] W fun e w' => e = .returned (.int .i64 h1) ∧ (Fr [] wL w' ∧ w'.cell? ⟨bb, 0, none⟩ = some (.int .i64 K) ∧ w'.cell? ⟨bb, 1, none⟩ = some (.int .i64 V)) ∧ Fr [] W w') := by
                intro W hS
                rw [hh1]
                refine (zAh (HZ1.out.step hS.1) V).mono ?_
                rintro e w' ⟨rfl, hF⟩
                exact ⟨rfl, ⟨hS.1.trans hF (by simp), cellF hF hS.2.1, cellF hF hS.2.2⟩, hF⟩
              have D2 : Hid (∀ W, Fr [] wL W ∧ W.cell? ⟨bb, 0, none⟩ = some (.int .i64 K) ∧ W.cell? ⟨bb, 1, none⟩ = some (.int .i64 V) → Calls Try.prog 26 #[.pointer (some ⟨p2, 0, none⟩), .int .i64 V] W fun e w' => e = .returned (.int .i64 h2) ∧ (Fr [] wL w' ∧ w'.cell? ⟨bb, 0, none⟩ = some (.int .i64 K) ∧ w'.cell? ⟨bb, 1, none⟩ = some (.int .i64 V)) ∧ Fr [] W w') := by
                intro W hS
                rw [hh2]
                refine (zAh (HZ2.out.step hS.1) V).mono ?_
                rintro e w' ⟨rfl, hF⟩
                exact ⟨rfl, ⟨hS.1.trans hF (by simp), cellF hF hS.2.1, cellF hF hS.2.2⟩, hF⟩
              have hF6' := Lib.hid hF6
              clear hx1 ho1 hx2 ho2 hh1 hh2 hblk hqm hwq hF6
              go_upto_region 10 with (fail)
              rw [← hW6, ← hbb]
              clear hW6 hbb hq0 hq1 hq2 hq3
              have hid0 : Hid (Fr [] wL W6) := hF6'
              have hgt : decide (h2 < h1) = false := by simpa using hah
              cases o1 with
              | false =>
                clear hmost
                go_upto_region 12 with (first
                  | (go_at_call 24; refine (C1.out _ hid0.out).mono ?_; clear C1; rintro e w7 ⟨rfl, hF⟩; replace hid0 : Hid (Fr [] wL w7) := hid0.out.trans hF (by simp); replace a0 := cellF hF a0; replace a1 := cellF hF a1; clear hF)
                  | (go_at_call 24; refine (C2.out _ hid0.out).mono ?_; rintro e w8 ⟨rfl, hF⟩; replace hid0 : Hid (Fr [] wL w8) := hid0.out.trans hF (by simp); replace a0 := cellF hF a0; replace a1 := cellF hF a1; clear hF))
                refine wp_region_held_drew (S := fun W => Fr [] wL W ∧ W.cell? ⟨bb, 0, none⟩ = some (.int .i64 K) ∧ W.cell? ⟨bb, 1, none⟩ = some (.int .i64 V)) (by kernel_rfl) ⟨hid0.out.drew, a0, a1⟩ (fun hHeld => ?_)
                refine held_take (i := 0) (v := ?_) rfl (by kernel_rfl) (by kernel_rfl) (by kernel_rfl) (fun _ _ _ h => h) (Or.inl ⟨by rfl, ?_⟩) (by assumption) ?_
                rotate_left
                · intro w hSw; obtain ⟨s1, s2, s3⟩ := hSw; (try go_simp); try with_reducible rfl
                try simp only [Act.put, List.setIfInBounds_toArray, List.set_cons_zero, List.set_cons_succ]
                refine held_take (i := 1) (v := ?_) rfl (by kernel_rfl) (by kernel_rfl) (by kernel_rfl) (fun _ _ _ h => h) (Or.inl ⟨by rfl, ?_⟩) (by assumption) ?_
                rotate_left
                · intro w hSw; obtain ⟨s1, s2, s3⟩ := hSw; (try go_simp); try with_reducible rfl
                try simp only [Act.put, List.setIfInBounds_toArray, List.set_cons_zero, List.set_cons_succ]
                refine held_take (i := 2) (v := undef) rfl (by kernel_rfl) (by kernel_rfl) (by kernel_rfl) (fun _ _ _ h => h) (Or.inr ⟨by rfl, rfl⟩) (by assumption) ?_
                try simp only [Act.put, List.setIfInBounds_toArray, List.set_cons_zero, List.set_cons_succ]
                refine held_take (i := 3) (v := undef) rfl (by kernel_rfl) (by kernel_rfl) (by kernel_rfl) (fun _ _ _ h => h) (Or.inr ⟨by rfl, rfl⟩) (by assumption) ?_
                try simp only [Act.put, List.setIfInBounds_toArray, List.set_cons_zero, List.set_cons_succ]
                refine held_take (i := 4) (v := undef) rfl (by kernel_rfl) (by kernel_rfl) (by kernel_rfl) (fun _ _ _ h => h) (Or.inr ⟨by rfl, rfl⟩) (by assumption) ?_
                try simp only [Act.put, List.setIfInBounds_toArray, List.set_cons_zero, List.set_cons_succ]
                refine held_take (i := 5) (v := undef) rfl (by kernel_rfl) (by kernel_rfl) (by kernel_rfl) (fun _ _ _ h => h) (Or.inr ⟨by rfl, rfl⟩) (by assumption) ?_
                try simp only [Act.put, List.setIfInBounds_toArray, List.set_cons_zero, List.set_cons_succ]
                refine held_take (i := 6) (v := undef) rfl (by kernel_rfl) (by kernel_rfl) (by kernel_rfl) (fun _ _ _ h => h) (Or.inr ⟨by rfl, rfl⟩) (by assumption) ?_
                try simp only [Act.put, List.setIfInBounds_toArray, List.set_cons_zero, List.set_cons_succ]
                refine held_take (i := 7) (v := undef) rfl (by kernel_rfl) (by kernel_rfl) (by kernel_rfl) (fun _ _ _ h => h) (Or.inr ⟨by rfl, rfl⟩) (by assumption) ?_
                try simp only [Act.put, List.setIfInBounds_toArray, List.set_cons_zero, List.set_cons_succ]
                refine held_take (i := 8) (v := undef) rfl (by kernel_rfl) (by kernel_rfl) (by kernel_rfl) (fun _ _ _ h => h) (Or.inr ⟨by rfl, rfl⟩) (by assumption) ?_
                try simp only [Act.put, List.setIfInBounds_toArray, List.set_cons_zero, List.set_cons_succ]
                refine held_take (i := 9) (v := ?_) rfl (by kernel_rfl) (by kernel_rfl) (by kernel_rfl) (fun _ _ _ h => h) (Or.inl ⟨by rfl, ?_⟩) (by assumption) ?_
                rotate_left
                · intro w hSw; obtain ⟨s1, s2, s3⟩ := hSw; (try go_simp); try with_reducible rfl
                try simp only [Act.put, List.setIfInBounds_toArray, List.set_cons_zero, List.set_cons_succ]
                refine held_take (i := 10) (v := ?_) rfl (by kernel_rfl) (by kernel_rfl) (by kernel_rfl) (fun _ _ _ h => h) (Or.inl ⟨by rfl, ?_⟩) (by assumption) ?_
                rotate_left
                · intro w hSw; obtain ⟨s1, s2, s3⟩ := hSw; (try go_simp); try with_reducible rfl
                try simp only [Act.put, List.setIfInBounds_toArray, List.set_cons_zero, List.set_cons_succ]
                refine held_take (i := 11) (v := ?_) rfl (by kernel_rfl) (by kernel_rfl) (by kernel_rfl) (fun _ _ _ h => h) (Or.inl ⟨by rfl, ?_⟩) (by assumption) ?_
                rotate_left
                · intro w hSw; obtain ⟨s1, s2, s3⟩ := hSw; (try go_simp); try with_reducible rfl
                try simp only [Act.put, List.setIfInBounds_toArray, List.set_cons_zero, List.set_cons_succ]
                refine held_take (i := 12) (v := ?_) rfl (by kernel_rfl) (by kernel_rfl) (by kernel_rfl) (fun _ _ _ h => h) (Or.inl ⟨by rfl, ?_⟩) (by assumption) ?_
                rotate_left
                · intro w hSw; obtain ⟨s1, s2, s3⟩ := hSw; (try go_simp); try with_reducible rfl
                try simp only [Act.put, List.setIfInBounds_toArray, List.set_cons_zero, List.set_cons_succ]
                refine held_take (i := 13) (v := ?_) rfl (by kernel_rfl) (by kernel_rfl) (by kernel_rfl) (fun _ _ _ h => h) (Or.inl ⟨by rfl, ?_⟩) (by assumption) ?_
                rotate_left
                · intro w hSw; obtain ⟨s1, s2, s3⟩ := hSw; (try go_simp); try with_reducible rfl
                try simp only [Act.put, List.setIfInBounds_toArray, List.set_cons_zero, List.set_cons_succ]
                refine held_take (i := 15) (v := ?_) rfl (by kernel_rfl) (by kernel_rfl) (by kernel_rfl) (fun _ _ _ h => h) (Or.inl ⟨by rfl, ?_⟩) (by assumption) ?_
                rotate_left
                · intro w hSw; obtain ⟨s1, s2, s3⟩ := hSw; (try go_simp); try with_reducible rfl
                try simp only [Act.put, List.setIfInBounds_toArray, List.set_cons_zero, List.set_cons_succ]
                refine held_take (i := 16) (v := ?_) rfl (by kernel_rfl) (by kernel_rfl) (by kernel_rfl) (fun _ _ _ h => h) (Or.inl ⟨by rfl, ?_⟩) (by assumption) ?_
                rotate_left
                · intro w hSw; obtain ⟨s1, s2, s3⟩ := hSw; (try go_simp); try with_reducible rfl
                try simp only [Act.put, List.setIfInBounds_toArray, List.set_cons_zero, List.set_cons_succ]
                refine held_take (i := 17) (v := ?_) rfl (by kernel_rfl) (by kernel_rfl) (by kernel_rfl) (fun _ _ _ h => h) (Or.inl ⟨by rfl, ?_⟩) (by assumption) ?_
                rotate_left
                · intro w hSw; obtain ⟨s1, s2, s3⟩ := hSw; (try go_simp); try with_reducible rfl
                try simp only [Act.put, List.setIfInBounds_toArray, List.set_cons_zero, List.set_cons_succ]
                refine held_one (i := 14) rfl (by kernel_rfl) (by rfl) (fun K2 hK2 => ?_)
                go_simp
                refine (D1.out _ (by assumption)).mono ?_
                rintro e w9 ⟨rfl, hS9, hF9⟩
                refine hK2.out _ _ hS9 (fun hHeld2 => ?_)
                try simp only [Act.put, List.setIfInBounds_toArray, List.set_cons_zero, List.set_cons_succ]
                clear hK2 K2
                refine held_one (i := 18) rfl (by kernel_rfl) (by rfl) (fun K2 hK2 => ?_)
                go_simp
                refine (D2.out _ (by assumption)).mono ?_
                rintro e w10 ⟨rfl, hS10, hF10⟩
                refine hK2.out _ _ hS10 (fun hHeld2 => ?_)
                try simp only [Act.put, List.setIfInBounds_toArray, List.set_cons_zero, List.set_cons_succ]
                clear hK2 K2
                refine held_take (i := 19) (v := .bool false) rfl (by kernel_rfl) (by kernel_rfl) (by kernel_rfl) (fun _ _ _ h => h) (Or.inl ⟨by rfl, ?_⟩) (by assumption) ?_
                · intro w hSw; obtain ⟨s1, s2, s3⟩ := hSw; (try go_simp); try with_reducible rfl
                try simp only [Act.put, List.setIfInBounds_toArray, List.set_cons_zero, List.set_cons_succ]
                refine held_take (i := 20) (v := ?_) rfl (by kernel_rfl) (by kernel_rfl) (by kernel_rfl) (fun _ _ _ h => h) (Or.inl ⟨by rfl, ?_⟩) (by assumption) ?_
                rotate_left
                · intro w hSw; obtain ⟨s1, s2, s3⟩ := hSw; (try go_simp); try with_reducible rfl
                try simp only [Act.put, List.setIfInBounds_toArray, List.set_cons_zero, List.set_cons_succ]
                refine wpAnyH_done (by kernel_rfl) ?_ _
                go_wp2
                go_roundw
                case rel => exact ⟨k + 1, by omega, by go_num, hS10.1⟩
                case measure => simp [RowKit.intOf]; omega
              | true =>
                obtain ⟨rfl, rfl⟩ := hmost rfl
                go_upto_region 12 with (first
                  | (go_at_call 24; refine (C1.out _ hid0.out).mono ?_; clear C1; rintro e w7 ⟨rfl, hF⟩; replace hid0 : Hid (Fr [] wL w7) := hid0.out.trans hF (by simp); replace a0 := cellF hF a0; replace a1 := cellF hF a1; clear hF)
                  | (go_at_call 24; refine (C2.out _ hid0.out).mono ?_; rintro e w8 ⟨rfl, hF⟩; replace hid0 : Hid (Fr [] wL w8) := hid0.out.trans hF (by simp); replace a0 := cellF hF a0; replace a1 := cellF hF a1; clear hF))
                refine wp_region_held_drew (S := fun W => Fr [] wL W ∧ W.cell? ⟨bb, 0, none⟩ = some (.int .i64 K) ∧ W.cell? ⟨bb, 1, none⟩ = some (.int .i64 V)) (by kernel_rfl) ⟨hid0.out.drew, a0, a1⟩ (fun hHeld => ?_)
                refine held_take (i := 0) (v := ?_) rfl (by kernel_rfl) (by kernel_rfl) (by kernel_rfl) (fun _ _ _ h => h) (Or.inl ⟨by rfl, ?_⟩) (by assumption) ?_
                rotate_left
                · intro w hSw; obtain ⟨s1, s2, s3⟩ := hSw; (try go_simp); try with_reducible rfl
                try simp only [Act.put, List.setIfInBounds_toArray, List.set_cons_zero, List.set_cons_succ]
                refine held_take (i := 1) (v := ?_) rfl (by kernel_rfl) (by kernel_rfl) (by kernel_rfl) (fun _ _ _ h => h) (Or.inl ⟨by rfl, ?_⟩) (by assumption) ?_
                rotate_left
                · intro w hSw; obtain ⟨s1, s2, s3⟩ := hSw; (try go_simp); try with_reducible rfl
                try simp only [Act.put, List.setIfInBounds_toArray, List.set_cons_zero, List.set_cons_succ]
                refine held_take (i := 2) (v := ?_) rfl (by kernel_rfl) (by kernel_rfl) (by kernel_rfl) (fun _ _ _ h => h) (Or.inl ⟨by rfl, ?_⟩) (by assumption) ?_
                rotate_left
                · intro w hSw; obtain ⟨s1, s2, s3⟩ := hSw; (try go_simp); try with_reducible rfl
                try simp only [Act.put, List.setIfInBounds_toArray, List.set_cons_zero, List.set_cons_succ]
                refine held_take (i := 3) (v := ?_) rfl (by kernel_rfl) (by kernel_rfl) (by kernel_rfl) (fun _ _ _ h => h) (Or.inl ⟨by rfl, ?_⟩) (by assumption) ?_
                rotate_left
                · intro w hSw; obtain ⟨s1, s2, s3⟩ := hSw; (try go_simp); try with_reducible rfl
                try simp only [Act.put, List.setIfInBounds_toArray, List.set_cons_zero, List.set_cons_succ]
                refine held_take (i := 4) (v := ?_) rfl (by kernel_rfl) (by kernel_rfl) (by kernel_rfl) (fun _ _ _ h => h) (Or.inl ⟨by rfl, ?_⟩) (by assumption) ?_
                rotate_left
                · intro w hSw; obtain ⟨s1, s2, s3⟩ := hSw; (try go_simp); try with_reducible rfl
                try simp only [Act.put, List.setIfInBounds_toArray, List.set_cons_zero, List.set_cons_succ]
                refine held_take (i := 5) (v := ?_) rfl (by kernel_rfl) (by kernel_rfl) (by kernel_rfl) (fun _ _ _ h => h) (Or.inl ⟨by rfl, ?_⟩) (by assumption) ?_
                rotate_left
                · intro w hSw; obtain ⟨s1, s2, s3⟩ := hSw; (try go_simp); try with_reducible rfl
                try simp only [Act.put, List.setIfInBounds_toArray, List.set_cons_zero, List.set_cons_succ]
                refine held_take (i := 6) (v := ?_) rfl (by kernel_rfl) (by kernel_rfl) (by kernel_rfl) (fun _ _ _ h => h) (Or.inl ⟨by rfl, ?_⟩) (by assumption) ?_
                rotate_left
                · intro w hSw; obtain ⟨s1, s2, s3⟩ := hSw; (try go_simp); try with_reducible rfl
                try simp only [Act.put, List.setIfInBounds_toArray, List.set_cons_zero, List.set_cons_succ]
                refine held_take (i := 7) (v := .bool false) rfl (by kernel_rfl) (by kernel_rfl) (by kernel_rfl) (fun _ _ _ h => h) (Or.inl ⟨by rfl, ?_⟩) (by assumption) ?_
                · intro w hSw; obtain ⟨s1, s2, s3⟩ := hSw; (try go_simp); try with_reducible rfl
                try simp only [Act.put, List.setIfInBounds_toArray, List.set_cons_zero, List.set_cons_succ]
                refine held_take (i := 8) (v := ?_) rfl (by kernel_rfl) (by kernel_rfl) (by kernel_rfl) (fun _ _ _ h => h) (Or.inl ⟨by rfl, ?_⟩) (by assumption) ?_
                rotate_left
                · intro w hSw; obtain ⟨s1, s2, s3⟩ := hSw; (try go_simp); try with_reducible rfl
                try simp only [Act.put, List.setIfInBounds_toArray, List.set_cons_zero, List.set_cons_succ]
                refine held_take (i := 9) (v := ?_) rfl (by kernel_rfl) (by kernel_rfl) (by kernel_rfl) (fun _ _ _ h => h) (Or.inl ⟨by rfl, ?_⟩) (by assumption) ?_
                rotate_left
                · intro w hSw; obtain ⟨s1, s2, s3⟩ := hSw; (try go_simp); try with_reducible rfl
                try simp only [Act.put, List.setIfInBounds_toArray, List.set_cons_zero, List.set_cons_succ]
                refine held_take (i := 10) (v := ?_) rfl (by kernel_rfl) (by kernel_rfl) (by kernel_rfl) (fun _ _ _ h => h) (Or.inl ⟨by rfl, ?_⟩) (by assumption) ?_
                rotate_left
                · intro w hSw; obtain ⟨s1, s2, s3⟩ := hSw; (try go_simp); try with_reducible rfl
                try simp only [Act.put, List.setIfInBounds_toArray, List.set_cons_zero, List.set_cons_succ]
                refine held_take (i := 11) (v := ?_) rfl (by kernel_rfl) (by kernel_rfl) (by kernel_rfl) (fun _ _ _ h => h) (Or.inl ⟨by rfl, ?_⟩) (by assumption) ?_
                rotate_left
                · intro w hSw; obtain ⟨s1, s2, s3⟩ := hSw; (try go_simp); try with_reducible rfl
                try simp only [Act.put, List.setIfInBounds_toArray, List.set_cons_zero, List.set_cons_succ]
                refine held_take (i := 12) (v := ?_) rfl (by kernel_rfl) (by kernel_rfl) (by kernel_rfl) (fun _ _ _ h => h) (Or.inl ⟨by rfl, ?_⟩) (by assumption) ?_
                rotate_left
                · intro w hSw; obtain ⟨s1, s2, s3⟩ := hSw; (try go_simp); try with_reducible rfl
                try simp only [Act.put, List.setIfInBounds_toArray, List.set_cons_zero, List.set_cons_succ]
                refine held_take (i := 13) (v := ?_) rfl (by kernel_rfl) (by kernel_rfl) (by kernel_rfl) (fun _ _ _ h => h) (Or.inl ⟨by rfl, ?_⟩) (by assumption) ?_
                rotate_left
                · intro w hSw; obtain ⟨s1, s2, s3⟩ := hSw; (try go_simp); try with_reducible rfl
                try simp only [Act.put, List.setIfInBounds_toArray, List.set_cons_zero, List.set_cons_succ]
                refine held_take (i := 15) (v := ?_) rfl (by kernel_rfl) (by kernel_rfl) (by kernel_rfl) (fun _ _ _ h => h) (Or.inl ⟨by rfl, ?_⟩) (by assumption) ?_
                rotate_left
                · intro w hSw; obtain ⟨s1, s2, s3⟩ := hSw; (try go_simp); try with_reducible rfl
                try simp only [Act.put, List.setIfInBounds_toArray, List.set_cons_zero, List.set_cons_succ]
                refine held_take (i := 16) (v := ?_) rfl (by kernel_rfl) (by kernel_rfl) (by kernel_rfl) (fun _ _ _ h => h) (Or.inl ⟨by rfl, ?_⟩) (by assumption) ?_
                rotate_left
                · intro w hSw; obtain ⟨s1, s2, s3⟩ := hSw; (try go_simp); try with_reducible rfl
                try simp only [Act.put, List.setIfInBounds_toArray, List.set_cons_zero, List.set_cons_succ]
                refine held_take (i := 17) (v := ?_) rfl (by kernel_rfl) (by kernel_rfl) (by kernel_rfl) (fun _ _ _ h => h) (Or.inl ⟨by rfl, ?_⟩) (by assumption) ?_
                rotate_left
                · intro w hSw; obtain ⟨s1, s2, s3⟩ := hSw; (try go_simp); try with_reducible rfl
                try simp only [Act.put, List.setIfInBounds_toArray, List.set_cons_zero, List.set_cons_succ]
                refine held_one (i := 14) rfl (by kernel_rfl) (by rfl) (fun K2 hK2 => ?_)
                go_simp
                refine (D1.out _ (by assumption)).mono ?_
                rintro e w9 ⟨rfl, hS9, hF9⟩
                refine hK2.out _ _ hS9 (fun hHeld2 => ?_)
                try simp only [Act.put, List.setIfInBounds_toArray, List.set_cons_zero, List.set_cons_succ]
                clear hK2 K2
                refine held_one (i := 18) rfl (by kernel_rfl) (by rfl) (fun K2 hK2 => ?_)
                go_simp
                refine (D2.out _ (by assumption)).mono ?_
                rintro e w10 ⟨rfl, hS10, hF10⟩
                refine hK2.out _ _ hS10 (fun hHeld2 => ?_)
                try simp only [Act.put, List.setIfInBounds_toArray, List.set_cons_zero, List.set_cons_succ]
                clear hK2 K2
                refine held_take (i := 19) (v := .bool false) rfl (by kernel_rfl) (by kernel_rfl) (by kernel_rfl) (fun _ _ _ h => h) (Or.inl ⟨by rfl, ?_⟩) (by assumption) ?_
                · intro w hSw; obtain ⟨s1, s2, s3⟩ := hSw; (try go_simp); try with_reducible rfl
                try simp only [Act.put, List.setIfInBounds_toArray, List.set_cons_zero, List.set_cons_succ]
                refine held_take (i := 20) (v := ?_) rfl (by kernel_rfl) (by kernel_rfl) (by kernel_rfl) (fun _ _ _ h => h) (Or.inl ⟨by rfl, ?_⟩) (by assumption) ?_
                rotate_left
                · intro w hSw; obtain ⟨s1, s2, s3⟩ := hSw; (try go_simp); try with_reducible rfl
                try simp only [Act.put, List.setIfInBounds_toArray, List.set_cons_zero, List.set_cons_succ]
                refine wpAnyH_done (by kernel_rfl) ?_ _
                go_wp2
                go_roundw
                case rel => exact ⟨k + 1, by omega, by go_num, hS10.1⟩
                case measure => simp [RowKit.intOf]; omega
            · obtain rfl : k = a := by omega
              obtain ⟨c1, hc1⟩ : ∃ c1, c1 = (comR st m1).1 := ⟨_, rfl⟩
              obtain ⟨o1, ho1⟩ : ∃ o1, o1 = (comR st m1).2 := ⟨_, rfl⟩
              obtain ⟨c2, hc2⟩ : ∃ c2, c2 = (comR st m2).1 := ⟨_, rfl⟩
              obtain ⟨o2, ho2⟩ : ∃ o2, o2 = (comR st m2).2 := ⟨_, rfl⟩
              have C1 := Lib.hid (zCom (HZ1.out.step HFr.out))
              have C2 : Hid (∀ W, Fr [] wL W → Calls Try.prog 23 #[.pointer (some ⟨p2, 0, none⟩)] W fun e w' => e = .returned (.tuple #[.int .i64 c2, .bool o2]) ∧ Fr [] W w') := by
                intro W h; rw [hc2, ho2]; exact zCom (HZ2.out.step h)
              rw [← hc1, ← ho1] at C1
              have hcom : o1 = true → o2 = true := by rw [ho1, ho2]; exact comR_mono HOK.out HG1.out HG2.out HSUB.out
              clear hc1 ho1 hc2 ho2
              cases o1 with
              | false =>
                clear hcom
                go_wp2_with (first
                  | (go_at_call 23; refine C1.out.mono ?_; clear C1; rintro e w7 ⟨rfl, hF7⟩; have HF7 : Hid (Fr [] wL w7) := HFr.out.trans hF7 (by simp))
                  | (go_at_call 23; refine (C2.out _ HF7.out).mono ?_; rintro e w8 ⟨rfl, hF8⟩))
                exact hR'.out _ (HF7.out.trans hF8 (by simp))
              | true =>
                obtain rfl := hcom rfl
                go_wp2_with (first
                  | (go_at_call 23; refine C1.out.mono ?_; clear C1; rintro e w7 ⟨rfl, hF7⟩; have HF7 : Hid (Fr [] wL w7) := HFr.out.trans hF7 (by simp))
                  | (go_at_call 23; refine (C2.out _ HF7.out).mono ?_; rintro e w8 ⟨rfl, hF8⟩))
                exact hR'.out _ (HF7.out.trans hF8 (by simp))
    · go_wp2_with (first
        | (go_at_call 25; refine HAL.out.mono ?_; rintro e w2 ⟨rfl, hF⟩; have HF2 : Hid (Fr [] w w2) := hF)
        | (go_at_call 28; refine (HCH.out _ HF2.out).mono ?_; rintro e w3 ⟨rfl, hF3⟩))
      exact hR.out _ _ ⟨rfl, HF2.out.trans hF3 (by simp)⟩
  · have hchk : chk st = 31 := by unfold chk; rw [if_neg hok]
    rw [hchk] at HCH
    go_wp2_with (first
      | (go_at_call 25; refine HAL.out.mono ?_; rintro e w2 ⟨rfl, hF⟩; have HF2 : Hid (Fr [] w w2) := hF)
      | (go_at_call 28; refine (HCH.out _ HF2.out).mono ?_; rintro e w3 ⟨rfl, hF3⟩))
    exact hR.out _ _ ⟨rfl, HF2.out.trans hF3 (by simp)⟩
end Go.Np.Try
