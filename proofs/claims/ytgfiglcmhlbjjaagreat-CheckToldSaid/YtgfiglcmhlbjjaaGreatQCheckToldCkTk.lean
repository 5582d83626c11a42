/- What CheckTold needs. -/
import Derived.Test.YtgfiglcmhlbjjaaGreatQCheckToldCkVal
import Derived.Test.YtgfiglcmhlbjjaaGreatQCheckToldCkSe
set_option linter.unusedVariables false
set_option linter.unusedSimpArgs false
namespace Go.Np.Tryz
open Go.RowKit Go.Proofs Go.Proofs.YtgfiglcmhlbjjaaGreat.PX Go.Proofs.YtgfiglcmhlbjjaaGreatW.PrintWords
namespace Co
variable {c c' : Co} {known : List Int}
theorem Settles.wf {d : Co} (h : Settles known c d) (hc : Ok c) (hw : Wf c) : Wf d := by
  induction h with
  | stop e => have := hw.next hc known; rw [e] at this; exact this
  | go e _ ih =>
    have h1 := hc.next known
    have h2 := hw.next hc known
    rw [e] at h1 h2
    exact ih h1 h2
theorem Settles.outs {d : Co} (h : Settles known c d) (hc : Ok c) : d.out.length ≤ c.out.length + c.mu + 1 := by
  induction h with
  | stop e => rename_i c1 c2; have h1 := next_out c1 known; rw [e] at h1; show c2.out.length ≤ _; have h2 : c2.out.length ≤ c1.out.length + 1 := h1; omega
  | go e _ ih =>
    rename_i c1 c2 c3 _
    have h1 := hc.next known
    have h2 := next_mu hc (known := known) (by rw [e])
    have h3 := next_out c1 known
    rw [e] at h1 h2 h3
    have h4 := ih h1
    have h5 : c2.out.length ≤ c1.out.length + 1 := h3
    have h6 : c2.mu < c1.mu := h2
    omega
theorem Ok.tipped (h : Ok c) (tip : Int) : Ok { c with tip := tip } := ⟨h.st, h.me, h.view, h.step, h.votes⟩
theorem Wf.tipped (h : Wf c) (tip : Int) : Wf { c with tip := tip } := ⟨h.props, h.valid, h.said⟩
theorem Ok.lapse (h : Ok c) : Ok c.lapse := by
  have hv := h.view
  unfold Co.lapse
  split
  · exact (h.cast _ _).toS (by omega)
  split
  · exact (h.cast _ _).toS (by omega)
  split
  · split
    · exact (h.toS (by omega)).enter (by omega)
    · exact h.toS (by omega)
  · exact h
theorem Wf.lapse (h : Wf c) : Wf c.lapse := by
  unfold Co.lapse
  split
  · exact (h.cast _ _).toS _
  split
  · exact (h.cast _ _).toS _
  split
  · split
    · exact (h.toS _).enter _
    · exact h.toS _
  · exact h
theorem lapse_out (c : Co) : c.lapse.out.length ≤ c.out.length + 1 := by
  unfold Co.lapse
  split
  · exact cast_out _ _ _
  split
  · exact cast_out _ _ _
  split
  · split
    · exact enter_out _ _
    · exact Nat.le_succ _
  · exact Nat.le_succ _
theorem Ok.tick1 (h : Ok c) (b : Bool) : Ok (c.tick1 b) := by
  unfold Co.tick1
  split
  · exact h.enter (by omega)
  split
  · exact h.lapse
  · exact h
theorem Wf.tick1 (h : Wf c) (b : Bool) : Wf (c.tick1 b) := by
  unfold Co.tick1
  split
  · exact h.enter _
  split
  · exact h.lapse
  · exact h
theorem tick1_out (c : Co) (b : Bool) : (c.tick1 b).out.length ≤ c.out.length + 1 := by
  unfold Co.tick1
  split
  · exact enter_out _ _
  split
  · exact lapse_out _
  · exact Nat.le_succ _
end Co
section
variable {X : Nat → Prop} {w w' w1 : World} {p : Nat} {c c' : Co} {a a' : Pl}
theorem c_flush2 (h : CoIn X w p c a) : Calls Tryz.prog 35 #[.pointer (some ⟨p, 0, none⟩)] w fun e w' => ∃ A d, e = .returned (.slice A c.out.length d) ∧ CoAt X w' p c.flush ∧ w'.ownsRow 0 48 14 (.slice A c.out.length d) c.out.length (flatA c.out) ∧ FrX X w w' := by
  obtain ⟨A, d, hf⟩ := slice_form h.out
  refine (c_flush h).mono ?_
  rintro e w' ⟨rfl, h1, h2, h3⟩
  refine ⟨A, d, by rw [← hf], ⟨_, h1⟩, ?_, h2⟩
  rw [← hf, h3]
  refine row_move h.out (fun k e => set_far w (fun e' => ?_) _)
  have h4 : k ∈ a.ov.ownBlock.toList := by simp [e]
  have h5 := h.nd
  unfold Pl.own at h5
  simp only [List.nodup_cons, List.mem_cons, List.mem_append, not_or] at h5
  have e2 : k = p := e'
  rw [e2] at h4
  exact h5.1.2.2.2.2.2.2.2 h4
set_option maxHeartbeats 8000000 in
set_option maxRecDepth 100000 in
theorem c_tick (h : CoIn X w p c a) (hX : ∀ k, X k → k < w.heap.size) (hok : c.Ok) (hwf : c.Wf) (ho : c.out.length ≤ 1000) {A : Option Addr} {dn : Nat} {known : List Int} (hkn : ∀ W, FrX X w W → (Kd.int .i64).C W A known.length known) (tip : Int)
    (hag : ∀ W d b0 b, Co.Settles known (({ c with tip := tip } : Co).tick1 b0) d → d.step ≠ 0 → CoIn X W p d b → (∀ k, X k → k < W.heap.size) → d.Ok → d.Wf → d.out.length ≤ 20000000 →
      Calls Tryz.prog 34 #[.pointer (some ⟨p, 0, none⟩)] W fun e w' => e = .returned (.tuple #[]) ∧ CoAt X w' p d.again ∧ FrX X W w') :
    Calls Tryz.prog 10 #[.pointer (some ⟨p, 0, none⟩), .slice A known.length dn, .int .i64 tip] w fun e w' => ∃ c' l B d, e = .returned (.slice B l.length d) ∧ Co.Ticks known tip c c' l ∧ CoAt X w' p c' ∧ w'.ownsRow 0 48 14 (.slice B l.length d) l.length (flatA l) ∧ FrX X w w' := by
  obtain ⟨c0, hc0⟩ : ∃ c0 : Co, c0 = { c with tip := tip } := ⟨_, rfl⟩
  obtain ⟨W0, hW0⟩ : ∃ W0, W0 = w.setCell ⟨p, 8, none⟩ (.int .i64 tip) := ⟨_, rfl⟩
  have H0 : Hid (CoIn X W0 p c0 a ∧ FrX X w W0) := by
    show _ ∧ _
    rw [hW0, hc0]
    exact ⟨h.set (c' := { c with tip := tip }) (a' := a) 8 _ rfl rfl rfl rfl rfl rfl rfl, h.setX 8 _⟩
  have k8 : w.cell? ⟨p, 8, none⟩ = some (.int .i64 c.tip) := h.cells 8
  have y8 := froz_of h.box 8
  have HOK : Hid (c0.Ok ∧ c0.Wf ∧ c0.out.length ≤ 1000 ∧ c0.idx = c.idx) := by show _ ∧ _; rw [hc0]; exact ⟨hok.tipped tip, hwf.tipped tip, ho, rfl⟩
  have HX := Lib.hid hX
  rw [← hc0] at hag
  have HAG := Lib.hid hag
  have HOVR := Lib.hid (c_over H0.out.1)
  have HSE : Hid (∀ W b bb, CoIn X W p (c0.tick1 bb) b → FrX X w W → Calls Tryz.prog 33 #[.pointer (some ⟨p, 0, none⟩), .slice A known.length dn] W fun e w' => e = .returned (.tuple #[]) ∧ ∃ d, Co.Settles known (c0.tick1 bb) d ∧ CoAt X w' p d ∧ FrX X W w') := fun W b bb hW hf =>
    c_settle hW (fun k hk => Nat.lt_of_lt_of_le (hX k hk) hf.size) (HOK.out.1.tick1 bb) (HOK.out.2.1.tick1 bb) (by have := Co.tick1_out c0 bb; have := HOK.out.2.2.1; omega) (fun W' hW' => hkn W' (hf.trans hW'))
  have HTI : Hid (∀ c' l, Co.Ticks known tip c c' l ↔ if 1000 < c0.idx then c' = c0 ∧ l = [] else ∃ b d, Co.Settles known (c0.tick1 b) d ∧ c' = (if d.step = 0 then d else d.again).flush ∧ l = (if d.step = 0 then d else d.again).out) := fun c' l => by
    unfold Co.Ticks
    rw [HOK.out.2.2.2, ← hc0]
  -- what is left behind settling
  have HEND : Hid (∀ W bb d, Co.Settles known (c0.tick1 bb) d → CoAt X W p d → FrX X w W → Hid ((∃ s b, d.step = s ∧ W.cell? ⟨p, 6, none⟩ = some (.int .i64 s) ∧ CoIn X W p d b) ∧ (d.step ≠ 0 → Calls Tryz.prog 34 #[.pointer (some ⟨p, 0, none⟩)] W fun e w' => e = .returned (.tuple #[]) ∧ CoAt X w' p d.again ∧ FrX X W w'))) := fun W bb d hd hW hf => by
    obtain ⟨b, hW⟩ := hW
    refine ⟨⟨d.step, b, rfl, hW.cells 6, hW⟩, fun hs => ?_⟩
    refine HAG.out W d bb b hd hs hW (fun k hk => Nat.lt_of_lt_of_le (HX.out k hk) hf.size) (hd.ok (HOK.out.1.tick1 bb)) (hd.wf (HOK.out.1.tick1 bb) (HOK.out.2.1.tick1 bb)) ?_
    have h1 := hd.outs (HOK.out.1.tick1 bb)
    have h2 := (HOK.out.1.tick1 bb).mu_le
    have h3 := Co.tick1_out c0 bb
    have h4 := HOK.out.2.2.1
    omega
  obtain ⟨NK, hNK⟩ : ∃ n, known.length = n := ⟨_, rfl⟩
  rw [hNK] at HSE
  rw [hNK]
  refine calls_k fun R hR => ?_
  clear h hX hok hwf ho hkn hag hc0 hNK
  go_enter Tryz.func10, Tryz.ntmps10
  go_upto_region 2 with (fail)
  rw [← hW0]
  clear hW0 k8 y8
  by_cases hov : 1000 < c0.idx
  · have b1 : decide (1000 < c0.idx) = true := decide_eq_true hov
    rw [b1] at HOVR
    have HOV := Lib.hid hov
    clear b1 hov
    go_wp2_with (go_at_call 29; refine HOVR.out.mono ?_; rintro e w1 ⟨rfl, n1, rfl⟩; clear HOVR)
    refine hR.out _ _ ⟨c0, [], none, 0, rfl, ?_, ⟨a, H0.out.1.fr ((Fr.refl _ _).drewN _)⟩, World.ownsRow_nil _ _ _ _, H0.out.2.trans (FrX.of0 ((Fr.refl _ _).drewN _))⟩
    rw [HTI.out, if_pos HOV.out]
    exact ⟨rfl, rfl⟩
  · have b1 : decide (1000 < c0.idx) = false := decide_eq_false hov
    rw [b1] at HOVR
    have HOV := Lib.hid hov
    clear b1 hov
    by_cases hs : c0.step = 0
    · have HE : Hid (c0.tick1 true = c0.enter 0) := by show _ = _; unfold Co.tick1; rw [if_pos hs]
      have HS0 : Hid (∀ n, (W0.drewN n).cell? ⟨p, 6, none⟩ = some (.int .i64 0)) := fun n => by
        have := (H0.out.1.fr ((Fr.refl [] W0).drewN n)).cells 6
        rw [this]; show some (Value.int .i64 c0.step) = _; rw [hs]
      have HEN : Hid (∀ n, Calls Tryz.prog 30 #[.pointer (some ⟨p, 0, none⟩), .int .i64 0] (W0.drewN n) fun e w' => e = .returned (.tuple #[]) ∧ CoAt X w' p (c0.enter 0) ∧ FrX X (W0.drewN n) w') := fun n =>
        c_enter (H0.out.1.fr ((Fr.refl [] W0).drewN n)) (fun k hk => Nat.lt_of_lt_of_le (HX.out k hk) (H0.out.2.trans (FrX.of0 ((Fr.refl [] W0).drewN n))).size) HOK.out.1 (by have := HOK.out.2.2.1; omega) 0
      clear hs
      go_upto_region 8 with (first
        | (go_at_call 29; refine HOVR.out.mono ?_; rintro e w1 ⟨rfl, n1, rfl⟩; have s6 := HS0.out n1; clear HOVR)
        | (go_at_call 30; refine (HEN.out n1).mono ?_; rintro e w2 ⟨rfl, h2, hf2⟩; rw [← HE.out] at h2; obtain ⟨b2, h2⟩ := h2; have hf2' := (H0.out.2.trans (FrX.of0 ((Fr.refl [] W0).drewN n1))).trans hf2; have HSC := Lib.hid (HSE.out _ _ true h2 hf2'); have HF2 := Lib.hid hf2'; clear h2 hf2 hf2' HEN s6))
      go_upto_region 9 with (go_at_call 33; refine HSC.out.mono ?_; rintro e w5 ⟨rfl, d, hd, h5, hf5⟩; have HF5 := Lib.hid (HF2.out.trans hf5); have HD := Lib.hid hd; have HEN5 := HEND.out _ _ _ hd h5 HF5.out; clear h5 hf5 hd HSC)
      obtain ⟨s, b5, hs5, s6, h5⟩ := HEN5.out.1
      have H5 := Lib.hid h5
      clear h5
      by_cases hz : s = 0
      · subst hz
        have HS5 := Lib.hid hs5
        clear hs5
        have HFL := Lib.hid (c_flush2 H5.out)
        obtain ⟨no, hno⟩ : ∃ n, d.out.length = n := ⟨_, rfl⟩
        rw [hno] at HFL
        go_wp2_with (go_at_call 35; refine HFL.out.mono ?_; rintro e w7 ⟨B, db, rfl, h7, hr7, hf7⟩; have H7 := Lib.hid h7; have HR7 := Lib.hid hr7; have HF7 := Lib.hid (HF5.out.trans hf7); clear h7 hr7 hf7 HFL)
        subst hno
        refine hR.out _ _ ⟨d.flush, d.out, B, db, rfl, ?_, H7.out, HR7.out, HF7.out⟩
        rw [HTI.out, if_neg (by have := HOV.out; omega)]
        exact ⟨true, d, HD.out, by rw [if_pos HS5.out], by rw [if_pos HS5.out]⟩
      · have bz : (s != 0) = true := by simpa using hz
        have HS5 : Hid (d.step ≠ 0) := fun e => hz (hs5.symm.trans e)
        have HAC := Lib.hid (HEN5.out.2 HS5.out)
        clear hz hs5
        obtain ⟨dg, hdg⟩ : ∃ dg, dg = d.again := ⟨_, rfl⟩
        rw [← hdg] at HAC
        have HDG := Lib.hid hdg
        clear hdg
        obtain ⟨no, hno⟩ : ∃ n, dg.out.length = n := ⟨_, rfl⟩
        go_wp2_with (first
          | (go_at_call 34; refine HAC.out.mono ?_; rintro e w6 ⟨rfl, ⟨b6, h6⟩, hf6⟩; have HFL := Lib.hid (c_flush2 h6); rw [hno] at HFL; have HF6 := Lib.hid (HF5.out.trans hf6); clear h6 hf6 HAC)
          | (go_at_call 35; refine HFL.out.mono ?_; rintro e w7 ⟨B, db, rfl, h7, hr7, hf7⟩; have H7 := Lib.hid h7; have HR7 := Lib.hid hr7; have HF7 := Lib.hid (HF6.out.trans hf7); clear h7 hr7 hf7 HFL))
        subst hno
        refine hR.out _ _ ⟨dg.flush, dg.out, B, db, rfl, ?_, H7.out, HR7.out, HF7.out⟩
        rw [HTI.out, if_neg (by have := HOV.out; omega)]
        exact ⟨true, d, HD.out, by rw [if_neg HS5.out, HDG.out], by rw [if_neg HS5.out, HDG.out]⟩
    · obtain ⟨st, hst⟩ : ∃ st, c0.step = st := ⟨_, rfl⟩
      have b0 : (st == 0) = false := by rw [← hst]; simpa using hs
      have HS0 : Hid (∀ n, (W0.drewN n).cell? ⟨p, 6, none⟩ = some (.int .i64 st)) := fun n => by
        have := (H0.out.1.fr ((Fr.refl [] W0).drewN n)).cells 6
        rw [this]; show some (Value.int .i64 c0.step) = _; rw [hst]
      have HTT : Hid (∀ n, Calls Tryz.prog 31 #[.pointer (some ⟨p, 7, none⟩)] (W0.drewN n) fun e w' => ∃ b r, e = .returned (.bool b) ∧ CoIn X w' p c0 { a with left := r } ∧ FrX X (W0.drewN n) w') := fun n => ttick_calls (H0.out.1.fr ((Fr.refl [] W0).drewN n))
      have HE : Hid (c0.tick1 true = c0.lapse ∧ c0.tick1 false = c0) := by show _ ∧ _; unfold Co.tick1; rw [if_neg hs, if_neg hs]; exact ⟨rfl, rfl⟩
      clear hs hst
      go_upto_region 6 with (first
        | (go_at_call 29; refine HOVR.out.mono ?_; rintro e w1 ⟨rfl, n1, rfl⟩; have s6 := HS0.out n1; clear HOVR))
      clear s6
      go_wp2_with (go_at_call 31; refine (HTT.out n1).mono ?_; rintro e w2 ⟨bb, r2, rfl, h2, hf2⟩; have hf2' := (H0.out.2.trans (FrX.of0 ((Fr.refl [] W0).drewN n1))).trans hf2; have H2 := Lib.hid h2; have HF2 := Lib.hid hf2'; clear h2 hf2 hf2' HTT)
      · have HLP := Lib.hid (c_lapse H2.out (fun k hk => Nat.lt_of_lt_of_le (HX.out k hk) HF2.out.size) HOK.out.1 (Nat.lt_of_le_of_lt (HOK.out.1.votes.len HOK.out.1.st.2.1) (by omega)) (by have := HOK.out.2.2.1; omega))
        go_upto_region 8 with (go_at_call 32; refine HLP.out.mono ?_; rintro e w3 ⟨rfl, ⟨b3, h3⟩, hf3⟩; rw [← HE.out.1] at h3; have HF3 := Lib.hid (HF2.out.trans hf3); have HSC := Lib.hid (HSE.out w3 b3 true h3 HF3.out); clear h3 hf3 HLP HF2)
        have HF2 := HF3
        clear HF3
        go_upto_region 9 with (go_at_call 33; refine HSC.out.mono ?_; rintro e w5 ⟨rfl, d, hd, h5, hf5⟩; have HF5 := Lib.hid (HF2.out.trans hf5); have HD := Lib.hid hd; have HEN5 := HEND.out _ _ _ hd h5 HF5.out; clear h5 hf5 hd HSC)
        obtain ⟨s, b5, hs5, s6, h5⟩ := HEN5.out.1
        have H5 := Lib.hid h5
        clear h5
        by_cases hz : s = 0
        · subst hz
          have HS5 := Lib.hid hs5
          clear hs5
          have HFL := Lib.hid (c_flush2 H5.out)
          obtain ⟨no, hno⟩ : ∃ n, d.out.length = n := ⟨_, rfl⟩
          rw [hno] at HFL
          go_wp2_with (go_at_call 35; refine HFL.out.mono ?_; rintro e w7 ⟨B, db, rfl, h7, hr7, hf7⟩; have H7 := Lib.hid h7; have HR7 := Lib.hid hr7; have HF7 := Lib.hid (HF5.out.trans hf7); clear h7 hr7 hf7 HFL)
          subst hno
          refine hR.out _ _ ⟨d.flush, d.out, B, db, rfl, ?_, H7.out, HR7.out, HF7.out⟩
          rw [HTI.out, if_neg (by have := HOV.out; omega)]
          exact ⟨true, d, HD.out, by rw [if_pos HS5.out], by rw [if_pos HS5.out]⟩
        · have bz : (s != 0) = true := by simpa using hz
          have HS5 : Hid (d.step ≠ 0) := fun e => hz (hs5.symm.trans e)
          have HAC := Lib.hid (HEN5.out.2 HS5.out)
          clear hz hs5
          obtain ⟨dg, hdg⟩ : ∃ dg, dg = d.again := ⟨_, rfl⟩
          rw [← hdg] at HAC
          have HDG := Lib.hid hdg
          clear hdg
          obtain ⟨no, hno⟩ : ∃ n, dg.out.length = n := ⟨_, rfl⟩
          go_wp2_with (first
            | (go_at_call 34; refine HAC.out.mono ?_; rintro e w6 ⟨rfl, ⟨b6, h6⟩, hf6⟩; have HFL := Lib.hid (c_flush2 h6); rw [hno] at HFL; have HF6 := Lib.hid (HF5.out.trans hf6); clear h6 hf6 HAC)
            | (go_at_call 35; refine HFL.out.mono ?_; rintro e w7 ⟨B, db, rfl, h7, hr7, hf7⟩; have H7 := Lib.hid h7; have HR7 := Lib.hid hr7; have HF7 := Lib.hid (HF6.out.trans hf7); clear h7 hr7 hf7 HFL))
          subst hno
          refine hR.out _ _ ⟨dg.flush, dg.out, B, db, rfl, ?_, H7.out, HR7.out, HF7.out⟩
          rw [HTI.out, if_neg (by have := HOV.out; omega)]
          exact ⟨true, d, HD.out, by rw [if_neg HS5.out, HDG.out], by rw [if_neg HS5.out, HDG.out]⟩
      · have HSC := Lib.hid (HSE.out w2 { a with left := r2 } false (by rw [HE.out.2]; exact H2.out) HF2.out)
        go_upto_region 9 with (go_at_call 33; refine HSC.out.mono ?_; rintro e w5 ⟨rfl, d, hd, h5, hf5⟩; have HF5 := Lib.hid (HF2.out.trans hf5); have HD := Lib.hid hd; have HEN5 := HEND.out _ _ _ hd h5 HF5.out; clear h5 hf5 hd HSC)
        obtain ⟨s, b5, hs5, s6, h5⟩ := HEN5.out.1
        have H5 := Lib.hid h5
        clear h5
        by_cases hz : s = 0
        · subst hz
          have HS5 := Lib.hid hs5
          clear hs5
          have HFL := Lib.hid (c_flush2 H5.out)
          obtain ⟨no, hno⟩ : ∃ n, d.out.length = n := ⟨_, rfl⟩
          rw [hno] at HFL
          go_wp2_with (go_at_call 35; refine HFL.out.mono ?_; rintro e w7 ⟨B, db, rfl, h7, hr7, hf7⟩; have H7 := Lib.hid h7; have HR7 := Lib.hid hr7; have HF7 := Lib.hid (HF5.out.trans hf7); clear h7 hr7 hf7 HFL)
          subst hno
          refine hR.out _ _ ⟨d.flush, d.out, B, db, rfl, ?_, H7.out, HR7.out, HF7.out⟩
          rw [HTI.out, if_neg (by have := HOV.out; omega)]
          exact ⟨false, d, HD.out, by rw [if_pos HS5.out], by rw [if_pos HS5.out]⟩
        · have bz : (s != 0) = true := by simpa using hz
          have HS5 : Hid (d.step ≠ 0) := fun e => hz (hs5.symm.trans e)
          have HAC := Lib.hid (HEN5.out.2 HS5.out)
          clear hz hs5
          obtain ⟨dg, hdg⟩ : ∃ dg, dg = d.again := ⟨_, rfl⟩
          rw [← hdg] at HAC
          have HDG := Lib.hid hdg
          clear hdg
          obtain ⟨no, hno⟩ : ∃ n, dg.out.length = n := ⟨_, rfl⟩
          go_wp2_with (first
            | (go_at_call 34; refine HAC.out.mono ?_; rintro e w6 ⟨rfl, ⟨b6, h6⟩, hf6⟩; have HFL := Lib.hid (c_flush2 h6); rw [hno] at HFL; have HF6 := Lib.hid (HF5.out.trans hf6); clear h6 hf6 HAC)
            | (go_at_call 35; refine HFL.out.mono ?_; rintro e w7 ⟨B, db, rfl, h7, hr7, hf7⟩; have H7 := Lib.hid h7; have HR7 := Lib.hid hr7; have HF7 := Lib.hid (HF6.out.trans hf7); clear h7 hr7 hf7 HFL))
          subst hno
          refine hR.out _ _ ⟨dg.flush, dg.out, B, db, rfl, ?_, H7.out, HR7.out, HF7.out⟩
          rw [HTI.out, if_neg (by have := HOV.out; omega)]
          exact ⟨false, d, HD.out, by rw [if_neg HS5.out, HDG.out], by rw [if_neg HS5.out, HDG.out]⟩
end
end Go.Np.Tryz
