/- What CheckTold needs. -/
import Derived.Test.YtgfiglcmhlbjjaaGreatQCheckToldCkAc
import Derived.Test.YtgfiglcmhlbjjaaGreatQCheckToldCkAd
set_option linter.unusedVariables false
set_option linter.unusedSimpArgs false
namespace Go.Np.Tryz
open Go.RowKit Go.Proofs Go.Proofs.YtgfiglcmhlbjjaaGreat.PX Go.Proofs.YtgfiglcmhlbjjaaGreatW.PrintWords
theorem zeroIh (w : World) : (zeroValue 3).run Tryz.prog w = .ok (.int .i64 0) w := by kernel_rfl
theorem row_oneA {w : World} {g : Nat} {m : Am} (h : w.heap[g]? = some (.cells m.cells.toArray 48 (0, 0))) : w.ownsRow 0 48 14 (.slice (some ⟨g, 0, none⟩) 1 1) 1 (flatA [m]) :=
  ⟨by simp [flatA, Am.cells], .inr ⟨g, 1, m.cells.toArray, rfl, Nat.zero_le _, h, Nat.le_refl _, by unfold maxLen; omega, by simp [Am.cells], by simp [flatA, Am.cells]⟩⟩
section
variable {X : Nat → Prop} {w w' w1 : World} {p : Nat} {c c' : Co} {a a' : Pl}
theorem CoIn.lookS (h : CoIn X w p c a) (v : Int) : (Instr.lookup 72 (.map (some a.bs)) (.int .i64 v) true).run Tryz.prog w = .ok (.tuple #[.int .i64 ((alook c.said v).getD 0), .bool (alook c.said v).isSome]) w := by
  have := h.sds.run_lookup key_int Tryz.underlying72 (zeroIh w) v true
  rw [alook_map saidE (fun x => .int .i64 x) (fun q => rfl)] at this
  rw [this]
  cases alook c.said v <;> rfl
set_option maxHeartbeats 16000000 in
set_option maxRecDepth 100000 in
theorem c_handle1 (h : CoIn X w p c a) (hX : ∀ k, X k → k < w.heap.size) (hok : c.Ok) (hwf : c.Wf) (ho : c.out.length ≤ 1000) (hsd : c.said.length < 1000) {A : Option Addr} {dn : Nat} {known : List Int} (hkn : ∀ W, FrX X w W → (Kd.int .i64).C W A known.length known)
    (too kd fr ix vw vl pr t0 t1 b0 b1 b2 b3 : Int) (Ax : Option Addr) (nx cx : Nat) (hm : wf64 kd ∧ wf64 fr ∧ wf64 ix ∧ wf64 vw ∧ wf64 pr) (l0 : List Am) (hI : c.idle ⟨too, kd, fr, ix, vw, vl, pr⟩ = some l0) :
    Calls Tryz.prog 11 #[.pointer (some ⟨p, 0, none⟩), .agg #[.int .i64 kd, .int .i64 fr, .int .i64 ix, .int .i64 vw, .int .i64 vl, .int .i64 pr, .int .i64 t0, .int .i64 t1, .int .i64 b0, .int .i64 b1, .int .i64 b2, .int .i64 b3, .slice Ax nx cx], .slice A known.length dn] w fun e w' => ∃ c' l B d, e = .returned (.slice B l.length d) ∧ Co.Handles known c ⟨too, kd, fr, ix, vw, vl, pr⟩ c' l ∧ CoAt X w' p c' ∧ w'.ownsRow 0 48 14 (.slice B l.length d) l.length (flatA l) ∧ FrX X w w' := by
  obtain ⟨M, hM⟩ : ∃ M : Am, M = ⟨too, kd, fr, ix, vw, vl, pr⟩ := ⟨_, rfl⟩
  rw [← hM] at hI
  rw [← hM]
  obtain ⟨W1, hW1⟩ : ∃ W1, W1 = w.alloc (.cells #[.int .i64 kd, .int .i64 fr, .int .i64 ix, .int .i64 vw, .int .i64 vl, .int .i64 pr, .int .i64 t0, .int .i64 t1, .int .i64 b0, .int .i64 b1, .int .i64 b2, .int .i64 b3, .slice Ax nx cx] 32) := ⟨_, rfl⟩
  obtain ⟨g, hg⟩ : ∃ g, g = w.heap.size := ⟨_, rfl⟩
  have hF1 : Fr [] w W1 := by rw [hW1]; exact (Fr.refl _ _).alloc _
  have hb1 : W1.heap[g]? = some (.cells #[.int .i64 kd, .int .i64 fr, .int .i64 ix, .int .i64 vw, .int .i64 vl, .int .i64 pr, .int .i64 t0, .int .i64 t1, .int .i64 b0, .int .i64 b1, .int .i64 b2, .int .i64 b3, .slice Ax nx cx] 32 (0, 0)) := by rw [hW1, hg]; exact heap_alloc_new _ _
  obtain ⟨X1, hX1⟩ : ∃ X1 : Nat → Prop, X1 = fun k => X k ∨ k = g := ⟨_, rfl⟩
  have h1 := h.fr hF1
  have H1 : Hid (CoIn X1 W1 p c a) := ⟨h1.box, h1.tal, h1.st, h1.tst, h1.dec, h1.out, h1.vts, h1.prs, h1.sds, h1.nd, fun k hk hx => by
    rw [hX1] at hx
    rcases hx with hx | hx
    · exact h.nX k hk hx
    · have := h.lt k hk; omega⟩
  have HX1 : Hid (∀ k, X1 k → k < W1.heap.size) := fun k hk => by
    rw [hX1] at hk
    have h2 := (Array.getElem?_eq_some_iff.1 hb1).1
    rcases hk with hk | hk
    · exact Nat.lt_of_lt_of_le (hX k hk) hF1.size
    · omega
  have HXg : Hid (X1 g) := by show X1 g; rw [hX1]; exact .inr rfl
  have HEND : Hid (∀ W d, CoAt X1 W p d → FrX X1 W1 W → CoAt X W p d ∧ FrX X w W) := fun W d hd hf => by
    obtain ⟨b, hd⟩ := hd
    refine ⟨⟨b, hd.x (fun k _ hk => by rw [hX1]; exact .inl hk)⟩, (FrX.of0 hF1).trans (hf.weak (fun k hk => by rw [hX1]; exact .inl hk))⟩
  have HKN : Hid (∀ W, FrX X1 W1 W → (Kd.int .i64).C W A known.length known) := fun W hW => hkn W ((FrX.of0 hF1).trans (hW.weak (fun k hk => by rw [hX1]; exact .inl hk)))
  have HB : Hid (∀ W, FrX X1 W1 W → W.heap[g]? = some (.cells #[.int .i64 kd, .int .i64 fr, .int .i64 ix, .int .i64 vw, .int .i64 vl, .int .i64 pr, .int .i64 t0, .int .i64 t1, .int .i64 b0, .int .i64 b1, .int .i64 b2, .int .i64 b3, .slice Ax nx cx] 32 (0, 0))) := fun W hW => (hW.block (Array.getElem?_eq_some_iff.1 hb1).1 HXg.out).trans hb1
  have HG : Hid (∀ W, Fr [] W1 W → W.cell? ⟨g, 0, none⟩ = some (.int .i64 kd) ∧ W.cell? ⟨g, 1, none⟩ = some (.int .i64 fr) ∧ W.cell? ⟨g, 2, none⟩ = some (.int .i64 ix) ∧ W.cell? ⟨g, 3, none⟩ = some (.int .i64 vw) ∧ W.cell? ⟨g, 4, none⟩ = some (.int .i64 vl) ∧ W.cell? ⟨g, 5, none⟩ = some (.int .i64 pr)) := fun W hW => by
    have h2 := HB.out W (FrX.of0 hW)
    exact ⟨cell_of h2 0, cell_of h2 1, cell_of h2 2, cell_of h2 3, cell_of h2 4, cell_of h2 5⟩
  obtain ⟨ci, hci⟩ : ∃ ci, c.idx = ci := ⟨_, rfl⟩
  obtain ⟨NS, hNS⟩ : ∃ NS, c.st.length = NS := ⟨_, rfl⟩
  obtain ⟨As, ds, hsv, _⟩ := h.sv
  obtain ⟨Ad, dd, hdv, _⟩ := h.dv
  obtain ⟨ND, hND⟩ : ∃ ND, c.decs.length = ND := ⟨_, rfl⟩
  have HCE : Hid (∀ W, Fr [] W1 W → W.cell? ⟨p, 0, none⟩ = some (.int .i64 c.me) ∧ W.cell? ⟨p, 1, none⟩ = some (.slice As NS ds) ∧ W.cell? ⟨p, 4, none⟩ = some (.slice Ad ND dd) ∧ W.cell? ⟨p, 9, none⟩ = some (.pointer (some ⟨a.pt, 0, none⟩)) ∧ W.cell? ⟨p, 10, none⟩ = some (.map (some a.bp)) ∧ W.cell? ⟨p, 11, none⟩ = some (.map (some a.bs))) := fun W hW => by
    have h2 := H1.out.fr hW
    refine ⟨h2.cells 0, ?_, ?_, h2.cells 9, h2.cells 10, h2.cells 11⟩
    · rw [← hNS, h2.cells 1, ← hsv]; rfl
    · rw [← hND, h2.cells 4, ← hdv]; rfl
  have HIQ : Hid (∀ W, Fr [] W1 W → ∀ n, Calls Tryz.prog 18 #[.pointer (some ⟨p, 0, none⟩)] (W.drewN n) fun e w'' => e = .returned (.int .i64 ci) ∧ w'' = W.drewN n) := fun W hW n => by
    have := c_index (H1.out.fr (hW.drewN n)); rw [hci] at this; exact this
  obtain ⟨bad, hbad⟩ : ∃ bad : Bool, bad = (decide (kd < 3) || decide (fr < 0) || decide ((NS : Int) ≤ fr) || decide (ci < ix) || decide (ix < 0)) := ⟨_, rfl⟩
  have HBAD := Lib.hid hbad
  have HIDL : Hid (c.idle M = if bad = true then some [] else if ix < ci then (if kd = 6 then some [] else some [⟨fr, 6, c.me, ix, 0, c.decs.getD ix.toNat 0, 0⟩]) else none) := by
    show _ = _
    unfold Co.idle
    rw [hM, hci, hNS, HBAD.out]
    have hb : (decide (kd < 3) || decide (fr < 0) || decide ((NS : Int) ≤ fr) || decide (ci < ix) || decide (ix < 0)) = true ↔ (kd < 3 ∨ fr < 0 ∨ (NS : Int) ≤ fr ∨ ci < ix ∨ ix < 0) := by
      simp only [Bool.or_eq_true, decide_eq_true_eq, or_assoc]
    by_cases k1 : kd < 3 ∨ fr < 0 ∨ (NS : Int) ≤ fr ∨ ci < ix ∨ ix < 0
    · rw [if_pos k1, if_pos (hb.2 k1)]
    · rw [if_neg k1, if_neg (fun h => k1 (hb.1 h))]
  have HCK : Hid (ci = (ND : Int)) := by show _ = _; rw [← hci, ← hND]; rfl
  have HOK := Lib.hid hok
  have HML : Hid (c.m.length < 999999) := Nat.lt_of_le_of_lt (hok.votes.len hok.st.2.1) (by omega)
  have HTK : Hid ((c.take M).Ok ∧ (c.take M).Wf ∧ (c.take M).out.length ≤ 1000000) := ⟨hok.take M, hwf.take M (by rw [hM]; exact hm.2.2.2.2) hsd, by rw [(Co.take_same c M).1]; omega⟩
  have HWM := Lib.hid hm
  have HDV : Hid (OwnI 0 W1 (.slice Ad ND dd) c.decs) := by
    have h2 := H1.out.dec
    rw [hdv, hND] at h2
    exact h2
  have HND := Lib.hid hND
  have HM := Lib.hid hM
  have HNS7 : Hid (c.st.length ≤ 7) := hok.st.2.1
  have HRES : Hid (∀ (W : World) (l : List Am), c.idle M = some l → Co.Handles known c M c l) := fun W l hl => by unfold Co.Handles; rw [hl]; exact ⟨rfl, rfl⟩
  have HRES2 : Hid (∀ d : Co, c.idle M = none → Co.Settles known (c.take M) d → Co.Handles known c M d.flush d.out) := fun d hl hd => by unfold Co.Handles; rw [hl]; exact ⟨d, hd, rfl, rfl⟩
  obtain ⟨nk, hnk⟩ : ∃ n, known.length = n := ⟨_, rfl⟩
  rw [hnk]
  have HNK := Lib.hid hnk
  have HII := Lib.hid hI
  refine calls_k fun R hR => ?_
  clear hI
  clear h h1 hX hok hwf ho hsd hkn hF1 hb1 hX1 hci hNS hsv hdv hND hbad hm hM hnk
  go_enter Tryz.func11, Tryz.ntmps11
  go_upto_region 1 with (fail)
  rw [← hW1, ← hg]
  clear hW1 hg
  obtain ⟨g0, g1, g2, g3, g4, g5⟩ := HG.out W1 (Fr.refl _ _)
  obtain ⟨vote, hvote⟩ : ∃ v : Bool, v = (decide (kd = 4) || decide (kd = 5)) := ⟨_, rfl⟩
  have HVOTE := Lib.hid hvote
  clear hvote
  go_cut [7] (fun v wc => v = .bool vote ∧ W1 = wc)
  case first =>
    by_cases k4 : kd = 4
    · have e4 : (kd == 4) = true := by simpa using k4
      have HV : Hid (vote = true) := by show _ = _; rw [HVOTE.out]; simp [k4]
      clear k4
      go_wp2
      go_meet
      exact ⟨by rw [HV.out], rfl⟩
    · have e4 : (kd == 4) = false := by simpa using k4
      have HV : Hid (vote = decide (kd = 5)) := by show _ = _; rw [HVOTE.out]; simp [k4]
      have e5 : (kd == 5) = decide (kd = 5) := by by_cases e : kd = 5 <;> simp [e]
      clear k4
      go_wp2
      go_meet
      exact ⟨by rw [HV.out], rfl⟩
  case rest =>
    obtain ⟨rfl, rfl⟩ := hcut
    obtain ⟨q0, q1, q4, q9, q10, q11⟩ := HCE.out _ (Fr.refl _ _)
    go_upto_region 5 with (fail)
    go_cut [42] (fun v wc => v = .bool bad ∧ Hid (Fr [] W1 wc))
    case first =>
      have HQ := Lib.hid (HIQ.out W1 (Fr.refl _ _))
      by_cases n0 : kd < 3
      · have d0 : decide (kd < 3) = true := decide_eq_true n0
        have HV : Hid (bad = true) := by show _ = _; rw [HBAD.out]; simp [n0]
        clear n0
        go_quiet (first | (go_at_call 18; exact Calls.quiet_of_same (HQ.out _)))
        go_wp2
        go_meet
        exact ⟨by rw [HV.out], (Fr.refl _ _).drewN _⟩
      · have d0 : decide (kd < 3) = false := decide_eq_false n0
        by_cases n1 : fr < 0
        · have d1 : decide (fr < 0) = true := decide_eq_true n1
          have HV : Hid (bad = true) := by show _ = _; rw [HBAD.out]; simp [n0, n1]
          clear n0 n1
          go_quiet (first | (go_at_call 18; exact Calls.quiet_of_same (HQ.out _)))
          go_wp2
          go_meet
          exact ⟨by rw [HV.out], (Fr.refl _ _).drewN _⟩
        · have d1 : decide (fr < 0) = false := decide_eq_false n1
          by_cases n2 : (NS : Int) ≤ fr
          · have d2 : decide ((NS : Int) ≤ fr) = true := decide_eq_true n2
            have HV : Hid (bad = true) := by show _ = _; rw [HBAD.out]; simp [n0, n1, n2]
            clear n0 n1 n2
            go_quiet (first | (go_at_call 18; exact Calls.quiet_of_same (HQ.out _)))
            go_wp2
            go_meet
            exact ⟨by rw [HV.out], (Fr.refl _ _).drewN _⟩
          · have d2 : decide ((NS : Int) ≤ fr) = false := decide_eq_false n2
            by_cases n3 : ci < ix
            · have d3 : decide (ci < ix) = true := decide_eq_true n3
              have HV : Hid (bad = true) := by show _ = _; rw [HBAD.out]; simp [n0, n1, n2, n3]
              clear n0 n1 n2 n3
              go_quiet (first | (go_at_call 18; exact Calls.quiet_of_same (HQ.out _)))
              go_wp2
              go_meet
              exact ⟨by rw [HV.out], (Fr.refl _ _).drewN _⟩
            · have d3 : decide (ci < ix) = false := decide_eq_false n3
              by_cases n4 : ix < 0
              · have d4 : decide (ix < 0) = true := decide_eq_true n4
                have HV : Hid (bad = true) := by show _ = _; rw [HBAD.out]; simp [n0, n1, n2, n3, n4]
                clear n0 n1 n2 n3 n4
                go_quiet (first | (go_at_call 18; exact Calls.quiet_of_same (HQ.out _)))
                go_wp2
                go_meet
                exact ⟨by rw [HV.out], (Fr.refl _ _).drewN _⟩
              · have d4 : decide (ix < 0) = false := decide_eq_false n4
                have HV : Hid (bad = false) := by show _ = _; rw [HBAD.out]; simp [n0, n1, n2, n3, n4]
                clear n0 n1 n2 n3 n4
                go_quiet (first | (go_at_call 18; exact Calls.quiet_of_same (HQ.out _)))
                go_wp2
                go_meet
                exact ⟨by rw [HV.out], (Fr.refl _ _).drewN _⟩
    case rest =>
      obtain ⟨rfl, HFb⟩ := hcut
      obtain ⟨W5, rfl⟩ : ∃ W5, W5 = wc := ⟨_, rfl⟩
      clear q0 q1 q4 q9 q10 q11 g0 g1 g2 g3 g4 g5
      obtain ⟨q0, q1, q4, q9, q10, q11⟩ := HCE.out _ HFb.out
      obtain ⟨g0, g1, g2, g3, g4, g5⟩ := HG.out _ HFb.out
      cases bad with
      | true =>
        have HI : Hid (c.idle M = some []) := by show _ = _; rw [HIDL.out, if_pos rfl]
        go_wp2
        obtain ⟨e1, e2⟩ := HEND.out W5 c ⟨a, H1.out.fr HFb.out⟩ (FrX.of0 HFb.out)
        exact hR.out _ _ ⟨c, [], none, 0, rfl, HRES.out W5 [] HI.out, e1, World.ownsRow_nil _ _ _ _, e2⟩
      | false =>
        have hb := HBAD.out
        have HBN : Hid (3 ≤ kd ∧ 0 ≤ fr ∧ fr < NS ∧ ix ≤ ci ∧ 0 ≤ ix) := by
          show _ ∧ _
          simp only [Bool.false_eq, Bool.or_eq_false_iff, decide_eq_false_iff_not] at hb
          omega
        obtain ⟨ki, hki⟩ : ∃ k : Nat, ix = k := ⟨ix.toNat, by have := HBN.out; omega⟩
        subst hki
        rw [if_neg (by simp)] at HIDL
        obtain ⟨lt, hlt⟩ : ∃ lt : Bool, lt = decide ((ki : Int) < ci) := ⟨_, rfl⟩
        obtain ⟨old, hold⟩ : ∃ old : Bool, old = (lt && decide (kd ≠ 6)) := ⟨_, rfl⟩
        have HLT := Lib.hid hlt
        have HOLD := Lib.hid hold
        have HQ := Lib.hid (HIQ.out W5 HFb.out)
        clear hb hlt hold
        go_upto_region 7 with (fail)
        go_cut [73] (fun v wc => v = .bool old ∧ Hid (Fr [] W1 wc))
        case first =>
          have e6 : (kd != 6) = decide (kd ≠ 6) := by by_cases e : kd = 6 <;> simp [e]
          cases lt with
          | true =>
            have dlt : decide ((ki : Int) < ci) = true := HLT.out.symm
            have HV : Hid (old = decide (kd ≠ 6)) := by show _ = _; rw [HOLD.out]; simp
            go_quiet (first | (go_at_call 18; exact Calls.quiet_of_same (HQ.out _)))
            go_wp2
            go_meet
            exact ⟨by rw [HV.out]; first | rfl | simp, HFb.out.drewN _⟩
          | false =>
            have dlt : decide ((ki : Int) < ci) = false := HLT.out.symm
            have HV : Hid (old = false) := by show _ = _; rw [HOLD.out]; simp
            go_quiet (first | (go_at_call 18; exact Calls.quiet_of_same (HQ.out _)))
            go_wp2
            go_meet
            exact ⟨by rw [HV.out], HFb.out.drewN _⟩
        case rest =>
          obtain ⟨rfl, HFc⟩ := hcut
          obtain ⟨W7, rfl⟩ : ∃ W7, W7 = wc := ⟨_, rfl⟩
          clear q0 q1 q4 q9 q10 q11 g0 g1 g2 g3 g4 g5 HQ
          obtain ⟨q0, q1, q4, q9, q10, q11⟩ := HCE.out _ HFc.out
          obtain ⟨g0, g1, g2, g3, g4, g5⟩ := HG.out _ HFc.out
          have HQ := Lib.hid (HIQ.out W7 HFc.out)
          cases old with
          | true =>
            have h1 : (ki : Int) < ci ∧ kd ≠ 6 := by
              have h2 := HOLD.out
              rw [HLT.out] at h2
              simpa using h2.symm
            obtain ⟨dv, hdv⟩ : ∃ dv, c.decs.getD ki 0 = dv := ⟨_, rfl⟩
            have HI : Hid (c.idle M = some [⟨fr, 6, c.me, ki, 0, dv, 0⟩]) := by show _ = _; rw [HIDL.out, if_pos h1.1, if_neg h1.2, ← hdv]; rfl
            have hO := HDV.out
            rw [← HND.out] at hO
            have hkn : ki < c.decs.length := by rw [HND.out]; have := HCK.out; omega
            obtain ⟨gd, hgd, hcx⟩ := hO.at ki hkn
            subst hgd
            rw [hdv] at hcx
            have HCX := Lib.hid hcx
            have hnd : ki < ND := by rw [← HND.out]; exact hkn
            have HS : Hid (∀ W, Fr [] W1 W → W.cell? ⟨p, 0, none⟩ = some (.int .i64 c.me) ∧ W.cell? ⟨p, 4, none⟩ = some (.slice (some ⟨gd, 0, none⟩) ND dd) ∧ W.cell? ⟨g, 1, none⟩ = some (.int .i64 fr) ∧ W.cell? ⟨g, 2, none⟩ = some (.int .i64 ki) ∧ W.cell? ⟨gd, ki, none⟩ = some (.int .i64 dv)) := fun W hW => by
              obtain ⟨a0, a1, a4, _⟩ := HCE.out _ hW
              obtain ⟨c0, c1, c2, _⟩ := HG.out _ hW
              exact ⟨a0, a4, c1, c2, (hW.cell (lt_cell HCX.out) (by simp)).trans HCX.out⟩
            clear h1 hdv hO hcx hkn
            go_upto_region 8 with (fail)
            clear q0 q1 q4 q9 q10 q11 g0 g1 g2 g3 g4 g5
            have hS7 := HS.out _ HFc.out.drew
            go_cut [6] (fun v wc => ∃ gr, v = .slice (some ⟨gr, 0, none⟩) 1 1 ∧ Hid (wc.heap[gr]? = some (.cells (Am.cells ⟨fr, 6, c.me, ki, 0, dv, 0⟩).toArray 48 (0, 0))) ∧ Hid (Fr [] W1 wc))
            case first =>
              go_region_held3 (fun W => W.cell? ⟨p, 0, none⟩ = some (.int .i64 c.me) ∧ W.cell? ⟨p, 4, none⟩ = some (.slice (some ⟨gd, 0, none⟩) ND dd) ∧ W.cell? ⟨g, 1, none⟩ = some (.int .i64 fr) ∧ W.cell? ⟨g, 2, none⟩ = some (.int .i64 ki) ∧ W.cell? ⟨gd, ki, none⟩ = some (.int .i64 dv)) (first | (with_reducible assumption) | exact HS.out _ (by repeat (first | exact HFc.out | assumption | apply Fr.drew | apply Fr.alloc))) (fail)
              all_goals
                go_wp2
                go_meet
                refine ⟨_, rfl, heap_alloc_new _ _, ?_⟩
                show Fr [] _ _
                repeat (first | exact HFc.out | apply Fr.drew | apply Fr.alloc)
            case rest =>
              obtain ⟨gr, rfl, HGR, HFr⟩ := hcut
              go_wp2
              obtain ⟨e1, e2⟩ := HEND.out _ c ⟨a, H1.out.fr HFr.out⟩ (FrX.of0 HFr.out)
              exact hR.out _ _ ⟨c, _, _, _, rfl, HRES.out W7 _ HI.out, e1, row_oneA HGR.out, e2⟩
          | false =>
            go_upto_region 9 with (fail)
            go_cut [103] (fun v wc => v = .bool lt ∧ Hid (Fr [] W1 wc))
            case first =>
              have dlt : decide ((ki : Int) < ci) = lt := HLT.out.symm
              go_quiet (first | (go_at_call 18; exact Calls.quiet_of_same (HQ.out _)))
              go_wp2
              go_meet
              exact ⟨by first | rfl | rw [HLT.out], HFc.out.drewN _⟩
            case rest =>
              obtain ⟨rfl, HFd⟩ := hcut
              obtain ⟨W9, rfl⟩ : ∃ W9, W9 = wc := ⟨_, rfl⟩
              clear q0 q1 q4 q9 q10 q11 g0 g1 g2 g3 g4 g5 HQ
              cases lt with
              | true =>
                have HI : Hid (c.idle M = some []) := by
                  show _ = _
                  have h1 := HLT.out
                  have h2 := HOLD.out
                  rw [HIDL.out, if_pos (by simpa using h1.symm), if_pos (by simpa using h2.symm)]
                go_wp2
                obtain ⟨e1, e2⟩ := HEND.out W9 c ⟨a, H1.out.fr HFd.out⟩ (FrX.of0 HFd.out)
                exact hR.out _ _ ⟨c, [], none, 0, rfl, HRES.out W9 [] HI.out, e1, World.ownsRow_nil _ _ _ _, e2⟩
              | false =>
                exfalso
                have h1 := HLT.out
                have h2 := HIDL.out
                rw [if_neg (by simpa using h1.symm), HII.out] at h2
                cases h2
set_option maxHeartbeats 16000000 in
set_option maxRecDepth 100000 in
theorem c_handle2_4 (h : CoIn X w p c a) (hX : ∀ k, X k → k < w.heap.size) (hok : c.Ok) (hwf : c.Wf) (ho : c.out.length ≤ 1000) (hsd : c.said.length < 1000) {A : Option Addr} {dn : Nat} {known : List Int} (hkn : ∀ W, FrX X w W → (Kd.int .i64).C W A known.length known)
    (too fr ix vw vl pr t0 t1 b0 b1 b2 b3 : Int) (Ax : Option Addr) (nx cx : Nat) (hm : wf64 4 ∧ wf64 fr ∧ wf64 ix ∧ wf64 vw ∧ wf64 pr) (hI : c.idle ⟨too, 4, fr, ix, vw, vl, pr⟩ = none) :
    Calls Tryz.prog 11 #[.pointer (some ⟨p, 0, none⟩), .agg #[.int .i64 4, .int .i64 fr, .int .i64 ix, .int .i64 vw, .int .i64 vl, .int .i64 pr, .int .i64 t0, .int .i64 t1, .int .i64 b0, .int .i64 b1, .int .i64 b2, .int .i64 b3, .slice Ax nx cx], .slice A known.length dn] w fun e w' => ∃ c' l B d, e = .returned (.slice B l.length d) ∧ Co.Handles known c ⟨too, 4, fr, ix, vw, vl, pr⟩ c' l ∧ CoAt X w' p c' ∧ w'.ownsRow 0 48 14 (.slice B l.length d) l.length (flatA l) ∧ FrX X w w' := by
  obtain ⟨M, hM⟩ : ∃ M : Am, M = ⟨too, 4, fr, ix, vw, vl, pr⟩ := ⟨_, rfl⟩
  rw [← hM] at hI
  rw [← hM]
  obtain ⟨W1, hW1⟩ : ∃ W1, W1 = w.alloc (.cells #[.int .i64 4, .int .i64 fr, .int .i64 ix, .int .i64 vw, .int .i64 vl, .int .i64 pr, .int .i64 t0, .int .i64 t1, .int .i64 b0, .int .i64 b1, .int .i64 b2, .int .i64 b3, .slice Ax nx cx] 32) := ⟨_, rfl⟩
  obtain ⟨g, hg⟩ : ∃ g, g = w.heap.size := ⟨_, rfl⟩
  have hF1 : Fr [] w W1 := by rw [hW1]; exact (Fr.refl _ _).alloc _
  have hb1 : W1.heap[g]? = some (.cells #[.int .i64 4, .int .i64 fr, .int .i64 ix, .int .i64 vw, .int .i64 vl, .int .i64 pr, .int .i64 t0, .int .i64 t1, .int .i64 b0, .int .i64 b1, .int .i64 b2, .int .i64 b3, .slice Ax nx cx] 32 (0, 0)) := by rw [hW1, hg]; exact heap_alloc_new _ _
  obtain ⟨X1, hX1⟩ : ∃ X1 : Nat → Prop, X1 = fun k => X k ∨ k = g := ⟨_, rfl⟩
  have h1 := h.fr hF1
  have H1 : Hid (CoIn X1 W1 p c a) := ⟨h1.box, h1.tal, h1.st, h1.tst, h1.dec, h1.out, h1.vts, h1.prs, h1.sds, h1.nd, fun k hk hx => by
    rw [hX1] at hx
    rcases hx with hx | hx
    · exact h.nX k hk hx
    · have := h.lt k hk; omega⟩
  have HX1 : Hid (∀ k, X1 k → k < W1.heap.size) := fun k hk => by
    rw [hX1] at hk
    have h2 := (Array.getElem?_eq_some_iff.1 hb1).1
    rcases hk with hk | hk
    · exact Nat.lt_of_lt_of_le (hX k hk) hF1.size
    · omega
  have HXg : Hid (X1 g) := by show X1 g; rw [hX1]; exact .inr rfl
  have HEND : Hid (∀ W d, CoAt X1 W p d → FrX X1 W1 W → CoAt X W p d ∧ FrX X w W) := fun W d hd hf => by
    obtain ⟨b, hd⟩ := hd
    refine ⟨⟨b, hd.x (fun k _ hk => by rw [hX1]; exact .inl hk)⟩, (FrX.of0 hF1).trans (hf.weak (fun k hk => by rw [hX1]; exact .inl hk))⟩
  have HKN : Hid (∀ W, FrX X1 W1 W → (Kd.int .i64).C W A known.length known) := fun W hW => hkn W ((FrX.of0 hF1).trans (hW.weak (fun k hk => by rw [hX1]; exact .inl hk)))
  have HB : Hid (∀ W, FrX X1 W1 W → W.heap[g]? = some (.cells #[.int .i64 4, .int .i64 fr, .int .i64 ix, .int .i64 vw, .int .i64 vl, .int .i64 pr, .int .i64 t0, .int .i64 t1, .int .i64 b0, .int .i64 b1, .int .i64 b2, .int .i64 b3, .slice Ax nx cx] 32 (0, 0))) := fun W hW => (hW.block (Array.getElem?_eq_some_iff.1 hb1).1 HXg.out).trans hb1
  have HG : Hid (∀ W, Fr [] W1 W → W.cell? ⟨g, 0, none⟩ = some (.int .i64 4) ∧ W.cell? ⟨g, 1, none⟩ = some (.int .i64 fr) ∧ W.cell? ⟨g, 2, none⟩ = some (.int .i64 ix) ∧ W.cell? ⟨g, 3, none⟩ = some (.int .i64 vw) ∧ W.cell? ⟨g, 4, none⟩ = some (.int .i64 vl) ∧ W.cell? ⟨g, 5, none⟩ = some (.int .i64 pr)) := fun W hW => by
    have h2 := HB.out W (FrX.of0 hW)
    exact ⟨cell_of h2 0, cell_of h2 1, cell_of h2 2, cell_of h2 3, cell_of h2 4, cell_of h2 5⟩
  obtain ⟨ci, hci⟩ : ∃ ci, c.idx = ci := ⟨_, rfl⟩
  obtain ⟨NS, hNS⟩ : ∃ NS, c.st.length = NS := ⟨_, rfl⟩
  obtain ⟨As, ds, hsv, _⟩ := h.sv
  obtain ⟨Ad, dd, hdv, _⟩ := h.dv
  obtain ⟨ND, hND⟩ : ∃ ND, c.decs.length = ND := ⟨_, rfl⟩
  have HCE : Hid (∀ W, Fr [] W1 W → W.cell? ⟨p, 0, none⟩ = some (.int .i64 c.me) ∧ W.cell? ⟨p, 1, none⟩ = some (.slice As NS ds) ∧ W.cell? ⟨p, 4, none⟩ = some (.slice Ad ND dd) ∧ W.cell? ⟨p, 9, none⟩ = some (.pointer (some ⟨a.pt, 0, none⟩)) ∧ W.cell? ⟨p, 10, none⟩ = some (.map (some a.bp)) ∧ W.cell? ⟨p, 11, none⟩ = some (.map (some a.bs))) := fun W hW => by
    have h2 := H1.out.fr hW
    refine ⟨h2.cells 0, ?_, ?_, h2.cells 9, h2.cells 10, h2.cells 11⟩
    · rw [← hNS, h2.cells 1, ← hsv]; rfl
    · rw [← hND, h2.cells 4, ← hdv]; rfl
  have HIQ : Hid (∀ W, Fr [] W1 W → ∀ n, Calls Tryz.prog 18 #[.pointer (some ⟨p, 0, none⟩)] (W.drewN n) fun e w'' => e = .returned (.int .i64 ci) ∧ w'' = W.drewN n) := fun W hW n => by
    have := c_index (H1.out.fr (hW.drewN n)); rw [hci] at this; exact this
  obtain ⟨bad, hbad⟩ : ∃ bad : Bool, bad = (decide ((4 : Int) < 3) || decide (fr < 0) || decide ((NS : Int) ≤ fr) || decide (ci < ix) || decide (ix < 0)) := ⟨_, rfl⟩
  have HBAD := Lib.hid hbad
  have HIDL : Hid (c.idle M = if bad = true then some [] else if ix < ci then (if (4 : Int) = 6 then some [] else some [⟨fr, 6, c.me, ix, 0, c.decs.getD ix.toNat 0, 0⟩]) else none) := by
    show _ = _
    unfold Co.idle
    rw [hM, hci, hNS, HBAD.out]
    have hb : (decide ((4 : Int) < 3) || decide (fr < 0) || decide ((NS : Int) ≤ fr) || decide (ci < ix) || decide (ix < 0)) = true ↔ ((4 : Int) < 3 ∨ fr < 0 ∨ (NS : Int) ≤ fr ∨ ci < ix ∨ ix < 0) := by
      simp only [Bool.or_eq_true, decide_eq_true_eq, or_assoc]
    by_cases k1 : (4 : Int) < 3 ∨ fr < 0 ∨ (NS : Int) ≤ fr ∨ ci < ix ∨ ix < 0
    · rw [if_pos k1, if_pos (hb.2 k1)]
    · rw [if_neg k1, if_neg (fun h => k1 (hb.1 h))]
  have HCK : Hid (ci = (ND : Int)) := by show _ = _; rw [← hci, ← hND]; rfl
  have HOK := Lib.hid hok
  have HML : Hid (c.m.length < 999999) := Nat.lt_of_le_of_lt (hok.votes.len hok.st.2.1) (by omega)
  have HTK : Hid ((c.take M).Ok ∧ (c.take M).Wf ∧ (c.take M).out.length ≤ 1000000) := ⟨hok.take M, hwf.take M (by rw [hM]; exact hm.2.2.2.2) hsd, by rw [(Co.take_same c M).1]; omega⟩
  have HWM := Lib.hid hm
  have HDV : Hid (OwnI 0 W1 (.slice Ad ND dd) c.decs) := by
    have h2 := H1.out.dec
    rw [hdv, hND] at h2
    exact h2
  have HND := Lib.hid hND
  have HM := Lib.hid hM
  have HNS7 : Hid (c.st.length ≤ 7) := hok.st.2.1
  have HRES : Hid (∀ (W : World) (l : List Am), c.idle M = some l → Co.Handles known c M c l) := fun W l hl => by unfold Co.Handles; rw [hl]; exact ⟨rfl, rfl⟩
  have HRES2 : Hid (∀ d : Co, c.idle M = none → Co.Settles known (c.take M) d → Co.Handles known c M d.flush d.out) := fun d hl hd => by unfold Co.Handles; rw [hl]; exact ⟨d, hd, rfl, rfl⟩
  obtain ⟨nk, hnk⟩ : ∃ n, known.length = n := ⟨_, rfl⟩
  rw [hnk]
  have HNK := Lib.hid hnk
  have HI := Lib.hid hI
  refine calls_k fun R hR => ?_
  clear hI
  clear h h1 hX hok hwf ho hsd hkn hF1 hb1 hX1 hci hNS hsv hdv hND hbad hm hM hnk
  go_enter Tryz.func11, Tryz.ntmps11
  go_upto_region 1 with (fail)
  rw [← hW1, ← hg]
  clear hW1 hg
  obtain ⟨g0, g1, g2, g3, g4, g5⟩ := HG.out W1 (Fr.refl _ _)
  have hb := HBAD.out
  have hbf : bad = false := by
    cases bad with
    | false => rfl
    | true => have h2 := HIDL.out; rw [if_pos rfl, HI.out] at h2; cases h2
  have h2 := HIDL.out
  rw [hbf, if_neg (by simp), HI.out] at h2
  have hlt : ¬ ix < ci := fun e => by rw [if_pos e] at h2; split at h2 <;> cases h2
  rw [hbf] at hb
  have hbn : ¬ (4 : Int) < 3 ∧ ¬ fr < 0 ∧ ¬ (NS : Int) ≤ fr ∧ ¬ ci < ix ∧ ¬ ix < 0 := by
    simp only [Bool.false_eq, Bool.or_eq_false_iff, decide_eq_false_iff_not] at hb
    exact ⟨hb.1.1.1.1, hb.1.1.1.2, hb.1.1.2, hb.1.2, hb.2⟩
  have d0 : decide ((4 : Int) < 3) = false := decide_eq_false hbn.1
  have d1 : decide (fr < 0) = false := decide_eq_false hbn.2.1
  have d2 : decide ((NS : Int) ≤ fr) = false := decide_eq_false hbn.2.2.1
  have d3 : decide (ci < ix) = false := decide_eq_false hbn.2.2.2.1
  have d4 : decide (ix < 0) = false := decide_eq_false hbn.2.2.2.2
  have d5 : decide (ix < ci) = false := decide_eq_false hlt
  have HK45 : Hid ((4 : Int) = 4 ∨ (4 : Int) = 5) := by show _ ∨ _; decide
  clear hb hbf h2 hlt hbn HIDL HRES HBAD
  have HSE : Hid (∀ W, CoIn X1 W p (c.take M) a → FrX X1 W1 W → Calls Tryz.prog 33 #[.pointer (some ⟨p, 0, none⟩), .slice A nk dn] W fun e w' => e = .returned (.tuple #[]) ∧ ∃ d, Co.Settles known (c.take M) d ∧ CoAt X1 w' p d ∧ FrX X1 W w') := fun W hW hf => by
    have := c_settle hW (fun k hk => Nat.lt_of_lt_of_le (HX1.out k hk) hf.size) HTK.out.1 HTK.out.2.1 HTK.out.2.2 (A := A) (dn := dn) (known := known) (fun W' hW' => HKN.out W' (hf.trans hW'))
    rw [HNK.out] at this
    exact this
  obtain ⟨q0, q1, q4, q9, q10, q11⟩ := HCE.out _ (Fr.refl _ _)
  have HQ1 := Lib.hid (HIQ.out W1 (Fr.refl _ _))
  go_upto_region 5 with (fail)
  go_quiet (first | (go_at_call 18; exact Calls.quiet_of_same (HQ1.out _)))
  obtain ⟨W5, hW5⟩ : ∃ W5, W5 = W1.drewN nq := ⟨_, rfl⟩
  have HFb : Hid (Fr [] W1 W5) := by show Fr _ _ _; rw [hW5]; exact (Fr.refl _ _).drewN _
  go_upto_region 7 with (fail)
  rw [← hW5]
  clear hW5 HQ1 q0 q1 q4 q9 q10 q11 g0 g1 g2 g3 g4 g5
  obtain ⟨q0, q1, q4, q9, q10, q11⟩ := HCE.out _ HFb.out
  obtain ⟨g0, g1, g2, g3, g4, g5⟩ := HG.out _ HFb.out
  have HQ2 := Lib.hid (HIQ.out W5 HFb.out)
  go_quiet (first | (go_at_call 18; exact Calls.quiet_of_same (HQ2.out _)))
  obtain ⟨W7, hW7⟩ : ∃ W7, W7 = W5.drewN nq := ⟨_, rfl⟩
  have HFc : Hid (Fr [] W1 W7) := by show Fr _ _ _; rw [hW7]; exact HFb.out.drewN _
  go_upto_region 9 with (fail)
  rw [← hW7]
  clear hW7 HQ2 q0 q1 q4 q9 q10 q11 g0 g1 g2 g3 g4 g5
  obtain ⟨q0, q1, q4, q9, q10, q11⟩ := HCE.out _ HFc.out
  obtain ⟨g0, g1, g2, g3, g4, g5⟩ := HG.out _ HFc.out
  have HQ3 := Lib.hid (HIQ.out W7 HFc.out)
  go_quiet (first | (go_at_call 18; exact Calls.quiet_of_same (HQ3.out _)))
  obtain ⟨W9, hW9⟩ : ∃ W9, W9 = W7.drewN nq := ⟨_, rfl⟩
  have HFd : Hid (Fr [] W1 W9) := by show Fr _ _ _; rw [hW9]; exact HFc.out.drewN _
  go_upto_region 11 with (fail)
  rw [← hW9]
  clear hW9 HQ3 q0 q1 q4 q9 q10 q11 g0 g1 g2 g3 g4 g5
  have hk45 : (4 : Int) = 4 ∨ (4 : Int) = 5 := HK45.out
  have HTKE : Hid (c.take M = { c with m := stepR c.st.length c.m ⟨4, vw, fr, vl⟩ }) := by show _ = _; rw [HM.out]; unfold Co.take; rw [if_pos hk45]; rfl
  have HFe : Hid (Fr [] W1 W9.drew) := HFd.out.drew
  obtain ⟨ab, hab⟩ : ∃ ab, addR c.st.length c.m ⟨4, vw, fr, vl⟩ = ab := ⟨_, rfl⟩
  have HAD : Hid (Calls Tryz.prog 36 #[.pointer (some ⟨a.pt, 0, none⟩), .int .i64 4, .int .i64 vw, .int .i64 fr, .int .i64 vl] W9.drew fun e w' => e = .returned (.bool ab) ∧ CoIn X1 w' p (c.take M) a ∧ FrX X1 W9.drew w') := by
    have := add_fresh (H1.out.fr HFe.out) HOK.out HML.out 4 vw fr vl ⟨HWM.out.1, HWM.out.2.2.2.1, HWM.out.2.1⟩
    rw [hab] at this
    rw [HTKE.out]
    exact this
  clear hk45 hab
  have hS9 : W9.drew.cell? ⟨p, 9, none⟩ = some (.pointer (some ⟨a.pt, 0, none⟩)) ∧ W9.drew.cell? ⟨g, 0, none⟩ = some (.int .i64 4) ∧ W9.drew.cell? ⟨g, 1, none⟩ = some (.int .i64 fr) ∧ W9.drew.cell? ⟨g, 3, none⟩ = some (.int .i64 vw) ∧ W9.drew.cell? ⟨g, 4, none⟩ = some (.int .i64 vl) := ⟨(HCE.out _ HFe.out).2.2.2.1, (HG.out _ HFe.out).1, (HG.out _ HFe.out).2.1, (HG.out _ HFe.out).2.2.2.1, (HG.out _ HFe.out).2.2.2.2.1⟩
  go_upto_region 12 with (fail)
  go_region_held3 (fun W => W.cell? ⟨p, 9, none⟩ = some (.pointer (some ⟨a.pt, 0, none⟩)) ∧ W.cell? ⟨g, 0, none⟩ = some (.int .i64 4) ∧ W.cell? ⟨g, 1, none⟩ = some (.int .i64 fr) ∧ W.cell? ⟨g, 3, none⟩ = some (.int .i64 vw) ∧ W.cell? ⟨g, 4, none⟩ = some (.int .i64 vl)) (with_reducible assumption)
    (first
      | (go_at_call 36; refine HAD.out.mono ?_; rintro e w2 ⟨rfl, h2, hf2⟩
         have HF2 := Lib.hid ((FrX.of0 HFe.out).trans hf2)
         have hbg := HB.out w2 HF2.out
         have hS2 : w2.cell? ⟨p, 9, none⟩ = some (.pointer (some ⟨a.pt, 0, none⟩)) ∧ w2.cell? ⟨g, 0, none⟩ = some (.int .i64 4) ∧ w2.cell? ⟨g, 1, none⟩ = some (.int .i64 fr) ∧ w2.cell? ⟨g, 3, none⟩ = some (.int .i64 vw) ∧ w2.cell? ⟨g, 4, none⟩ = some (.int .i64 vl) := ⟨h2.cells 9, cell_of hbg 0, cell_of hbg 1, cell_of hbg 3, cell_of hbg 4⟩
         have H2 := Lib.hid h2
         clear h2 hf2 hbg HAD))
  all_goals
    go_upto_region 17 with (fail)
    have HIN : Hid (CoIn X1 w2 p (c.take M) a) := H2.out
    have HFX : Hid (FrX X1 W1 w2) := HF2.out
    have HSW := Lib.hid (HSE.out _ HIN.out HFX.out)
    go_wp2_with (first
      | (go_at_call 33; refine HSW.out.mono ?_; rintro e w5 ⟨rfl, d, hd, ⟨b5, h5⟩, hf5⟩; have HD := Lib.hid hd; have HF5 := Lib.hid (HFX.out.trans hf5); have hfl := c_flush2 h5; obtain ⟨no, hno⟩ : ∃ n, d.out.length = n := ⟨_, rfl⟩; rw [hno] at hfl; have HNO := Lib.hid hno; have HFL := Lib.hid hfl; clear h5 hf5 hd hfl hno HSW)
      | (go_at_call 35; refine HFL.out.mono ?_; rintro e w6 ⟨Bq, d6, rfl, h6, hr6, hf6⟩; have H6 := Lib.hid h6; have HR6 := Lib.hid hr6; have HF6 := Lib.hid (HF5.out.trans hf6); clear h6 hr6 hf6 HFL))
    obtain ⟨z1, z2⟩ := HEND.out _ _ H6.out HF6.out
    have hr6 := HR6.out
    rw [← HNO.out] at hr6
    exact hR.out _ _ ⟨d.flush, d.out, Bq, d6, by rw [HNO.out]; rfl, HRES2.out d HI.out HD.out, z1, hr6, z2⟩
set_option maxHeartbeats 16000000 in
set_option maxRecDepth 100000 in
theorem c_handle2_5 (h : CoIn X w p c a) (hX : ∀ k, X k → k < w.heap.size) (hok : c.Ok) (hwf : c.Wf) (ho : c.out.length ≤ 1000) (hsd : c.said.length < 1000) {A : Option Addr} {dn : Nat} {known : List Int} (hkn : ∀ W, FrX X w W → (Kd.int .i64).C W A known.length known)
    (too fr ix vw vl pr t0 t1 b0 b1 b2 b3 : Int) (Ax : Option Addr) (nx cx : Nat) (hm : wf64 5 ∧ wf64 fr ∧ wf64 ix ∧ wf64 vw ∧ wf64 pr) (hI : c.idle ⟨too, 5, fr, ix, vw, vl, pr⟩ = none) :
    Calls Tryz.prog 11 #[.pointer (some ⟨p, 0, none⟩), .agg #[.int .i64 5, .int .i64 fr, .int .i64 ix, .int .i64 vw, .int .i64 vl, .int .i64 pr, .int .i64 t0, .int .i64 t1, .int .i64 b0, .int .i64 b1, .int .i64 b2, .int .i64 b3, .slice Ax nx cx], .slice A known.length dn] w fun e w' => ∃ c' l B d, e = .returned (.slice B l.length d) ∧ Co.Handles known c ⟨too, 5, fr, ix, vw, vl, pr⟩ c' l ∧ CoAt X w' p c' ∧ w'.ownsRow 0 48 14 (.slice B l.length d) l.length (flatA l) ∧ FrX X w w' := by
  obtain ⟨M, hM⟩ : ∃ M : Am, M = ⟨too, 5, fr, ix, vw, vl, pr⟩ := ⟨_, rfl⟩
  rw [← hM] at hI
  rw [← hM]
  obtain ⟨W1, hW1⟩ : ∃ W1, W1 = w.alloc (.cells #[.int .i64 5, .int .i64 fr, .int .i64 ix, .int .i64 vw, .int .i64 vl, .int .i64 pr, .int .i64 t0, .int .i64 t1, .int .i64 b0, .int .i64 b1, .int .i64 b2, .int .i64 b3, .slice Ax nx cx] 32) := ⟨_, rfl⟩
  obtain ⟨g, hg⟩ : ∃ g, g = w.heap.size := ⟨_, rfl⟩
  have hF1 : Fr [] w W1 := by rw [hW1]; exact (Fr.refl _ _).alloc _
  have hb1 : W1.heap[g]? = some (.cells #[.int .i64 5, .int .i64 fr, .int .i64 ix, .int .i64 vw, .int .i64 vl, .int .i64 pr, .int .i64 t0, .int .i64 t1, .int .i64 b0, .int .i64 b1, .int .i64 b2, .int .i64 b3, .slice Ax nx cx] 32 (0, 0)) := by rw [hW1, hg]; exact heap_alloc_new _ _
  obtain ⟨X1, hX1⟩ : ∃ X1 : Nat → Prop, X1 = fun k => X k ∨ k = g := ⟨_, rfl⟩
  have h1 := h.fr hF1
  have H1 : Hid (CoIn X1 W1 p c a) := ⟨h1.box, h1.tal, h1.st, h1.tst, h1.dec, h1.out, h1.vts, h1.prs, h1.sds, h1.nd, fun k hk hx => by
    rw [hX1] at hx
    rcases hx with hx | hx
    · exact h.nX k hk hx
    · have := h.lt k hk; omega⟩
  have HX1 : Hid (∀ k, X1 k → k < W1.heap.size) := fun k hk => by
    rw [hX1] at hk
    have h2 := (Array.getElem?_eq_some_iff.1 hb1).1
    rcases hk with hk | hk
    · exact Nat.lt_of_lt_of_le (hX k hk) hF1.size
    · omega
  have HXg : Hid (X1 g) := by show X1 g; rw [hX1]; exact .inr rfl
  have HEND : Hid (∀ W d, CoAt X1 W p d → FrX X1 W1 W → CoAt X W p d ∧ FrX X w W) := fun W d hd hf => by
    obtain ⟨b, hd⟩ := hd
    refine ⟨⟨b, hd.x (fun k _ hk => by rw [hX1]; exact .inl hk)⟩, (FrX.of0 hF1).trans (hf.weak (fun k hk => by rw [hX1]; exact .inl hk))⟩
  have HKN : Hid (∀ W, FrX X1 W1 W → (Kd.int .i64).C W A known.length known) := fun W hW => hkn W ((FrX.of0 hF1).trans (hW.weak (fun k hk => by rw [hX1]; exact .inl hk)))
  have HB : Hid (∀ W, FrX X1 W1 W → W.heap[g]? = some (.cells #[.int .i64 5, .int .i64 fr, .int .i64 ix, .int .i64 vw, .int .i64 vl, .int .i64 pr, .int .i64 t0, .int .i64 t1, .int .i64 b0, .int .i64 b1, .int .i64 b2, .int .i64 b3, .slice Ax nx cx] 32 (0, 0))) := fun W hW => (hW.block (Array.getElem?_eq_some_iff.1 hb1).1 HXg.out).trans hb1
  have HG : Hid (∀ W, Fr [] W1 W → W.cell? ⟨g, 0, none⟩ = some (.int .i64 5) ∧ W.cell? ⟨g, 1, none⟩ = some (.int .i64 fr) ∧ W.cell? ⟨g, 2, none⟩ = some (.int .i64 ix) ∧ W.cell? ⟨g, 3, none⟩ = some (.int .i64 vw) ∧ W.cell? ⟨g, 4, none⟩ = some (.int .i64 vl) ∧ W.cell? ⟨g, 5, none⟩ = some (.int .i64 pr)) := fun W hW => by
    have h2 := HB.out W (FrX.of0 hW)
    exact ⟨cell_of h2 0, cell_of h2 1, cell_of h2 2, cell_of h2 3, cell_of h2 4, cell_of h2 5⟩
  obtain ⟨ci, hci⟩ : ∃ ci, c.idx = ci := ⟨_, rfl⟩
  obtain ⟨NS, hNS⟩ : ∃ NS, c.st.length = NS := ⟨_, rfl⟩
  obtain ⟨As, ds, hsv, _⟩ := h.sv
  obtain ⟨Ad, dd, hdv, _⟩ := h.dv
  obtain ⟨ND, hND⟩ : ∃ ND, c.decs.length = ND := ⟨_, rfl⟩
  have HCE : Hid (∀ W, Fr [] W1 W → W.cell? ⟨p, 0, none⟩ = some (.int .i64 c.me) ∧ W.cell? ⟨p, 1, none⟩ = some (.slice As NS ds) ∧ W.cell? ⟨p, 4, none⟩ = some (.slice Ad ND dd) ∧ W.cell? ⟨p, 9, none⟩ = some (.pointer (some ⟨a.pt, 0, none⟩)) ∧ W.cell? ⟨p, 10, none⟩ = some (.map (some a.bp)) ∧ W.cell? ⟨p, 11, none⟩ = some (.map (some a.bs))) := fun W hW => by
    have h2 := H1.out.fr hW
    refine ⟨h2.cells 0, ?_, ?_, h2.cells 9, h2.cells 10, h2.cells 11⟩
    · rw [← hNS, h2.cells 1, ← hsv]; rfl
    · rw [← hND, h2.cells 4, ← hdv]; rfl
  have HIQ : Hid (∀ W, Fr [] W1 W → ∀ n, Calls Tryz.prog 18 #[.pointer (some ⟨p, 0, none⟩)] (W.drewN n) fun e w'' => e = .returned (.int .i64 ci) ∧ w'' = W.drewN n) := fun W hW n => by
    have := c_index (H1.out.fr (hW.drewN n)); rw [hci] at this; exact this
  obtain ⟨bad, hbad⟩ : ∃ bad : Bool, bad = (decide ((5 : Int) < 3) || decide (fr < 0) || decide ((NS : Int) ≤ fr) || decide (ci < ix) || decide (ix < 0)) := ⟨_, rfl⟩
  have HBAD := Lib.hid hbad
  have HIDL : Hid (c.idle M = if bad = true then some [] else if ix < ci then (if (5 : Int) = 6 then some [] else some [⟨fr, 6, c.me, ix, 0, c.decs.getD ix.toNat 0, 0⟩]) else none) := by
    show _ = _
    unfold Co.idle
    rw [hM, hci, hNS, HBAD.out]
    have hb : (decide ((5 : Int) < 3) || decide (fr < 0) || decide ((NS : Int) ≤ fr) || decide (ci < ix) || decide (ix < 0)) = true ↔ ((5 : Int) < 3 ∨ fr < 0 ∨ (NS : Int) ≤ fr ∨ ci < ix ∨ ix < 0) := by
      simp only [Bool.or_eq_true, decide_eq_true_eq, or_assoc]
    by_cases k1 : (5 : Int) < 3 ∨ fr < 0 ∨ (NS : Int) ≤ fr ∨ ci < ix ∨ ix < 0
    · rw [if_pos k1, if_pos (hb.2 k1)]
    · rw [if_neg k1, if_neg (fun h => k1 (hb.1 h))]
  have HCK : Hid (ci = (ND : Int)) := by show _ = _; rw [← hci, ← hND]; rfl
  have HOK := Lib.hid hok
  have HML : Hid (c.m.length < 999999) := Nat.lt_of_le_of_lt (hok.votes.len hok.st.2.1) (by omega)
  have HTK : Hid ((c.take M).Ok ∧ (c.take M).Wf ∧ (c.take M).out.length ≤ 1000000) := ⟨hok.take M, hwf.take M (by rw [hM]; exact hm.2.2.2.2) hsd, by rw [(Co.take_same c M).1]; omega⟩
  have HWM := Lib.hid hm
  have HDV : Hid (OwnI 0 W1 (.slice Ad ND dd) c.decs) := by
    have h2 := H1.out.dec
    rw [hdv, hND] at h2
    exact h2
  have HND := Lib.hid hND
  have HM := Lib.hid hM
  have HNS7 : Hid (c.st.length ≤ 7) := hok.st.2.1
  have HRES : Hid (∀ (W : World) (l : List Am), c.idle M = some l → Co.Handles known c M c l) := fun W l hl => by unfold Co.Handles; rw [hl]; exact ⟨rfl, rfl⟩
  have HRES2 : Hid (∀ d : Co, c.idle M = none → Co.Settles known (c.take M) d → Co.Handles known c M d.flush d.out) := fun d hl hd => by unfold Co.Handles; rw [hl]; exact ⟨d, hd, rfl, rfl⟩
  obtain ⟨nk, hnk⟩ : ∃ n, known.length = n := ⟨_, rfl⟩
  rw [hnk]
  have HNK := Lib.hid hnk
  have HI := Lib.hid hI
  refine calls_k fun R hR => ?_
  clear hI
  clear h h1 hX hok hwf ho hsd hkn hF1 hb1 hX1 hci hNS hsv hdv hND hbad hm hM hnk
  go_enter Tryz.func11, Tryz.ntmps11
  go_upto_region 1 with (fail)
  rw [← hW1, ← hg]
  clear hW1 hg
  obtain ⟨g0, g1, g2, g3, g4, g5⟩ := HG.out W1 (Fr.refl _ _)
  have hb := HBAD.out
  have hbf : bad = false := by
    cases bad with
    | false => rfl
    | true => have h2 := HIDL.out; rw [if_pos rfl, HI.out] at h2; cases h2
  have h2 := HIDL.out
  rw [hbf, if_neg (by simp), HI.out] at h2
  have hlt : ¬ ix < ci := fun e => by rw [if_pos e] at h2; split at h2 <;> cases h2
  rw [hbf] at hb
  have hbn : ¬ (5 : Int) < 3 ∧ ¬ fr < 0 ∧ ¬ (NS : Int) ≤ fr ∧ ¬ ci < ix ∧ ¬ ix < 0 := by
    simp only [Bool.false_eq, Bool.or_eq_false_iff, decide_eq_false_iff_not] at hb
    exact ⟨hb.1.1.1.1, hb.1.1.1.2, hb.1.1.2, hb.1.2, hb.2⟩
  have d0 : decide ((5 : Int) < 3) = false := decide_eq_false hbn.1
  have d1 : decide (fr < 0) = false := decide_eq_false hbn.2.1
  have d2 : decide ((NS : Int) ≤ fr) = false := decide_eq_false hbn.2.2.1
  have d3 : decide (ci < ix) = false := decide_eq_false hbn.2.2.2.1
  have d4 : decide (ix < 0) = false := decide_eq_false hbn.2.2.2.2
  have d5 : decide (ix < ci) = false := decide_eq_false hlt
  have HK45 : Hid ((5 : Int) = 4 ∨ (5 : Int) = 5) := by show _ ∨ _; decide
  clear hb hbf h2 hlt hbn HIDL HRES HBAD
  have HSE : Hid (∀ W, CoIn X1 W p (c.take M) a → FrX X1 W1 W → Calls Tryz.prog 33 #[.pointer (some ⟨p, 0, none⟩), .slice A nk dn] W fun e w' => e = .returned (.tuple #[]) ∧ ∃ d, Co.Settles known (c.take M) d ∧ CoAt X1 w' p d ∧ FrX X1 W w') := fun W hW hf => by
    have := c_settle hW (fun k hk => Nat.lt_of_lt_of_le (HX1.out k hk) hf.size) HTK.out.1 HTK.out.2.1 HTK.out.2.2 (A := A) (dn := dn) (known := known) (fun W' hW' => HKN.out W' (hf.trans hW'))
    rw [HNK.out] at this
    exact this
  obtain ⟨q0, q1, q4, q9, q10, q11⟩ := HCE.out _ (Fr.refl _ _)
  have HQ1 := Lib.hid (HIQ.out W1 (Fr.refl _ _))
  go_upto_region 5 with (fail)
  go_quiet (first | (go_at_call 18; exact Calls.quiet_of_same (HQ1.out _)))
  obtain ⟨W5, hW5⟩ : ∃ W5, W5 = W1.drewN nq := ⟨_, rfl⟩
  have HFb : Hid (Fr [] W1 W5) := by show Fr _ _ _; rw [hW5]; exact (Fr.refl _ _).drewN _
  go_upto_region 7 with (fail)
  rw [← hW5]
  clear hW5 HQ1 q0 q1 q4 q9 q10 q11 g0 g1 g2 g3 g4 g5
  obtain ⟨q0, q1, q4, q9, q10, q11⟩ := HCE.out _ HFb.out
  obtain ⟨g0, g1, g2, g3, g4, g5⟩ := HG.out _ HFb.out
  have HQ2 := Lib.hid (HIQ.out W5 HFb.out)
  go_quiet (first | (go_at_call 18; exact Calls.quiet_of_same (HQ2.out _)))
  obtain ⟨W7, hW7⟩ : ∃ W7, W7 = W5.drewN nq := ⟨_, rfl⟩
  have HFc : Hid (Fr [] W1 W7) := by show Fr _ _ _; rw [hW7]; exact HFb.out.drewN _
  go_upto_region 9 with (fail)
  rw [← hW7]
  clear hW7 HQ2 q0 q1 q4 q9 q10 q11 g0 g1 g2 g3 g4 g5
  obtain ⟨q0, q1, q4, q9, q10, q11⟩ := HCE.out _ HFc.out
  obtain ⟨g0, g1, g2, g3, g4, g5⟩ := HG.out _ HFc.out
  have HQ3 := Lib.hid (HIQ.out W7 HFc.out)
  go_quiet (first | (go_at_call 18; exact Calls.quiet_of_same (HQ3.out _)))
  obtain ⟨W9, hW9⟩ : ∃ W9, W9 = W7.drewN nq := ⟨_, rfl⟩
  have HFd : Hid (Fr [] W1 W9) := by show Fr _ _ _; rw [hW9]; exact HFc.out.drewN _
  go_upto_region 11 with (fail)
  rw [← hW9]
  clear hW9 HQ3 q0 q1 q4 q9 q10 q11 g0 g1 g2 g3 g4 g5
  have hk45 : (5 : Int) = 4 ∨ (5 : Int) = 5 := HK45.out
  have HTKE : Hid (c.take M = { c with m := stepR c.st.length c.m ⟨5, vw, fr, vl⟩ }) := by show _ = _; rw [HM.out]; unfold Co.take; rw [if_pos hk45]; rfl
  have HFe : Hid (Fr [] W1 W9.drew) := HFd.out.drew
  obtain ⟨ab, hab⟩ : ∃ ab, addR c.st.length c.m ⟨5, vw, fr, vl⟩ = ab := ⟨_, rfl⟩
  have HAD : Hid (Calls Tryz.prog 36 #[.pointer (some ⟨a.pt, 0, none⟩), .int .i64 5, .int .i64 vw, .int .i64 fr, .int .i64 vl] W9.drew fun e w' => e = .returned (.bool ab) ∧ CoIn X1 w' p (c.take M) a ∧ FrX X1 W9.drew w') := by
    have := add_fresh (H1.out.fr HFe.out) HOK.out HML.out 5 vw fr vl ⟨HWM.out.1, HWM.out.2.2.2.1, HWM.out.2.1⟩
    rw [hab] at this
    rw [HTKE.out]
    exact this
  clear hk45 hab
  have hS9 : W9.drew.cell? ⟨p, 9, none⟩ = some (.pointer (some ⟨a.pt, 0, none⟩)) ∧ W9.drew.cell? ⟨g, 0, none⟩ = some (.int .i64 5) ∧ W9.drew.cell? ⟨g, 1, none⟩ = some (.int .i64 fr) ∧ W9.drew.cell? ⟨g, 3, none⟩ = some (.int .i64 vw) ∧ W9.drew.cell? ⟨g, 4, none⟩ = some (.int .i64 vl) := ⟨(HCE.out _ HFe.out).2.2.2.1, (HG.out _ HFe.out).1, (HG.out _ HFe.out).2.1, (HG.out _ HFe.out).2.2.2.1, (HG.out _ HFe.out).2.2.2.2.1⟩
  go_upto_region 12 with (fail)
  go_region_held3 (fun W => W.cell? ⟨p, 9, none⟩ = some (.pointer (some ⟨a.pt, 0, none⟩)) ∧ W.cell? ⟨g, 0, none⟩ = some (.int .i64 5) ∧ W.cell? ⟨g, 1, none⟩ = some (.int .i64 fr) ∧ W.cell? ⟨g, 3, none⟩ = some (.int .i64 vw) ∧ W.cell? ⟨g, 4, none⟩ = some (.int .i64 vl)) (with_reducible assumption)
    (first
      | (go_at_call 36; refine HAD.out.mono ?_; rintro e w2 ⟨rfl, h2, hf2⟩
         have HF2 := Lib.hid ((FrX.of0 HFe.out).trans hf2)
         have hbg := HB.out w2 HF2.out
         have hS2 : w2.cell? ⟨p, 9, none⟩ = some (.pointer (some ⟨a.pt, 0, none⟩)) ∧ w2.cell? ⟨g, 0, none⟩ = some (.int .i64 5) ∧ w2.cell? ⟨g, 1, none⟩ = some (.int .i64 fr) ∧ w2.cell? ⟨g, 3, none⟩ = some (.int .i64 vw) ∧ w2.cell? ⟨g, 4, none⟩ = some (.int .i64 vl) := ⟨h2.cells 9, cell_of hbg 0, cell_of hbg 1, cell_of hbg 3, cell_of hbg 4⟩
         have H2 := Lib.hid h2
         clear h2 hf2 hbg HAD))
  all_goals
    go_upto_region 17 with (fail)
    have HIN : Hid (CoIn X1 w2 p (c.take M) a) := H2.out
    have HFX : Hid (FrX X1 W1 w2) := HF2.out
    have HSW := Lib.hid (HSE.out _ HIN.out HFX.out)
    go_wp2_with (first
      | (go_at_call 33; refine HSW.out.mono ?_; rintro e w5 ⟨rfl, d, hd, ⟨b5, h5⟩, hf5⟩; have HD := Lib.hid hd; have HF5 := Lib.hid (HFX.out.trans hf5); have hfl := c_flush2 h5; obtain ⟨no, hno⟩ : ∃ n, d.out.length = n := ⟨_, rfl⟩; rw [hno] at hfl; have HNO := Lib.hid hno; have HFL := Lib.hid hfl; clear h5 hf5 hd hfl hno HSW)
      | (go_at_call 35; refine HFL.out.mono ?_; rintro e w6 ⟨Bq, d6, rfl, h6, hr6, hf6⟩; have H6 := Lib.hid h6; have HR6 := Lib.hid hr6; have HF6 := Lib.hid (HF5.out.trans hf6); clear h6 hr6 hf6 HFL))
    obtain ⟨z1, z2⟩ := HEND.out _ _ H6.out HF6.out
    have hr6 := HR6.out
    rw [← HNO.out] at hr6
    exact hR.out _ _ ⟨d.flush, d.out, Bq, d6, by rw [HNO.out]; rfl, HRES2.out d HI.out HD.out, z1, hr6, z2⟩
set_option maxHeartbeats 16000000 in
set_option maxRecDepth 100000 in
theorem c_handle3 (h : CoIn X w p c a) (hX : ∀ k, X k → k < w.heap.size) (hok : c.Ok) (hwf : c.Wf) (ho : c.out.length ≤ 1000) (hsd : c.said.length < 1000) {A : Option Addr} {dn : Nat} {known : List Int} (hkn : ∀ W, FrX X w W → (Kd.int .i64).C W A known.length known)
    (too fr ix vw vl pr t0 t1 b0 b1 b2 b3 : Int) (Ax : Option Addr) (nx cx : Nat) (hm : wf64 3 ∧ wf64 fr ∧ wf64 ix ∧ wf64 vw ∧ wf64 pr) (hI : c.idle ⟨too, 3, fr, ix, vw, vl, pr⟩ = none) :
    Calls Tryz.prog 11 #[.pointer (some ⟨p, 0, none⟩), .agg #[.int .i64 3, .int .i64 fr, .int .i64 ix, .int .i64 vw, .int .i64 vl, .int .i64 pr, .int .i64 t0, .int .i64 t1, .int .i64 b0, .int .i64 b1, .int .i64 b2, .int .i64 b3, .slice Ax nx cx], .slice A known.length dn] w fun e w' => ∃ c' l B d, e = .returned (.slice B l.length d) ∧ Co.Handles known c ⟨too, 3, fr, ix, vw, vl, pr⟩ c' l ∧ CoAt X w' p c' ∧ w'.ownsRow 0 48 14 (.slice B l.length d) l.length (flatA l) ∧ FrX X w w' := by
  obtain ⟨M, hM⟩ : ∃ M : Am, M = ⟨too, 3, fr, ix, vw, vl, pr⟩ := ⟨_, rfl⟩
  rw [← hM] at hI
  rw [← hM]
  obtain ⟨W1, hW1⟩ : ∃ W1, W1 = w.alloc (.cells #[.int .i64 3, .int .i64 fr, .int .i64 ix, .int .i64 vw, .int .i64 vl, .int .i64 pr, .int .i64 t0, .int .i64 t1, .int .i64 b0, .int .i64 b1, .int .i64 b2, .int .i64 b3, .slice Ax nx cx] 32) := ⟨_, rfl⟩
  obtain ⟨g, hg⟩ : ∃ g, g = w.heap.size := ⟨_, rfl⟩
  have hF1 : Fr [] w W1 := by rw [hW1]; exact (Fr.refl _ _).alloc _
  have hb1 : W1.heap[g]? = some (.cells #[.int .i64 3, .int .i64 fr, .int .i64 ix, .int .i64 vw, .int .i64 vl, .int .i64 pr, .int .i64 t0, .int .i64 t1, .int .i64 b0, .int .i64 b1, .int .i64 b2, .int .i64 b3, .slice Ax nx cx] 32 (0, 0)) := by rw [hW1, hg]; exact heap_alloc_new _ _
  obtain ⟨X1, hX1⟩ : ∃ X1 : Nat → Prop, X1 = fun k => X k ∨ k = g := ⟨_, rfl⟩
  have h1 := h.fr hF1
  have H1 : Hid (CoIn X1 W1 p c a) := ⟨h1.box, h1.tal, h1.st, h1.tst, h1.dec, h1.out, h1.vts, h1.prs, h1.sds, h1.nd, fun k hk hx => by
    rw [hX1] at hx
    rcases hx with hx | hx
    · exact h.nX k hk hx
    · have := h.lt k hk; omega⟩
  have HX1 : Hid (∀ k, X1 k → k < W1.heap.size) := fun k hk => by
    rw [hX1] at hk
    have h2 := (Array.getElem?_eq_some_iff.1 hb1).1
    rcases hk with hk | hk
    · exact Nat.lt_of_lt_of_le (hX k hk) hF1.size
    · omega
  have HXg : Hid (X1 g) := by show X1 g; rw [hX1]; exact .inr rfl
  have HEND : Hid (∀ W d, CoAt X1 W p d → FrX X1 W1 W → CoAt X W p d ∧ FrX X w W) := fun W d hd hf => by
    obtain ⟨b, hd⟩ := hd
    refine ⟨⟨b, hd.x (fun k _ hk => by rw [hX1]; exact .inl hk)⟩, (FrX.of0 hF1).trans (hf.weak (fun k hk => by rw [hX1]; exact .inl hk))⟩
  have HKN : Hid (∀ W, FrX X1 W1 W → (Kd.int .i64).C W A known.length known) := fun W hW => hkn W ((FrX.of0 hF1).trans (hW.weak (fun k hk => by rw [hX1]; exact .inl hk)))
  have HB : Hid (∀ W, FrX X1 W1 W → W.heap[g]? = some (.cells #[.int .i64 3, .int .i64 fr, .int .i64 ix, .int .i64 vw, .int .i64 vl, .int .i64 pr, .int .i64 t0, .int .i64 t1, .int .i64 b0, .int .i64 b1, .int .i64 b2, .int .i64 b3, .slice Ax nx cx] 32 (0, 0))) := fun W hW => (hW.block (Array.getElem?_eq_some_iff.1 hb1).1 HXg.out).trans hb1
  have HG : Hid (∀ W, Fr [] W1 W → W.cell? ⟨g, 0, none⟩ = some (.int .i64 3) ∧ W.cell? ⟨g, 1, none⟩ = some (.int .i64 fr) ∧ W.cell? ⟨g, 2, none⟩ = some (.int .i64 ix) ∧ W.cell? ⟨g, 3, none⟩ = some (.int .i64 vw) ∧ W.cell? ⟨g, 4, none⟩ = some (.int .i64 vl) ∧ W.cell? ⟨g, 5, none⟩ = some (.int .i64 pr)) := fun W hW => by
    have h2 := HB.out W (FrX.of0 hW)
    exact ⟨cell_of h2 0, cell_of h2 1, cell_of h2 2, cell_of h2 3, cell_of h2 4, cell_of h2 5⟩
  obtain ⟨ci, hci⟩ : ∃ ci, c.idx = ci := ⟨_, rfl⟩
  obtain ⟨NS, hNS⟩ : ∃ NS, c.st.length = NS := ⟨_, rfl⟩
  obtain ⟨As, ds, hsv, _⟩ := h.sv
  obtain ⟨Ad, dd, hdv, _⟩ := h.dv
  obtain ⟨ND, hND⟩ : ∃ ND, c.decs.length = ND := ⟨_, rfl⟩
  have HCE : Hid (∀ W, Fr [] W1 W → W.cell? ⟨p, 0, none⟩ = some (.int .i64 c.me) ∧ W.cell? ⟨p, 1, none⟩ = some (.slice As NS ds) ∧ W.cell? ⟨p, 4, none⟩ = some (.slice Ad ND dd) ∧ W.cell? ⟨p, 9, none⟩ = some (.pointer (some ⟨a.pt, 0, none⟩)) ∧ W.cell? ⟨p, 10, none⟩ = some (.map (some a.bp)) ∧ W.cell? ⟨p, 11, none⟩ = some (.map (some a.bs))) := fun W hW => by
    have h2 := H1.out.fr hW
    refine ⟨h2.cells 0, ?_, ?_, h2.cells 9, h2.cells 10, h2.cells 11⟩
    · rw [← hNS, h2.cells 1, ← hsv]; rfl
    · rw [← hND, h2.cells 4, ← hdv]; rfl
  have HIQ : Hid (∀ W, Fr [] W1 W → ∀ n, Calls Tryz.prog 18 #[.pointer (some ⟨p, 0, none⟩)] (W.drewN n) fun e w'' => e = .returned (.int .i64 ci) ∧ w'' = W.drewN n) := fun W hW n => by
    have := c_index (H1.out.fr (hW.drewN n)); rw [hci] at this; exact this
  obtain ⟨bad, hbad⟩ : ∃ bad : Bool, bad = (decide ((3 : Int) < 3) || decide (fr < 0) || decide ((NS : Int) ≤ fr) || decide (ci < ix) || decide (ix < 0)) := ⟨_, rfl⟩
  have HBAD := Lib.hid hbad
  have HIDL : Hid (c.idle M = if bad = true then some [] else if ix < ci then (if (3 : Int) = 6 then some [] else some [⟨fr, 6, c.me, ix, 0, c.decs.getD ix.toNat 0, 0⟩]) else none) := by
    show _ = _
    unfold Co.idle
    rw [hM, hci, hNS, HBAD.out]
    have hb : (decide ((3 : Int) < 3) || decide (fr < 0) || decide ((NS : Int) ≤ fr) || decide (ci < ix) || decide (ix < 0)) = true ↔ ((3 : Int) < 3 ∨ fr < 0 ∨ (NS : Int) ≤ fr ∨ ci < ix ∨ ix < 0) := by
      simp only [Bool.or_eq_true, decide_eq_true_eq, or_assoc]
    by_cases k1 : (3 : Int) < 3 ∨ fr < 0 ∨ (NS : Int) ≤ fr ∨ ci < ix ∨ ix < 0
    · rw [if_pos k1, if_pos (hb.2 k1)]
    · rw [if_neg k1, if_neg (fun h => k1 (hb.1 h))]
  have HCK : Hid (ci = (ND : Int)) := by show _ = _; rw [← hci, ← hND]; rfl
  have HOK := Lib.hid hok
  have HML : Hid (c.m.length < 999999) := Nat.lt_of_le_of_lt (hok.votes.len hok.st.2.1) (by omega)
  have HTK : Hid ((c.take M).Ok ∧ (c.take M).Wf ∧ (c.take M).out.length ≤ 1000000) := ⟨hok.take M, hwf.take M (by rw [hM]; exact hm.2.2.2.2) hsd, by rw [(Co.take_same c M).1]; omega⟩
  have HWM := Lib.hid hm
  have HDV : Hid (OwnI 0 W1 (.slice Ad ND dd) c.decs) := by
    have h2 := H1.out.dec
    rw [hdv, hND] at h2
    exact h2
  have HND := Lib.hid hND
  have HM := Lib.hid hM
  have HNS7 : Hid (c.st.length ≤ 7) := hok.st.2.1
  have HRES : Hid (∀ (W : World) (l : List Am), c.idle M = some l → Co.Handles known c M c l) := fun W l hl => by unfold Co.Handles; rw [hl]; exact ⟨rfl, rfl⟩
  have HRES2 : Hid (∀ d : Co, c.idle M = none → Co.Settles known (c.take M) d → Co.Handles known c M d.flush d.out) := fun d hl hd => by unfold Co.Handles; rw [hl]; exact ⟨d, hd, rfl, rfl⟩
  obtain ⟨nk, hnk⟩ : ∃ n, known.length = n := ⟨_, rfl⟩
  rw [hnk]
  have HNK := Lib.hid hnk
  have HI := Lib.hid hI
  refine calls_k fun R hR => ?_
  clear hI
  clear h h1 hX hok hwf ho hsd hkn hF1 hb1 hX1 hci hNS hsv hdv hND hbad hm hM hnk
  go_enter Tryz.func11, Tryz.ntmps11
  go_upto_region 1 with (fail)
  rw [← hW1, ← hg]
  clear hW1 hg
  obtain ⟨g0, g1, g2, g3, g4, g5⟩ := HG.out W1 (Fr.refl _ _)
  have hb := HBAD.out
  have hbf : bad = false := by
    cases bad with
    | false => rfl
    | true => have h2 := HIDL.out; rw [if_pos rfl, HI.out] at h2; cases h2
  have h2 := HIDL.out
  rw [hbf, if_neg (by simp), HI.out] at h2
  have hlt : ¬ ix < ci := fun e => by rw [if_pos e] at h2; split at h2 <;> cases h2
  rw [hbf] at hb
  have hbn : ¬ (3 : Int) < 3 ∧ ¬ fr < 0 ∧ ¬ (NS : Int) ≤ fr ∧ ¬ ci < ix ∧ ¬ ix < 0 := by
    simp only [Bool.false_eq, Bool.or_eq_false_iff, decide_eq_false_iff_not] at hb
    exact ⟨hb.1.1.1.1, hb.1.1.1.2, hb.1.1.2, hb.1.2, hb.2⟩
  have d0 : decide ((3 : Int) < 3) = false := decide_eq_false hbn.1
  have d1 : decide (fr < 0) = false := decide_eq_false hbn.2.1
  have d2 : decide ((NS : Int) ≤ fr) = false := decide_eq_false hbn.2.2.1
  have d3 : decide (ci < ix) = false := decide_eq_false hbn.2.2.2.1
  have d4 : decide (ix < 0) = false := decide_eq_false hbn.2.2.2.2
  have d5 : decide (ix < ci) = false := decide_eq_false hlt
  clear hb hbf h2 hlt hbn HIDL HRES HBAD
  have HSE : Hid (∀ W, CoIn X1 W p (c.take M) a → FrX X1 W1 W → Calls Tryz.prog 33 #[.pointer (some ⟨p, 0, none⟩), .slice A nk dn] W fun e w' => e = .returned (.tuple #[]) ∧ ∃ d, Co.Settles known (c.take M) d ∧ CoAt X1 w' p d ∧ FrX X1 W w') := fun W hW hf => by
    have := c_settle hW (fun k hk => Nat.lt_of_lt_of_le (HX1.out k hk) hf.size) HTK.out.1 HTK.out.2.1 HTK.out.2.2 (A := A) (dn := dn) (known := known) (fun W' hW' => HKN.out W' (hf.trans hW'))
    rw [HNK.out] at this
    exact this
  obtain ⟨q0, q1, q4, q9, q10, q11⟩ := HCE.out _ (Fr.refl _ _)
  have HQ1 := Lib.hid (HIQ.out W1 (Fr.refl _ _))
  go_upto_region 5 with (fail)
  go_quiet (first | (go_at_call 18; exact Calls.quiet_of_same (HQ1.out _)))
  obtain ⟨W5, hW5⟩ : ∃ W5, W5 = W1.drewN nq := ⟨_, rfl⟩
  have HFb : Hid (Fr [] W1 W5) := by show Fr _ _ _; rw [hW5]; exact (Fr.refl _ _).drewN _
  go_upto_region 7 with (fail)
  rw [← hW5]
  clear hW5 HQ1 q0 q1 q4 q9 q10 q11 g0 g1 g2 g3 g4 g5
  obtain ⟨q0, q1, q4, q9, q10, q11⟩ := HCE.out _ HFb.out
  obtain ⟨g0, g1, g2, g3, g4, g5⟩ := HG.out _ HFb.out
  have HQ2 := Lib.hid (HIQ.out W5 HFb.out)
  go_quiet (first | (go_at_call 18; exact Calls.quiet_of_same (HQ2.out _)))
  obtain ⟨W7, hW7⟩ : ∃ W7, W7 = W5.drewN nq := ⟨_, rfl⟩
  have HFc : Hid (Fr [] W1 W7) := by show Fr _ _ _; rw [hW7]; exact HFb.out.drewN _
  go_upto_region 9 with (fail)
  rw [← hW7]
  clear hW7 HQ2 q0 q1 q4 q9 q10 q11 g0 g1 g2 g3 g4 g5
  obtain ⟨q0, q1, q4, q9, q10, q11⟩ := HCE.out _ HFc.out
  obtain ⟨g0, g1, g2, g3, g4, g5⟩ := HG.out _ HFc.out
  have HQ3 := Lib.hid (HIQ.out W7 HFc.out)
  go_quiet (first | (go_at_call 18; exact Calls.quiet_of_same (HQ3.out _)))
  obtain ⟨W9, hW9⟩ : ∃ W9, W9 = W7.drewN nq := ⟨_, rfl⟩
  have HFd : Hid (Fr [] W1 W9) := by show Fr _ _ _; rw [hW9]; exact HFc.out.drewN _
  go_upto_region 11 with (fail)
  rw [← hW9]
  clear hW9 HQ3 q0 q1 q4 q9 q10 q11 g0 g1 g2 g3 g4 g5
  have hk45 : ¬ ((3 : Int) = 4 ∨ (3 : Int) = 5) := by decide
  obtain ⟨x1, hx1⟩ : ∃ x, ((alook c.props vw).getD (0, 0)).1 = x := ⟨_, rfl⟩
  obtain ⟨x2, hx2⟩ : ∃ x, ((alook c.props vw).getD (0, 0)).2 = x := ⟨_, rfl⟩
  obtain ⟨B, hB⟩ : ∃ B, (alook c.props vw).isSome = B := ⟨_, rfl⟩
  obtain ⟨L, hL⟩ : ∃ L, c.leads fr vw = L := ⟨_, rfl⟩
  have HTKE : Hid (c.take M = if B = false ∧ L = true then { c with props := aput c.props vw (vl, pr) } else c) := by
    show _ = _
    rw [HM.out]
    unfold Co.take
    rw [if_neg hk45, if_pos rfl, ← hB, ← hL]
    cases alook c.props vw <;> simp
  have HLD : Hid (∀ W, Fr [] W1 W → Calls Tryz.prog 37 #[.pointer (some ⟨p, 0, none⟩), .int .i64 fr, .int .i64 vw] W fun e w' => e = .returned (.bool L) ∧ ∃ n, w' = W.drewN n) := fun W hW => by
    have := c_leads (H1.out.fr hW) HNS7.out fr vw
    rw [hL] at this
    exact this
  have HS : Hid (∀ W, Fr [] W1 W → W.cell? ⟨p, 10, none⟩ = some (.map (some a.bp)) ∧ W.cell? ⟨g, 3, none⟩ = some (.int .i64 vw)) := fun W hW => ⟨(HCE.out _ hW).2.2.2.2.1, (HG.out _ hW).2.2.2.1⟩
  have hF0 : Fr [] W1 W9.drew := HFd.out.drew
  have hS0 := HS.out _ hF0
  have hl0 : (Instr.lookup 71 (.map (some a.bp)) (.int .i64 vw) true).run Tryz.prog W9.drew = .ok (.tuple #[.agg #[.int .i64 x1, .int .i64 x2], .bool B]) W9.drew := by
    have := (H1.out.fr hF0).look vw true
    rw [hx1, hx2, hB] at this
    exact this
  have hF1 : Fr [] W1 (World.drew (World.alloc W9 (.cells #[.int .i64 0, .int .i64 0] 74))) := (HFd.out.alloc _).drew
  have hl1 : (Instr.lookup 71 (.map (some a.bp)) (.int .i64 vw) true).run Tryz.prog (World.drew (World.alloc W9 (.cells #[.int .i64 0, .int .i64 0] 74))) = .ok (.tuple #[.agg #[.int .i64 x1, .int .i64 x2], .bool B]) (World.drew (World.alloc W9 (.cells #[.int .i64 0, .int .i64 0] 74))) := by
    have := (H1.out.fr hF1).look vw true
    rw [hx1, hx2, hB] at this
    exact this
  have HZ := Lib.hid (heap_alloc_new W9 (.cells #[.int .i64 0, .int .i64 0] 74))
  have z0' : (World.drew (World.alloc W9 (.cells #[.int .i64 0, .int .i64 0] 74))).cell? ⟨W9.heap.size, 0, none⟩ = some (.int .i64 0) := cell_of HZ.out 0
  have z1' : (World.drew (World.alloc W9 (.cells #[.int .i64 0, .int .i64 0] 74))).cell? ⟨W9.heap.size, 1, none⟩ = some (.int .i64 0) := cell_of HZ.out 1
  have y0' : (World.drew (World.alloc W9 (.cells #[.int .i64 0, .int .i64 0] 74))).frozen? ⟨W9.heap.size, 0, none⟩ = false := froz_of HZ.out 0
  have y1' : (World.drew (World.alloc W9 (.cells #[.int .i64 0, .int .i64 0] 74))).frozen? ⟨W9.heap.size, 1, none⟩ = false := froz_of HZ.out 1
  have hge2 : W1.heap.size ≤ W9.heap.size := HFd.out.size
  have g0 := (HG.out _ HFd.out).1
  clear hx1 hx2 hB hL hk45
  go_upto_region 14 with (fail)
  clear g0
  go_cut [9] (fun v wc => v = .bool B ∧ Hid (Fr [] W1 wc))
  case first =>
    go_region_held3 (fun W => W.cell? ⟨p, 10, none⟩ = some (.map (some a.bp)) ∧ W.cell? ⟨g, 3, none⟩ = some (.int .i64 vw)) (first | (with_reducible assumption) | (refine HS.out _ ?_; (try with_reducible refine Fr.drew ?_); (repeat with_reducible refine fr_sc ?_ hge2); with_reducible first | exact Fr.alloc HFd.out _ | exact HFd.out | exact hF1 | exact hF0)) (fail)
    all_goals
      go_wp2
      go_meet
      exact ⟨rfl, (HFd.out.alloc _).drew⟩
  case rest =>
    obtain ⟨rfl, HFe⟩ := hcut
    obtain ⟨W14, rfl⟩ : ∃ W14, W14 = wc := ⟨_, rfl⟩
    clear hS0 hF0 hF1 hl0 hl1 z0' z1' y0' y1' hge2 HZ HS
    obtain ⟨_, g1, _, g3, _, _⟩ := HG.out _ HFe.out
    cases B with
    | true =>
      have HE : Hid (c.take M = c) := by show _ = _; rw [HTKE.out, if_neg (by simp)]
      go_upto_region 17 with (fail)
      have HIN : Hid (CoIn X1 W14 p (c.take M) a) := by show CoIn _ _ _ _ _; rw [HE.out]; exact H1.out.fr HFe.out
      have HFX : Hid (FrX X1 W1 W14) := FrX.of0 HFe.out
      have HSW := Lib.hid (HSE.out _ HIN.out HFX.out)
      go_wp2_with (first
        | (go_at_call 33; refine HSW.out.mono ?_; rintro e w5 ⟨rfl, d, hd, ⟨b5, h5⟩, hf5⟩; have HD := Lib.hid hd; have HF5 := Lib.hid (HFX.out.trans hf5); have hfl := c_flush2 h5; obtain ⟨no, hno⟩ : ∃ n, d.out.length = n := ⟨_, rfl⟩; rw [hno] at hfl; have HNO := Lib.hid hno; have HFL := Lib.hid hfl; clear h5 hf5 hd hfl hno HSW)
        | (go_at_call 35; refine HFL.out.mono ?_; rintro e w6 ⟨Bq, d6, rfl, h6, hr6, hf6⟩; have H6 := Lib.hid h6; have HR6 := Lib.hid hr6; have HF6 := Lib.hid (HF5.out.trans hf6); clear h6 hr6 hf6 HFL))
      obtain ⟨z1, z2⟩ := HEND.out _ _ H6.out HF6.out
      have hr6 := HR6.out
      rw [← HNO.out] at hr6
      exact hR.out _ _ ⟨d.flush, d.out, Bq, d6, by rw [HNO.out]; rfl, HRES2.out d HI.out HD.out, z1, hr6, z2⟩
    | false =>
      have HLE := Lib.hid (HLD.out _ HFe.out)
      cases L with
      | false =>
        have HE : Hid (c.take M = c) := by show _ = _; rw [HTKE.out, if_neg (by simp)]
        go_upto_region 17 with (go_at_call 37; refine HLE.out.mono ?_; rintro e y ⟨rfl, n, rfl⟩; clear HLE)
        have HIN : Hid (CoIn X1 (W14.drewN n) p (c.take M) a) := by show CoIn _ _ _ _ _; rw [HE.out]; exact H1.out.fr (HFe.out.drewN n)
        have HFX : Hid (FrX X1 W1 (W14.drewN n)) := FrX.of0 (HFe.out.drewN n)
        have HSW := Lib.hid (HSE.out _ HIN.out HFX.out)
        go_wp2_with (first
          | (go_at_call 33; refine HSW.out.mono ?_; rintro e w5 ⟨rfl, d, hd, ⟨b5, h5⟩, hf5⟩; have HD := Lib.hid hd; have HF5 := Lib.hid (HFX.out.trans hf5); have hfl := c_flush2 h5; obtain ⟨no, hno⟩ : ∃ n, d.out.length = n := ⟨_, rfl⟩; rw [hno] at hfl; have HNO := Lib.hid hno; have HFL := Lib.hid hfl; clear h5 hf5 hd hfl hno HSW)
          | (go_at_call 35; refine HFL.out.mono ?_; rintro e w6 ⟨Bq, d6, rfl, h6, hr6, hf6⟩; have H6 := Lib.hid h6; have HR6 := Lib.hid hr6; have HF6 := Lib.hid (HF5.out.trans hf6); clear h6 hr6 hf6 HFL))
        obtain ⟨z1, z2⟩ := HEND.out _ _ H6.out HF6.out
        have hr6 := HR6.out
        rw [← HNO.out] at hr6
        exact hR.out _ _ ⟨d.flush, d.out, Bq, d6, by rw [HNO.out]; rfl, HRES2.out d HI.out HD.out, z1, hr6, z2⟩
      | true =>
        have HE : Hid (c.take M = { c with props := aput c.props vw (vl, pr) }) := by show _ = _; rw [HTKE.out, if_pos (by simp)]
        go_upto_region 16 with (go_at_call 37; refine HLE.out.mono ?_; rintro e y ⟨rfl, n, rfl⟩; clear HLE)
        obtain ⟨W15, hW15⟩ : ∃ W15, W15 = W14.drewN n := ⟨_, rfl⟩
        have HFf : Hid (Fr [] W1 W15) := by show Fr _ _ _; rw [hW15]; exact HFe.out.drewN n
        rw [← hW15]
        clear hW15 g1 g3
        have hFd : Fr [] W1 W15.drew := HFf.out.drew
        have h8 := H1.out.fr hFd
        obtain ⟨w8, u1, u2, u3, u4⟩ := h8.prs.run_update key_int Tryz.underlying71 vw (.agg #[.int .i64 vl, .int .i64 pr])
        have h9 : CoIn X1 w8 p { c with props := aput c.props vw (vl, pr) } a := h8.proposed (x := (vl, pr)) u3 u2
        have hf9 : FrX X1 W1 w8 := (FrX.of0 hFd).trans (h8.frOf h8.own1.2.2.1 u3)
        have hrun' : (Instr.mapUpdate 71 (.map (some a.bp)) (.int .i64 vw) (.agg #[.int .i64 vl, .int .i64 pr])).run Tryz.prog W15.drew = .ok () w8 := u1
        have hb8 := HB.out _ hf9
        have hS8 : w8.cell? ⟨p, 10, none⟩ = some (.map (some a.bp)) ∧ w8.cell? ⟨g, 3, none⟩ = some (.int .i64 vw) ∧ w8.cell? ⟨g, 4, none⟩ = some (.int .i64 vl) ∧ w8.cell? ⟨g, 5, none⟩ = some (.int .i64 pr) := ⟨h9.cells 10, cell_of hb8 3, cell_of hb8 4, cell_of hb8 5⟩
        have hS7 : W15.drew.cell? ⟨p, 10, none⟩ = some (.map (some a.bp)) ∧ W15.drew.cell? ⟨g, 3, none⟩ = some (.int .i64 vw) ∧ W15.drew.cell? ⟨g, 4, none⟩ = some (.int .i64 vl) ∧ W15.drew.cell? ⟨g, 5, none⟩ = some (.int .i64 pr) := ⟨(HCE.out _ hFd).2.2.2.2.1, (HG.out _ hFd).2.2.2.1, (HG.out _ hFd).2.2.2.2.1, (HG.out _ hFd).2.2.2.2.2⟩
        have H9 := Lib.hid h9
        have HF9 := Lib.hid hf9
        clear u1 u2 u3 u4 h9 hf9 hb8 h8 hFd
        go_region_held3 (fun W => W.cell? ⟨p, 10, none⟩ = some (.map (some a.bp)) ∧ W.cell? ⟨g, 3, none⟩ = some (.int .i64 vw) ∧ W.cell? ⟨g, 4, none⟩ = some (.int .i64 vl) ∧ W.cell? ⟨g, 5, none⟩ = some (.int .i64 pr)) (with_reducible assumption) (fail)
        all_goals
          go_upto_region 17 with (fail)
          have HIN : Hid (CoIn X1 w8 p (c.take M) a) := by show CoIn _ _ _ _ _; rw [HE.out]; exact H9.out
          have HFX : Hid (FrX X1 W1 w8) := HF9.out
          have HSW := Lib.hid (HSE.out _ HIN.out HFX.out)
          go_wp2_with (first
            | (go_at_call 33; refine HSW.out.mono ?_; rintro e w5 ⟨rfl, d, hd, ⟨b5, h5⟩, hf5⟩; have HD := Lib.hid hd; have HF5 := Lib.hid (HFX.out.trans hf5); have hfl := c_flush2 h5; obtain ⟨no, hno⟩ : ∃ n, d.out.length = n := ⟨_, rfl⟩; rw [hno] at hfl; have HNO := Lib.hid hno; have HFL := Lib.hid hfl; clear h5 hf5 hd hfl hno HSW)
            | (go_at_call 35; refine HFL.out.mono ?_; rintro e w6 ⟨Bq, d6, rfl, h6, hr6, hf6⟩; have H6 := Lib.hid h6; have HR6 := Lib.hid hr6; have HF6 := Lib.hid (HF5.out.trans hf6); clear h6 hr6 hf6 HFL))
          obtain ⟨z1, z2⟩ := HEND.out _ _ H6.out HF6.out
          have hr6 := HR6.out
          rw [← HNO.out] at hr6
          exact hR.out _ _ ⟨d.flush, d.out, Bq, d6, by rw [HNO.out]; rfl, HRES2.out d HI.out HD.out, z1, hr6, z2⟩
set_option maxHeartbeats 16000000 in
set_option maxRecDepth 100000 in
theorem c_handle4 (h : CoIn X w p c a) (hX : ∀ k, X k → k < w.heap.size) (hok : c.Ok) (hwf : c.Wf) (ho : c.out.length ≤ 1000) (hsd : c.said.length < 1000) {A : Option Addr} {dn : Nat} {known : List Int} (hkn : ∀ W, FrX X w W → (Kd.int .i64).C W A known.length known)
    (too kd fr ix vw vl pr t0 t1 b0 b1 b2 b3 : Int) (Ax : Option Addr) (nx cx : Nat) (hm : wf64 kd ∧ wf64 fr ∧ wf64 ix ∧ wf64 vw ∧ wf64 pr) (k3 : kd ≠ 3) (hk45 : ¬ (kd = 4 ∨ kd = 5)) (hI : c.idle ⟨too, kd, fr, ix, vw, vl, pr⟩ = none) :
    Calls Tryz.prog 11 #[.pointer (some ⟨p, 0, none⟩), .agg #[.int .i64 kd, .int .i64 fr, .int .i64 ix, .int .i64 vw, .int .i64 vl, .int .i64 pr, .int .i64 t0, .int .i64 t1, .int .i64 b0, .int .i64 b1, .int .i64 b2, .int .i64 b3, .slice Ax nx cx], .slice A known.length dn] w fun e w' => ∃ c' l B d, e = .returned (.slice B l.length d) ∧ Co.Handles known c ⟨too, kd, fr, ix, vw, vl, pr⟩ c' l ∧ CoAt X w' p c' ∧ w'.ownsRow 0 48 14 (.slice B l.length d) l.length (flatA l) ∧ FrX X w w' := by
  obtain ⟨M, hM⟩ : ∃ M : Am, M = ⟨too, kd, fr, ix, vw, vl, pr⟩ := ⟨_, rfl⟩
  rw [← hM] at hI
  rw [← hM]
  obtain ⟨W1, hW1⟩ : ∃ W1, W1 = w.alloc (.cells #[.int .i64 kd, .int .i64 fr, .int .i64 ix, .int .i64 vw, .int .i64 vl, .int .i64 pr, .int .i64 t0, .int .i64 t1, .int .i64 b0, .int .i64 b1, .int .i64 b2, .int .i64 b3, .slice Ax nx cx] 32) := ⟨_, rfl⟩
  obtain ⟨g, hg⟩ : ∃ g, g = w.heap.size := ⟨_, rfl⟩
  have hF1 : Fr [] w W1 := by rw [hW1]; exact (Fr.refl _ _).alloc _
  have hb1 : W1.heap[g]? = some (.cells #[.int .i64 kd, .int .i64 fr, .int .i64 ix, .int .i64 vw, .int .i64 vl, .int .i64 pr, .int .i64 t0, .int .i64 t1, .int .i64 b0, .int .i64 b1, .int .i64 b2, .int .i64 b3, .slice Ax nx cx] 32 (0, 0)) := by rw [hW1, hg]; exact heap_alloc_new _ _
  obtain ⟨X1, hX1⟩ : ∃ X1 : Nat → Prop, X1 = fun k => X k ∨ k = g := ⟨_, rfl⟩
  have h1 := h.fr hF1
  have H1 : Hid (CoIn X1 W1 p c a) := ⟨h1.box, h1.tal, h1.st, h1.tst, h1.dec, h1.out, h1.vts, h1.prs, h1.sds, h1.nd, fun k hk hx => by
    rw [hX1] at hx
    rcases hx with hx | hx
    · exact h.nX k hk hx
    · have := h.lt k hk; omega⟩
  have HX1 : Hid (∀ k, X1 k → k < W1.heap.size) := fun k hk => by
    rw [hX1] at hk
    have h2 := (Array.getElem?_eq_some_iff.1 hb1).1
    rcases hk with hk | hk
    · exact Nat.lt_of_lt_of_le (hX k hk) hF1.size
    · omega
  have HXg : Hid (X1 g) := by show X1 g; rw [hX1]; exact .inr rfl
  have HEND : Hid (∀ W d, CoAt X1 W p d → FrX X1 W1 W → CoAt X W p d ∧ FrX X w W) := fun W d hd hf => by
    obtain ⟨b, hd⟩ := hd
    refine ⟨⟨b, hd.x (fun k _ hk => by rw [hX1]; exact .inl hk)⟩, (FrX.of0 hF1).trans (hf.weak (fun k hk => by rw [hX1]; exact .inl hk))⟩
  have HKN : Hid (∀ W, FrX X1 W1 W → (Kd.int .i64).C W A known.length known) := fun W hW => hkn W ((FrX.of0 hF1).trans (hW.weak (fun k hk => by rw [hX1]; exact .inl hk)))
  have HB : Hid (∀ W, FrX X1 W1 W → W.heap[g]? = some (.cells #[.int .i64 kd, .int .i64 fr, .int .i64 ix, .int .i64 vw, .int .i64 vl, .int .i64 pr, .int .i64 t0, .int .i64 t1, .int .i64 b0, .int .i64 b1, .int .i64 b2, .int .i64 b3, .slice Ax nx cx] 32 (0, 0))) := fun W hW => (hW.block (Array.getElem?_eq_some_iff.1 hb1).1 HXg.out).trans hb1
  have HG : Hid (∀ W, Fr [] W1 W → W.cell? ⟨g, 0, none⟩ = some (.int .i64 kd) ∧ W.cell? ⟨g, 1, none⟩ = some (.int .i64 fr) ∧ W.cell? ⟨g, 2, none⟩ = some (.int .i64 ix) ∧ W.cell? ⟨g, 3, none⟩ = some (.int .i64 vw) ∧ W.cell? ⟨g, 4, none⟩ = some (.int .i64 vl) ∧ W.cell? ⟨g, 5, none⟩ = some (.int .i64 pr)) := fun W hW => by
    have h2 := HB.out W (FrX.of0 hW)
    exact ⟨cell_of h2 0, cell_of h2 1, cell_of h2 2, cell_of h2 3, cell_of h2 4, cell_of h2 5⟩
  obtain ⟨ci, hci⟩ : ∃ ci, c.idx = ci := ⟨_, rfl⟩
  obtain ⟨NS, hNS⟩ : ∃ NS, c.st.length = NS := ⟨_, rfl⟩
  obtain ⟨As, ds, hsv, _⟩ := h.sv
  obtain ⟨Ad, dd, hdv, _⟩ := h.dv
  obtain ⟨ND, hND⟩ : ∃ ND, c.decs.length = ND := ⟨_, rfl⟩
  have HCE : Hid (∀ W, Fr [] W1 W → W.cell? ⟨p, 0, none⟩ = some (.int .i64 c.me) ∧ W.cell? ⟨p, 1, none⟩ = some (.slice As NS ds) ∧ W.cell? ⟨p, 4, none⟩ = some (.slice Ad ND dd) ∧ W.cell? ⟨p, 9, none⟩ = some (.pointer (some ⟨a.pt, 0, none⟩)) ∧ W.cell? ⟨p, 10, none⟩ = some (.map (some a.bp)) ∧ W.cell? ⟨p, 11, none⟩ = some (.map (some a.bs))) := fun W hW => by
    have h2 := H1.out.fr hW
    refine ⟨h2.cells 0, ?_, ?_, h2.cells 9, h2.cells 10, h2.cells 11⟩
    · rw [← hNS, h2.cells 1, ← hsv]; rfl
    · rw [← hND, h2.cells 4, ← hdv]; rfl
  have HIQ : Hid (∀ W, Fr [] W1 W → ∀ n, Calls Tryz.prog 18 #[.pointer (some ⟨p, 0, none⟩)] (W.drewN n) fun e w'' => e = .returned (.int .i64 ci) ∧ w'' = W.drewN n) := fun W hW n => by
    have := c_index (H1.out.fr (hW.drewN n)); rw [hci] at this; exact this
  obtain ⟨bad, hbad⟩ : ∃ bad : Bool, bad = (decide (kd < 3) || decide (fr < 0) || decide ((NS : Int) ≤ fr) || decide (ci < ix) || decide (ix < 0)) := ⟨_, rfl⟩
  have HBAD := Lib.hid hbad
  have HIDL : Hid (c.idle M = if bad = true then some [] else if ix < ci then (if kd = 6 then some [] else some [⟨fr, 6, c.me, ix, 0, c.decs.getD ix.toNat 0, 0⟩]) else none) := by
    show _ = _
    unfold Co.idle
    rw [hM, hci, hNS, HBAD.out]
    have hb : (decide (kd < 3) || decide (fr < 0) || decide ((NS : Int) ≤ fr) || decide (ci < ix) || decide (ix < 0)) = true ↔ (kd < 3 ∨ fr < 0 ∨ (NS : Int) ≤ fr ∨ ci < ix ∨ ix < 0) := by
      simp only [Bool.or_eq_true, decide_eq_true_eq, or_assoc]
    by_cases k1 : kd < 3 ∨ fr < 0 ∨ (NS : Int) ≤ fr ∨ ci < ix ∨ ix < 0
    · rw [if_pos k1, if_pos (hb.2 k1)]
    · rw [if_neg k1, if_neg (fun h => k1 (hb.1 h))]
  have HCK : Hid (ci = (ND : Int)) := by show _ = _; rw [← hci, ← hND]; rfl
  have HOK := Lib.hid hok
  have HML : Hid (c.m.length < 999999) := Nat.lt_of_le_of_lt (hok.votes.len hok.st.2.1) (by omega)
  have HTK : Hid ((c.take M).Ok ∧ (c.take M).Wf ∧ (c.take M).out.length ≤ 1000000) := ⟨hok.take M, hwf.take M (by rw [hM]; exact hm.2.2.2.2) hsd, by rw [(Co.take_same c M).1]; omega⟩
  have HWM := Lib.hid hm
  have HDV : Hid (OwnI 0 W1 (.slice Ad ND dd) c.decs) := by
    have h2 := H1.out.dec
    rw [hdv, hND] at h2
    exact h2
  have HND := Lib.hid hND
  have HM := Lib.hid hM
  have HNS7 : Hid (c.st.length ≤ 7) := hok.st.2.1
  have HRES : Hid (∀ (W : World) (l : List Am), c.idle M = some l → Co.Handles known c M c l) := fun W l hl => by unfold Co.Handles; rw [hl]; exact ⟨rfl, rfl⟩
  have HRES2 : Hid (∀ d : Co, c.idle M = none → Co.Settles known (c.take M) d → Co.Handles known c M d.flush d.out) := fun d hl hd => by unfold Co.Handles; rw [hl]; exact ⟨d, hd, rfl, rfl⟩
  obtain ⟨nk, hnk⟩ : ∃ n, known.length = n := ⟨_, rfl⟩
  rw [hnk]
  have HNK := Lib.hid hnk
  have HI := Lib.hid hI
  refine calls_k fun R hR => ?_
  clear hI
  clear h h1 hX hok hwf ho hsd hkn hF1 hb1 hX1 hci hNS hsv hdv hND hbad hm hM hnk
  go_enter Tryz.func11, Tryz.ntmps11
  go_upto_region 1 with (fail)
  rw [← hW1, ← hg]
  clear hW1 hg
  obtain ⟨g0, g1, g2, g3, g4, g5⟩ := HG.out W1 (Fr.refl _ _)
  have hb := HBAD.out
  have hbf : bad = false := by
    cases bad with
    | false => rfl
    | true => have h2 := HIDL.out; rw [if_pos rfl, HI.out] at h2; cases h2
  have h2 := HIDL.out
  rw [hbf, if_neg (by simp), HI.out] at h2
  have hlt : ¬ ix < ci := fun e => by rw [if_pos e] at h2; split at h2 <;> cases h2
  rw [hbf] at hb
  have hbn : ¬ kd < 3 ∧ ¬ fr < 0 ∧ ¬ (NS : Int) ≤ fr ∧ ¬ ci < ix ∧ ¬ ix < 0 := by
    simp only [Bool.false_eq, Bool.or_eq_false_iff, decide_eq_false_iff_not] at hb
    exact ⟨hb.1.1.1.1, hb.1.1.1.2, hb.1.1.2, hb.1.2, hb.2⟩
  have d0 : decide (kd < 3) = false := decide_eq_false hbn.1
  have d1 : decide (fr < 0) = false := decide_eq_false hbn.2.1
  have d2 : decide ((NS : Int) ≤ fr) = false := decide_eq_false hbn.2.2.1
  have d3 : decide (ci < ix) = false := decide_eq_false hbn.2.2.2.1
  have d4 : decide (ix < 0) = false := decide_eq_false hbn.2.2.2.2
  have d5 : decide (ix < ci) = false := decide_eq_false hlt
  have b4 : (kd == 4) = false := by simpa using fun e => hk45 (.inl e)
  have b5 : (kd == 5) = false := by simpa using fun e => hk45 (.inr e)
  have HK45 := Lib.hid hk45
  have HK3 := Lib.hid k3
  have e3 : (kd == 3) = false := by simpa using k3
  clear hk45 k3
  clear hb hbf h2 hlt hbn HIDL HRES HBAD
  have HSE : Hid (∀ W, CoIn X1 W p (c.take M) a → FrX X1 W1 W → Calls Tryz.prog 33 #[.pointer (some ⟨p, 0, none⟩), .slice A nk dn] W fun e w' => e = .returned (.tuple #[]) ∧ ∃ d, Co.Settles known (c.take M) d ∧ CoAt X1 w' p d ∧ FrX X1 W w') := fun W hW hf => by
    have := c_settle hW (fun k hk => Nat.lt_of_lt_of_le (HX1.out k hk) hf.size) HTK.out.1 HTK.out.2.1 HTK.out.2.2 (A := A) (dn := dn) (known := known) (fun W' hW' => HKN.out W' (hf.trans hW'))
    rw [HNK.out] at this
    exact this
  obtain ⟨q0, q1, q4, q9, q10, q11⟩ := HCE.out _ (Fr.refl _ _)
  have HQ1 := Lib.hid (HIQ.out W1 (Fr.refl _ _))
  go_upto_region 5 with (fail)
  go_quiet (first | (go_at_call 18; exact Calls.quiet_of_same (HQ1.out _)))
  obtain ⟨W5, hW5⟩ : ∃ W5, W5 = W1.drewN nq := ⟨_, rfl⟩
  have HFb : Hid (Fr [] W1 W5) := by show Fr _ _ _; rw [hW5]; exact (Fr.refl _ _).drewN _
  go_upto_region 7 with (fail)
  rw [← hW5]
  clear hW5 HQ1 q0 q1 q4 q9 q10 q11 g0 g1 g2 g3 g4 g5
  obtain ⟨q0, q1, q4, q9, q10, q11⟩ := HCE.out _ HFb.out
  obtain ⟨g0, g1, g2, g3, g4, g5⟩ := HG.out _ HFb.out
  have HQ2 := Lib.hid (HIQ.out W5 HFb.out)
  go_quiet (first | (go_at_call 18; exact Calls.quiet_of_same (HQ2.out _)))
  obtain ⟨W7, hW7⟩ : ∃ W7, W7 = W5.drewN nq := ⟨_, rfl⟩
  have HFc : Hid (Fr [] W1 W7) := by show Fr _ _ _; rw [hW7]; exact HFb.out.drewN _
  go_upto_region 9 with (fail)
  rw [← hW7]
  clear hW7 HQ2 q0 q1 q4 q9 q10 q11 g0 g1 g2 g3 g4 g5
  obtain ⟨q0, q1, q4, q9, q10, q11⟩ := HCE.out _ HFc.out
  obtain ⟨g0, g1, g2, g3, g4, g5⟩ := HG.out _ HFc.out
  have HQ3 := Lib.hid (HIQ.out W7 HFc.out)
  go_quiet (first | (go_at_call 18; exact Calls.quiet_of_same (HQ3.out _)))
  obtain ⟨W9, hW9⟩ : ∃ W9, W9 = W7.drewN nq := ⟨_, rfl⟩
  have HFd : Hid (Fr [] W1 W9) := by show Fr _ _ _; rw [hW9]; exact HFc.out.drewN _
  go_upto_region 11 with (fail)
  rw [← hW9]
  clear hW9 HQ3 q0 q1 q4 q9 q10 q11 g0 g1 g2 g3 g4 g5
  obtain ⟨x, hx⟩ : ∃ x, (alook c.said fr).getD 0 = x := ⟨_, rfl⟩
  obtain ⟨B, hB⟩ : ∃ B, (alook c.said fr).isSome = B := ⟨_, rfl⟩
  have HTKE : Hid (c.take M = if B = false then { c with said := aput c.said fr vl } else c) := by
    show _ = _
    rw [HM.out]
    unfold Co.take
    rw [if_neg HK45.out, if_neg HK3.out, ← hB]
    cases alook c.said fr <;> simp
  have hF0 : Fr [] W1 W9.drew := HFd.out.drew
  have hS0 : W9.drew.cell? ⟨p, 11, none⟩ = some (.map (some a.bs)) ∧ W9.drew.cell? ⟨g, 1, none⟩ = some (.int .i64 fr) := ⟨(HCE.out _ hF0).2.2.2.2.2, (HG.out _ hF0).2.1⟩
  have hl0 : (Instr.lookup 72 (.map (some a.bs)) (.int .i64 fr) true).run Tryz.prog W9.drew = .ok (.tuple #[.int .i64 x, .bool B]) W9.drew := by
    have := (H1.out.fr hF0).lookS fr
    rw [hx, hB] at this
    exact this
  have g0 := (HG.out _ HFd.out).1
  clear hx hB
  go_upto_region 2 with (fail)
  clear g0
  go_cut [11] (fun v wc => v = .bool B ∧ Hid (Fr [] W1 wc))
  case first =>
    go_region_held3 (fun W => W.cell? ⟨p, 11, none⟩ = some (.map (some a.bs)) ∧ W.cell? ⟨g, 1, none⟩ = some (.int .i64 fr)) (with_reducible assumption) (fail)
    all_goals
      go_wp2
      go_meet
      exact ⟨rfl, hF0⟩
  case rest =>
    obtain ⟨rfl, HFe⟩ := hcut
    obtain ⟨W14, rfl⟩ : ∃ W14, W14 = wc := ⟨_, rfl⟩
    clear hS0 hF0 hl0
    cases B with
    | true =>
      have HE : Hid (c.take M = c) := by show _ = _; rw [HTKE.out, if_neg (by simp)]
      go_upto_region 17 with (fail)
      have HIN : Hid (CoIn X1 W14 p (c.take M) a) := by show CoIn _ _ _ _ _; rw [HE.out]; exact H1.out.fr HFe.out
      have HFX : Hid (FrX X1 W1 W14) := FrX.of0 HFe.out
      have HSW := Lib.hid (HSE.out _ HIN.out HFX.out)
      go_wp2_with (first
        | (go_at_call 33; refine HSW.out.mono ?_; rintro e w5 ⟨rfl, d, hd, ⟨b5, h5⟩, hf5⟩; have HD := Lib.hid hd; have HF5 := Lib.hid (HFX.out.trans hf5); have hfl := c_flush2 h5; obtain ⟨no, hno⟩ : ∃ n, d.out.length = n := ⟨_, rfl⟩; rw [hno] at hfl; have HNO := Lib.hid hno; have HFL := Lib.hid hfl; clear h5 hf5 hd hfl hno HSW)
        | (go_at_call 35; refine HFL.out.mono ?_; rintro e w6 ⟨Bq, d6, rfl, h6, hr6, hf6⟩; have H6 := Lib.hid h6; have HR6 := Lib.hid hr6; have HF6 := Lib.hid (HF5.out.trans hf6); clear h6 hr6 hf6 HFL))
      obtain ⟨z1, z2⟩ := HEND.out _ _ H6.out HF6.out
      have hr6 := HR6.out
      rw [← HNO.out] at hr6
      exact hR.out _ _ ⟨d.flush, d.out, Bq, d6, by rw [HNO.out]; rfl, HRES2.out d HI.out HD.out, z1, hr6, z2⟩
    | false =>
      have HE : Hid (c.take M = { c with said := aput c.said fr vl }) := by show _ = _; rw [HTKE.out, if_pos rfl]
      have hFd : Fr [] W1 W14.drew := HFe.out.drew
      have h8 := H1.out.fr hFd
      obtain ⟨w8, u1, u2, u3, u4⟩ := h8.sds.run_update key_int Tryz.underlying72 fr (.int .i64 vl)
      have h9 : CoIn X1 w8 p { c with said := aput c.said fr vl } a := h8.heard u3 u2
      have hf9 : FrX X1 W1 w8 := (FrX.of0 hFd).trans (h8.frOf h8.own1.2.2.2 u3)
      have hrun' : (Instr.mapUpdate 72 (.map (some a.bs)) (.int .i64 fr) (.int .i64 vl)).run Tryz.prog W14.drew = .ok () w8 := u1
      have hb8 := HB.out _ hf9
      have hS8 : w8.cell? ⟨p, 11, none⟩ = some (.map (some a.bs)) ∧ w8.cell? ⟨g, 1, none⟩ = some (.int .i64 fr) ∧ w8.cell? ⟨g, 4, none⟩ = some (.int .i64 vl) := ⟨h9.cells 11, cell_of hb8 1, cell_of hb8 4⟩
      have hS7 : W14.drew.cell? ⟨p, 11, none⟩ = some (.map (some a.bs)) ∧ W14.drew.cell? ⟨g, 1, none⟩ = some (.int .i64 fr) ∧ W14.drew.cell? ⟨g, 4, none⟩ = some (.int .i64 vl) := ⟨(HCE.out _ hFd).2.2.2.2.2, (HG.out _ hFd).2.1, (HG.out _ hFd).2.2.2.2.1⟩
      have H9 := Lib.hid h9
      have HF9 := Lib.hid hf9
      clear u1 u2 u3 u4 h9 hf9 hb8 h8 hFd
      go_upto_region 4 with (fail)
      go_region_held3 (fun W => W.cell? ⟨p, 11, none⟩ = some (.map (some a.bs)) ∧ W.cell? ⟨g, 1, none⟩ = some (.int .i64 fr) ∧ W.cell? ⟨g, 4, none⟩ = some (.int .i64 vl)) (with_reducible assumption) (fail)
      all_goals
        go_upto_region 17 with (fail)
        have HIN : Hid (CoIn X1 w8 p (c.take M) a) := by show CoIn _ _ _ _ _; rw [HE.out]; exact H9.out
        have HFX : Hid (FrX X1 W1 w8) := HF9.out
        have HSW := Lib.hid (HSE.out _ HIN.out HFX.out)
        go_wp2_with (first
          | (go_at_call 33; refine HSW.out.mono ?_; rintro e w5 ⟨rfl, d, hd, ⟨b5, h5⟩, hf5⟩; have HD := Lib.hid hd; have HF5 := Lib.hid (HFX.out.trans hf5); have hfl := c_flush2 h5; obtain ⟨no, hno⟩ : ∃ n, d.out.length = n := ⟨_, rfl⟩; rw [hno] at hfl; have HNO := Lib.hid hno; have HFL := Lib.hid hfl; clear h5 hf5 hd hfl hno HSW)
          | (go_at_call 35; refine HFL.out.mono ?_; rintro e w6 ⟨Bq, d6, rfl, h6, hr6, hf6⟩; have H6 := Lib.hid h6; have HR6 := Lib.hid hr6; have HF6 := Lib.hid (HF5.out.trans hf6); clear h6 hr6 hf6 HFL))
        obtain ⟨z1, z2⟩ := HEND.out _ _ H6.out HF6.out
        have hr6 := HR6.out
        rw [← HNO.out] at hr6
        exact hR.out _ _ ⟨d.flush, d.out, Bq, d6, by rw [HNO.out]; rfl, HRES2.out d HI.out HD.out, z1, hr6, z2⟩
theorem c_handle (h : CoIn X w p c a) (hX : ∀ k, X k → k < w.heap.size) (hok : c.Ok) (hwf : c.Wf) (ho : c.out.length ≤ 1000) (hsd : c.said.length < 1000) {A : Option Addr} {dn : Nat} {known : List Int} (hkn : ∀ W, FrX X w W → (Kd.int .i64).C W A known.length known)
    (too kd fr ix vw vl pr t0 t1 b0 b1 b2 b3 : Int) (Ax : Option Addr) (nx cx : Nat) (hm : wf64 kd ∧ wf64 fr ∧ wf64 ix ∧ wf64 vw ∧ wf64 pr) :
    Calls Tryz.prog 11 #[.pointer (some ⟨p, 0, none⟩), .agg #[.int .i64 kd, .int .i64 fr, .int .i64 ix, .int .i64 vw, .int .i64 vl, .int .i64 pr, .int .i64 t0, .int .i64 t1, .int .i64 b0, .int .i64 b1, .int .i64 b2, .int .i64 b3, .slice Ax nx cx], .slice A known.length dn] w fun e w' => ∃ c' l B d, e = .returned (.slice B l.length d) ∧ Co.Handles known c ⟨too, kd, fr, ix, vw, vl, pr⟩ c' l ∧ CoAt X w' p c' ∧ w'.ownsRow 0 48 14 (.slice B l.length d) l.length (flatA l) ∧ FrX X w w' := by
  cases hI : c.idle ⟨too, kd, fr, ix, vw, vl, pr⟩ with
  | some l0 => exact c_handle1 h hX hok hwf ho hsd hkn too kd fr ix vw vl pr t0 t1 b0 b1 b2 b3 Ax nx cx hm l0 hI
  | none =>
    by_cases k4 : kd = 4
    · subst k4; exact c_handle2_4 h hX hok hwf ho hsd hkn too fr ix vw vl pr t0 t1 b0 b1 b2 b3 Ax nx cx hm hI
    by_cases k5 : kd = 5
    · subst k5; exact c_handle2_5 h hX hok hwf ho hsd hkn too fr ix vw vl pr t0 t1 b0 b1 b2 b3 Ax nx cx hm hI
    by_cases k3 : kd = 3
    · subst k3; exact c_handle3 h hX hok hwf ho hsd hkn too fr ix vw vl pr t0 t1 b0 b1 b2 b3 Ax nx cx hm hI
    exact c_handle4 h hX hok hwf ho hsd hkn too kd fr ix vw vl pr t0 t1 b0 b1 b2 b3 Ax nx cx hm k3 (fun e => e.elim k4 k5) hI
end
end Go.Np.Tryz
