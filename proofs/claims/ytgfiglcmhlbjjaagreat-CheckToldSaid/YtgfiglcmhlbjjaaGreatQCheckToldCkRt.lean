/- What CheckTold needs. -/
import Derived.Test.YtgfiglcmhlbjjaaGreatQCheckToldCkRe
import Derived.Test.YtgfiglcmhlbjjaaGreatQCheckToldNpD
import Derived.Deep.Cut
import Derived.WalkMore
set_option linter.unusedVariables false
set_option linter.unusedSimpArgs false
namespace Go.Np.Tryz
open Go.RowKit Go.Proofs Go.Proofs.YtgfiglcmhlbjjaaGreat.PX Go.Proofs.YtgfiglcmhlbjjaaGreatW.PrintWords
attribute [local go_sem high] eqA27
def nameOk (n : Int) : Bool := decide (n = 0) || namedB n
def idxB (x : Int) : Bool := decide (0 ≤ x) && decide (x ≤ 1000)
def rightM (kd fr ix vw vl pr : Int) (tz em tr br : Bool) : Bool :=
  if (decide (fr < 0) || decide (6 < fr)) = true then false
  else if ((decide (kd ≠ 0) && !tz) || (decide (kd ≠ 1) && !em) || (decide (kd ≠ 3) && decide (pr ≠ 0))) = true then false
  else if kd = 0 then decide (ix = 0) && decide (vw = 0) && decide (vl = 0) && tr
  else if kd = 1 then decide (ix = 0) && decide (vw = 0) && decide (vl = 0) && br
  else if kd = 2 then decide (ix = 0) && decide (vw = 0) && nameOk vl
  else if kd = 3 then idxB ix && idxB vw && nameOk vl && decide (-1 ≤ pr) && decide (pr < vw)
  else if kd = 4 ∨ kd = 5 then idxB ix && idxB vw && (decide (vl = -1) || nameOk vl)
  else if kd = 6 then idxB ix && decide (vw = 0) && nameOk vl
  else false
theorem same06_ev (l : List S27) (k : Nat) : neaptideref06_Same.f (k + 1) l [] = some (decide (l = [])) := by
  unfold neaptideref06_Same.f
  cases l with
  | nil => rw [if_pos rfl]; unfold neaptideref06_Same.l0; simp
  | cons x l => rw [if_neg (by simp; omega)]; simp
theorem empty_ev (b0 b1 b2 b3 : Int) (l : List S27) : neaptideref12_empty.f 1 b0 b1 b2 b3 l = some (decide (b0 = 0) && decide (b1 = 0) && decide (b2 = 0) && decide (b3 = 0) && decide (l = [])) := by
  unfold neaptideref12_empty.f neaptideref07_Same.f
  rw [same06_ev]
  by_cases h0 : b0 = 0 <;> by_cases h1 : b1 = 0 <;> by_cases h2 : b2 = 0 <;> by_cases h3 : b3 = 0 <;> simp [h0, h1, h2, h3]
set_option maxHeartbeats 16000000 in
set_option maxRecDepth 100000 in
theorem r12_calls {w : World} (kd fr ix vw vl pr t0 t1 b0 b1 b2 b3 : Int) (Ax : Option Addr) (cx : Nat) (l : List S27) (hl : Kd.C k27 w Ax l.length l) (hc : l.length ≤ cx) (hb3 : -9223372036854775808 ≤ b3 ∧ b3 ≤ 9223372036854775807) (hvl : -9223372036854775808 ≤ vl ∧ vl ≤ 9223372036854775807) :
    Calls Tryz.prog 8 #[.agg #[.int .i64 kd, .int .i64 fr, .int .i64 ix, .int .i64 vw, .int .i64 vl, .int .i64 pr, .int .i64 t0, .int .i64 t1, .int .i64 b0, .int .i64 b1, .int .i64 b2, .int .i64 b3, .slice Ax l.length cx]] w fun e w' => e = .returned (.bool (rightM kd fr ix vw vl pr (decide (t0 = 0) && decide (t1 = 0)) (decide (b0 = 0) && decide (b1 = 0) && decide (b2 = 0) && decide (b3 = 0) && decide (l = [])) (okTx ⟨t0, t1⟩) (rightB ⟨b0, b1, b2, b3, l⟩))) ∧ Fr [] w w' := by
  obtain ⟨n, hn⟩ : ∃ n, l.length = n := ⟨_, rfl⟩
  obtain ⟨tz, htz⟩ : ∃ tz : Bool, tz = (decide (t0 = 0) && decide (t1 = 0)) := ⟨_, rfl⟩
  obtain ⟨em, hem⟩ : ∃ em : Bool, em = (decide (b0 = 0) && decide (b1 = 0) && decide (b2 = 0) && decide (b3 = 0) && decide (l = [])) := ⟨_, rfl⟩
  obtain ⟨tr, htr⟩ : ∃ tr, okTx ⟨t0, t1⟩ = tr := ⟨_, rfl⟩
  obtain ⟨br, hbr⟩ : ∃ br, rightB ⟨b0, b1, b2, b3, l⟩ = br := ⟨_, rfl⟩
  obtain ⟨nb, hnb⟩ : ∃ nb, nameOk vl = nb := ⟨_, rfl⟩
  have HLC : Hid (∀ W, Fr [] w W → Kd.C k27 W Ax l.length l) := fun W hW => Kd.C_below hl hW.below
  have HEM : Hid (∀ W, Fr [] w W → Calls Tryz.prog 23 #[.agg #[.int .i64 b0, .int .i64 b1, .int .i64 b2, .int .i64 b3, .slice Ax n cx]] W fun e w' => e = .returned (.bool em) ∧ Fr [] W w') := fun W hW => by
    have := (neaptideref12_empty.calls 1 b0 b1 b2 b3 Ax cx l _ W (HLC.out W hW) hc (empty_ev b0 b1 b2 b3 l)).mono (fun e w' h => (⟨h.1, Fr.of_below [] h.2⟩ : _ ∧ Fr [] W w'))
    rw [← hem, hn] at this
    exact this
  have HTR : Hid (∀ W, Fr [] w W → Calls Tryz.prog 24 #[.agg #[.int .i64 t0, .int .i64 t1]] W fun e w' => e = .returned (.bool tr) ∧ Fr [] W w') := fun W hW => by
    have := (neaptideref06_Right.calls t0 t1 _ W (rright_tx t0 t1)).mono (fun e w' h => (⟨h.1, Fr.of_below [] h.2⟩ : _ ∧ Fr [] W w'))
    rw [htr] at this
    exact this
  have HBR : Hid (∀ W, Fr [] w W → Calls Tryz.prog 25 #[.agg #[.int .i64 b0, .int .i64 b1, .int .i64 b2, .int .i64 b3, .slice Ax n cx]] W fun e w' => e = .returned (.bool br) ∧ Fr [] W w') := fun W hW => by
    have := (neaptideref07_Right.calls 70 b0 b1 b2 b3 Ax cx l _ W (HLC.out W hW) hc (rright_ev ⟨b0, b1, b2, b3, l⟩ hb3 70 (by omega))).mono (fun e w' h => (⟨h.1, Fr.of_below [] h.2⟩ : _ ∧ Fr [] W w'))
    rw [hbr, hn] at this
    exact this
  have HNM : Hid (∀ W, Fr [] w W → Calls Tryz.prog 26 #[.int .i64 vl] W fun e w' => e = .returned (.bool nb) ∧ Fr [] W w') := fun W hW => by
    have := (neaptideref12_name.calls vl _ W (name_ev vl hvl)).mono (fun e w' h => (⟨h.1, by obtain ⟨k, rfl⟩ := h.2; exact (Fr.refl _ _).drewN k⟩ : _ ∧ Fr [] W w'))
    rw [show (decide (vl = 0) || namedB vl) = nb from hnb] at this
    exact this
  obtain ⟨W1, hW1⟩ : ∃ W1, W1 = w.alloc (.cells #[.int .i64 kd, .int .i64 fr, .int .i64 ix, .int .i64 vw, .int .i64 vl, .int .i64 pr, .int .i64 t0, .int .i64 t1, .int .i64 b0, .int .i64 b1, .int .i64 b2, .int .i64 b3, .slice Ax n cx] 32) := ⟨_, rfl⟩
  obtain ⟨g, hg⟩ : ∃ g, g = w.heap.size := ⟨_, rfl⟩
  have hF1 : Fr [] w W1 := by rw [hW1]; exact (Fr.refl _ _).alloc _
  have hb1 : W1.heap[g]? = some (.cells #[.int .i64 kd, .int .i64 fr, .int .i64 ix, .int .i64 vw, .int .i64 vl, .int .i64 pr, .int .i64 t0, .int .i64 t1, .int .i64 b0, .int .i64 b1, .int .i64 b2, .int .i64 b3, .slice Ax n cx] 32 (0, 0)) := by rw [hW1, hg]; exact heap_alloc_new _ _
  have HB : Hid (∀ W, Fr [] W1 W → W.heap[g]? = some (.cells #[.int .i64 kd, .int .i64 fr, .int .i64 ix, .int .i64 vw, .int .i64 vl, .int .i64 pr, .int .i64 t0, .int .i64 t1, .int .i64 b0, .int .i64 b1, .int .i64 b2, .int .i64 b3, .slice Ax n cx] 32 (0, 0))) := fun W hW => (hW.block g (Array.getElem?_eq_some_iff.1 hb1).1 (by simp)).trans hb1
  have HF1 := Lib.hid hF1
  obtain ⟨rm, hrm⟩ : ∃ rm, rm = rightM kd fr ix vw vl pr tz em tr br := ⟨_, rfl⟩
  obtain ⟨bA, hbA⟩ : ∃ b : Bool, b = (decide (fr < 0) || decide (6 < fr)) := ⟨_, rfl⟩
  obtain ⟨bB, hbB⟩ : ∃ b : Bool, b = ((decide (kd ≠ 0) && !tz) || (decide (kd ≠ 1) && !em) || (decide (kd ≠ 3) && decide (pr ≠ 0))) := ⟨_, rfl⟩
  obtain ⟨bV, hbV⟩ : ∃ b : Bool, b = idxB vw := ⟨_, rfl⟩
  obtain ⟨bI, hbI⟩ : ∃ b : Bool, b = idxB ix := ⟨_, rfl⟩
  have HRM : Hid (rm = if bA = true then false else if bB = true then false
    else if kd = 0 then decide (ix = 0) && decide (vw = 0) && decide (vl = 0) && tr
    else if kd = 1 then decide (ix = 0) && decide (vw = 0) && decide (vl = 0) && br
    else if kd = 2 then decide (ix = 0) && decide (vw = 0) && nb
    else if kd = 3 then bI && bV && nb && decide (-1 ≤ pr) && decide (pr < vw)
    else if kd = 4 ∨ kd = 5 then bI && bV && (decide (vl = -1) || nb)
    else if kd = 6 then bI && decide (vw = 0) && nb
    else false) := by show _ = _; rw [hrm, hbA, hbB, hbV, hbI, ← hnb]; rfl
  have HTZ := Lib.hid htz
  have HA := Lib.hid hbA
  have HBB := Lib.hid hbB
  have HV := Lib.hid hbV
  have HI := Lib.hid hbI
  rw [hn]
  refine calls_k fun R hR => ?_
  have HRR : Hid (∀ W, Fr [] w W → R (.returned (.bool rm)) W) := fun W hW => hR.out _ _ ⟨by rw [hrm, htz, hem, htr, hbr], hW⟩
  clear hl hc hb3 hvl hF1 hb1 hrm hbA hbB hbV hbI htz hem htr hbr hnb hn hR HLC
  go_enter Tryz.func8, Tryz.ntmps8
  go_upto_region 1 with (fail)
  rw [← hW1, ← hg]
  clear hW1 hg
  have hb1 := HB.out _ (Fr.refl _ _)
  have c0 : W1.cell? ⟨g, 0, none⟩ = some (.int .i64 kd) := cell_of hb1 0
  have c1 : W1.cell? ⟨g, 1, none⟩ = some (.int .i64 fr) := cell_of hb1 1
  have c2 : W1.cell? ⟨g, 2, none⟩ = some (.int .i64 ix) := cell_of hb1 2
  have c3 : W1.cell? ⟨g, 3, none⟩ = some (.int .i64 vw) := cell_of hb1 3
  have c4 : W1.cell? ⟨g, 4, none⟩ = some (.int .i64 vl) := cell_of hb1 4
  have c5 : W1.cell? ⟨g, 5, none⟩ = some (.int .i64 pr) := cell_of hb1 5
  have c6 : W1.cell? ⟨g, 6, none⟩ = some (.int .i64 t0) := cell_of hb1 6
  have c7 : W1.cell? ⟨g, 7, none⟩ = some (.int .i64 t1) := cell_of hb1 7
  have c8 : W1.cell? ⟨g, 8, none⟩ = some (.int .i64 b0) := cell_of hb1 8
  have c9 : W1.cell? ⟨g, 9, none⟩ = some (.int .i64 b1) := cell_of hb1 9
  have c10 : W1.cell? ⟨g, 10, none⟩ = some (.int .i64 b2) := cell_of hb1 10
  have c11 : W1.cell? ⟨g, 11, none⟩ = some (.int .i64 b3) := cell_of hb1 11
  have c12 : W1.cell? ⟨g, 12, none⟩ = some (.slice Ax n cx) := cell_of hb1 12
  clear hb1
  go_cut [12] (fun v wc => v = .bool bA ∧ W1 = wc)
  case first =>
    by_cases n0 : fr < 0
    · have d0 : decide (fr < 0) = true := decide_eq_true n0
      have HX : Hid (bA = true) := by show _ = _; rw [HA.out]; simp [n0]
      clear n0
      go_wp2
      go_meet
      exact ⟨by rw [HX.out], rfl⟩
    · have d0 : decide (fr < 0) = false := decide_eq_false n0
      have HX : Hid (bA = decide (6 < fr)) := by show _ = _; rw [HA.out]; simp [n0]
      clear n0
      go_wp2
      go_meet
      exact ⟨by rw [HX.out], rfl⟩
  case rest =>
    obtain ⟨rfl, rfl⟩ := hcut
    cases bA with
    | true =>
      have HE : Hid (rm = false) := by show _ = _; rw [HRM.out, if_pos rfl]
      go_wp2
      rw [← HE.out]
      exact HRR.out _ HF1.out
    | false =>
      rw [if_neg (by simp)] at HRM
      go_upto_region 3 with (fail)
      go_cut [42] (fun v wc => v = .bool bB ∧ Hid (Fr [] W1 wc))
      case first =>
        have HEC := Lib.hid (HEM.out _ HF1.out)
        by_cases nk0 : kd = 0
        · have enk0 : (kd == 0) = true := by simpa using nk0
          have fnk0 : (kd != 0) = false := by simpa using nk0
          have Snk0 := Lib.hid nk0
          have onk01 : (kd == 1) = false := by rw [nk0]; decide
          have qnk01 : (kd != 1) = true := by rw [nk0]; decide
          have onk03 : (kd == 3) = false := by rw [nk0]; decide
          have qnk03 : (kd != 3) = true := by rw [nk0]; decide
          cases em with
          | false =>
            have HX : Hid (bB = true) := by show _ = _; rw [HBB.out]; simp [nk0]
            clear nk0
            go_wp2_with (go_at_call 23; refine HEC.out.mono ?_; rintro e w3 ⟨rfl, hf3⟩; have HF3 := Lib.hid hf3; have hb5 := HB.out _ hf3; have k0 : w3.cell? ⟨g, 0, none⟩ = some (.int .i64 kd) := cell_of hb5 0; have k5 : w3.cell? ⟨g, 5, none⟩ = some (.int .i64 pr) := cell_of hb5 5; clear hf3 hb5 HEC)
            try (have hs := Snk0.out; subst hs)
            go_meet
            exact ⟨by rw [HX.out], HF3.out⟩
          | true =>
            by_cases nq : pr = 0
            · have enq : (pr == 0) = true := by simpa using nq
              have fnq : (pr != 0) = false := by simpa using nq
              have Snq := Lib.hid nq
              have HX : Hid (bB = false) := by show _ = _; rw [HBB.out]; simp [nk0, nq]
              clear nk0 nq
              go_wp2_with (go_at_call 23; refine HEC.out.mono ?_; rintro e w3 ⟨rfl, hf3⟩; have HF3 := Lib.hid hf3; have hb5 := HB.out _ hf3; have k0 : w3.cell? ⟨g, 0, none⟩ = some (.int .i64 kd) := cell_of hb5 0; have k5 : w3.cell? ⟨g, 5, none⟩ = some (.int .i64 pr) := cell_of hb5 5; clear hf3 hb5 HEC)
              try (have hs := Snk0.out; subst hs)
              try (have hs := Snq.out; subst hs)
              go_meet
              exact ⟨by rw [HX.out], HF3.out⟩
            · have enq : (pr == 0) = false := by simpa using nq
              have fnq : (pr != 0) = true := by simpa using nq
              have HX : Hid (bB = true) := by show _ = _; rw [HBB.out]; simp [nk0, nq]
              clear nk0 nq
              go_wp2_with (go_at_call 23; refine HEC.out.mono ?_; rintro e w3 ⟨rfl, hf3⟩; have HF3 := Lib.hid hf3; have hb5 := HB.out _ hf3; have k0 : w3.cell? ⟨g, 0, none⟩ = some (.int .i64 kd) := cell_of hb5 0; have k5 : w3.cell? ⟨g, 5, none⟩ = some (.int .i64 pr) := cell_of hb5 5; clear hf3 hb5 HEC)
              try (have hs := Snk0.out; subst hs)
              go_meet
              exact ⟨by rw [HX.out], HF3.out⟩
        · have enk0 : (kd == 0) = false := by simpa using nk0
          have fnk0 : (kd != 0) = true := by simpa using nk0
          by_cases nt0 : t0 = 0
          · have ent0 : (t0 == 0) = true := by simpa using nt0
            have fnt0 : (t0 != 0) = false := by simpa using nt0
            have Snt0 := Lib.hid nt0
            by_cases nt1 : t1 = 0
            · have ent1 : (t1 == 0) = true := by simpa using nt1
              have fnt1 : (t1 != 0) = false := by simpa using nt1
              have Snt1 := Lib.hid nt1
              have HT : tz = true := by rw [HTZ.out]; simp [nt0, nt1]
              subst HT
              clear nt0 nt1
              by_cases nk1 : kd = 1
              · have enk1 : (kd == 1) = true := by simpa using nk1
                have fnk1 : (kd != 1) = false := by simpa using nk1
                have Snk1 := Lib.hid nk1
                have onk10 : (kd == 0) = false := by rw [nk1]; decide
                have qnk10 : (kd != 0) = true := by rw [nk1]; decide
                have onk13 : (kd == 3) = false := by rw [nk1]; decide
                have qnk13 : (kd != 3) = true := by rw [nk1]; decide
                by_cases nq : pr = 0
                · have enq : (pr == 0) = true := by simpa using nq
                  have fnq : (pr != 0) = false := by simpa using nq
                  have Snq := Lib.hid nq
                  have HX : Hid (bB = false) := by show _ = _; rw [HBB.out]; simp [nk0, nk1, nq]
                  clear nk0 nk1 nq
                  go_wp2
                  try (have hs := Snt0.out; subst hs)
                  try (have hs := Snt1.out; subst hs)
                  try (have hs := Snk1.out; subst hs)
                  try (have hs := Snq.out; subst hs)
                  go_meet
                  exact ⟨by rw [HX.out], Fr.refl _ _⟩
                · have enq : (pr == 0) = false := by simpa using nq
                  have fnq : (pr != 0) = true := by simpa using nq
                  have HX : Hid (bB = true) := by show _ = _; rw [HBB.out]; simp [nk0, nk1, nq]
                  clear nk0 nk1 nq
                  go_wp2
                  try (have hs := Snt0.out; subst hs)
                  try (have hs := Snt1.out; subst hs)
                  try (have hs := Snk1.out; subst hs)
                  go_meet
                  exact ⟨by rw [HX.out], Fr.refl _ _⟩
              · have enk1 : (kd == 1) = false := by simpa using nk1
                have fnk1 : (kd != 1) = true := by simpa using nk1
                cases em with
                | false =>
                  have HX : Hid (bB = true) := by show _ = _; rw [HBB.out]; simp [nk0, nk1]
                  clear nk0 nk1
                  go_wp2_with (go_at_call 23; refine HEC.out.mono ?_; rintro e w3 ⟨rfl, hf3⟩; have HF3 := Lib.hid hf3; have hb5 := HB.out _ hf3; have k0 : w3.cell? ⟨g, 0, none⟩ = some (.int .i64 kd) := cell_of hb5 0; have k5 : w3.cell? ⟨g, 5, none⟩ = some (.int .i64 pr) := cell_of hb5 5; clear hf3 hb5 HEC)
                  try (have hs := Snt0.out; subst hs)
                  try (have hs := Snt1.out; subst hs)
                  go_meet
                  exact ⟨by rw [HX.out], HF3.out⟩
                | true =>
                  by_cases nk3 : kd = 3
                  · have enk3 : (kd == 3) = true := by simpa using nk3
                    have fnk3 : (kd != 3) = false := by simpa using nk3
                    have Snk3 := Lib.hid nk3
                    have onk30 : (kd == 0) = false := by rw [nk3]; decide
                    have qnk30 : (kd != 0) = true := by rw [nk3]; decide
                    have onk31 : (kd == 1) = false := by rw [nk3]; decide
                    have qnk31 : (kd != 1) = true := by rw [nk3]; decide
                    have HX : Hid (bB = false) := by show _ = _; rw [HBB.out]; simp [nk0, nk1, nk3]
                    clear nk0 nk1 nk3
                    go_wp2_with (go_at_call 23; refine HEC.out.mono ?_; rintro e w3 ⟨rfl, hf3⟩; have HF3 := Lib.hid hf3; have hb5 := HB.out _ hf3; have k0 : w3.cell? ⟨g, 0, none⟩ = some (.int .i64 kd) := cell_of hb5 0; have k5 : w3.cell? ⟨g, 5, none⟩ = some (.int .i64 pr) := cell_of hb5 5; clear hf3 hb5 HEC)
                    try (have hs := Snt0.out; subst hs)
                    try (have hs := Snt1.out; subst hs)
                    try (have hs := Snk3.out; subst hs)
                    go_meet
                    exact ⟨by rw [HX.out], HF3.out⟩
                  · have enk3 : (kd == 3) = false := by simpa using nk3
                    have fnk3 : (kd != 3) = true := by simpa using nk3
                    by_cases nq : pr = 0
                    · have enq : (pr == 0) = true := by simpa using nq
                      have fnq : (pr != 0) = false := by simpa using nq
                      have Snq := Lib.hid nq
                      have HX : Hid (bB = false) := by show _ = _; rw [HBB.out]; simp [nk0, nk1, nk3, nq]
                      clear nk0 nk1 nk3 nq
                      go_wp2_with (go_at_call 23; refine HEC.out.mono ?_; rintro e w3 ⟨rfl, hf3⟩; have HF3 := Lib.hid hf3; have hb5 := HB.out _ hf3; have k0 : w3.cell? ⟨g, 0, none⟩ = some (.int .i64 kd) := cell_of hb5 0; have k5 : w3.cell? ⟨g, 5, none⟩ = some (.int .i64 pr) := cell_of hb5 5; clear hf3 hb5 HEC)
                      try (have hs := Snt0.out; subst hs)
                      try (have hs := Snt1.out; subst hs)
                      try (have hs := Snq.out; subst hs)
                      go_meet
                      exact ⟨by rw [HX.out], HF3.out⟩
                    · have enq : (pr == 0) = false := by simpa using nq
                      have fnq : (pr != 0) = true := by simpa using nq
                      have HX : Hid (bB = true) := by show _ = _; rw [HBB.out]; simp [nk0, nk1, nk3, nq]
                      clear nk0 nk1 nk3 nq
                      go_wp2_with (go_at_call 23; refine HEC.out.mono ?_; rintro e w3 ⟨rfl, hf3⟩; have HF3 := Lib.hid hf3; have hb5 := HB.out _ hf3; have k0 : w3.cell? ⟨g, 0, none⟩ = some (.int .i64 kd) := cell_of hb5 0; have k5 : w3.cell? ⟨g, 5, none⟩ = some (.int .i64 pr) := cell_of hb5 5; clear hf3 hb5 HEC)
                      try (have hs := Snt0.out; subst hs)
                      try (have hs := Snt1.out; subst hs)
                      go_meet
                      exact ⟨by rw [HX.out], HF3.out⟩
            · have ent1 : (t1 == 0) = false := by simpa using nt1
              have fnt1 : (t1 != 0) = true := by simpa using nt1
              have HT : tz = false := by rw [HTZ.out]; simp [nt0, nt1]
              subst HT
              have HX : Hid (bB = true) := by show _ = _; rw [HBB.out]; simp [nk0, nt0, nt1]
              clear nk0 nt0 nt1
              go_wp2
              try (have hs := Snt0.out; subst hs)
              go_meet
              exact ⟨by rw [HX.out], Fr.refl _ _⟩
          · have ent0 : (t0 == 0) = false := by simpa using nt0
            have fnt0 : (t0 != 0) = true := by simpa using nt0
            have HT : tz = false := by rw [HTZ.out]; simp [nt0]
            subst HT
            have HX : Hid (bB = true) := by show _ = _; rw [HBB.out]; simp [nk0, nt0]
            clear nk0 nt0
            go_wp2
            go_meet
            exact ⟨by rw [HX.out], Fr.refl _ _⟩
      case rest =>
        obtain ⟨rfl, HFb⟩ := hcut
        obtain ⟨W3, rfl⟩ : ∃ W3, W3 = wc := ⟨_, rfl⟩
        clear c0 c1 c2 c3 c4 c5 c6 c7 c8 c9 c10 c11 c12
        have HFw : Hid (Fr [] w W3) := HF1.out.trans HFb.out (by simp)
        have hb3 := HB.out _ HFb.out
        have c0 : W3.cell? ⟨g, 0, none⟩ = some (.int .i64 kd) := cell_of hb3 0
        have c1 : W3.cell? ⟨g, 1, none⟩ = some (.int .i64 fr) := cell_of hb3 1
        have c2 : W3.cell? ⟨g, 2, none⟩ = some (.int .i64 ix) := cell_of hb3 2
        have c3 : W3.cell? ⟨g, 3, none⟩ = some (.int .i64 vw) := cell_of hb3 3
        have c4 : W3.cell? ⟨g, 4, none⟩ = some (.int .i64 vl) := cell_of hb3 4
        have c5 : W3.cell? ⟨g, 5, none⟩ = some (.int .i64 pr) := cell_of hb3 5
        have c6 : W3.cell? ⟨g, 6, none⟩ = some (.int .i64 t0) := cell_of hb3 6
        have c7 : W3.cell? ⟨g, 7, none⟩ = some (.int .i64 t1) := cell_of hb3 7
        have c8 : W3.cell? ⟨g, 8, none⟩ = some (.int .i64 b0) := cell_of hb3 8
        have c9 : W3.cell? ⟨g, 9, none⟩ = some (.int .i64 b1) := cell_of hb3 9
        have c10 : W3.cell? ⟨g, 10, none⟩ = some (.int .i64 b2) := cell_of hb3 10
        have c11 : W3.cell? ⟨g, 11, none⟩ = some (.int .i64 b3) := cell_of hb3 11
        have c12 : W3.cell? ⟨g, 12, none⟩ = some (.slice Ax n cx) := cell_of hb3 12
        clear hb3
        cases bB with
        | true =>
          have HE : Hid (rm = false) := by show _ = _; rw [HRM.out, if_pos rfl]
          go_wp2
          rw [← HE.out]
          exact HRR.out _ HFw.out
        | false =>
          rw [if_neg (by simp)] at HRM
          go_upto_region 5 with (fail)
          go_cut [3] (fun v wc => v = .bool bV ∧ W3 = wc)
          case first =>
            by_cases n0 : 0 ≤ vw
            · have d0 : decide (0 ≤ vw) = true := decide_eq_true n0
              have HX : Hid (bV = decide (vw ≤ 1000)) := by show _ = _; rw [HV.out]; unfold idxB; simp [n0]
              clear n0
              go_wp2
              go_meet
              exact ⟨by rw [HX.out], rfl⟩
            · have d0 : decide (0 ≤ vw) = false := decide_eq_false n0
              have HX : Hid (bV = false) := by show _ = _; rw [HV.out]; unfold idxB; simp [n0]
              clear n0
              go_wp2
              go_meet
              exact ⟨by rw [HX.out], rfl⟩
          case rest =>
            obtain ⟨rfl, rfl⟩ := hcut
            go_upto_region 6 with (fail)
            go_cut [4] (fun v wc => v = .bool bI ∧ W3 = wc)
            case first =>
              by_cases n0 : 0 ≤ ix
              · have d0 : decide (0 ≤ ix) = true := decide_eq_true n0
                have HX : Hid (bI = decide (ix ≤ 1000)) := by show _ = _; rw [HI.out]; unfold idxB; simp [n0]
                clear n0
                go_wp2
                go_meet
                exact ⟨by rw [HX.out], rfl⟩
              · have d0 : decide (0 ≤ ix) = false := decide_eq_false n0
                have HX : Hid (bI = false) := by show _ = _; rw [HI.out]; unfold idxB; simp [n0]
                clear n0
                go_wp2
                go_meet
                exact ⟨by rw [HX.out], rfl⟩
            case rest =>
              obtain ⟨rfl, rfl⟩ := hcut
              have HNW := Lib.hid (HNM.out _ HFw.out)
              have HTW := Lib.hid (HTR.out _ HFw.out)
              have HBW := Lib.hid (HBR.out _ HFw.out)
              by_cases nk0 : kd = 0
              · have enk0 : (kd == 0) = true := by simpa using nk0
                subst nk0
                clear enk0
                by_cases nz0 : ix = 0
                · have enz0 : (ix == 0) = true := by simpa using nz0
                  have fnz0 : (ix != 0) = false := by simpa using nz0
                  have Snz0 := Lib.hid nz0
                  by_cases nz1 : vw = 0
                  · have enz1 : (vw == 0) = true := by simpa using nz1
                    have fnz1 : (vw != 0) = false := by simpa using nz1
                    have Snz1 := Lib.hid nz1
                    by_cases nz2 : vl = 0
                    · have enz2 : (vl == 0) = true := by simpa using nz2
                      have fnz2 : (vl != 0) = false := by simpa using nz2
                      have Snz2 := Lib.hid nz2
                      have HE : Hid (rm = tr) := by show _ = _; rw [HRM.out]; simp [nz0, nz1, nz2]
                      clear nz0 nz1 nz2
                      go_wp2_with (go_at_call 24; refine HTW.out.mono ?_; rintro e w5 ⟨rfl, hf5⟩; have HF5 : Hid (Fr [] w w5) := HFw.out.trans hf5 (by simp); have hb5 := HB.out _ (HFb.out.trans hf5 (by simp)); have k3 : w5.cell? ⟨g, 3, none⟩ = some (.int .i64 vw) := cell_of hb5 3; have k5 : w5.cell? ⟨g, 5, none⟩ = some (.int .i64 pr) := cell_of hb5 5; clear hf5 hb5 HTW)
                      rw [← HE.out]
                      exact HRR.out _ HF5.out
                    · have enz2 : (vl == 0) = false := by simpa using nz2
                      have fnz2 : (vl != 0) = true := by simpa using nz2
                      have HE : Hid (rm = false) := by show _ = _; rw [HRM.out]; simp [nz0, nz1, nz2]
                      clear nz0 nz1 nz2
                      go_wp2
                      rw [← HE.out]
                      exact HRR.out _ HFw.out
                  · have enz1 : (vw == 0) = false := by simpa using nz1
                    have fnz1 : (vw != 0) = true := by simpa using nz1
                    have HE : Hid (rm = false) := by show _ = _; rw [HRM.out]; simp [nz0, nz1]
                    clear nz0 nz1
                    go_wp2
                    rw [← HE.out]
                    exact HRR.out _ HFw.out
                · have enz0 : (ix == 0) = false := by simpa using nz0
                  have fnz0 : (ix != 0) = true := by simpa using nz0
                  have HE : Hid (rm = false) := by show _ = _; rw [HRM.out]; simp [nz0]
                  clear nz0
                  go_wp2
                  rw [← HE.out]
                  exact HRR.out _ HFw.out
              · have enk0 : (kd == 0) = false := by simpa using nk0
                by_cases nk1 : kd = 1
                · have enk1 : (kd == 1) = true := by simpa using nk1
                  subst nk1
                  clear enk1
                  by_cases nz0 : ix = 0
                  · have enz0 : (ix == 0) = true := by simpa using nz0
                    have fnz0 : (ix != 0) = false := by simpa using nz0
                    have Snz0 := Lib.hid nz0
                    by_cases nz1 : vw = 0
                    · have enz1 : (vw == 0) = true := by simpa using nz1
                      have fnz1 : (vw != 0) = false := by simpa using nz1
                      have Snz1 := Lib.hid nz1
                      by_cases nz2 : vl = 0
                      · have enz2 : (vl == 0) = true := by simpa using nz2
                        have fnz2 : (vl != 0) = false := by simpa using nz2
                        have Snz2 := Lib.hid nz2
                        have HE : Hid (rm = br) := by show _ = _; rw [HRM.out]; simp [nz0, nz1, nz2]
                        clear nz0 nz1 nz2
                        go_wp2_with (go_at_call 25; refine HBW.out.mono ?_; rintro e w5 ⟨rfl, hf5⟩; have HF5 : Hid (Fr [] w w5) := HFw.out.trans hf5 (by simp); have hb5 := HB.out _ (HFb.out.trans hf5 (by simp)); have k3 : w5.cell? ⟨g, 3, none⟩ = some (.int .i64 vw) := cell_of hb5 3; have k5 : w5.cell? ⟨g, 5, none⟩ = some (.int .i64 pr) := cell_of hb5 5; clear hf5 hb5 HBW)
                        rw [← HE.out]
                        exact HRR.out _ HF5.out
                      · have enz2 : (vl == 0) = false := by simpa using nz2
                        have fnz2 : (vl != 0) = true := by simpa using nz2
                        have HE : Hid (rm = false) := by show _ = _; rw [HRM.out]; simp [nz0, nz1, nz2]
                        clear nz0 nz1 nz2
                        go_wp2
                        rw [← HE.out]
                        exact HRR.out _ HFw.out
                    · have enz1 : (vw == 0) = false := by simpa using nz1
                      have fnz1 : (vw != 0) = true := by simpa using nz1
                      have HE : Hid (rm = false) := by show _ = _; rw [HRM.out]; simp [nz0, nz1]
                      clear nz0 nz1
                      go_wp2
                      rw [← HE.out]
                      exact HRR.out _ HFw.out
                  · have enz0 : (ix == 0) = false := by simpa using nz0
                    have fnz0 : (ix != 0) = true := by simpa using nz0
                    have HE : Hid (rm = false) := by show _ = _; rw [HRM.out]; simp [nz0]
                    clear nz0
                    go_wp2
                    rw [← HE.out]
                    exact HRR.out _ HFw.out
                · have enk1 : (kd == 1) = false := by simpa using nk1
                  by_cases nk2 : kd = 2
                  · have enk2 : (kd == 2) = true := by simpa using nk2
                    subst nk2
                    clear enk2
                    by_cases nz0 : ix = 0
                    · have enz0 : (ix == 0) = true := by simpa using nz0
                      have fnz0 : (ix != 0) = false := by simpa using nz0
                      have Snz0 := Lib.hid nz0
                      by_cases nz1 : vw = 0
                      · have enz1 : (vw == 0) = true := by simpa using nz1
                        have fnz1 : (vw != 0) = false := by simpa using nz1
                        have Snz1 := Lib.hid nz1
                        have HE : Hid (rm = nb) := by show _ = _; rw [HRM.out]; simp [nz0, nz1]
                        clear nz0 nz1
                        go_wp2_with (go_at_call 26; refine HNW.out.mono ?_; rintro e w5 ⟨rfl, hf5⟩; have HF5 : Hid (Fr [] w w5) := HFw.out.trans hf5 (by simp); have hb5 := HB.out _ (HFb.out.trans hf5 (by simp)); have k3 : w5.cell? ⟨g, 3, none⟩ = some (.int .i64 vw) := cell_of hb5 3; have k5 : w5.cell? ⟨g, 5, none⟩ = some (.int .i64 pr) := cell_of hb5 5; clear hf5 hb5 HNW)
                        rw [← HE.out]
                        exact HRR.out _ HF5.out
                      · have enz1 : (vw == 0) = false := by simpa using nz1
                        have fnz1 : (vw != 0) = true := by simpa using nz1
                        have HE : Hid (rm = false) := by show _ = _; rw [HRM.out]; simp [nz0, nz1]
                        clear nz0 nz1
                        go_wp2
                        rw [← HE.out]
                        exact HRR.out _ HFw.out
                    · have enz0 : (ix == 0) = false := by simpa using nz0
                      have fnz0 : (ix != 0) = true := by simpa using nz0
                      have HE : Hid (rm = false) := by show _ = _; rw [HRM.out]; simp [nz0]
                      clear nz0
                      go_wp2
                      rw [← HE.out]
                      exact HRR.out _ HFw.out
                  · have enk2 : (kd == 2) = false := by simpa using nk2
                    by_cases nk3 : kd = 3
                    · have enk3 : (kd == 3) = true := by simpa using nk3
                      subst nk3
                      clear enk3
                      cases bI with
                      | false =>
                        have HE : Hid (rm = false) := by show _ = _; rw [HRM.out]; simp []
                        go_wp2
                        rw [← HE.out]
                        exact HRR.out _ HFw.out
                      | true =>
                        cases bV with
                        | false =>
                          have HE : Hid (rm = false) := by show _ = _; rw [HRM.out]; simp []
                          go_wp2
                          rw [← HE.out]
                          exact HRR.out _ HFw.out
                        | true =>
                          cases nb with
                          | false =>
                            have HE : Hid (rm = false) := by show _ = _; rw [HRM.out]; simp []
                            go_wp2_with (go_at_call 26; refine HNW.out.mono ?_; rintro e w5 ⟨rfl, hf5⟩; have HF5 : Hid (Fr [] w w5) := HFw.out.trans hf5 (by simp); have hb5 := HB.out _ (HFb.out.trans hf5 (by simp)); have k3 : w5.cell? ⟨g, 3, none⟩ = some (.int .i64 vw) := cell_of hb5 3; have k5 : w5.cell? ⟨g, 5, none⟩ = some (.int .i64 pr) := cell_of hb5 5; clear hf5 hb5 HNW)
                            rw [← HE.out]
                            exact HRR.out _ HF5.out
                          | true =>
                            by_cases ng : -1 ≤ pr
                            · have dg : decide (-1 ≤ pr) = true := decide_eq_true ng
                              have HE : Hid (rm = decide (pr < vw)) := by show _ = _; rw [HRM.out]; simp [ng]
                              clear ng
                              go_wp2_with (go_at_call 26; refine HNW.out.mono ?_; rintro e w5 ⟨rfl, hf5⟩; have HF5 : Hid (Fr [] w w5) := HFw.out.trans hf5 (by simp); have hb5 := HB.out _ (HFb.out.trans hf5 (by simp)); have k3 : w5.cell? ⟨g, 3, none⟩ = some (.int .i64 vw) := cell_of hb5 3; have k5 : w5.cell? ⟨g, 5, none⟩ = some (.int .i64 pr) := cell_of hb5 5; clear hf5 hb5 HNW)
                              rw [← HE.out]
                              exact HRR.out _ HF5.out
                            · have dg : decide (-1 ≤ pr) = false := decide_eq_false ng
                              have HE : Hid (rm = false) := by show _ = _; rw [HRM.out]; simp [ng]
                              clear ng
                              go_wp2_with (go_at_call 26; refine HNW.out.mono ?_; rintro e w5 ⟨rfl, hf5⟩; have HF5 : Hid (Fr [] w w5) := HFw.out.trans hf5 (by simp); have hb5 := HB.out _ (HFb.out.trans hf5 (by simp)); have k3 : w5.cell? ⟨g, 3, none⟩ = some (.int .i64 vw) := cell_of hb5 3; have k5 : w5.cell? ⟨g, 5, none⟩ = some (.int .i64 pr) := cell_of hb5 5; clear hf5 hb5 HNW)
                              rw [← HE.out]
                              exact HRR.out _ HF5.out
                    · have enk3 : (kd == 3) = false := by simpa using nk3
                      by_cases nk4 : kd = 4
                      · have enk4 : (kd == 4) = true := by simpa using nk4
                        subst nk4
                        clear enk4
                        cases bI with
                        | false =>
                          have HE : Hid (rm = false) := by show _ = _; rw [HRM.out]; simp []
                          go_wp2
                          rw [← HE.out]
                          exact HRR.out _ HFw.out
                        | true =>
                          cases bV with
                          | false =>
                            have HE : Hid (rm = false) := by show _ = _; rw [HRM.out]; simp []
                            go_wp2
                            rw [← HE.out]
                            exact HRR.out _ HFw.out
                          | true =>
                            by_cases nm : vl = -1
                            · have em1 : (vl == -1) = true := by simpa using nm
                              have HE : Hid (rm = true) := by show _ = _; rw [HRM.out]; simp [nm]
                              clear nm
                              go_wp2
                              rw [← HE.out]
                              exact HRR.out _ HFw.out
                            · have em1 : (vl == -1) = false := by simpa using nm
                              have HE : Hid (rm = nb) := by show _ = _; rw [HRM.out]; simp [nm]
                              clear nm
                              go_wp2_with (go_at_call 26; refine HNW.out.mono ?_; rintro e w5 ⟨rfl, hf5⟩; have HF5 : Hid (Fr [] w w5) := HFw.out.trans hf5 (by simp); have hb5 := HB.out _ (HFb.out.trans hf5 (by simp)); have k3 : w5.cell? ⟨g, 3, none⟩ = some (.int .i64 vw) := cell_of hb5 3; have k5 : w5.cell? ⟨g, 5, none⟩ = some (.int .i64 pr) := cell_of hb5 5; clear hf5 hb5 HNW)
                              rw [← HE.out]
                              exact HRR.out _ HF5.out
                      · have enk4 : (kd == 4) = false := by simpa using nk4
                        by_cases nk5 : kd = 5
                        · have enk5 : (kd == 5) = true := by simpa using nk5
                          subst nk5
                          clear enk5
                          cases bI with
                          | false =>
                            have HE : Hid (rm = false) := by show _ = _; rw [HRM.out]; simp []
                            go_wp2
                            rw [← HE.out]
                            exact HRR.out _ HFw.out
                          | true =>
                            cases bV with
                            | false =>
                              have HE : Hid (rm = false) := by show _ = _; rw [HRM.out]; simp []
                              go_wp2
                              rw [← HE.out]
                              exact HRR.out _ HFw.out
                            | true =>
                              by_cases nm : vl = -1
                              · have em1 : (vl == -1) = true := by simpa using nm
                                have HE : Hid (rm = true) := by show _ = _; rw [HRM.out]; simp [nm]
                                clear nm
                                go_wp2
                                rw [← HE.out]
                                exact HRR.out _ HFw.out
                              · have em1 : (vl == -1) = false := by simpa using nm
                                have HE : Hid (rm = nb) := by show _ = _; rw [HRM.out]; simp [nm]
                                clear nm
                                go_wp2_with (go_at_call 26; refine HNW.out.mono ?_; rintro e w5 ⟨rfl, hf5⟩; have HF5 : Hid (Fr [] w w5) := HFw.out.trans hf5 (by simp); have hb5 := HB.out _ (HFb.out.trans hf5 (by simp)); have k3 : w5.cell? ⟨g, 3, none⟩ = some (.int .i64 vw) := cell_of hb5 3; have k5 : w5.cell? ⟨g, 5, none⟩ = some (.int .i64 pr) := cell_of hb5 5; clear hf5 hb5 HNW)
                                rw [← HE.out]
                                exact HRR.out _ HF5.out
                        · have enk5 : (kd == 5) = false := by simpa using nk5
                          by_cases nk6 : kd = 6
                          · have enk6 : (kd == 6) = true := by simpa using nk6
                            subst nk6
                            clear enk6
                            cases bI with
                            | false =>
                              have HE : Hid (rm = false) := by show _ = _; rw [HRM.out]; simp []
                              go_wp2
                              rw [← HE.out]
                              exact HRR.out _ HFw.out
                            | true =>
                              by_cases nz1 : vw = 0
                              · have enz1 : (vw == 0) = true := by simpa using nz1
                                have fnz1 : (vw != 0) = false := by simpa using nz1
                                have Snz1 := Lib.hid nz1
                                have HE : Hid (rm = nb) := by show _ = _; rw [HRM.out]; simp [nz1]
                                clear nz1
                                go_wp2_with (go_at_call 26; refine HNW.out.mono ?_; rintro e w5 ⟨rfl, hf5⟩; have HF5 : Hid (Fr [] w w5) := HFw.out.trans hf5 (by simp); have hb5 := HB.out _ (HFb.out.trans hf5 (by simp)); have k3 : w5.cell? ⟨g, 3, none⟩ = some (.int .i64 vw) := cell_of hb5 3; have k5 : w5.cell? ⟨g, 5, none⟩ = some (.int .i64 pr) := cell_of hb5 5; clear hf5 hb5 HNW)
                                rw [← HE.out]
                                exact HRR.out _ HF5.out
                              · have enz1 : (vw == 0) = false := by simpa using nz1
                                have fnz1 : (vw != 0) = true := by simpa using nz1
                                have HE : Hid (rm = false) := by show _ = _; rw [HRM.out]; simp [nz1]
                                clear nz1
                                go_wp2
                                rw [← HE.out]
                                exact HRR.out _ HFw.out
                          · have enk6 : (kd == 6) = false := by simpa using nk6
                            have HE : Hid (rm = false) := by show _ = _; rw [HRM.out]; simp [nk0, nk1, nk2, nk3, nk4, nk5, nk6]
                            clear nk0 nk1 nk2 nk3 nk4 nk5 nk6
                            go_wp2
                            rw [← HE.out]
                            exact HRR.out _ HFw.out
end Go.Np.Tryz
