/- What CheckNames needs. -/
import Derived.Test.YtgfiglcmhlbjjaaQCheckNamesCkT
set_option linter.unusedVariables false
set_option linter.unusedSimpArgs false
namespace Go.Np.Try
open Go.RowKit Go.Proofs Go.Proofs.Ytgfiglcmhlbjjaa.PX Go.Proofs.YtgfiglcmhlbjjaaW.PrintWords
section
variable {X : Nat → Prop} {w w' w1 : World} {p : Nat} {c c' : Co} {a a' : Pl}
set_option maxHeartbeats 4000000 in
set_option maxRecDepth 100000 in
theorem ttick_calls (h : CoIn X w p c a) : Calls Try.prog 19 #[.pointer (some ⟨p, 7, none⟩)] w fun e w' => ∃ b r, e = .returned (.bool b) ∧ CoIn X w' p c { a with left := r } ∧ FrX X w w' := by
  have hc : w.cell? ⟨p, 7, none⟩ = some (.int .i64 a.left) := h.cells 7
  have hz := froz_of h.box 7
  obtain ⟨l, hl⟩ : ∃ l, a.left = l := ⟨_, rfl⟩
  rw [hl] at hc
  have HSET : Hid (∀ W r s, CoIn X W p c { a with left := s } → CoIn X (W.setCell ⟨p, 7, none⟩ (.int .i64 r)) p c { a with left := r } ∧ FrX X W (W.setCell ⟨p, 7, none⟩ (.int .i64 r))) := fun W r s hW => ⟨hW.set (a' := { a with left := r }) 7 _ rfl rfl rfl rfl rfl rfl rfl, hW.setX 7 _⟩
  have H0 : Hid (CoIn X w p c { a with left := l }) := by show CoIn _ _ _ _ _; rw [← hl]; exact h
  refine calls_k fun R hR => ?_
  clear h hl
  by_cases hgt : 0 < l
  · have b1 : decide (0 < l) = true := decide_eq_true hgt
    clear hgt
    go_enter Try.func19, Try.ntmps19
    go_upto_region 3 with (fail)
    obtain ⟨l1, hl1⟩ : ∃ l1, l1 = wrap64 (l - 1) := ⟨_, rfl⟩
    obtain ⟨V, hV⟩ : ∃ V, V = w.setCell ⟨p, 7, none⟩ (.int .i64 l1) := ⟨_, rfl⟩
    have H1 := Lib.hid (HSET.out w l1 l H0.out)
    rw [← hV] at H1
    rw [← hl1, ← hV]
    clear hV hl1 hc hz b1
    have hc : V.cell? ⟨p, 7, none⟩ = some (.int .i64 l1) := H1.out.1.cells 7
    have hz := froz_of H1.out.1.box 7
    go_upto_region 4 with (fail)
    obtain ⟨l2, hl2⟩ : ∃ l2, l2 = max 0 l1 := ⟨_, rfl⟩
    obtain ⟨V2, hV2⟩ : ∃ V2, V2 = V.setCell ⟨p, 7, none⟩ (.int .i64 l2) := ⟨_, rfl⟩
    have H2 := Lib.hid (HSET.out V l2 l1 H1.out.1)
    rw [← hV2] at H2
    rw [← hl2, ← hV2]
    clear hV2 hl2 hc hz
    have hc : V2.cell? ⟨p, 7, none⟩ = some (.int .i64 l2) := H2.out.1.cells 7
    go_wp2
    exact hR.out _ _ ⟨_, l2, rfl, H2.out.1, H1.out.2.trans H2.out.2⟩
  · have b1 : decide (0 < l) = false := decide_eq_false hgt
    clear hgt
    go_enter Try.func19, Try.ntmps19
    go_upto_region 4 with (fail)
    obtain ⟨l2, hl2⟩ : ∃ l2, l2 = max 0 l := ⟨_, rfl⟩
    obtain ⟨V2, hV2⟩ : ∃ V2, V2 = w.setCell ⟨p, 7, none⟩ (.int .i64 l2) := ⟨_, rfl⟩
    have H2 := Lib.hid (HSET.out w l2 l H0.out)
    rw [← hV2] at H2
    rw [← hl2, ← hV2]
    clear hV2 hl2 hc hz
    have hc : V2.cell? ⟨p, 7, none⟩ = some (.int .i64 l2) := H2.out.1.cells 7
    go_wp2
    exact hR.out _ _ ⟨_, l2, rfl, H2.out.1, H2.out.2⟩
set_option maxHeartbeats 4000000 in
set_option maxRecDepth 100000 in
theorem c_lapse (h : CoIn X w p c a) (hX : ∀ k, X k → k < w.heap.size) (hok : c.Ok) (hl : c.m.length < 999999) (ho : c.out.length ≤ 100000000) :
    Calls Try.prog 20 #[.pointer (some ⟨p, 0, none⟩)] w fun e w' => e = .returned (.tuple #[]) ∧ CoAt X w' p c.lapse ∧ FrX X w w' := by
  obtain ⟨st, hst⟩ : ∃ st, c.step = st := ⟨_, rfl⟩
  have s6 : w.cell? ⟨p, 6, none⟩ = some (.int .i64 st) := by rw [← hst]; exact h.cells 6
  have hs := hok.step
  rw [hst] at hs
  have H := Lib.hid h
  have HX := Lib.hid hX
  have HOK := Lib.hid hok
  have HL := Lib.hid hl
  have HO := Lib.hid ho
  have HST := Lib.hid hst
  have hs' : st = 0 ∨ st = 1 ∨ st = 2 ∨ st = 3 := by omega
  refine calls_k fun R hR => ?_
  clear h hX hok hl ho hst hs
  rcases hs' with rfl | rfl | rfl | rfl
  · have HLA : Hid (c.lapse = c) := by show _ = _; unfold Co.lapse; rw [HST.out]; rfl
    go_enter Try.func20, Try.ntmps20
    go_wp2
    go_end0
    refine hR.out _ _ ⟨rfl, ?_, FrX.of0 (Fr.refl _ _)⟩
    rw [HLA.out]
    exact ⟨a, H.out⟩
  · have HLA : Hid (c.lapse = (c.cast 4 (-1)).toS 2) := by show _ = _; unfold Co.lapse; rw [HST.out]; rfl
    have HCC := Lib.hid (c_cast H.out HX.out HOK.out HL.out HO.out 4 (-1) (.inl rfl))
    go_enter Try.func20, Try.ntmps20
    go_wp2_with (first
      | (go_at_call 28; refine HCC.out.mono ?_; rintro e w1 ⟨rfl, ⟨ov, h1⟩, hf1⟩; have HF1 := Lib.hid hf1; have HTO := Lib.hid (c_to h1 2); clear h1 hf1 HCC)
      | (go_at_call 24; refine HTO.out.mono ?_; rintro e w2 ⟨rfl, r, h2, hf2⟩; have H2 := Lib.hid h2; have HF2 := Lib.hid (HF1.out.trans hf2); clear h2 hf2 HTO))
    go_end0
    refine hR.out _ _ ⟨rfl, ?_, HF2.out⟩
    rw [HLA.out]
    exact ⟨_, H2.out⟩
  · have HLA : Hid (c.lapse = (c.cast 5 (-1)).toS 3) := by show _ = _; unfold Co.lapse; rw [HST.out]; rfl
    have HCC := Lib.hid (c_cast H.out HX.out HOK.out HL.out HO.out 5 (-1) (.inr rfl))
    go_enter Try.func20, Try.ntmps20
    go_wp2_with (first
      | (go_at_call 28; refine HCC.out.mono ?_; rintro e w1 ⟨rfl, ⟨ov, h1⟩, hf1⟩; have HF1 := Lib.hid hf1; have HTO := Lib.hid (c_to h1 3); clear h1 hf1 HCC)
      | (go_at_call 24; refine HTO.out.mono ?_; rintro e w2 ⟨rfl, r, h2, hf2⟩; have H2 := Lib.hid h2; have HF2 := Lib.hid (HF1.out.trans hf2); clear h2 hf2 HTO))
    go_end0
    refine hR.out _ _ ⟨rfl, ?_, HF2.out⟩
    rw [HLA.out]
    exact ⟨_, H2.out⟩
  · obtain ⟨d, hd⟩ : ∃ d, d = c.toS 3 := ⟨_, rfl⟩
    have hdo : d.Ok := by rw [hd]; exact HOK.out.toS (by omega)
    have hdu : d.out.length ≤ 100000000 := by rw [hd]; exact HO.out
    have hv0 : d.view = c.view := by rw [hd]; rfl
    obtain ⟨v, hv⟩ : ∃ v, d.view = v := ⟨_, rfl⟩
    have hvb := hdo.view
    rw [hv] at hvb
    have hwr : wrap64 (v + 1) = v + 1 := w64 (by omega) (by omega)
    have HLA : Hid (c.lapse = if v < 1000 then d.enter (v + 1) else d) := by show _ = _; unfold Co.lapse; rw [HST.out, ← hd, ← hv0, hv]; rfl
    have HTO : Hid (Calls Try.prog 24 #[.pointer (some ⟨p, 0, none⟩), .int .i64 3] w fun e w' => e = .returned (.tuple #[]) ∧ ∃ b, CoIn X w' p d b ∧ FrX X w w') := by
      refine (c_to H.out 3).mono ?_
      rintro e w' ⟨rfl, r, h1, h2⟩
      exact ⟨rfl, _, by rw [hd]; exact h1, h2⟩
    have HD := Lib.hid hdo
    have HDU := Lib.hid hdu
    have HV := Lib.hid hv
    have HWR : Hid (∀ W b, CoIn X W p d b → FrX X w W → Calls Try.prog 18 #[.pointer (some ⟨p, 0, none⟩), .int .i64 (v + 1)] W fun e w' => e = .returned (.tuple #[]) ∧ CoAt X w' p (d.enter (v + 1)) ∧ FrX X W w') := fun W b hW hf => c_enter hW (fun k hk => Nat.lt_of_lt_of_le (HX.out k hk) hf.size) HD.out HDU.out (v + 1)
    clear hdo hdu hd hv0 hv hvb
    by_cases hlt : v < 1000
    · rw [if_pos hlt] at HLA
      have b1 : decide (v < 1000) = true := decide_eq_true hlt
      clear hlt
      go_enter Try.func20, Try.ntmps20
      go_wp2_with (first
        | (go_at_call 24; refine HTO.out.mono ?_; rintro e w2 ⟨rfl, b, h2, hf2⟩; have c5 : w2.cell? ⟨p, 5, none⟩ = some (.int .i64 v) := (by rw [← HV.out]; exact h2.cells 5); have HEN := Lib.hid (HWR.out _ _ h2 hf2); have HF2 := Lib.hid hf2; clear h2 hf2 HTO)
        | (go_at_call 18; refine HEN.out.mono ?_; rintro e w3 ⟨rfl, h3, hf3⟩; have H3 := Lib.hid h3; have HF3 := Lib.hid (HF2.out.trans hf3); clear h3 hf3 HEN))
      go_end0
      refine hR.out _ _ ⟨rfl, ?_, HF3.out⟩
      rw [HLA.out]
      exact H3.out
    · rw [if_neg hlt] at HLA
      have b1 : decide (v < 1000) = false := decide_eq_false hlt
      clear hlt
      go_enter Try.func20, Try.ntmps20
      go_wp2_with (go_at_call 24; refine HTO.out.mono ?_; rintro e w2 ⟨rfl, b, h2, hf2⟩; have c5 : w2.cell? ⟨p, 5, none⟩ = some (.int .i64 v) := (by rw [← HV.out]; exact h2.cells 5); have H2 := Lib.hid h2; have HF2 := Lib.hid hf2; clear h2 hf2 HTO)
      go_end0
      refine hR.out _ _ ⟨rfl, ?_, HF2.out⟩
      rw [HLA.out]
      exact ⟨_, H2.out⟩
end
end Go.Np.Try
