/- What CheckNames needs. -/
import Derived.Test.YtgfiglcmhlbjjaaQCheckNamesCkJ
import Derived.Deep.RegionHeld3
import Derived.Deep.RegionLaw
set_option linter.unusedVariables false
set_option linter.unusedSimpArgs false
namespace Go.Np.Try
open Go.RowKit Go.Proofs Go.Proofs.Ytgfiglcmhlbjjaa.PX Go.Proofs.YtgfiglcmhlbjjaaW.PrintWords
section
variable {X : Nat → Prop} {w w' w1 : World} {p : Nat} {c c' : Co} {a a' : Pl}
set_option maxHeartbeats 2000000 in
set_option maxRecDepth 100000 in
theorem patience_calls (v b m : Int) : Calls Try.prog 57 #[.int .i64 v, .int .i64 b, .int .i64 m] w fun e w' => ∃ r, e = .returned (.int .i64 r) ∧ ∃ n, w' = w.drewN n := by
  refine calls_k fun R hR => ?_
  have fin : Hid (∀ r, R (.returned (.int .i64 r)) w) := fun r => hR.out _ _ ⟨r, rfl, 0, rfl⟩
  clear hR
  by_cases h0 : v < 0
  · have d0 : decide (v < 0) = true := decide_eq_true h0
    by_cases h1 : m < 1
    · have d1 : decide (m < 1) = true := decide_eq_true h1
      go_enter Try.func57, Try.ntmps57
      go_wp2
      exact fin.out _
    · have d1 : decide (m < 1) = false := decide_eq_false h1
      by_cases h2 : 1000 < m
      · have d2 : decide (1000 < m) = true := decide_eq_true h2
        go_enter Try.func57, Try.ntmps57
        go_wp2
        exact fin.out _
      · have d2 : decide (1000 < m) = false := decide_eq_false h2
        go_enter Try.func57, Try.ntmps57
        go_wp2
        exact fin.out _
  · have d0 : decide (v < 0) = false := decide_eq_false h0
    by_cases h1 : m < 1
    · have d1 : decide (m < 1) = true := decide_eq_true h1
      go_enter Try.func57, Try.ntmps57
      go_wp2
      exact fin.out _
    · have d1 : decide (m < 1) = false := decide_eq_false h1
      by_cases h2 : 1000 < m
      · have d2 : decide (1000 < m) = true := decide_eq_true h2
        go_enter Try.func57, Try.ntmps57
        go_wp2
        exact fin.out _
      · have d2 : decide (1000 < m) = false := decide_eq_false h2
        by_cases h3 : b < 1
        · have d3 : decide (b < 1) = true := decide_eq_true h3
          go_enter Try.func57, Try.ntmps57
          go_wp2
          exact fin.out _
        · have d3 : decide (b < 1) = false := decide_eq_false h3
          by_cases h4 : 100 < b
          · have d4 : decide (100 < b) = true := decide_eq_true h4
            go_enter Try.func57, Try.ntmps57
            go_wp2
            exact fin.out _
          · have d4 : decide (100 < b) = false := decide_eq_false h4
            by_cases h5 : 10 < v
            · have d5 : decide (10 < v) = true := decide_eq_true h5
              go_enter Try.func57, Try.ntmps57
              go_wp2
              exact fin.out _
            · have d5 : decide (10 < v) = false := decide_eq_false h5
              go_enter Try.func57, Try.ntmps57
              go_wp2
              exact fin.out _
set_option maxHeartbeats 2000000 in
set_option maxRecDepth 100000 in
theorem tset_calls (h : CoIn X w p c a) (v b m : Int) : Calls Try.prog 40 #[.pointer (some ⟨p, 7, none⟩), .int .i64 v, .int .i64 b, .int .i64 m] w fun e w' => ∃ r, e = .returned (.tuple #[]) ∧ ∃ n, w' = (w.drewN n).setCell ⟨p, 7, none⟩ (.int .i64 r) := by
  have HP := Lib.hid (patience_calls (w := w) v b m)
  have hc : ∀ n, (w.drewN n).cell? ⟨p, 7, none⟩ = some (.int .i64 a.left) := fun n => h.cells 7
  have hf : ∀ n, (w.drewN n).frozen? ⟨p, 7, none⟩ = false := fun n => froz_of h.box 7
  refine calls_k fun R hR => ?_
  clear h
  go_enter Try.func40, Try.ntmps40
  go_wp2_with (go_at_call 57; refine HP.out.mono ?_; rintro e w1 ⟨r, rfl, n, rfl⟩; have hc1 := hc n; have hf1 := hf n; clear hc hf HP)
  go_end0
  exact hR.out _ _ ⟨r, rfl, n, rfl⟩
set_option maxHeartbeats 4000000 in
set_option maxRecDepth 100000 in
theorem c_to (h : CoIn X w p c a) (s : Int) : Calls Try.prog 24 #[.pointer (some ⟨p, 0, none⟩), .int .i64 s] w fun e w' => e = .returned (.tuple #[]) ∧ ∃ r, CoIn X w' p (c.toS s) { a with left := r } ∧ FrX X w w' := by
  have hc := h.cells 6
  have hz := froz_of h.box 6
  obtain ⟨W1, hW1⟩ : ∃ W1, W1 = w.setCell ⟨p, 6, none⟩ (.int .i64 s) := ⟨_, rfl⟩
  have h1 : CoIn X W1 p (c.toS s) { a with left := a.left } := by rw [hW1]; exact h.set (a' := a) 6 _ rfl rfl rfl rfl rfl rfl rfl
  have H1 := Lib.hid h1
  have HX := Lib.hid (show FrX X w W1 by rw [hW1]; exact h.setX _ _)
  have HPX := Lib.hid h.pX
  have HT := Lib.hid (fun W (hW : Fr [] W1 W) => tset_calls (h1.fr hW) c.view c.base c.most)
  have c5 : W1.cell? ⟨p, 5, none⟩ = some (.int .i64 c.view) := h1.cells 5
  have c2 : W1.cell? ⟨p, 2, none⟩ = some (.int .i64 c.base) := h1.cells 2
  have c3 : W1.cell? ⟨p, 3, none⟩ = some (.int .i64 c.most) := h1.cells 3
  have HS : Hid (∀ W, Fr [] W1 W → W.cell? ⟨p, 5, none⟩ = some (.int .i64 c.view) ∧ W.cell? ⟨p, 2, none⟩ = some (.int .i64 c.base) ∧ W.cell? ⟨p, 3, none⟩ = some (.int .i64 c.most)) := fun W hW => ⟨cellF hW c5, cellF hW c2, cellF hW c3⟩
  clear h1 c5 c2 c3
  refine calls_k fun R hR => ?_
  simp [coreV] at hc
  clear h
  go_enter Try.func24, Try.ntmps24
  go_upto_region 1 with (fail)
  rw [← hW1]
  clear hW1 hc hz
  have HF0 : Hid (Fr [] W1 W1.drew) := (Fr.refl _ _).drew
  have hS0 := HS.out _ HF0.out
  go_region_held3 (fun W => W.cell? ⟨p, 5, none⟩ = some (.int .i64 c.view) ∧ W.cell? ⟨p, 2, none⟩ = some (.int .i64 c.base) ∧ W.cell? ⟨p, 3, none⟩ = some (.int .i64 c.most)) (with_reducible assumption)
    (first
      | (go_at_call 40; refine (HT.out _ HF0.out).mono ?_; rintro e w2 ⟨r, rfl, n, hw2⟩
         have hin : CoIn X w2 p (c.toS s) { a with left := r } := by rw [hw2]; exact (H1.out.fr (HF0.out.trans ((Fr.refl [] _).drewN n) (by simp))).set (a' := { a with left := r }) 7 _ rfl rfl rfl rfl rfl rfl rfl
         have hfx : FrX X W1 w2 := by rw [hw2]; exact ⟨[p], ((HF0.out.trans ((Fr.refl [] _).drewN n) (by simp)).mono (by simp)).setCell (.inl (by simp)) _, fun k hk => by simp at hk; subst hk; exact HPX.out⟩
         have hS2 : w2.cell? ⟨p, 5, none⟩ = some (.int .i64 c.view) ∧ w2.cell? ⟨p, 2, none⟩ = some (.int .i64 c.base) ∧ w2.cell? ⟨p, 3, none⟩ = some (.int .i64 c.most) := ⟨hin.cells 5, hin.cells 2, hin.cells 3⟩
         have HIN := Lib.hid hin
         have HFX := Lib.hid hfx
         clear hin hfx hw2 HT))
  all_goals
    go_wp2
    go_end0
    exact hR.out _ _ ⟨rfl, r, HIN.out, HX.out.trans HFX.out⟩
end
end Go.Np.Try
