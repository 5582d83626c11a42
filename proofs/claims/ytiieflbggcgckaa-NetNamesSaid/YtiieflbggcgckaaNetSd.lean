/- NetSides: the walk. -/
import Derived.Test.YtiieflbggcgckaaBagOwn
import Derived.Test.YtiieflbggcgckaaSame
import Derived.Test.YtiieflbggcgckaaSpread
import Derived.Test.YtiieflbggcgckaaArr
import Derived.Deep.RegionHeld3
set_option linter.unusedVariables false
set_option linter.unusedSimpArgs false
namespace Go.Np.Try
open Go.RowKit Go.Proofs Go.Conc Go.Proofs.YtiieflbggcgckaaW.PrintWords
theorem same_sl {w : World} {u v : Value} {a b : List Int} (ha : SlI w u a) (hb : SlI w v b) : Calls Try.prog 33 #[u, v] w fun e w' => e = .returned (.bool (decide (a = b))) ∧ Fr [] w w' := by
  obtain ⟨A, c, rfl, _, h1⟩ := ha
  obtain ⟨B, d, rfl, _, h2⟩ := hb
  refine (same_calls h1 h2).mono ?_
  rintro e w' ⟨rfl, n, rfl⟩
  exact ⟨rfl, (Fr.refl _ _).drewN n⟩
theorem held_fr {w1 W W' : World} {g p q : Nat} {m n0 n1 s0 s1 s2 : Int} (h : IsSd w1 W g m ∧ Fr [] w1 W ∧ W.cell? ⟨p, 0, none⟩ = some (.int .i64 n0) ∧ W.cell? ⟨p, 1, none⟩ = some (.int .i64 n1) ∧ W.cell? ⟨q, 0, none⟩ = some (.int .i64 s0) ∧ W.cell? ⟨q, 1, none⟩ = some (.int .i64 s1) ∧ W.cell? ⟨q, 2, none⟩ = some (.int .i64 s2) ∧ p < W.heap.size ∧ q < W.heap.size) (hF : Fr [] W W') (hI : IsSd w1 W' g m) : IsSd w1 W' g m ∧ Fr [] w1 W' ∧ W'.cell? ⟨p, 0, none⟩ = some (.int .i64 n0) ∧ W'.cell? ⟨p, 1, none⟩ = some (.int .i64 n1) ∧ W'.cell? ⟨q, 0, none⟩ = some (.int .i64 s0) ∧ W'.cell? ⟨q, 1, none⟩ = some (.int .i64 s1) ∧ W'.cell? ⟨q, 2, none⟩ = some (.int .i64 s2) ∧ p < W'.heap.size ∧ q < W'.heap.size :=
  ⟨hI, h.2.1.trans hF (by simp), (hF.cell h.2.2.2.2.2.2.2.1 (by simp)).trans h.2.2.1, (hF.cell h.2.2.2.2.2.2.2.1 (by simp)).trans h.2.2.2.1, (hF.cell h.2.2.2.2.2.2.2.2 (by simp)).trans h.2.2.2.2.1, (hF.cell h.2.2.2.2.2.2.2.2 (by simp)).trans h.2.2.2.2.2.1, (hF.cell h.2.2.2.2.2.2.2.2 (by simp)).trans h.2.2.2.2.2.2.1, Nat.lt_of_lt_of_le h.2.2.2.2.2.2.2.1 hF.size, Nat.lt_of_lt_of_le h.2.2.2.2.2.2.2.2 hF.size⟩
theorem sd_fr {w1 W W' : World} {g : Nat} {m : Int} (h : IsSd w1 W g m) (hF : Fr [] W W') : IsSd w1 W' g m := ⟨(hF.block g h.lt (by simp)).trans h.1, h.2⟩

set_option maxHeartbeats 8000000 in
set_option maxRecDepth 100000 in
theorem sides_calls {w : World} (m n0 n1 s0 s1 s2 : Int) (hm : (Lit.int .i64 m).wf = true) (h0 : (Lit.int .i64 n0).wf = true) (h1 : (Lit.int .i64 n1).wf = true) :
    Calls Try.prog 13 #[.int .i64 m, .agg #[.int .i64 n0, .int .i64 n1], .agg #[.int .i64 s0, .int .i64 s1, .int .i64 s2]] w fun e w' => e = .returned (.bool true) ∧ Fr [] w w' := by
  refine calls_k fun R hR => ?_
  go_enter Try.func13, Try.ntmps13
  go_wp2_with (first
      | (go_at_call 27; refine (netAlive_calls _).mono ?_; rintro e w1 ⟨rfl, hF1⟩)
      | (go_at_call 38; refine (nsides_calls (Fr.refl [] _)).mono ?_; rintro e w2 ⟨g, rfl, hI, hF2⟩)
      | (go_at_call 42; refine (ncut_calls m hF2 hI).mono ?_; rintro e w3 ⟨rfl, hI3, hF3⟩))
  obtain ⟨p, hp⟩ : ∃ p, p = w.heap.size := ⟨_, rfl⟩
  obtain ⟨q, hq⟩ : ∃ q, q = w.heap.size + 1 := ⟨_, rfl⟩
  obtain ⟨W0, hW0⟩ : ∃ W0, W0 = (w.alloc (.cells #[.int .i64 n0, .int .i64 n1] 55)).alloc (.cells #[.int .i64 s0, .int .i64 s1, .int .i64 s2] 56) := ⟨_, rfl⟩
  rw [← hW0] at hF1
  have hFw : Fr [] w W0 := by rw [hW0]; exact ((Fr.refl _ _).alloc _).alloc _
  have hsz : W0.heap.size = w.heap.size + 2 := by rw [hW0]; simp
  have hbp : W0.heap[p]? = some (.cells #[.int .i64 n0, .int .i64 n1] 55) := by
    rw [hW0, hp, ((Fr.refl [] _).alloc _).block _ (by simp) (by simp), heap_alloc_new]
  have hbq : W0.heap[q]? = some (.cells #[.int .i64 s0, .int .i64 s1, .int .i64 s2] 56) := by
    rw [hW0, show q = (w.alloc (.cells #[.int .i64 n0, .int .i64 n1] 55)).heap.size by simp [hq], heap_alloc_new]
  have hF03 : Fr [] W0 w3 := hF1.trans hF3 (by simp)
  have hR' : Hid (∀ e w', e = .returned (.bool true) ∧ Fr [] w1 w' → R e w') := fun e w' h => hR.out e w' ⟨h.1, hFw.trans (hF1.trans h.2 (by simp)) (by simp)⟩
  have hpc : ∀ (i : Nat) (c : Value), (#[Value.int .i64 n0, .int .i64 n1])[i]? = some c → w3.cell? ⟨p, i, none⟩ = some c := by
    intro i c hc
    rw [hF03.cell (by show p < _; omega) (by simp)]
    simpa [World.cell?, hbp] using hc
  have hqc : ∀ (i : Nat) (c : Value), (#[Value.int .i64 s0, .int .i64 s1, .int .i64 s2])[i]? = some c → w3.cell? ⟨q, i, none⟩ = some c := by
    intro i c hc
    rw [hF03.cell (by show q < _; omega) (by simp)]
    simpa [World.cell?, hbq] using hc
  have hS : IsSd w1 w3 g m ∧ Fr [] w1 w3 ∧ w3.cell? ⟨p, 0, none⟩ = some (.int .i64 n0) ∧ w3.cell? ⟨p, 1, none⟩ = some (.int .i64 n1) ∧ w3.cell? ⟨q, 0, none⟩ = some (.int .i64 s0) ∧ w3.cell? ⟨q, 1, none⟩ = some (.int .i64 s1) ∧ w3.cell? ⟨q, 2, none⟩ = some (.int .i64 s2) ∧ p < w3.heap.size ∧ q < w3.heap.size := ⟨hI3, hF3, hpc 0 _ rfl, hpc 1 _ rfl, hqc 0 _ rfl, hqc 1 _ rfl, hqc 2 _ rfl, by have := hF03.size; omega, by have := hF03.size; omega⟩
  rw [← hq, ← hp]
  clear hbp hbq hF03 hpc hqc hsz hFw hW0 hp hq hF1 hF2 hI hI3 hF3 hR
  obtain ⟨b, hb⟩ : ∃ b, b = sameP m n0 n1 := ⟨_, rfl⟩
  obtain ⟨L, hL⟩ : ∃ L, L = spP s0 s1 s2 := ⟨_, rfl⟩
  have C41 : Hid (∀ W, IsSd w1 W g m ∧ Fr [] w1 W ∧ W.cell? ⟨p, 0, none⟩ = some (.int .i64 n0) ∧ W.cell? ⟨p, 1, none⟩ = some (.int .i64 n1) ∧ W.cell? ⟨q, 0, none⟩ = some (.int .i64 s0) ∧ W.cell? ⟨q, 1, none⟩ = some (.int .i64 s1) ∧ W.cell? ⟨q, 2, none⟩ = some (.int .i64 s2) ∧ p < W.heap.size ∧ q < W.heap.size → Calls Try.prog 41 #[.pointer (some ⟨g, 0, none⟩), .int .i64 n0, .int .i64 n1] W fun e w' => e = .returned (.bool b) ∧ (IsSd w1 w' g m ∧ Fr [] w1 w' ∧ w'.cell? ⟨p, 0, none⟩ = some (.int .i64 n0) ∧ w'.cell? ⟨p, 1, none⟩ = some (.int .i64 n1) ∧ w'.cell? ⟨q, 0, none⟩ = some (.int .i64 s0) ∧ w'.cell? ⟨q, 1, none⟩ = some (.int .i64 s1) ∧ w'.cell? ⟨q, 2, none⟩ = some (.int .i64 s2) ∧ p < w'.heap.size ∧ q < w'.heap.size) ∧ Fr [] W w') := by
    intro W h
    refine (nsame_calls n0 n1 h.2.1 h.1).mono ?_
    rintro e w' ⟨rfl, a1, a2, a3⟩
    exact ⟨by rw [hb], held_fr h a3 a1, a3⟩
  have C43 : Hid (∀ W, IsSd w1 W g m ∧ Fr [] w1 W ∧ W.cell? ⟨p, 0, none⟩ = some (.int .i64 n0) ∧ W.cell? ⟨p, 1, none⟩ = some (.int .i64 n1) ∧ W.cell? ⟨q, 0, none⟩ = some (.int .i64 s0) ∧ W.cell? ⟨q, 1, none⟩ = some (.int .i64 s1) ∧ W.cell? ⟨q, 2, none⟩ = some (.int .i64 s2) ∧ p < W.heap.size ∧ q < W.heap.size → Calls Try.prog 43 #[.int .i64 m, .int .i64 n0, .int .i64 n1] W fun e w' => e = .returned (.bool b) ∧ (IsSd w1 w' g m ∧ Fr [] w1 w' ∧ w'.cell? ⟨p, 0, none⟩ = some (.int .i64 n0) ∧ w'.cell? ⟨p, 1, none⟩ = some (.int .i64 n1) ∧ w'.cell? ⟨q, 0, none⟩ = some (.int .i64 s0) ∧ w'.cell? ⟨q, 1, none⟩ = some (.int .i64 s1) ∧ w'.cell? ⟨q, 2, none⟩ = some (.int .i64 s2) ∧ p < w'.heap.size ∧ q < w'.heap.size) ∧ Fr [] W w') := by
    intro W h
    refine (rsame_calls m n0 n1 hm h0 h1).mono ?_
    rintro e w' ⟨rfl, a3⟩
    exact ⟨by rw [hb], held_fr h a3 (sd_fr h.1 a3), a3⟩
  have C44 : Hid (∀ W, IsSd w1 W g m ∧ Fr [] w1 W ∧ W.cell? ⟨p, 0, none⟩ = some (.int .i64 n0) ∧ W.cell? ⟨p, 1, none⟩ = some (.int .i64 n1) ∧ W.cell? ⟨q, 0, none⟩ = some (.int .i64 s0) ∧ W.cell? ⟨q, 1, none⟩ = some (.int .i64 s1) ∧ W.cell? ⟨q, 2, none⟩ = some (.int .i64 s2) ∧ p < W.heap.size ∧ q < W.heap.size → Calls Try.prog 44 #[.int .i64 s0, .int .i64 s1, .int .i64 s2] W fun e w' => ∃ v, e = .returned v ∧ (IsSd w1 w' g m ∧ Fr [] w1 w' ∧ w'.cell? ⟨p, 0, none⟩ = some (.int .i64 n0) ∧ w'.cell? ⟨p, 1, none⟩ = some (.int .i64 n1) ∧ w'.cell? ⟨q, 0, none⟩ = some (.int .i64 s0) ∧ w'.cell? ⟨q, 1, none⟩ = some (.int .i64 s1) ∧ w'.cell? ⟨q, 2, none⟩ = some (.int .i64 s2) ∧ p < w'.heap.size ∧ q < w'.heap.size) ∧ Fr [] W w' ∧ SlI w' v L) := by
    intro W h
    refine (spread_calls s0 s1 s2).mono ?_
    rintro e w' ⟨v, rfl, a1, a3⟩
    exact ⟨v, rfl, held_fr h a3 (sd_fr h.1 a3), a3, by rw [hL]; exact a1⟩
  have C45 : Hid (∀ W, IsSd w1 W g m ∧ Fr [] w1 W ∧ W.cell? ⟨p, 0, none⟩ = some (.int .i64 n0) ∧ W.cell? ⟨p, 1, none⟩ = some (.int .i64 n1) ∧ W.cell? ⟨q, 0, none⟩ = some (.int .i64 s0) ∧ W.cell? ⟨q, 1, none⟩ = some (.int .i64 s1) ∧ W.cell? ⟨q, 2, none⟩ = some (.int .i64 s2) ∧ p < W.heap.size ∧ q < W.heap.size → Calls Try.prog 45 #[.int .i64 s0, .int .i64 s1, .int .i64 s2] W fun e w' => ∃ v, e = .returned v ∧ (IsSd w1 w' g m ∧ Fr [] w1 w' ∧ w'.cell? ⟨p, 0, none⟩ = some (.int .i64 n0) ∧ w'.cell? ⟨p, 1, none⟩ = some (.int .i64 n1) ∧ w'.cell? ⟨q, 0, none⟩ = some (.int .i64 s0) ∧ w'.cell? ⟨q, 1, none⟩ = some (.int .i64 s1) ∧ w'.cell? ⟨q, 2, none⟩ = some (.int .i64 s2) ∧ p < w'.heap.size ∧ q < w'.heap.size) ∧ Fr [] W w' ∧ SlI w' v L) := by
    intro W h
    refine (rspread_calls s0 s1 s2).mono ?_
    rintro e w' ⟨v, rfl, a1, a3⟩
    exact ⟨v, rfl, held_fr h a3 (sd_fr h.1 a3), a3, by rw [hL]; exact a1⟩
  have C33 : Hid (∀ W u v, IsSd w1 W g m ∧ Fr [] w1 W ∧ W.cell? ⟨p, 0, none⟩ = some (.int .i64 n0) ∧ W.cell? ⟨p, 1, none⟩ = some (.int .i64 n1) ∧ W.cell? ⟨q, 0, none⟩ = some (.int .i64 s0) ∧ W.cell? ⟨q, 1, none⟩ = some (.int .i64 s1) ∧ W.cell? ⟨q, 2, none⟩ = some (.int .i64 s2) ∧ p < W.heap.size ∧ q < W.heap.size → SlI W u L → SlI W v L → Calls Try.prog 33 #[u, v] W fun e w' => e = .returned (.bool true) ∧ (IsSd w1 w' g m ∧ Fr [] w1 w' ∧ w'.cell? ⟨p, 0, none⟩ = some (.int .i64 n0) ∧ w'.cell? ⟨p, 1, none⟩ = some (.int .i64 n1) ∧ w'.cell? ⟨q, 0, none⟩ = some (.int .i64 s0) ∧ w'.cell? ⟨q, 1, none⟩ = some (.int .i64 s1) ∧ w'.cell? ⟨q, 2, none⟩ = some (.int .i64 s2) ∧ p < w'.heap.size ∧ q < w'.heap.size) ∧ Fr [] W w') := by
    intro W u v h hu hv
    refine (same_sl hu hv).mono ?_
    rintro e w' ⟨rfl, a3⟩
    exact ⟨by simp, held_fr h a3 (sd_fr h.1 a3), a3⟩
  have CD : Hid (IsSd w1 w3.drew g m ∧ Fr [] w1 w3.drew ∧ w3.drew.cell? ⟨p, 0, none⟩ = some (.int .i64 n0) ∧ w3.drew.cell? ⟨p, 1, none⟩ = some (.int .i64 n1) ∧ w3.drew.cell? ⟨q, 0, none⟩ = some (.int .i64 s0) ∧ w3.drew.cell? ⟨q, 1, none⟩ = some (.int .i64 s1) ∧ w3.drew.cell? ⟨q, 2, none⟩ = some (.int .i64 s2) ∧ p < w3.drew.heap.size ∧ q < w3.drew.heap.size) := held_fr hS ((Fr.refl _ _).drew) (sd_fr hS.1 ((Fr.refl _ _).drew))
  clear hb hL h0 h1 hm hS
  go_region_held3 (fun W => IsSd w1 W g m ∧ Fr [] w1 W ∧ W.cell? ⟨p, 0, none⟩ = some (.int .i64 n0) ∧ W.cell? ⟨p, 1, none⟩ = some (.int .i64 n1) ∧ W.cell? ⟨q, 0, none⟩ = some (.int .i64 s0) ∧ W.cell? ⟨q, 1, none⟩ = some (.int .i64 s1) ∧ W.cell? ⟨q, 2, none⟩ = some (.int .i64 s2) ∧ p < W.heap.size ∧ q < W.heap.size)
    (first | exact CD.out | assumption)
    (first
      | (go_at_call 41; refine (C41.out _ (by assumption)).mono ?_; rintro e w4 ⟨rfl, hS4, hF4⟩)
      | (go_at_call 43; refine (C43.out _ (by assumption)).mono ?_; rintro e w4 ⟨rfl, hS4, hF4⟩)
      | (go_at_call 44; refine (C44.out _ (by assumption)).mono ?_; rintro e w5 ⟨v5, rfl, hS5, hF5, hL5⟩)
      | (go_at_call 45; refine (C45.out _ (by assumption)).mono ?_; rintro e w6 ⟨v6, rfl, hS6, hF6, hL6⟩)
      | (go_at_call 33; refine (C33.out _ _ _ (by assumption) (by first | assumption | exact SlI.fr (by assumption) (by assumption)) (by first | assumption | exact SlI.fr (by assumption) (by assumption))).mono ?_; rintro e w7 ⟨rfl, hS7, hF7⟩))
  all_goals (go_wp2; refine hR'.out _ _ ⟨rfl, ?_⟩; have hSS : IsSd w1 w7 g m ∧ Fr [] w1 w7 ∧ w7.cell? ⟨p, 0, none⟩ = some (.int .i64 n0) ∧ w7.cell? ⟨p, 1, none⟩ = some (.int .i64 n1) ∧ w7.cell? ⟨q, 0, none⟩ = some (.int .i64 s0) ∧ w7.cell? ⟨q, 1, none⟩ = some (.int .i64 s1) ∧ w7.cell? ⟨q, 2, none⟩ = some (.int .i64 s2) ∧ p < w7.heap.size ∧ q < w7.heap.size := by assumption
             exact hSS.2.1)
theorem NetSides_walk (w : World) (m : Int) (hm : (Lit.int .i64 m).wf = true) (v2 : Value) (x2 : Int × Int) (h2 : v2 = .agg #[.int .i64 x2.1, .int .i64 x2.2] ∧ (Lit.int .i64 x2.1).wf = true ∧ (Lit.int .i64 x2.2).wf = true)
    (v3 : Value) (x3 : Int × Int × Int) (h3 : v3 = .agg #[.int .i64 x3.1, .int .i64 x3.2.1, .int .i64 x3.2.2] ∧ (Lit.int .i64 x3.1).wf = true ∧ (Lit.int .i64 x3.2.1).wf = true ∧ (Lit.int .i64 x3.2.2).wf = true) :
    Calls Try.prog 13 #[.int .i64 m, v2, v3] w fun e w' => e = .returned (.bool true) ∧ Fr [] w w' := by
  obtain ⟨rfl, a1, a2⟩ := h2
  obtain ⟨rfl, b1, b2, b3⟩ := h3
  exact sides_calls m _ _ _ _ _ hm a1 a2
end Go.Np.Try
