/- What CheckNames needs. -/
import Derived.Test.YtgfiglcmhlbjjaaQCheckNamesCkN
set_option linter.unusedVariables false
set_option linter.unusedSimpArgs false
namespace Go.Np.Try
open Go.RowKit Go.Proofs Go.Proofs.Ytgfiglcmhlbjjaa.PX Go.Proofs.YtgfiglcmhlbjjaaW.PrintWords
section
variable {X : Nat → Prop} {w w' w1 : World} {p : Nat} {c c' : Co} {a a' : Pl}
theorem add_fresh (h : CoIn X w p c a) (hok : c.Ok) (hl : c.m.length < 999999) (k v f x : Int) (hwf : wf64 k ∧ wf64 v ∧ wf64 f) :
    Calls Try.prog 42 #[.pointer (some ⟨a.pt, 0, none⟩), .int .i64 k, .int .i64 v, .int .i64 f, .int .i64 x] w fun e w' => e = .returned (.bool (addR c.st.length c.m ⟨k, v, f, x⟩)) ∧ CoIn X w' p { c with m := stepR c.st.length c.m ⟨k, v, f, x⟩ } a ∧ FrX X w w' := by
  refine (zAdd (h.tz hok.st (by omega)) hl k v f x hwf).mono ?_
  rintro e w' ⟨rfl, h1, h2⟩
  exact ⟨rfl, h.voted h2 h1, h.frOf h.own1.2.1 h2⟩
set_option maxHeartbeats 4000000 in
set_option maxRecDepth 100000 in
theorem c_cast (h : CoIn X w p c a) (hX : ∀ k, X k → k < w.heap.size) (hok : c.Ok) (hl : c.m.length < 999999) (ho : c.out.length ≤ 100000000) (k x : Int) (hk : k = 4 ∨ k = 5) :
    Calls Try.prog 28 #[.pointer (some ⟨p, 0, none⟩), .int .i64 k, .int .i64 x] w fun e w' => e = .returned (.tuple #[]) ∧ (∃ ov, CoIn X w' p (c.cast k x) { a with ov := ov }) ∧ FrX X w w' := by
  have hwk : wf64 k := by rcases hk with rfl | rfl <;> decide
  have hwv : wf64 c.view := wfI (by have := hok.view; omega) (by have := hok.view; omega)
  have hwm : wf64 c.me := wfI (by have := hok.me; omega) (by have := hok.me; have := hok.st.2.1; omega)
  have HA := Lib.hid (fun W (hW : Fr [] w W) => add_fresh (h.fr hW) hok hl k c.view c.me x ⟨hwk, hwv, hwm⟩)
  have HS : Hid (∀ W, Fr [] w W → W.cell? ⟨p, 9, none⟩ = some (.pointer (some ⟨a.pt, 0, none⟩)) ∧ W.cell? ⟨p, 5, none⟩ = some (.int .i64 c.view) ∧ W.cell? ⟨p, 0, none⟩ = some (.int .i64 c.me)) := fun W hW => ⟨(h.fr hW).cells 9, (h.fr hW).cells 5, (h.fr hW).cells 0⟩
  have HF0 : Hid (Fr [] w w.drew) := (Fr.refl _ _).drew
  have hS0 := HS.out _ HF0.out
  have H := Lib.hid h
  have HX := Lib.hid hX
  have HO := Lib.hid ho
  refine calls_k fun R hR => ?_
  clear h hX ho hwk hwv hwm
  by_cases hadd : addR c.st.length c.m ⟨k, c.view, c.me, x⟩ = true
  · rw [hadd] at HA
    have hcast : c.cast k x = ({ c with m := stepR c.st.length c.m ⟨k, c.view, c.me, x⟩ } : Co).send (c.voteM k x) := by
      unfold Co.cast stepR; rw [if_pos hadd, if_pos hadd]
    have HC := Lib.hid hcast
    clear hcast hadd
    go_enter Try.func28, Try.ntmps28
    go_upto_region 0 with (fail)
    go_region_held3 (fun W => W.cell? ⟨p, 9, none⟩ = some (.pointer (some ⟨a.pt, 0, none⟩)) ∧ W.cell? ⟨p, 5, none⟩ = some (.int .i64 c.view) ∧ W.cell? ⟨p, 0, none⟩ = some (.int .i64 c.me)) (with_reducible assumption)
      (first
        | (go_at_call 42; refine (HA.out _ HF0.out).mono ?_; rintro e w2 ⟨rfl, h2, hf2⟩
           have hS2 : w2.cell? ⟨p, 9, none⟩ = some (.pointer (some ⟨a.pt, 0, none⟩)) ∧ w2.cell? ⟨p, 5, none⟩ = some (.int .i64 c.view) ∧ w2.cell? ⟨p, 0, none⟩ = some (.int .i64 c.me) := ⟨h2.cells 9, h2.cells 5, h2.cells 0⟩
           have H2 := Lib.hid h2
           have HF2 := Lib.hid ((FrX.of0 HF0.out).trans hf2)
           have HVO := Lib.hid (c_vote h2 k x)
           clear h2 hf2 HA))
    all_goals
      go_wp2_with (first
        | (go_at_call 36; refine HVO.out.mono ?_; rintro e w3 ⟨rfl, hf3⟩
           have h3 := H2.out.fr hf3
           have HF3 := Lib.hid (HF2.out.trans (FrX.of0 hf3))
           have HSE := Lib.hid (c_send h3 (fun k hk => by have := HX.out k hk; have := HF3.out.size; omega) (c.voteM k x) rfl HO.out)
           clear h3 hf3 HVO)
        | (go_at_call 26; refine HSE.out.mono ?_; rintro e w4 ⟨rfl, ov, h4, hf4⟩
           have H4 := Lib.hid h4
           have HF4 := Lib.hid (HF3.out.trans hf4)
           clear h4 hf4 HSE))
      go_end0
      refine hR.out _ _ ⟨rfl, ⟨ov, ?_⟩, HF4.out⟩
      rw [HC.out]
      exact H4.out
  · have hadd' : addR c.st.length c.m ⟨k, c.view, c.me, x⟩ = false := by simpa using hadd
    rw [hadd'] at HA
    have hcast : c.cast k x = c := by unfold Co.cast; rw [if_neg hadd]
    have hst : stepR c.st.length c.m ⟨k, c.view, c.me, x⟩ = c.m := by unfold stepR; rw [if_neg hadd]
    rw [hst] at HA
    have HC := Lib.hid hcast
    clear hcast hadd hadd' hst
    go_enter Try.func28, Try.ntmps28
    go_upto_region 0 with (fail)
    go_region_held3 (fun W => W.cell? ⟨p, 9, none⟩ = some (.pointer (some ⟨a.pt, 0, none⟩)) ∧ W.cell? ⟨p, 5, none⟩ = some (.int .i64 c.view) ∧ W.cell? ⟨p, 0, none⟩ = some (.int .i64 c.me)) (with_reducible assumption)
      (first
        | (go_at_call 42; refine (HA.out _ HF0.out).mono ?_; rintro e w2 ⟨rfl, h2, hf2⟩
           have hS2 : w2.cell? ⟨p, 9, none⟩ = some (.pointer (some ⟨a.pt, 0, none⟩)) ∧ w2.cell? ⟨p, 5, none⟩ = some (.int .i64 c.view) ∧ w2.cell? ⟨p, 0, none⟩ = some (.int .i64 c.me) := ⟨h2.cells 9, h2.cells 5, h2.cells 0⟩
           have H2 := Lib.hid h2
           have HF2 := Lib.hid ((FrX.of0 HF0.out).trans hf2)
           clear h2 hf2 HA))
    all_goals
      go_wp2
      go_end0
      refine hR.out _ _ ⟨rfl, ⟨a.ov, ?_⟩, HF2.out⟩
      rw [HC.out]
      exact H2.out
end
end Go.Np.Try
