/- What CheckNames needs. -/
import Derived.Test.YtgfiglcmhlbjjaaQCheckNamesCkV
set_option linter.unusedVariables false
set_option linter.unusedSimpArgs false
namespace Go.Np.Try
open Go.RowKit Go.Proofs Go.Proofs.Ytgfiglcmhlbjjaa.PX Go.Proofs.YtgfiglcmhlbjjaaW.PrintWords
set_option maxHeartbeats 4000000 in
set_option maxRecDepth 100000 in
theorem c_new {w : World} {A0 : Option Addr} {c0 : Nat} {st : List Int} (h : (Kd.int .i64).C w A0 st.length st) (hl : st.length ≤ 7) (me base most : Int) :
    Calls Try.prog 4 #[.int .i64 me, .slice A0 st.length c0, .int .i64 base, .int .i64 most] w fun e w' => ∃ p, e = .returned (.pointer (some ⟨p, 0, none⟩)) ∧ CoAt (fun k => k < w.heap.size) w' p (Co.new me st base most) ∧ Fr [] w w' ∧ w.heap.size ≤ p := by
  have HC := Lib.hid (clone_own (c := c0) h (by omega))
  obtain ⟨NS, hNS⟩ : ∃ NS, st.length = NS := ⟨_, rfl⟩
  have HNS := Lib.hid hNS
  rw [hNS] at HC
  rw [hNS]
  refine calls_k fun R hR => ?_
  clear h hNS
  go_enter Try.func4, Try.ntmps4
  go_upto_region 2 with (go_at_call 10; refine HC.out.mono ?_; rintro e w1 ⟨v, rfl, h1, h2⟩; obtain ⟨A, d, rfl⟩ := h1.formN HNS.out; have H1 := Lib.hid h1; have H2 := Lib.hid h2; clear h1 h2 HC)
  obtain ⟨W2, hW2⟩ : ∃ W2, W2 = w1.alloc (.cells #[.int .i64 me, .slice A NS d, .int .i64 base, .int .i64 most, .slice none 0 0, .int .i64 0, .int .i64 0, .int .i64 0, .int .i64 0, .pointer none, .map none, .map none, .int .i64 0, .int .i64 0, .int .i64 0, .int .i64 0, .slice none 0 0] 41) := ⟨_, rfl⟩
  obtain ⟨p, hp⟩ : ∃ p, p = w1.heap.size := ⟨_, rfl⟩
  have hF2 : Fr [] w1 W2 := by rw [hW2]; exact (Fr.refl _ _).alloc _
  have hb2 : W2.heap[p]? = some (.cells #[.int .i64 me, .slice A NS d, .int .i64 base, .int .i64 most, .slice none 0 0, .int .i64 0, .int .i64 0, .int .i64 0, .int .i64 0, .pointer none, .map none, .map none, .int .i64 0, .int .i64 0, .int .i64 0, .int .i64 0, .slice none 0 0] 41 (0, 0)) := by rw [hW2, hp]; exact heap_alloc_new _ _
  have hs1 := H2.out.size
  have hbx : CoBx (fun k => k < w.heap.size) W2 p (Co.new me st base most) 0 (.slice A NS d) (.slice none 0 0) (.slice none 0 0) (.int .i64 0) (.int .i64 0) (.pointer none) (.map none) (.map none) (.int .i64 0) (.int .i64 0) (.int .i64 0) (.int .i64 0) := by
    have ho := H1.out.fr hF2 (by simp)
    refine ⟨hb2, ⟨ho.1, fun _ _ => Nat.zero_le _⟩, OwnI.nil _ _, World.ownsRow_nil _ _ _ _, ?_, ?_⟩
    · have hn := opt_nodup (Value.slice A NS d).ownBlock
      have hl : p ∉ (Value.slice A NS d).ownBlock.toList := fun hk => by have := H1.out.lt p hk; omega
      simp [Value.ownBlock] at hn hl ⊢
      exact ⟨hl, hn⟩
    · intro k hk hx
      have hk' : k = p ∨ k ∈ (Value.slice A NS d).ownBlock.toList := by simpa [Value.ownBlock] using hk
      have hx' : k < w.heap.size := hx
      rcases hk' with e | hk'
      · omega
      · have := H1.out.2 k hk'; omega
  have HR := Lib.hid (c_rest hbx (fun k hk => by have : k < w.heap.size := hk; have := hF2.size; omega) hl)
  have HF2 := Lib.hid (H2.out.trans hF2 (by simp))
  rw [← hW2, ← hp]
  have hge : w.heap.size ≤ p := by omega
  clear hW2 hbx hF2 hb2 hp hs1
  go_wp2_with (go_at_call 11; refine HR.out.mono ?_; rintro e w3 ⟨rfl, h3, hf3⟩; have H3 := Lib.hid h3; have HF3 := Lib.hid hf3; clear h3 hf3 HR)
  refine hR.out _ _ ⟨p, rfl, H3.out, HF3.out.old HF2.out, hge⟩
end Go.Np.Try
