/- What ChainRuns needs. -/
import Derived.Test.YtlllhpnpgcphcaaGreatQChainRunsLedr
set_option linter.unusedVariables false
set_option linter.unusedSimpArgs false
namespace Go.Np.Tryz
open Go.RowKit Go.Proofs Go.Proofs.YtlllhpnpgcphcaaGreat.PX Go.Proofs.YtlllhpnpgcphcaaGreatW.PrintWords
theorem chk_l2 (L : List Int) (hL : L.length ≤ 1000000) : ∀ (m j : Nat), j + m = L.length → ∃ r, neaptideref10_Check.l0 (m + 1) L (L.length : Int) (j : Int) = some r ∧ (r = 0 → ∀ i, j ≤ i → i < L.length → 0 ≤ L.getD i 0 ∧ L.getD i 0 ≤ 127)
  | 0, j, hj => by
    simp only [neaptideref10_Check.l0]
    rw [if_neg (by omega)]
    exact ⟨_, rfl, fun _ i h1 h2 => by omega⟩
  | m + 1, j, hj => by
    have hlt : j < L.length := by omega
    obtain ⟨r, hr, hr2⟩ := chk_l2 L hL m (j + 1) (by omega)
    have hrd : rd L (j : Int) = L.getD j 0 := by simp [rd]
    rw [neaptideref10_Check.l0]
    rw [if_pos (by omega), if_pos (by omega), if_pos (by omega), wr_step j (by omega), hr, hrd]
    split
    · exact ⟨_, rfl, fun h => by cases h⟩
    · split
      · exact ⟨_, rfl, fun h => by cases h⟩
      · refine ⟨_, rfl, fun h i h1 h2 => ?_⟩
        by_cases e : i = j
        · subst e; omega
        · exact hr2 h i (by omega) h2
theorem check_ok (dr : List Int) : ∃ r : Int, (r = 0 → dr.length ≤ 200 ∧ OkDr dr) ∧ ∀ (w : World) (A : Option Addr) (c : Nat), (Kd.int .i64).C w A dr.length dr → dr.length ≤ c →
    Calls Tryz.prog 7 #[.slice A dr.length c] w fun e w' => e = .returned (.int .i64 r) ∧ Fr [] w w' := by
  have hev : ∃ r, neaptideref10_Check.f (dr.length + 1) dr = some r ∧ (r = 0 → dr.length ≤ 200 ∧ OkDr dr) := by
    unfold neaptideref10_Check.f
    by_cases h : (dr.length : Int) > 200
    · rw [if_pos h]
      exact ⟨101, rfl, fun h => by cases h⟩
    · rw [if_neg h]
      obtain ⟨r, hr, hr2⟩ := chk_l2 dr (by omega) dr.length 0 (by omega)
      refine ⟨r, hr, fun h0 => ⟨by omega, fun d hd => ?_⟩⟩
      obtain ⟨i, hi, rfl⟩ := List.mem_iff_getElem.1 hd
      have := hr2 h0 i (Nat.zero_le _) hi
      rw [List.getD_eq_getElem?_getD, List.getElem?_eq_getElem hi] at this
      exact this
  obtain ⟨r, hr, h2⟩ := hev
  refine ⟨r, h2, fun w A c hC hc => (neaptideref10_Check.calls _ A c dr r w hC hc hr).mono ?_⟩
  rintro e w' ⟨h1, ⟨n, rfl⟩⟩
  exact ⟨h1, (Fr.refl _ _).drewN n⟩
end Go.Np.Tryz
