/- A text that the row of LedgerCleans needs. (Pruned by tools/prune.py.) -/
import Derived.Test.YtlllhpnpgcphcaaQLedgerCleansLedd
set_option linter.unusedVariables false
set_option linter.unusedSimpArgs false
namespace Go.Np.Try
open Go.RowKit Go.Proofs Go.Proofs.Ytlllhpnpgcphcaa.PX Go.Proofs.YtlllhpnpgcphcaaW.PrintWords
def ListsC (w : World) (A : Option Addr) (L : List (List Int)) : Prop := ∀ k, k < L.length → ∃ ad, A = some ad ∧ ∃ B c, w.cell? (ad.add k) = some (.slice B (L.getD k []).length c) ∧ (L.getD k []).length ≤ c ∧ (Kd.int .i64).C w B (L.getD k []).length (L.getD k [])
theorem flat_next {L : List (List Int)} {k : Nat} (hk : k < L.length) {l : List Int} (hl : L.getD k [] = l) : (L.take (k + 1)).flatten = (L.take k).flatten ++ l := by
  rw [List.take_succ_eq_append_getElem hk, List.flatten_append, ← hl]
  simp [List.getD_eq_getElem?_getD, hk]
theorem flat_le (L : List (List Int)) (k : Nat) : (L.take k).flatten.length ≤ L.flatten.length := by
  have h : L.flatten = (L.take k).flatten ++ (L.drop k).flatten := by rw [← List.flatten_append, List.take_append_drop]
  rw [h, List.length_append]; omega
set_option maxHeartbeats 2000000 in
set_option maxRecDepth 100000 in
theorem concat_calls {w : World} {A : Option Addr} {c : Nat} {L : List (List Int)} (hL : ListsC w A L) (hn : L.length ≤ 1000000) (hf : L.flatten.length ≤ 1000000) :
    Calls Try.prog 93 #[.slice A L.length c] w fun e w' => ∃ v, e = .returned v ∧ Kd.N (Kd.int .i64) 3 w' w.heap.size (fun _ => True) v L.flatten ∧ (∀ k, v.ownBlock = some k → w.heap.size ≤ k) ∧ Below w.heap.size w w' := by
  have HL := Lib.hid hL
  refine calls_k fun R hR => ?_
  obtain ⟨N, hN⟩ : ∃ N, L.length = N := ⟨_, rfl⟩
  rw [hN] at hn
  rw [hN]
  have HN := Lib.hid hN
  have HLE : Hid (∀ k, (L.take k).flatten.length ≤ 1000000) := fun k => Nat.le_trans (flat_le L k) hf
  clear hL hN
  go_enter Try.func93, Try.ntmps93
  go_upto_region 3 with (fail)
  go_loopg [3, 11] N (fun gn sz i wr => ∃ (m k s : Nat), m = gn ∧ sz = .int .i64 s ∧ i = .int .i64 k ∧ m + k = N ∧ Hid ((L.take k).flatten.length = s) ∧ w = wr)
  case atStart => exact ⟨_, 0, 0, rfl, rfl, rfl, rfl, rfl, rfl⟩
  case round =>
    obtain ⟨m, k, s, rfl, rfl, rfl, hk, HS, rfl⟩ := hrel
    have hs1 : s ≤ 1000000 := by rw [← HS.out]; exact HLE.out k
    by_cases hlt : k < N
    · obtain ⟨m', rfl⟩ : ∃ m', m = m' + 1 := ⟨m - 1, by omega⟩
      obtain ⟨ad, rfl, B, cb, hcell, hc2, hC2⟩ := HL.out k (by rw [HN.out]; exact hlt)
      obtain ⟨l, hl⟩ : ∃ l, L.getD k [] = l := ⟨_, rfl⟩
      rw [hl] at hcell hc2 hC2
      have hnx := flat_next (by rw [HN.out]; exact hlt) hl
      have HS' : Hid ((L.take (k + 1)).flatten.length = s + l.length) := by show _ = _; rw [hnx, List.length_append, HS.out]
      have hs2 : s + l.length ≤ 1000000 := by rw [← HS'.out]; exact HLE.out (k + 1)
      have hw : wrap64 ((s : Int) + (l.length : Int)) = ((s + l.length : Nat) : Int) := by rw [wr_in _ (by omega)]; omega
      have hng : decide (((s + l.length : Nat) : Int) < 0) = false := decide_eq_false (by omega)
      clear hnx hC2 hl
      go_wp2
      go_roundg m'
      case rel => exact ⟨m', k + 1, s + l.length, rfl, by go_num, by go_num, by omega, HS', rfl⟩
      case measure => omega
    · obtain rfl : k = N := by omega
      have HG := Lib.hid (grow0_calls (w := w) s hs1)
      go_upto_region 11 with (first
        | (go_at_call 112; refine HG.out.mono ?_; rintro e w1 ⟨v1, rfl, h1, h2⟩; have HR1 := Lib.hid h1; have HB1 := Lib.hid h2; clear h1 h2 HG))
      go_loopg [6, 27] k (fun gn v i wr => ∃ (m j : Nat), m = gn ∧ i = .int .i64 j ∧ m + j = k ∧ Hid (Kd.N (Kd.int .i64) 3 wr w.heap.size (fun _ => True) v (L.take j).flatten) ∧ Hid (∀ k, v.ownBlock = some k → w.heap.size ≤ k) ∧ Hid (Below w.heap.size w wr))
      case atStart => exact ⟨_, 0, rfl, rfl, rfl, Kd.R_N HR1.out, Kd.R_base HR1.out, HB1⟩
      case round =>
        obtain ⟨m2, j, rfl, rfl, hj, HV, HO, HB⟩ := hrel
        clear HR1 HB1
        by_cases hltj : j < k
        · obtain ⟨m2', rfl⟩ : ∃ m2', m2 = m2' + 1 := ⟨m2 - 1, by omega⟩
          obtain ⟨ad, rfl, B, cb, hcell, hc2, hC2⟩ := HL.out j (by rw [HN.out]; exact hltj)
          have hcell := (World.cell?_of_block (w := w) (HB.out.block _ (lt_cell hcell))).trans hcell
          obtain ⟨l, hl⟩ : ∃ l, L.getD j [] = l := ⟨_, rfl⟩
          rw [hl] at hcell hc2 hC2
          have hnx := flat_next (by rw [HN.out]; exact hltj) hl
          have HNX := Lib.hid hnx
          have HF := Lib.hid (ints_F hC2)
          have hle1 := HLE.out (j + 1)
          rw [hnx, List.length_append] at hle1
          have HLX := Lib.hid hle1
          clear hnx hC2 hl hle1
          go_wp2_with (at_builtin; refine Kd.N_append_rows (Kd.int .i64) (w0 := w) w.heap.size rfl _ _ 39 3 _ 8 rfl Try.underlying39 infoI rfl (by decide) (by omega) _ ((L.take j).flatten) l B l.length cb (fun _ => True) (fun k => k < w.heap.size) rfl rfl HV.out (Kd.F_below HF.out HB.out) (fun k hk => ⟨trivial, fun he => by have h2 := HO.out k he.symm; omega⟩) (fun _ _ => trivial) HB.out HB.out.size (by have := HLX.out; omega) ?_
                       intro v2 w2 h1 h2 h3 h4
                       have HV2 := Lib.hid h1
                       have HB2 := Lib.hid h2
                       have HO2 : Hid (∀ k, v2.ownBlock = some k → w.heap.size ≤ k) := fun k hk => by
                         rcases h4 with h4 | ⟨b, h4, h5⟩
                         · exact HO.out k (h4.symm.trans hk)
                         · rw [h4] at hk; injection hk with hk; subst hk; exact Nat.le_trans HB.out.size h5
                       clear h1 h2 h3 h4)
          go_roundg m2'
          case rel => exact ⟨m2', j + 1, rfl, by go_num, by omega, (by show Kd.N _ _ _ _ _ _ _; rw [HNX.out]; exact HV2.out), HO2, HB2⟩
          case measure => omega
        · obtain rfl : j = k := by omega
          have hall : (L.take j).flatten = L.flatten := by rw [List.take_of_length_le (by rw [HN.out]; exact Nat.le_refl _)]
          rw [hall] at HV
          clear hall
          go_wp2
          exact hR.out _ _ ⟨_, rfl, HV.out, HO.out, HB.out⟩
end Go.Np.Try
