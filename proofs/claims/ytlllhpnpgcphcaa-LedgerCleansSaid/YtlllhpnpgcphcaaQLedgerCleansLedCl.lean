/- A text that the row of LedgerCleans needs. (Pruned by tools/prune.py.) -/
import Derived.Test.YtlllhpnpgcphcaaQLedgerCleansLedn
import Derived.Deep.Slices
import Derived.OpenShut
import Derived.ChangeSlices
set_option linter.unusedVariables false
set_option linter.unusedSimpArgs false
namespace Go.Np.Try
open Go.RowKit Go.Proofs Go.ChangeShapes Go.WideShapes Go.Proofs.Ytlllhpnpgcphcaa.PX Go.Proofs.YtlllhpnpgcphcaaW.PrintWords
theorem open_intsC {W : World} {H : Type} {enc : TypeId × Value → H} {base : Nat} {sp : Nat → Bool} {held : Bool} {n : Nat} {v : Value} {x : DataW H × List MemPlace}
    (h : DataW.trod enc Try.prog W base sp held n 39 [v] = some x) : ∃ (l : List Int) (A : Option Addr) (c : Nat), v = .slice A l.length c ∧ l.length ≤ c ∧ (Kd.int .i64).C W A l.length l := by
  rcases open_ints Try.underlying39 Try.underlying3 (by kernel_rfl) h with ⟨hcs, _⟩ | ⟨a, len, cap, zs, hcs, _, hlc, hcm, hz, _, hcell, _⟩
  · simp at hcs
    exact ⟨[], none, 0, hcs, Nat.zero_le _, ⟨rfl, Nat.zero_le _, fun h => absurd h (Nat.lt_irrefl 0)⟩⟩
  · simp at hcs
    have hlz : len ≤ zs.length := by rw [hz]; split <;> omega
    have hl : (zs.take len).length = len := by rw [List.length_take]; omega
    refine ⟨zs.take len, some a, cap, by rw [hl]; exact hcs, by rw [hl]; exact hlc, rfl, by rw [hl]; unfold maxLen at hcm; omega, fun h0 => ⟨a, rfl, fun j p hp => ?_⟩⟩
    rw [List.getElem?_take] at hp
    split at hp
    · rename_i hj
      have hjz : j < zs.length := by omega
      have hp' : zs.getD j 0 = p := by rw [List.getD_eq_getElem?_getD, hp]; rfl
      refine ⟨[.int .i64 p], rfl, by first | rfl | exact ⟨rfl⟩ | simp [Kd.int, Kd.scalar], fun i u hu => ?_⟩
      cases i with
      | zero => simp at hu; subst hu; have := hcell j hjz; rw [hp'] at this; simpa [Kd.int, Kd.scalar] using this
      | succ i => simp at hu
    · cases hp
theorem cells_ints : Try.prog.cellsOf 39 = 1 := by kernel_rfl
set_option maxRecDepth 100000 in
theorem open_listsC {H : Type} {enc : TypeId × Value → H} {W : World} {base b0 : Nat} {sp : Nat → Bool} {held : Bool} {v : Value} {d : DataW H} {ps : List MemPlace}
    (hv : Value.okWide Try.prog W .any b0 81 v) (h : DataW.Trod enc Try.prog W base sp held 81 v d ps) : ∃ L : List (List Int), ∃ A c, v = .slice A L.length c ∧ L.length ≤ c ∧ ListsC W A L := by
  obtain ⟨a, n, c, rfl⟩ := okWide_slice Try.underlying81 hv
  obtain ⟨fuel, hf⟩ := h
  rcases Go.Deep.open_slice1 Try.underlying81 cells_ints hf with ⟨hcs, _⟩ | ⟨ad, len, cap, m, k, V, D, Pl, hcs, _, hlc, hcm, hm, _, hx⟩
  · simp [Value.cells] at hcs
    obtain ⟨rfl, rfl, rfl⟩ := hcs
    exact ⟨[], none, 0, rfl, Nat.zero_le _, fun k hk => absurd hk (Nat.not_lt_zero k)⟩
  · simp [Value.cells] at hcs
    obtain ⟨rfl, rfl, rfl⟩ := hcs
    have hlm : n ≤ m := by rw [hm]; split <;> omega
    have each : ∀ j, j < n → ∃ l : List Int, ∃ A c, V j = .slice A l.length c ∧ l.length ≤ c ∧ (Kd.int .i64).C W A l.length l := fun j hj => open_intsC (hx j (by omega)).2
    have hq : ∃ f : Nat → List Int, ∀ j, j < n → ∃ A c, V j = .slice A (f j).length c ∧ (f j).length ≤ c ∧ (Kd.int .i64).C W A (f j).length (f j) :=
      ⟨fun j => if h : j < n then Classical.choose (each j h) else [], fun j hj => by simp only [dif_pos hj]; exact Classical.choose_spec (each j hj)⟩
    obtain ⟨f, hf⟩ := hq
    refine ⟨(List.range n).map f, some ad, c, by simp, by simpa using hlc, fun j hj => ?_⟩
    have hj : j < n := by simpa using hj
    have hpj : ((List.range n).map f).getD j [] = f j := by simp [List.getD_eq_getElem?_getD, hj]
    obtain ⟨A, c', h1, h2, h3⟩ := hf j hj
    refine ⟨ad, rfl, A, c', ?_⟩
    rw [hpj]
    refine ⟨?_, h2, h3⟩
    have := (hx j (by omega)).1
    rw [h1] at this
    exact this
theorem RowL.empty (w : World) : RowL w.heap.size (w.alloc (.cells #[] 39)) (.slice (some ⟨w.heap.size, 0, none⟩) ([] : List LV).length 0) [] :=
  ⟨⟨rfl, .inr ⟨w.heap.size, 0, #[], rfl, Nat.zero_le _, heap_alloc_new _ _, Nat.le_refl _, Nat.zero_le _, by simp, by simp⟩⟩, fun k hk => by simp [Value.ownBlock] at hk; omega, by simp⟩
set_option maxHeartbeats 8000000 in
set_option maxRecDepth 100000 in
theorem LedgerCleans_walk (w : World) (v : Value) (L : List (List Int)) (h : ∃ A c, v = .slice A L.length c ∧ L.length ≤ c ∧ ListsC w A L) :
    Calls Try.prog 10 #[v] w fun e w' => e = .returned (.bool true) ∧ Fr [] w w' := by
  obtain ⟨A, c, rfl, hc, hL⟩ := h
  have HAL := Lib.hid (lalive_calls (w := w))
  have HL := Lib.hid hL
  obtain ⟨N, hN⟩ : ∃ N, L.length = N := ⟨_, rfl⟩
  rw [hN] at hc
  rw [hN]
  have HN := Lib.hid hN
  refine calls_k fun R hR => ?_
  clear hL hN
  by_cases h1 : 60 < N
  · have g1 : decide (60 < (N : Int)) = true := decide_eq_true (by omega)
    have g1' : decide (60 < N) = true := decide_eq_true h1
    go_enter Try.func10, Try.ntmps10
    go_wp2_with (go_at_call 57; refine HAL.out.mono ?_; rintro e w3 ⟨rfl, hF3⟩; have HF3 := Lib.hid hF3; clear hF3 HAL)
    exact hR.out _ _ ⟨rfl, HF3.out⟩
  have g1 : decide (60 < (N : Int)) = false := decide_eq_false (by omega)
  have g1' : decide (60 < N) = false := decide_eq_false h1
  have hN60 : N ≤ 60 := by omega
  clear h1
  go_enter Try.func10, Try.ntmps10
  go_upto_region 5 with (go_at_call 57; refine HAL.out.mono ?_; rintro e w3 ⟨rfl, hF3⟩; have HF3 := Lib.hid hF3; clear hF3 HAL)
  clear g1 g1'
  obtain ⟨W4, hW4⟩ : ∃ W4, W4 = w3.alloc (.cells #[] 39) := ⟨_, rfl⟩
  obtain ⟨g4, hg4⟩ : ∃ g4, g4 = w3.heap.size := ⟨_, rfl⟩
  have HF4 : Hid (Fr [] w W4) := by show Fr _ _ _; rw [hW4]; exact HF3.out.alloc _
  have HR4 : Hid (RowL w3.heap.size W4 (.slice (some ⟨g4, 0, none⟩) ([] : List LV).length 0) []) := by show RowL _ _ _ _; rw [hW4, hg4]; exact RowL.empty w3
  have HB4 : Hid (w3.heap.size ≤ W4.heap.size) := by show _ ≤ _; rw [hW4]; simp
  go_upto_region 7 with (fail)
  rw [← hW4, ← hg4]
  have HGE := Lib.hid HF3.out.size
  clear hW4 hg4
  go_loopg [3, 17] N (fun gn ow i wr => ∃ (m j : Nat) (qs : List LV) (B : Option Addr) (d : Nat), m = gn ∧ ow = .slice B qs.length d ∧ i = .int .i64 j ∧ m + j = N ∧ Hid (qs.length = j) ∧ Hid (qs.map (·.l) = L.take j) ∧ Hid ((L.take j).flatten.length ≤ 200 * j) ∧ Hid (RowL w3.heap.size wr (.slice B qs.length d) qs) ∧ Hid (w3.heap.size ≤ wr.heap.size) ∧ Hid (Fr [] w wr))
  case atStart => exact ⟨_, 0, [], some ⟨g4, 0, none⟩, 0, rfl, rfl, rfl, rfl, rfl, rfl, (by show _ ≤ _; simp), HR4, HB4, HF4⟩
  case round =>
    obtain ⟨m, j, qs, B, d, rfl, rfl, rfl, hj, HQ, HM, HLE, HR, HB, HF⟩ := hrel
    clear HR4 HF4 HB4
    by_cases hlt : j < N
    · obtain ⟨m', rfl⟩ : ∃ m', m = m' + 1 := ⟨m - 1, by omega⟩
      obtain ⟨ad, hA, A5, c5, hcell, hc5, hC5⟩ := HL.out j (by rw [HN.out]; exact hlt)
      subst hA
      have hcell := (HF.out.cell (lt_cell hcell) (by simp)).trans hcell
      obtain ⟨l, hl⟩ : ∃ l, L.getD j [] = l := ⟨_, rfl⟩
      rw [hl] at hcell hc5 hC5
      have HFN := Lib.hid (flat_next (show j < L.length by rw [HN.out]; exact hlt) hl)
      have HTK : Hid (L.take (j + 1) = L.take j ++ [l]) := by
        show _ = _
        rw [List.take_succ_eq_append_getElem (show j < L.length by rw [HN.out]; exact hlt), ← hl]; simp [List.getD_eq_getElem?_getD, show j < L.length by rw [HN.out]; exact hlt]
      have HCL : Hid ((Kd.int .i64).C wr A5 l.length l) := Kd.C_below hC5 HF.out.below
      clear hl hc5 hC5
      by_cases h2 : 200 < l.length
      · have g2 : decide (200 < (l.length : Int)) = true := decide_eq_true (by omega)
        have g2' : decide (200 < l.length) = true := decide_eq_true h2
        go_wp2
        exact hR.out _ _ ⟨rfl, HF.out⟩
      have g2 : decide (200 < (l.length : Int)) = false := decide_eq_false (by omega)
      have g2' : decide (200 < l.length) = false := decide_eq_false h2
      have HL8 := Lib.hid (show ([] : List Int).length + l.length ≤ 1000000 by simp; omega)
      have HLE2 : Hid ((L.take (j + 1)).flatten.length ≤ 200 * (j + 1)) := by
        show _ ≤ _
        rw [HFN.out, List.length_append]
        have := HLE.out
        omega
      have hj60 : j ≤ 60 := by omega
      clear h2
      go_upto_region 11 with (fail)
      clear g2 g2' hcell
      have HNE := Lib.hid (N_empty wr)
      have HBE0 : Hid (Below wr.heap.size wr (wr.alloc (.cells #[] 3))) := ((Fr.refl [] wr).alloc _).below
      have HO0 : Hid (∀ k, (Value.slice (some ⟨wr.heap.size, 0, none⟩) 0 0).ownBlock = some k → wr.heap.size ≤ k) := fun k hk => by simp [Value.ownBlock] at hk; omega
      have tok8 := Lib.hid True.intro
      go_wp2_with (first
        | (at_builtin; have _t := tok8; refine wp_moreI (w0 := wr) rfl _ _ rfl (xs := []) (ys := l) rfl rfl HNE.out HO0.out HBE0.out HCL.out HL8.out ?_; intro A2 c2 w2 h1 h2 h3
           simp only [List.nil_append] at h1 h2
           have HO2 := Lib.hid ((N_own h1).mono HB.out)
           have HR2 := Lib.hid (HR.out.fr (Fr.of_below [] h3))
           have HB2 := Lib.hid (Nat.le_trans HB.out h3.size)
           have HF2 := Lib.hid (HF.out.trans (Fr.of_below [] h3) (by simp))
           clear h1 h2 h3 tok8)
        | (at_builtin; refine wp_append1 rfl _ _ 81 39 rfl Try.underlying81 infoL rfl (by decide) HR2.out.1 rfl [.slice A2 l.length c2] rfl rfl (by simp [Value.oneCell']) (by rw [HQ.out]; unfold maxLen; omega) (by rw [HQ.out]; omega) ?_
           intro A3 c3 w3' h1 h2 h3
           have HR3 := Lib.hid (HR2.out.more (q := ⟨A2, c2, l⟩) HB2.out HO2.out h1 h2 h3)
           have HB3 := Lib.hid (Nat.le_trans HB2.out h2.size)
           have HF3' := Lib.hid (HF2.out.trans h2 (fun k hk => .inr (Nat.le_trans HGE.out (HR2.out.2.1 k hk))))
           clear h1 h2 h3))
      go_roundg m'
      case rel =>
        refine ⟨m', j + 1, qs ++ [⟨A2, c2, l⟩], A3, c3, rfl, by rw [List.length_append]; rfl, by go_num, by omega, ?_, ?_, HLE2, ?_, HB3, HF3'⟩
        · show _ = _
          rw [List.length_append, HQ.out]; rfl
        · show _ = _
          rw [HTK.out, List.map_append, HM.out]; rfl
        · show RowL _ _ _ _
          rw [List.length_append]; exact HR3.out
      case measure => omega
    · obtain rfl : j = N := by omega
      have hall : L.take j = L := by rw [← HN.out]; exact List.take_length
      rw [hall] at HM HLE
      have hfl : L.flatten.length ≤ 12000 := by have := HLE.out; omega
      have hown := HR.out.lists
      rw [HM.out] at hown
      have HOWN := Lib.hid hown
      have h1 := clean_calls (c := d) hown (by rw [HN.out]; omega) (by omega)
      rw [HN.out] at h1
      have h2 := rclean_calls (c := c) HL.out (by rw [HN.out]; omega) (by omega)
      obtain ⟨F, hF⟩ : ∃ F, cleanL [] L.flatten = F := ⟨_, rfl⟩
      rw [hF] at h1
      have HC := Lib.hid h1
      have HRC : Hid (∀ W, Fr [] w W → Calls Try.prog 62 #[.slice A j c] W fun e w' => ∃ A' c', e = .returned (.slice A' F.length c') ∧ SlI w' (.slice A' F.length c') F ∧ Fr [] W w') := fun W hW => by
        have h := rclean_calls (c := c) (HL.out.fr hW) (by rw [HN.out]; omega) (by omega)
        rw [hF, HN.out] at h
        exact h
      have HQS := HQ.out
      rw [HQS]
      clear h1 h2 hown hF hall hfl HQS HLE
      go_upto_region 15 with (first
        | (go_at_call 58; refine HC.out.mono ?_; rintro e w6 ⟨v6, rfl, ⟨A6, c6, rfl, h4, h5⟩, hF6⟩
           have HS6 := Lib.hid (show SlI w6 (.slice A6 F.length c6) F from ⟨A6, c6, rfl, h4, h5⟩)
           have HW6 := Lib.hid (HOWN.out.fr hF6)
           have HF6 := Lib.hid (HF.out.trans hF6 (by simp))
           clear h4 h5 hF6 HC))
      clear HF HR HOWN HB
      go_loopg [35] j (fun gn i wr => ∃ (m k : Nat), m = gn ∧ i = .int .i64 k ∧ m + k = j ∧ Hid (Fr [] w6 wr))
      case atStart => exact ⟨_, 0, rfl, rfl, rfl, Fr.refl _ _⟩
      case round =>
        obtain ⟨m2, k, rfl, rfl, hk, HFk⟩ := hrel
        by_cases hlt2 : k < j
        · obtain ⟨m2', rfl⟩ : ∃ m2', m2 = m2' + 1 := ⟨m2 - 1, by omega⟩
          obtain ⟨ad, hA, A5, c5, hcell, hc5, hC5⟩ := HL.out.fr (HF6.out.trans HFk.out (by simp)) k (by rw [HN.out]; exact hlt2)
          obtain ⟨ad7, hA7, A7, c7, hcell7, hc7, hC7⟩ := HW6.out.fr HFk.out k (by rw [HN.out]; exact hlt2)
          subst hA
          subst hA7
          obtain ⟨l, hl⟩ : ∃ l, L.getD k [] = l := ⟨_, rfl⟩
          rw [hl] at hcell hc5 hC5 hcell7 hc7 hC7
          have hs := same_sl (SlI.of_C hC7 hc7) (SlI.of_C hC5 hc5)
          simp only [decide_true] at hs
          obtain ⟨n, hn⟩ : ∃ n, l.length = n := ⟨_, rfl⟩
          rw [hn] at hs hcell hcell7 hc5 hc7
          have HS := Lib.hid hs
          have hk0 : (0 : Int) ≤ (k : Int) := by omega
          have hkj : (k : Int) < (j : Int) := by omega
          clear hl hs hC5 hC7 hn
          go_wp2_with (go_at_call 19; refine HS.out.mono ?_; rintro e w8 ⟨rfl, hF8⟩; have HF8 := Lib.hid (HFk.out.trans hF8 (by simp)); clear hF8)
          go_roundg m2'
          case rel => exact ⟨m2', k + 1, rfl, by go_num, by omega, HF8⟩
          case measure => omega
        · obtain rfl : k = j := by omega
          have HC9 := Lib.hid (HRC.out _ (HF6.out.trans HFk.out (by simp)))
          go_wp2_with (first
            | (go_at_call 62; refine HC9.out.mono ?_; rintro e w9 ⟨A9, c9, rfl, hS9, hF9⟩
               have HS10 := Lib.hid (same_sl ((HS6.out.fr HFk.out).fr hF9) hS9)
               simp only [decide_true] at HS10
               have HF9 := Lib.hid ((HF6.out.trans HFk.out (by simp)).trans hF9 (by simp))
               clear hS9 hF9 HC9)
            | (go_at_call 19; refine HS10.out.mono ?_; rintro e w10 ⟨rfl, hF10⟩
               have HF10 := Lib.hid (HF9.out.trans hF10 (by simp))
               clear hF10))
          exact hR.out _ _ ⟨rfl, HF10.out⟩
end Go.Np.Try
