/- A text that the row of LedgerCleans needs. (Pruned by tools/prune.py.) -/
import Derived.Test.YtlllhpnpgcphcaaQLedgerCleansLedj
set_option linter.unusedVariables false
set_option linter.unusedSimpArgs false
namespace Go.Np.Try
open Go.RowKit Go.Proofs Go.Proofs.Ytlllhpnpgcphcaa.PX Go.Proofs.YtlllhpnpgcphcaaW.PrintWords
theorem lists2 {W : World} {A1 A2 : Option Addr} {c1 c2 : Nat} {l1 l2 : List Int} (h1 : SlI W (.slice A1 l1.length c1) l1) (h2 : SlI W (.slice A2 l2.length c2) l2) : ListsC (W.alloc (.cells #[.slice A1 l1.length c1, .slice A2 l2.length c2] 39)) (some ⟨W.heap.size, 0, none⟩) [l1, l2] := by
  have hF : Fr [] W (W.alloc (.cells #[.slice A1 l1.length c1, .slice A2 l2.length c2] 39)) := (Fr.refl _ _).alloc _
  intro k hk
  have hk2 : k = 0 ∨ k = 1 := by simp at hk; omega
  rcases hk2 with rfl | rfl
  · obtain ⟨A, c, e, hle, hC⟩ := h1.fr hF
    injection e with e1 _ e3
    subst e1 e3
    refine ⟨_, rfl, A1, c1, ?_, hle, hC⟩
    rw [addr_add _ _ rfl, cell_of (heap_alloc_new W _)]
    rfl
  · obtain ⟨A, c, e, hle, hC⟩ := h2.fr hF
    injection e with e1 _ e3
    subst e1 e3
    refine ⟨_, rfl, A2, c2, ?_, hle, hC⟩
    rw [addr_add _ _ rfl, cell_of (heap_alloc_new W _)]
    rfl
def availL (C : Ch) (l : List Int) : List Int := cleanL [] (finalL C l ++ C.txs C.conf)
theorem final_len {C : Ch} (hG : C.t.Good) {l : List Int} (hl : l.length ≤ 40) : (finalL C l).length ≤ 48000 := by
  have h1 := cleanL_le ((l.take (settledN C l)).map C.txs).flatten []
  have h2 := flat_txs hG (l.take (settledN C l))
  have h3 : (l.take (settledN C l)).length ≤ l.length := List.length_take_le' _ _
  unfold finalL
  omega
theorem clean2_calls {W : World} {A1 A2 : Option Addr} {c1 c2 : Nat} {l1 l2 : List Int} (h1 : SlI W (.slice A1 l1.length c1) l1) (h2 : SlI W (.slice A2 l2.length c2) l2) (hl : l1.length + l2.length ≤ 1000000) :
    Calls Try.prog 58 #[.slice (some ⟨W.heap.size, 0, none⟩) 2 2] (W.alloc (.cells #[.slice A1 l1.length c1, .slice A2 l2.length c2] 39)) fun e w' => ∃ A c, e = .returned (.slice A (cleanL [] (l1 ++ l2)).length c) ∧ SlI w' (.slice A (cleanL [] (l1 ++ l2)).length c) (cleanL [] (l1 ++ l2)) ∧ Fr [] W w' := by
  have hF : Fr [] W (W.alloc (.cells #[.slice A1 l1.length c1, .slice A2 l2.length c2] 39)) := (Fr.refl _ _).alloc _
  have h := clean_calls (c := 2) (lists2 h1 h2) (by simp) (by simp; omega)
  simp only [List.flatten_cons, List.flatten_nil, List.append_nil, List.length_cons, List.length_nil] at h
  refine h.mono ?_
  rintro e w' ⟨v, rfl, ⟨A, c, rfl, h4, h5⟩, h6⟩
  exact ⟨A, c, rfl, ⟨A, c, rfl, h4, h5⟩, hF.trans h6 (by simp)⟩
set_option maxHeartbeats 1000000 in
set_option maxRecDepth 100000 in
theorem avail_calls {X : Nat → Prop} {w : World} {c : Nat} {C : Ch} {A : Option Addr} {cp : Nat} {l : List Int} (h : ChAt X w c C) (hG : C.t.Good) (hC : (Kd.int .i64).C w A l.length l) (hle : l.length ≤ cp) (hl : l.length ≤ 40) :
    Calls Try.prog 60 #[.pointer (some ⟨c, 0, none⟩), .slice A l.length cp] w fun e w' => ∃ A' c', e = .returned (.slice A' (availL C l).length c') ∧ SlI w' (.slice A' (availL C l).length c') (availL C l) ∧ Fr [] w w' := by
  have HFI := Lib.hid (final_calls h hG hC hle hl)
  have HH := Lib.hid h
  have HG := Lib.hid hG
  obtain ⟨F, hF⟩ : ∃ F, finalL C l = F := ⟨_, rfl⟩
  obtain ⟨T, hT⟩ : ∃ T, C.txs C.conf = T := ⟨_, rfl⟩
  have hfl : F.length ≤ 48000 := by rw [← hF]; exact final_len hG hl
  have htl : T.length ≤ 1200 := by rw [← hT]; exact txs_len hG _
  have hav : availL C l = cleanL [] (F ++ T) := by unfold availL; rw [hF, hT]
  rw [hF] at HFI
  rw [hav]
  obtain ⟨N, hN⟩ : ∃ N, l.length = N := ⟨_, rfl⟩
  rw [hN] at HFI
  rw [hN]
  have HTT := Lib.hid hT
  have hsum : F.length + T.length ≤ 1000000 := by omega
  have HSUM := Lib.hid hsum
  refine calls_k fun R hR => ?_
  clear h hG hC hF hT hav hN hle hl hfl htl hsum
  go_enter Try.func60, Try.ntmps60
  go_wp2_with (first
    | (go_at_call 59; refine HFI.out.mono ?_; rintro e w1 ⟨v, rfl, ⟨A1, c1, rfl, h1, h2⟩, hF1⟩
       have HS1 := Lib.hid (show SlI w1 (.slice A1 F.length c1) F from ⟨A1, c1, rfl, h1, h2⟩)
       have HCF := Lib.hid (ch_conf (HH.out.fr hF1) HG.out)
       have HF1 := Lib.hid hF1
       clear h1 h2 hF1 HFI)
    | (go_at_call 44; refine HCF.out.mono ?_; rintro e w2 ⟨rfl, hF2⟩
       have HS2 := Lib.hid (HS1.out.fr hF2)
       have HF2 := Lib.hid (HF1.out.trans hF2 (by simp))
       have HTX := Lib.hid (ch_txs (HH.out.fr HF2.out) HG.out C.conf)
       rw [HTT.out] at HTX
       clear hF2 HCF)
    | (go_at_call 48; refine HTX.out.mono ?_; rintro e w3 ⟨v3, rfl, hO3, hF3⟩
       obtain ⟨A3, c3, rfl⟩ := hO3.form
       have HS3 := Lib.hid (HS2.out.fr hF3)
       have HT3 := Lib.hid hO3.sl
       have HF3 := Lib.hid (HF2.out.trans hF3 (by simp))
       have HCL := Lib.hid (clean2_calls HS3.out HT3.out HSUM.out)
       clear hO3 hF3 HTX)
    | (go_at_call 58; refine HCL.out.mono ?_; rintro e w4 ⟨A4, c4, rfl, h4, hF4⟩
       have HS4 := Lib.hid h4
       have HF4 := Lib.hid (HF3.out.trans hF4 (by simp))
       clear h4 hF4 HCL))
  exact hR.out _ _ ⟨_, _, rfl, HS4.out, HF4.out⟩
end Go.Np.Try
