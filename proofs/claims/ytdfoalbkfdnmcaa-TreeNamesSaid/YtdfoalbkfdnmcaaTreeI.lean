/- tree.Tree: slices.IndexFunc of ready, slices.Delete, take. -/
import Derived.Test.YtdfoalbkfdnmcaaTreeQ
set_option linter.unusedVariables false
set_option linter.unusedSimpArgs false
namespace Go.Np.Try
open Go.RowKit Go.Proofs Go.Proofs.Ytdfoalbkfdnmcaa.PX Go.Proofs.YtdfoalbkfdnmcaaW.PrintWords
def idxP (t : Tr) : Int := match t.wait.findIdx? t.ready with
  | none => -1
  | some i => i
set_option maxHeartbeats 4000000 in
set_option maxRecDepth 100000 in
theorem index_calls {X : Nat → Prop} {w : World} {p b : Nat} {t : Tr} {A : Option Addr} {c : Nat} {ds : List (BV × Kn)} {qs : List BV} (h : TrIn X w p t b (.slice A qs.length c) ds qs) (hl : qs.length ≤ 100000) :
    Calls Try.prog 65 #[.slice A qs.length c, .func (.func 47) #[.pointer (some ⟨p, 0, none⟩)] #[]] w fun e w' => e = .returned (.int .i64 (idxP t)) ∧ Fr [] w w' := by
  refine calls_k fun R hR => ?_
  have HH := Lib.hid h
  have hqs := h.hqs
  have hno : ∀ i, i < qs.length → (∀ j, j < i → ∀ q, qs[j]? = some q → t.ready q.b = false) → ∀ q, qs[i]? = some q → t.ready q.b = true → idxP t = i := by
    intro i hi hp q hq hr
    have : t.wait.findIdx? t.ready = some i := by
      rw [List.findIdx?_eq_some_iff_getElem, ← hqs]
      refine ⟨by simpa using hi, ?_, ?_⟩
      · have := (List.getElem?_eq_some_iff.1 hq).2
        simp [this, hr]
      · intro j hj
        have := hp j hj _ (List.getElem?_eq_getElem (by omega))
        simpa using this
    unfold idxP
    rw [this]
  have hnone : (∀ j, j < qs.length → ∀ q, qs[j]? = some q → t.ready q.b = false) → idxP t = -1 := by
    intro hp
    have : t.wait.findIdx? t.ready = none := by
      rw [List.findIdx?_eq_none_iff, ← hqs]
      intro x hx
      obtain ⟨q, hq, rfl⟩ := List.mem_map.1 hx
      obtain ⟨j, hj⟩ := List.mem_iff_getElem?.1 hq
      exact hp j (List.getElem?_eq_some_iff.1 hj).1 q hj
    unfold idxP
    rw [this]
  have HNO := Lib.hid hno
  have HNONE := Lib.hid hnone
  clear h hqs hno hnone
  go_enter Try.func65, Try.ntmps65
  go_upto_region 2 with (fail)
  go_loopg [8] qs.length (fun gn i wr => ∃ (m j : Nat), m = gn ∧ m + j = qs.length ∧ i = .int .i64 j ∧ Hid (∀ k, k < j → ∀ q, qs[k]? = some q → t.ready q.b = false) ∧ Hid (Fr [] w wr))
  case atStart => exact ⟨_, 0, rfl, rfl, rfl, fun k hk => absurd hk (Nat.not_lt_zero _), Fr.refl _ _⟩
  case round =>
    obtain ⟨m, j, rfl, hj, rfl, HP, HF⟩ := hrel
    by_cases hlt : j < qs.length
    · have hr := HH.out.fr0 HF.out
      obtain ⟨q, hq⟩ : ∃ q, qs[j]? = some q := ⟨_, List.getElem?_eq_getElem hlt⟩
      obtain ⟨ad, rfl, c0, c1, c2, c3, c4⟩ := Go.Np.Try.RowAt.blk hr.hv j q hq
      have HRD := Lib.hid (ready_calls ⟨_, _, _, _, hr⟩ q.b q.A q.c)
      simp only [blkV] at HRD
      have HQ := Lib.hid hq
      clear hr hq
      cases hb : t.ready q.b with
      | true =>
        rw [HNO.out j hlt HP.out q HQ.out hb] at hR
        rw [hb] at HRD
        clear hb
        go_wp2_with (go_at_call 47; refine HRD.out.mono ?_; rintro e w1 ⟨rfl, hF1⟩; have HF1 := Lib.hid hF1; clear hF1)
        exact hR.out _ _ ⟨rfl, HF.out.trans HF1.out (by simp)⟩
      | false =>
        rw [hb] at HRD
        have HB := Lib.hid hb
        clear hb
        go_wp2_with (go_at_call 47; refine HRD.out.mono ?_; rintro e w1 ⟨rfl, hF1⟩; have HF1 := Lib.hid hF1; clear hF1 c0 c1 c2 c3 c4)
        obtain ⟨gm, rfl⟩ : ∃ gm, m = gm + 1 := ⟨m - 1, by omega⟩
        go_roundg gm
        case rel =>
          refine ⟨gm, j + 1, rfl, by omega, by go_num, ?_, HF.out.trans HF1.out (by simp)⟩
          intro k hk r hr
          by_cases hkj : k = j
          · subst hkj
            have := HQ.out
            rw [this] at hr
            injection hr with hr
            rw [← hr]; exact HB.out
          · exact HP.out k (by omega) r hr
        case measure => omega
    · obtain rfl : j = qs.length := by omega
      rw [HNONE.out HP.out] at hR
      go_wp2
      exact hR.out _ _ ⟨rfl, HF.out⟩
end Go.Np.Try
