/- NetBags: the walk. -/
import Derived.Test.YtiieflbggcgckaaTri
import Derived.Deep.SlicePairs
import Derived.OpenShut
set_option linter.unusedVariables false
set_option linter.unusedSimpArgs false
namespace Go.Np.Try
open Go.RowKit Go.Proofs Go.Conc Go.Proofs.YtiieflbggcgckaaW.PrintWords Go.ChangeShapes Go.WideShapes
/-- A slice of pairs of ints that reads as l. -/
def ActsAt (w : World) (v : Value) (l : List (Int × Int)) : Prop := ∃ A c, v = .slice A l.length c ∧ l.length ≤ maxLen ∧ ∀ j, j < l.length → ∃ ad, A = some ad ∧ w.cell? (ad.add (j * 2)) = some (.int .i64 (l.getD j (0, 0)).1) ∧ w.cell? (ad.add (j * 2 + 1)) = some (.int .i64 (l.getD j (0, 0)).2) ∧ (Lit.int .i64 (l.getD j (0, 0)).1).wf = true ∧ (Lit.int .i64 (l.getD j (0, 0)).2).wf = true
theorem open_acts {H : Type} {enc : TypeId × Value → H} {W : World} {base b0 : Nat} {sp : Nat → Bool} {held : Bool} {v : Value} {d : DataW H} {ps : List MemPlace}
    (hv : Value.okWide Try.prog W .any b0 39 v) (h : DataW.Trod enc Try.prog W base sp held 39 v d ps) : ∃ l : List (Int × Int), ActsAt W v l := by
  obtain ⟨a, n, c, rfl⟩ := okWide_slice Try.underlying39 hv
  obtain ⟨fuel, hf⟩ := h
  have hx0 := Go.Deep.open_slice_pairs Try.underlying39 Try.underlying41 (by kernel_rfl) rfl rfl (by kernel_rfl) (by kernel_rfl) hf
  rcases hx0 with ⟨hcs, _⟩ | ⟨ad, len, cap, m, k, V0, V1, D0, D1, P0, P1, hcs, _, hlc, hcm, hm, _, hx⟩
  · simp [Value.cells] at hcs
    obtain ⟨rfl, rfl, rfl⟩ := hcs
    exact ⟨[], none, 0, rfl, Nat.zero_le _, fun j hj => absurd hj (Nat.not_lt_zero _)⟩
  · simp [Value.cells] at hcs
    obtain ⟨rfl, rfl, rfl⟩ := hcs
    have hlm : n ≤ m := by rw [hm]; split <;> omega
    have each : ∀ j, j < n → ∃ q : Int × Int, V0 j = .int .i64 q.1 ∧ V1 j = .int .i64 q.2 ∧ (Lit.int .i64 q.1).wf = true ∧ (Lit.int .i64 q.2).wf = true := by
      intro j hj
      obtain ⟨_, _, h3, h4⟩ := hx j (by omega)
      obtain ⟨a, ea, _, wa⟩ := DataW.trod_int Try.underlying3 h3
      obtain ⟨b, eb, _, wb⟩ := DataW.trod_int Try.underlying3 h4
      simp at ea eb
      exact ⟨(a, b), ea, eb, wa, wb⟩
    have hq : ∃ f : Nat → Int × Int, ∀ j, j < n → V0 j = .int .i64 (f j).1 ∧ V1 j = .int .i64 (f j).2 ∧ (Lit.int .i64 (f j).1).wf = true ∧ (Lit.int .i64 (f j).2).wf = true :=
      ⟨fun j => if h : j < n then Classical.choose (each j h) else (0, 0), fun j hj => by simp only [dif_pos hj]; exact Classical.choose_spec (each j hj)⟩
    obtain ⟨f, hf⟩ := hq
    refine ⟨(List.range n).map f, some ad, c, by simp, by simp; omega, fun j hj => ?_⟩
    have hj' : j < n := by simpa using hj
    have hg : ((List.range n).map f).getD j (0, 0) = f j := by simp [List.getD_eq_getElem?_getD, hj']
    rw [hg]
    obtain ⟨h1, h2, _, _⟩ := hx j (by omega)
    obtain ⟨e1, e2, e3, e4⟩ := hf j hj'
    exact ⟨ad, rfl, by rw [h1, e1], by rw [h2, e2], e3, e4⟩
theorem lt_of_cell {w : World} {a : Addr} {v : Value} (h : w.cell? a = some v) : a.block < w.heap.size := by
  unfold World.cell? at h
  cases hb : w.heap[a.block]? with
  | none => simp [hb] at h
  | some o => exact (Array.getElem?_eq_some_iff.1 hb).1
theorem Addr_add_block (a : Addr) (n : Nat) : (a.add n).block = a.block := by unfold Addr.add; split <;> rfl
theorem atP_le {l : List Int} (hl : l.length ≤ 4000) (i : Int) : (if (atP l i).2 then l.eraseIdx i.toNat else l).length ≤ 4000 := by
  split
  · rw [List.length_eraseIdx]; split <;> omega
  · exact hl

set_option maxHeartbeats 8000000 in
set_option maxRecDepth 100000 in
theorem bags_calls {w : World} {A0 : Option Addr} {c0 : Nat} {l : List (Int × Int)} (ha : ActsAt w (.slice A0 l.length c0) l) :
    Calls Try.prog 10 #[.slice A0 l.length c0] w fun e w' => e = .returned (.bool true) ∧ Fr [] w w' := by
  have HALIVE := Lib.hid (netAlive_calls w)
  have hm : l.length ≤ maxLen := by obtain ⟨_, _, _, h, _⟩ := ha; exact h
  have HA : Hid (∀ (W : World) j, Fr [] w W → j < l.length → ∃ ad, A0 = some ad ∧ W.cell? (ad.add (j * 2)) = some (.int .i64 (l.getD j (0, 0)).1) ∧ W.cell? (ad.add (j * 2 + 1)) = some (.int .i64 (l.getD j (0, 0)).2)) := by
    intro W j hF hj
    obtain ⟨A, c, he, _, h⟩ := ha
    obtain ⟨ad, e, h1, h2, _⟩ := h j hj
    injection he with he
    subst he e
    exact ⟨ad, rfl, (hF.cell (lt_of_cell h1) (by simp)).trans h1, (hF.cell (lt_of_cell h2) (by simp)).trans h2⟩
  refine calls_k fun R hR => ?_
  clear ha
  by_cases hl : l.length ≤ 200
  · go_enter Try.func10, Try.ntmps10
    go_wp2_with (first
      | (go_at_call 27; refine HALIVE.out.mono ?_; rintro e w1 ⟨rfl, hF1⟩)
      | (go_at_call 28; refine (new_own _).mono ?_; rintro e w2 ⟨p, rfl, hO2⟩))
    have hO0 := hO2.base hF1
    clear hO2 hF1 HALIVE
    have hT0 : Two w (w2.alloc (.cells #[] 3)) p [] (.slice (some ⟨w2.heap.size, 0, none⟩) 0 0) [] := hO0.two (World.ownsRow_made w2 #[] 0 (Nat.zero_le _) (by unfold maxLen; omega) rfl) ((Fr.refl _ _).alloc _) (fun k hk => .inr (by simp [Value.ownBlock] at hk; omega))
    clear hO0
    go_loopw [4, 25] (fun v u wr => ∃ (k nn : Nat) (A : Option Addr) (c : Nat) (L : List Int), k ≤ l.length ∧ u = .int .i64 k ∧ v = .slice A nn c ∧ nn = L.length ∧ Two w wr p L (.slice A L.length c) L) (fun _ u _ => l.length - (intOf u).toNat)
    case atStart => exact ⟨0, _, _, _, [], Nat.zero_le _, rfl, rfl, rfl, hT0⟩
    case round =>
      obtain ⟨k, nn, A, c, L, hk, rfl, rfl, rfl, hT⟩ := hrel
      clear hT0
      by_cases hlt : k < l.length
      · obtain ⟨ad, rfl, hc0, hc1⟩ := HA.out wr k hT.fr hlt
        obtain ⟨K, hK⟩ : ∃ K, K = (l.getD k (0, 0)).1 := ⟨_, rfl⟩
        obtain ⟨n, hn⟩ : ∃ n, n = (l.getD k (0, 0)).2 := ⟨_, rfl⟩
        rw [← hK] at hc0
        rw [← hn] at hc1
        have hc2 : wr.cell? ⟨(ad.add (k * 2)).block, (ad.add (k * 2)).off + 1, none⟩ = some (.int .i64 n) := by
          show wr.cell? ((ad.add (k * 2)).add 1) = _
          rw [show (ad.add (k * 2)).add 1 = ad.add (k * 2 + 1) by unfold Addr.add; by_cases h1 : k * 2 = 0 <;> simp [h1, Nat.add_assoc]]; exact hc1
        clear hK hn
        have hL4 := hT.len
        have hT1 := hT.tri (.cells #[.int .i64 K, .int .i64 n] 41 (0, 0))
        clear hT
        obtain ⟨g, hg⟩ : ∃ g, g = wr.heap.size := ⟨_, rfl⟩
        obtain ⟨W1, hW1⟩ : ∃ W1, W1 = wr.alloc (.cells #[.int .i64 K, .int .i64 n] 41 (0, 0)) := ⟨_, rfl⟩
        go_upto_region 12 with (fail)
        rw [← hg, ← hW1] at hT1
        (try rw [← hg, ← hW1])
        have ck0 : W1.cell? ⟨g, 0, none⟩ = some (.int .i64 K) := cell_of hT1.obj 0
        have ck1 : W1.cell? ⟨g, 1, none⟩ = some (.int .i64 n) := cell_of hT1.obj 1
        clear hg hW1 hc0 hc1 hc2
        have HT1 := Lib.hid hT1
        clear hT1
        by_cases hK0 : K = 0
        · subst hK0
          by_cases hf : L.length < 4000
          · have e1 : (if L.length < 4000 then L ++ [n] else L) = L ++ [n] := if_pos hf
            have e2 : decide (L.length < 4000) = true := decide_eq_true hf
            have e3 : ((L ++ [n]).length : Int) = (L.length : Int) + 1 := by simp
            have HP : Hid (∀ W, Tri w W p L (.slice A L.length c) L g (.cells #[.int .i64 0, .int .i64 n] 41 (0, 0)) → Calls Try.prog 29 #[.pointer (some ⟨p, 0, none⟩), .int .i64 n] W fun e w' => e = .returned (.bool true) ∧ Tri w w' p (L ++ [n]) (.slice A L.length c) L g (.cells #[.int .i64 0, .int .i64 n] 41 (0, 0))) := by
              intro W h
              have := tri_put n h
              rw [e1, e2] at this
              exact this
            have HR : Hid (∀ W, Tri w W p (L ++ [n]) (.slice A L.length c) L g (.cells #[.int .i64 0, .int .i64 n] 41 (0, 0)) → Calls Try.prog 34 #[(.slice A L.length c), .int .i64 n] W fun e w' => ∃ A9 c9, e = .returned (.tuple #[.slice A9 (L.length + 1) c9, .bool true]) ∧ Tri w w' p (L ++ [n]) (.slice A9 (L.length + 1) c9) (L ++ [n]) g (.cells #[.int .i64 0, .int .i64 n] 41 (0, 0))) := by
              intro W h
              have := tri_rput n h hL4
              rw [e1, e2] at this
              simp only [List.length_append, List.length_cons, List.length_nil] at this
              exact this
            have HLN : Hid (∀ W A9 nn9 c9, Tri w W p (L ++ [n]) (.slice A9 nn9 c9) (L ++ [n]) g (.cells #[.int .i64 0, .int .i64 n] 41 (0, 0)) → Calls Try.prog 32 #[.pointer (some ⟨p, 0, none⟩)] W fun e w' => e = .returned (.int .i64 ((L.length : Int) + 1)) ∧ Tri w w' p (L ++ [n]) (.slice A9 nn9 c9) (L ++ [n]) g (.cells #[.int .i64 0, .int .i64 n] 41 (0, 0))) := by
              intro W A9 nn9 c9 h
              have := tri_len h
              rw [e3] at this
              exact this
            clear e1 e2 e3
            go_wp2_with (first
              | (go_at_call 29; refine (HP.out _ HT1.out).mono ?_; rintro e w3 ⟨rfl, h3⟩; have ckh30 := cell_of h3.obj 0; have ckh31 := cell_of h3.obj 1; simp only [List.getElem?_toArray, List.getElem?_cons_succ, List.getElem?_cons_zero] at ckh30 ckh31)
              | (go_at_call 34; refine (HR.out _ h3).mono ?_; rintro e w4 ⟨A4, c4, rfl, h4⟩)
              | (go_at_call 32; refine (HLN.out _ _ _ _ (by assumption)).mono ?_; rintro e w9 ⟨rfl, hE⟩))
            go_roundw
            case rel => first | exact ⟨k + 1, _, _, _, _, by omega, by go_num, rfl, rfl, hE.two⟩ | (have hE2 := hE.two; rw [show L.length + 1 = (L ++ [n]).length by simp] at hE2; exact ⟨k + 1, _, _, _, L ++ [n], by omega, by go_num, rfl, by simp, hE2⟩) | (have hE2 := hE.two; rw [show L.length + 1 = (L ++ [x]).length by simp] at hE2; exact ⟨k + 1, _, _, _, L ++ [x], by omega, by go_num, rfl, by simp, hE2⟩)
            case measure => simp [intOf]; omega
          · have e1 : (if L.length < 4000 then L ++ [n] else L) = L := if_neg hf
            have e2 : decide (L.length < 4000) = false := decide_eq_false hf
            have HP : Hid (∀ W, Tri w W p L (.slice A L.length c) L g (.cells #[.int .i64 0, .int .i64 n] 41 (0, 0)) → Calls Try.prog 29 #[.pointer (some ⟨p, 0, none⟩), .int .i64 n] W fun e w' => e = .returned (.bool false) ∧ Tri w w' p L (.slice A L.length c) L g (.cells #[.int .i64 0, .int .i64 n] 41 (0, 0))) := by
              intro W h
              have := tri_put n h
              rw [e1, e2] at this
              exact this
            have HR : Hid (∀ W, Tri w W p L (.slice A L.length c) L g (.cells #[.int .i64 0, .int .i64 n] 41 (0, 0)) → Calls Try.prog 34 #[(.slice A L.length c), .int .i64 n] W fun e w' => ∃ A9 c9, e = .returned (.tuple #[.slice A9 L.length c9, .bool false]) ∧ Tri w w' p L (.slice A9 L.length c9) L g (.cells #[.int .i64 0, .int .i64 n] 41 (0, 0))) := by
              intro W h
              have := tri_rput n h hL4
              rw [e1, e2] at this
              exact this
            have HLN : Hid (∀ W A9 nn9 c9, Tri w W p L (.slice A9 nn9 c9) L g (.cells #[.int .i64 0, .int .i64 n] 41 (0, 0)) → Calls Try.prog 32 #[.pointer (some ⟨p, 0, none⟩)] W fun e w' => e = .returned (.int .i64 (L.length : Int)) ∧ Tri w w' p L (.slice A9 nn9 c9) L g (.cells #[.int .i64 0, .int .i64 n] 41 (0, 0))) := by
              exact fun W A9 nn9 c9 h => tri_len h
            clear e1 e2
            go_wp2_with (first
              | (go_at_call 29; refine (HP.out _ HT1.out).mono ?_; rintro e w3 ⟨rfl, h3⟩; have ckh30 := cell_of h3.obj 0; have ckh31 := cell_of h3.obj 1; simp only [List.getElem?_toArray, List.getElem?_cons_succ, List.getElem?_cons_zero] at ckh30 ckh31)
              | (go_at_call 34; refine (HR.out _ h3).mono ?_; rintro e w4 ⟨A4, c4, rfl, h4⟩)
              | (go_at_call 32; refine (HLN.out _ _ _ _ (by assumption)).mono ?_; rintro e w9 ⟨rfl, hE⟩))
            go_roundw
            case rel => first | exact ⟨k + 1, _, _, _, _, by omega, by go_num, rfl, rfl, hE.two⟩ | (have hE2 := hE.two; rw [show L.length + 1 = (L ++ [n]).length by simp] at hE2; exact ⟨k + 1, _, _, _, L ++ [n], by omega, by go_num, rfl, by simp, hE2⟩) | (have hE2 := hE.two; rw [show L.length + 1 = (L ++ [x]).length by simp] at hE2; exact ⟨k + 1, _, _, _, L ++ [x], by omega, by go_num, rfl, by simp, hE2⟩)
            case measure => simp [intOf]; omega
        · by_cases hK1 : K = 1
          · subst hK1
            by_cases hf : 0 ≤ n ∧ n < L.length
            · obtain ⟨x, hx⟩ : ∃ x, x = L.getD n.toNat 0 := ⟨_, rfl⟩
              have e1 : atP L n = (x, true) := by rw [hx]; exact if_pos hf
              obtain ⟨M, hM⟩ : ∃ M, M = L.eraseIdx n.toNat := ⟨_, rfl⟩
              have hM4 : M.length ≤ 4000 := by rw [hM, List.length_eraseIdx]; split <;> omega
              have HP : Hid (∀ W, Tri w W p L (.slice A L.length c) L g (.cells #[.int .i64 1, .int .i64 n] 41 (0, 0)) → Calls Try.prog 31 #[.pointer (some ⟨p, 0, none⟩), .int .i64 n] W fun e w' => e = .returned (.tuple #[.int .i64 x, .bool true]) ∧ Tri w w' p M (.slice A L.length c) L g (.cells #[.int .i64 1, .int .i64 n] 41 (0, 0))) := by
                intro W h
                have := tri_take n h
                rw [e1] at this
                simp only [if_true, ← hM] at this
                exact this
              have HR : Hid (∀ W, Tri w W p M (.slice A L.length c) L g (.cells #[.int .i64 1, .int .i64 n] 41 (0, 0)) → Calls Try.prog 35 #[(.slice A L.length c), .int .i64 n] W fun e w' => ∃ A9 c9, e = .returned (.tuple #[.slice A9 M.length c9, .int .i64 x, .bool true]) ∧ Tri w w' p M (.slice A9 M.length c9) M g (.cells #[.int .i64 1, .int .i64 n] 41 (0, 0))) := by
                intro W h
                have := tri_rtake n h hL4
                rw [e1] at this
                simp only [if_true, ← hM] at this
                exact this
              have HLN : Hid (∀ W A9 nn9 c9, Tri w W p M (.slice A9 nn9 c9) M g (.cells #[.int .i64 1, .int .i64 n] 41 (0, 0)) → Calls Try.prog 32 #[.pointer (some ⟨p, 0, none⟩)] W fun e w' => e = .returned (.int .i64 (M.length : Int)) ∧ Tri w w' p M (.slice A9 nn9 c9) M g (.cells #[.int .i64 1, .int .i64 n] 41 (0, 0))) := by
                exact fun W A9 nn9 c9 h => tri_len h
              clear e1 hM hx hf
              go_wp2_with (first
                | (go_at_call 31; refine (HP.out _ HT1.out).mono ?_; rintro e w3 ⟨rfl, h3⟩; have ckh30 := cell_of h3.obj 0; have ckh31 := cell_of h3.obj 1; simp only [List.getElem?_toArray, List.getElem?_cons_succ, List.getElem?_cons_zero] at ckh30 ckh31)
                | (go_at_call 35; refine (HR.out _ h3).mono ?_; rintro e w4 ⟨A4, c4, rfl, h4⟩)
                | (go_at_call 32; refine (HLN.out _ _ _ _ (by assumption)).mono ?_; rintro e w9 ⟨rfl, hE⟩))
              go_roundw
              case rel => first | exact ⟨k + 1, _, _, _, _, by omega, by go_num, rfl, rfl, hE.two⟩ | (have hE2 := hE.two; rw [show L.length + 1 = (L ++ [n]).length by simp] at hE2; exact ⟨k + 1, _, _, _, L ++ [n], by omega, by go_num, rfl, by simp, hE2⟩) | (have hE2 := hE.two; rw [show L.length + 1 = (L ++ [x]).length by simp] at hE2; exact ⟨k + 1, _, _, _, L ++ [x], by omega, by go_num, rfl, by simp, hE2⟩)
              case measure => simp [intOf]; omega
            · have e1 : atP L n = (0, false) := if_neg hf
              have HP : Hid (∀ W, Tri w W p L (.slice A L.length c) L g (.cells #[.int .i64 1, .int .i64 n] 41 (0, 0)) → Calls Try.prog 31 #[.pointer (some ⟨p, 0, none⟩), .int .i64 n] W fun e w' => e = .returned (.tuple #[.int .i64 0, .bool false]) ∧ Tri w w' p L (.slice A L.length c) L g (.cells #[.int .i64 1, .int .i64 n] 41 (0, 0))) := by
                intro W h
                have := tri_take n h
                rw [e1] at this
                simp only [Bool.false_eq_true, if_false] at this
                exact this
              have HR : Hid (∀ W, Tri w W p L (.slice A L.length c) L g (.cells #[.int .i64 1, .int .i64 n] 41 (0, 0)) → Calls Try.prog 35 #[(.slice A L.length c), .int .i64 n] W fun e w' => ∃ A9 c9, e = .returned (.tuple #[.slice A9 L.length c9, .int .i64 0, .bool false]) ∧ Tri w w' p L (.slice A9 L.length c9) L g (.cells #[.int .i64 1, .int .i64 n] 41 (0, 0))) := by
                intro W h
                have := tri_rtake n h hL4
                rw [e1] at this
                simp only [Bool.false_eq_true, if_false] at this
                exact this
              have HLN : Hid (∀ W A9 nn9 c9, Tri w W p L (.slice A9 nn9 c9) L g (.cells #[.int .i64 1, .int .i64 n] 41 (0, 0)) → Calls Try.prog 32 #[.pointer (some ⟨p, 0, none⟩)] W fun e w' => e = .returned (.int .i64 (L.length : Int)) ∧ Tri w w' p L (.slice A9 nn9 c9) L g (.cells #[.int .i64 1, .int .i64 n] 41 (0, 0))) := by
                exact fun W A9 nn9 c9 h => tri_len h
              clear e1 hf
              go_wp2_with (first
                | (go_at_call 31; refine (HP.out _ HT1.out).mono ?_; rintro e w3 ⟨rfl, h3⟩; have ckh30 := cell_of h3.obj 0; have ckh31 := cell_of h3.obj 1; simp only [List.getElem?_toArray, List.getElem?_cons_succ, List.getElem?_cons_zero] at ckh30 ckh31)
                | (go_at_call 35; refine (HR.out _ h3).mono ?_; rintro e w4 ⟨A4, c4, rfl, h4⟩)
                | (go_at_call 32; refine (HLN.out _ _ _ _ (by assumption)).mono ?_; rintro e w9 ⟨rfl, hE⟩))
              go_roundw
              case rel => first | exact ⟨k + 1, _, _, _, _, by omega, by go_num, rfl, rfl, hE.two⟩ | (have hE2 := hE.two; rw [show L.length + 1 = (L ++ [n]).length by simp] at hE2; exact ⟨k + 1, _, _, _, L ++ [n], by omega, by go_num, rfl, by simp, hE2⟩) | (have hE2 := hE.two; rw [show L.length + 1 = (L ++ [x]).length by simp] at hE2; exact ⟨k + 1, _, _, _, L ++ [x], by omega, by go_num, rfl, by simp, hE2⟩)
              case measure => simp [intOf]; omega
          · by_cases hK2 : K = 2
            · subst hK2
              by_cases hf : 0 ≤ n ∧ n < L.length
              · obtain ⟨x, hx⟩ : ∃ x, x = L.getD n.toNat 0 := ⟨_, rfl⟩
                have e1 : atP L n = (x, true) := by rw [hx]; exact if_pos hf
                by_cases hq : L.length < 4000
                · have e2 : decide (L.length < 4000) = true := decide_eq_true hq
                  have e4 : (if L.length < 4000 then L ++ [x] else L) = L ++ [x] := if_pos hq
                  have e3 : ((L ++ [x]).length : Int) = (L.length : Int) + 1 := by simp
                  have HP : Hid (∀ W, Tri w W p L (.slice A L.length c) L g (.cells #[.int .i64 2, .int .i64 n] 41 (0, 0)) → Calls Try.prog 36 #[.pointer (some ⟨p, 0, none⟩), .int .i64 n] W fun e w' => e = .returned (.bool true) ∧ Tri w w' p (L ++ [x]) (.slice A L.length c) L g (.cells #[.int .i64 2, .int .i64 n] 41 (0, 0))) := by
                    intro W h
                    have := tri_double n h
                    rw [e1, e2] at this
                    simp only [Bool.and_true, if_true] at this
                    exact this
                  have HA2 : Hid (∀ W, Tri w W p (L ++ [x]) (.slice A L.length c) L g (.cells #[.int .i64 2, .int .i64 n] 41 (0, 0)) → Calls Try.prog 37 #[(.slice A L.length c), .int .i64 n] W fun e w' => e = .returned (.tuple #[.int .i64 x, .bool true]) ∧ Tri w w' p (L ++ [x]) (.slice A L.length c) L g (.cells #[.int .i64 2, .int .i64 n] 41 (0, 0))) := by
                    intro W h
                    have := tri_rat n h
                    rw [e1] at this
                    exact this
                  have HR : Hid (∀ W, Tri w W p (L ++ [x]) (.slice A L.length c) L g (.cells #[.int .i64 2, .int .i64 n] 41 (0, 0)) → Calls Try.prog 34 #[(.slice A L.length c), .int .i64 x] W fun e w' => ∃ A9 c9, e = .returned (.tuple #[.slice A9 (L.length + 1) c9, .bool true]) ∧ Tri w w' p (L ++ [x]) (.slice A9 (L.length + 1) c9) (L ++ [x]) g (.cells #[.int .i64 2, .int .i64 n] 41 (0, 0))) := by
                    intro W h
                    have := tri_rput x h hL4
                    rw [e4, e2] at this
                    simp only [List.length_append, List.length_cons, List.length_nil] at this
                    exact this
                  have HLN : Hid (∀ W A9 nn9 c9, Tri w W p (L ++ [x]) (.slice A9 nn9 c9) (L ++ [x]) g (.cells #[.int .i64 2, .int .i64 n] 41 (0, 0)) → Calls Try.prog 32 #[.pointer (some ⟨p, 0, none⟩)] W fun e w' => e = .returned (.int .i64 ((L.length : Int) + 1)) ∧ Tri w w' p (L ++ [x]) (.slice A9 nn9 c9) (L ++ [x]) g (.cells #[.int .i64 2, .int .i64 n] 41 (0, 0))) := by
                    intro W A9 nn9 c9 h
                    have := tri_len h
                    rw [e3] at this
                    exact this
                  clear e1 e2 e3 e4 hx hf
                  go_wp2_with (first
                    | (go_at_call 36; refine (HP.out _ HT1.out).mono ?_; rintro e w3 ⟨rfl, h3⟩; have ckh30 := cell_of h3.obj 0; have ckh31 := cell_of h3.obj 1; simp only [List.getElem?_toArray, List.getElem?_cons_succ, List.getElem?_cons_zero] at ckh30 ckh31)
                    | (go_at_call 37; refine (HA2.out _ h3).mono ?_; rintro e w4 ⟨rfl, h4⟩)
                    | (go_at_call 34; refine (HR.out _ h4).mono ?_; rintro e w5 ⟨A5, c5, rfl, h5⟩)
                    | (go_at_call 32; refine (HLN.out _ _ _ _ (by assumption)).mono ?_; rintro e w9 ⟨rfl, hE⟩))
                  go_roundw
                  case rel => first | exact ⟨k + 1, _, _, _, _, by omega, by go_num, rfl, rfl, hE.two⟩ | (have hE2 := hE.two; rw [show L.length + 1 = (L ++ [n]).length by simp] at hE2; exact ⟨k + 1, _, _, _, L ++ [n], by omega, by go_num, rfl, by simp, hE2⟩) | (have hE2 := hE.two; rw [show L.length + 1 = (L ++ [x]).length by simp] at hE2; exact ⟨k + 1, _, _, _, L ++ [x], by omega, by go_num, rfl, by simp, hE2⟩)
                  case measure => simp [intOf]; omega
                · have e2 : decide (L.length < 4000) = false := decide_eq_false hq
                  have e4 : (if L.length < 4000 then L ++ [x] else L) = L := if_neg hq
                  have HP : Hid (∀ W, Tri w W p L (.slice A L.length c) L g (.cells #[.int .i64 2, .int .i64 n] 41 (0, 0)) → Calls Try.prog 36 #[.pointer (some ⟨p, 0, none⟩), .int .i64 n] W fun e w' => e = .returned (.bool false) ∧ Tri w w' p L (.slice A L.length c) L g (.cells #[.int .i64 2, .int .i64 n] 41 (0, 0))) := by
                    intro W h
                    have := tri_double n h
                    rw [e1, e2] at this
                    simp only [Bool.and_false, Bool.false_eq_true, if_false] at this
                    exact this
                  have HA2 : Hid (∀ W, Tri w W p L (.slice A L.length c) L g (.cells #[.int .i64 2, .int .i64 n] 41 (0, 0)) → Calls Try.prog 37 #[(.slice A L.length c), .int .i64 n] W fun e w' => e = .returned (.tuple #[.int .i64 x, .bool true]) ∧ Tri w w' p L (.slice A L.length c) L g (.cells #[.int .i64 2, .int .i64 n] 41 (0, 0))) := by
                    intro W h
                    have := tri_rat n h
                    rw [e1] at this
                    exact this
                  have HR : Hid (∀ W, Tri w W p L (.slice A L.length c) L g (.cells #[.int .i64 2, .int .i64 n] 41 (0, 0)) → Calls Try.prog 34 #[(.slice A L.length c), .int .i64 x] W fun e w' => ∃ A9 c9, e = .returned (.tuple #[.slice A9 L.length c9, .bool false]) ∧ Tri w w' p L (.slice A9 L.length c9) L g (.cells #[.int .i64 2, .int .i64 n] 41 (0, 0))) := by
                    intro W h
                    have := tri_rput x h hL4
                    rw [e4, e2] at this
                    exact this
                  have HLN : Hid (∀ W A9 nn9 c9, Tri w W p L (.slice A9 nn9 c9) L g (.cells #[.int .i64 2, .int .i64 n] 41 (0, 0)) → Calls Try.prog 32 #[.pointer (some ⟨p, 0, none⟩)] W fun e w' => e = .returned (.int .i64 (L.length : Int)) ∧ Tri w w' p L (.slice A9 nn9 c9) L g (.cells #[.int .i64 2, .int .i64 n] 41 (0, 0))) := by
                    exact fun W A9 nn9 c9 h => tri_len h
                  clear e1 e2 e4 hx hf
                  go_wp2_with (first
                    | (go_at_call 36; refine (HP.out _ HT1.out).mono ?_; rintro e w3 ⟨rfl, h3⟩; have ckh30 := cell_of h3.obj 0; have ckh31 := cell_of h3.obj 1; simp only [List.getElem?_toArray, List.getElem?_cons_succ, List.getElem?_cons_zero] at ckh30 ckh31)
                    | (go_at_call 37; refine (HA2.out _ h3).mono ?_; rintro e w4 ⟨rfl, h4⟩)
                    | (go_at_call 34; refine (HR.out _ h4).mono ?_; rintro e w5 ⟨A5, c5, rfl, h5⟩)
                    | (go_at_call 32; refine (HLN.out _ _ _ _ (by assumption)).mono ?_; rintro e w9 ⟨rfl, hE⟩))
                  go_roundw
                  case rel => first | exact ⟨k + 1, _, _, _, _, by omega, by go_num, rfl, rfl, hE.two⟩ | (have hE2 := hE.two; rw [show L.length + 1 = (L ++ [n]).length by simp] at hE2; exact ⟨k + 1, _, _, _, L ++ [n], by omega, by go_num, rfl, by simp, hE2⟩) | (have hE2 := hE.two; rw [show L.length + 1 = (L ++ [x]).length by simp] at hE2; exact ⟨k + 1, _, _, _, L ++ [x], by omega, by go_num, rfl, by simp, hE2⟩)
                  case measure => simp [intOf]; omega
              · have e1 : atP L n = (0, false) := if_neg hf
                have HP : Hid (∀ W, Tri w W p L (.slice A L.length c) L g (.cells #[.int .i64 2, .int .i64 n] 41 (0, 0)) → Calls Try.prog 36 #[.pointer (some ⟨p, 0, none⟩), .int .i64 n] W fun e w' => e = .returned (.bool false) ∧ Tri w w' p L (.slice A L.length c) L g (.cells #[.int .i64 2, .int .i64 n] 41 (0, 0))) := by
                  intro W h
                  have := tri_double n h
                  rw [e1] at this
                  simp only [Bool.false_and, Bool.false_eq_true, if_false] at this
                  exact this
                have HA2 : Hid (∀ W, Tri w W p L (.slice A L.length c) L g (.cells #[.int .i64 2, .int .i64 n] 41 (0, 0)) → Calls Try.prog 37 #[(.slice A L.length c), .int .i64 n] W fun e w' => e = .returned (.tuple #[.int .i64 0, .bool false]) ∧ Tri w w' p L (.slice A L.length c) L g (.cells #[.int .i64 2, .int .i64 n] 41 (0, 0))) := by
                  intro W h
                  have := tri_rat n h
                  rw [e1] at this
                  exact this
                have HLN : Hid (∀ W A9 nn9 c9, Tri w W p L (.slice A9 nn9 c9) L g (.cells #[.int .i64 2, .int .i64 n] 41 (0, 0)) → Calls Try.prog 32 #[.pointer (some ⟨p, 0, none⟩)] W fun e w' => e = .returned (.int .i64 (L.length : Int)) ∧ Tri w w' p L (.slice A9 nn9 c9) L g (.cells #[.int .i64 2, .int .i64 n] 41 (0, 0))) := by
                  exact fun W A9 nn9 c9 h => tri_len h
                clear e1 hf
                go_wp2_with (first
                  | (go_at_call 36; refine (HP.out _ HT1.out).mono ?_; rintro e w3 ⟨rfl, h3⟩; have ckh30 := cell_of h3.obj 0; have ckh31 := cell_of h3.obj 1; simp only [List.getElem?_toArray, List.getElem?_cons_succ, List.getElem?_cons_zero] at ckh30 ckh31)
                  | (go_at_call 37; refine (HA2.out _ h3).mono ?_; rintro e w4 ⟨rfl, h4⟩)
                  | (go_at_call 32; refine (HLN.out _ _ _ _ (by assumption)).mono ?_; rintro e w9 ⟨rfl, hE⟩))
                go_roundw
                case rel => first | exact ⟨k + 1, _, _, _, _, by omega, by go_num, rfl, rfl, hE.two⟩ | (have hE2 := hE.two; rw [show L.length + 1 = (L ++ [n]).length by simp] at hE2; exact ⟨k + 1, _, _, _, L ++ [n], by omega, by go_num, rfl, by simp, hE2⟩) | (have hE2 := hE.two; rw [show L.length + 1 = (L ++ [x]).length by simp] at hE2; exact ⟨k + 1, _, _, _, L ++ [x], by omega, by go_num, rfl, by simp, hE2⟩)
                case measure => simp [intOf]; omega
            · by_cases hK3 : K = 3
              · subst hK3
                by_cases hf : 0 ≤ n ∧ n < L.length
                · obtain ⟨x, hx⟩ : ∃ x, x = L.getD n.toNat 0 := ⟨_, rfl⟩
                  have e1 : atP L n = (x, true) := by rw [hx]; exact if_pos hf
                  have HP : Hid (∀ W, Tri w W p L (.slice A L.length c) L g (.cells #[.int .i64 3, .int .i64 n] 41 (0, 0)) → Calls Try.prog 30 #[.pointer (some ⟨p, 0, none⟩), .int .i64 n] W fun e w' => e = .returned (.tuple #[.int .i64 x, .bool true]) ∧ Tri w w' p L (.slice A L.length c) L g (.cells #[.int .i64 3, .int .i64 n] 41 (0, 0))) := by
                    intro W h
                    have := tri_at n h
                    rw [e1] at this
                    exact this
                  have HA2 : Hid (∀ W, Tri w W p L (.slice A L.length c) L g (.cells #[.int .i64 3, .int .i64 n] 41 (0, 0)) → Calls Try.prog 37 #[(.slice A L.length c), .int .i64 n] W fun e w' => e = .returned (.tuple #[.int .i64 x, .bool true]) ∧ Tri w w' p L (.slice A L.length c) L g (.cells #[.int .i64 3, .int .i64 n] 41 (0, 0))) := by
                    intro W h
                    have := tri_rat n h
                    rw [e1] at this
                    exact this
                  have HLN : Hid (∀ W A9 nn9 c9, Tri w W p L (.slice A9 nn9 c9) L g (.cells #[.int .i64 3, .int .i64 n] 41 (0, 0)) → Calls Try.prog 32 #[.pointer (some ⟨p, 0, none⟩)] W fun e w' => e = .returned (.int .i64 (L.length : Int)) ∧ Tri w w' p L (.slice A9 nn9 c9) L g (.cells #[.int .i64 3, .int .i64 n] 41 (0, 0))) := by
                    exact fun W A9 nn9 c9 h => tri_len h
                  clear e1 hx hf
                  go_wp2_with (first
                    | (go_at_call 30; refine (HP.out _ HT1.out).mono ?_; rintro e w3 ⟨rfl, h3⟩; have ckh30 := cell_of h3.obj 0; have ckh31 := cell_of h3.obj 1; simp only [List.getElem?_toArray, List.getElem?_cons_succ, List.getElem?_cons_zero] at ckh30 ckh31)
                    | (go_at_call 37; refine (HA2.out _ h3).mono ?_; rintro e w4 ⟨rfl, h4⟩)
                    | (go_at_call 32; refine (HLN.out _ _ _ _ (by assumption)).mono ?_; rintro e w9 ⟨rfl, hE⟩))
                  go_roundw
                  case rel => first | exact ⟨k + 1, _, _, _, _, by omega, by go_num, rfl, rfl, hE.two⟩ | (have hE2 := hE.two; rw [show L.length + 1 = (L ++ [n]).length by simp] at hE2; exact ⟨k + 1, _, _, _, L ++ [n], by omega, by go_num, rfl, by simp, hE2⟩) | (have hE2 := hE.two; rw [show L.length + 1 = (L ++ [x]).length by simp] at hE2; exact ⟨k + 1, _, _, _, L ++ [x], by omega, by go_num, rfl, by simp, hE2⟩)
                  case measure => simp [intOf]; omega
                · have e1 : atP L n = (0, false) := if_neg hf
                  have HP : Hid (∀ W, Tri w W p L (.slice A L.length c) L g (.cells #[.int .i64 3, .int .i64 n] 41 (0, 0)) → Calls Try.prog 30 #[.pointer (some ⟨p, 0, none⟩), .int .i64 n] W fun e w' => e = .returned (.tuple #[.int .i64 0, .bool false]) ∧ Tri w w' p L (.slice A L.length c) L g (.cells #[.int .i64 3, .int .i64 n] 41 (0, 0))) := by
                    intro W h
                    have := tri_at n h
                    rw [e1] at this
                    exact this
                  have HA2 : Hid (∀ W, Tri w W p L (.slice A L.length c) L g (.cells #[.int .i64 3, .int .i64 n] 41 (0, 0)) → Calls Try.prog 37 #[(.slice A L.length c), .int .i64 n] W fun e w' => e = .returned (.tuple #[.int .i64 0, .bool false]) ∧ Tri w w' p L (.slice A L.length c) L g (.cells #[.int .i64 3, .int .i64 n] 41 (0, 0))) := by
                    intro W h
                    have := tri_rat n h
                    rw [e1] at this
                    exact this
                  have HLN : Hid (∀ W A9 nn9 c9, Tri w W p L (.slice A9 nn9 c9) L g (.cells #[.int .i64 3, .int .i64 n] 41 (0, 0)) → Calls Try.prog 32 #[.pointer (some ⟨p, 0, none⟩)] W fun e w' => e = .returned (.int .i64 (L.length : Int)) ∧ Tri w w' p L (.slice A9 nn9 c9) L g (.cells #[.int .i64 3, .int .i64 n] 41 (0, 0))) := by
                    exact fun W A9 nn9 c9 h => tri_len h
                  clear e1 hf
                  go_wp2_with (first
                    | (go_at_call 30; refine (HP.out _ HT1.out).mono ?_; rintro e w3 ⟨rfl, h3⟩; have ckh30 := cell_of h3.obj 0; have ckh31 := cell_of h3.obj 1; simp only [List.getElem?_toArray, List.getElem?_cons_succ, List.getElem?_cons_zero] at ckh30 ckh31)
                    | (go_at_call 37; refine (HA2.out _ h3).mono ?_; rintro e w4 ⟨rfl, h4⟩)
                    | (go_at_call 32; refine (HLN.out _ _ _ _ (by assumption)).mono ?_; rintro e w9 ⟨rfl, hE⟩))
                  go_roundw
                  case rel => first | exact ⟨k + 1, _, _, _, _, by omega, by go_num, rfl, rfl, hE.two⟩ | (have hE2 := hE.two; rw [show L.length + 1 = (L ++ [n]).length by simp] at hE2; exact ⟨k + 1, _, _, _, L ++ [n], by omega, by go_num, rfl, by simp, hE2⟩) | (have hE2 := hE.two; rw [show L.length + 1 = (L ++ [x]).length by simp] at hE2; exact ⟨k + 1, _, _, _, L ++ [x], by omega, by go_num, rfl, by simp, hE2⟩)
                  case measure => simp [intOf]; omega
              · have HLN : Hid (∀ W A9 nn9 c9, Tri w W p L (.slice A9 nn9 c9) L g (.cells #[.int .i64 K, .int .i64 n] 41 (0, 0)) → Calls Try.prog 32 #[.pointer (some ⟨p, 0, none⟩)] W fun e w' => e = .returned (.int .i64 (L.length : Int)) ∧ Tri w w' p L (.slice A9 nn9 c9) L g (.cells #[.int .i64 K, .int .i64 n] 41 (0, 0))) := by
                  exact fun W A9 nn9 c9 h => tri_len h
                go_wp2_with (first
                  | (go_at_call 32; refine (HLN.out _ _ _ _ HT1.out).mono ?_; rintro e w9 ⟨rfl, hE⟩))
                go_roundw
                case rel => first | exact ⟨k + 1, _, _, _, _, by omega, by go_num, rfl, rfl, hE.two⟩ | (have hE2 := hE.two; rw [show L.length + 1 = (L ++ [n]).length by simp] at hE2; exact ⟨k + 1, _, _, _, L ++ [n], by omega, by go_num, rfl, by simp, hE2⟩) | (have hE2 := hE.two; rw [show L.length + 1 = (L ++ [x]).length by simp] at hE2; exact ⟨k + 1, _, _, _, L ++ [x], by omega, by go_num, rfl, by simp, hE2⟩)
                case measure => simp [intOf]; omega
      · obtain rfl : k = l.length := by omega
        have hL4 := hT.len
        have HAT := Lib.hid (fun (W : World) (j : Int) (h : Two w W p L (.slice A L.length c) L) => at_two j h)
        go_wp2
        go_loopw [115] (fun u w9 => ∃ j : Nat, j ≤ L.length ∧ u = .int .i64 j ∧ Two w w9 p L (.slice A L.length c) L) (fun u _ => L.length - (intOf u).toNat)
        case atStart => exact ⟨0, Nat.zero_le _, rfl, hT⟩
        case round =>
          obtain ⟨j, hj, rfl, hU⟩ := hrel
          clear hT
          by_cases hjl : j < L.length
          · obtain ⟨x, hx⟩ : ∃ x, x = L.getD j 0 := ⟨_, rfl⟩
            have e1 : atP L j = (x, true) := by rw [hx]; exact if_pos ⟨by omega, by omega⟩
            have hgx : (L.map encI)[j]? = some (encI x) := by rw [hx, List.getElem?_map, List.getElem?_eq_getElem hjl]; simp [List.getD_eq_getElem?_getD, hjl]
            have HG := Lib.hid hgx
            have HA1 : Hid (∀ W, Two w W p L (.slice A L.length c) L → Calls Try.prog 30 #[.pointer (some ⟨p, 0, none⟩), .int .i64 (j : Int)] W fun e w' => e = .returned (.tuple #[.int .i64 x, .bool true]) ∧ Two w w' p L (.slice A L.length c) L ∧ ∃ gg, A = some ⟨gg, 0, none⟩ ∧ w'.cell? ⟨gg, j, none⟩ = some (.int .i64 x)) := by
              intro W h
              refine (at_two (j : Int) h).mono ?_
              rw [e1]
              rintro e w' ⟨rfl, h2⟩
              obtain ⟨gg, h3, h4⟩ := row_at h2.row j (encI x) hgx
              exact ⟨rfl, h2, gg, h3, h4⟩
            clear hx e1 hgx HAT
            have HU := Lib.hid hU
            clear hU
            go_wp2_with (go_at_call 30; refine (HA1.out _ HU.out).mono ?_; rintro e w8 ⟨rfl, hU8, gg, rfl, hcg⟩)
            go_roundw
            case rel => exact ⟨j + 1, by omega, by go_num, hU8⟩
            case measure => simp [intOf]; omega
          · obtain rfl : j = L.length := by omega
            have hfin := hU.fr
            go_wp2
            exact hR.out _ _ ⟨rfl, hfin⟩
  · go_enter Try.func10, Try.ntmps10
    go_wp2_with (go_at_call 27; refine HALIVE.out.mono ?_; rintro e w1 ⟨rfl, hF1⟩)
    exact hR.out _ _ ⟨rfl, hF1⟩
theorem NetBags_walk (w : World) (v : Value) (l : List (Int × Int)) (h : ActsAt w v l) :
    Calls Try.prog 10 #[v] w fun e w' => e = .returned (.bool true) ∧ Fr [] w w' := by
  have h' := h
  obtain ⟨A, c, rfl, _⟩ := h
  exact bags_calls h'
end Go.Np.Try
