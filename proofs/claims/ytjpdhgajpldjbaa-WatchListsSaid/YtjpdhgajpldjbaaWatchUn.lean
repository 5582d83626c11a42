/- WatchUnlikes: the walk. -/
import Derived.Test.YtjpdhgajpldjbaaPWx8
import Derived.Test.YtjpdhgajpldjbaaAlike
import Derived.Deep.QuietTactic
import Derived.BigQuiet
set_option linter.unusedVariables false
set_option linter.unusedSimpArgs false
namespace Go.Np
theorem unl_snoc' (a : List Int) (x : Int) : (a ++ [x]).Nodup ↔ a.Nodup ∧ x ∉ a := by
  rw [List.nodup_append]
  constructor
  · rintro ⟨h1, _, h3⟩; exact ⟨h1, fun h => h3 x h x (by simp) rfl⟩
  · rintro ⟨h1, h2⟩; refine ⟨h1, by simp, fun y hy z hz e => ?_⟩
    have : z = x := by simpa using hz
    exact h2 (by rw [← this, ← e]; exact hy)
end Go.Np
namespace Go.Np.Try
open Go.RowKit Go.Proofs Go.Proofs.YtjpdhgajpldjbaaW.PrintWords
theorem walive_calls (w : World) : Calls Try.prog 12 #[] w fun e w' => e = .returned (.bool true) ∧ Fr [] w w' := by
  refine (Go.Proofs.Ytjpdhgajpldjbaa.PW.neaptidelaw22_watchAlive.calls true w (by decide +kernel)).mono ?_
  rintro e w' ⟨he, hb⟩
  exact ⟨he, Fr.of_below [] hb⟩
theorem unl_snoc (a : List Int) (x : Int) : unlP (a ++ [x]) = (unlP a && !decide (x ∈ a)) := by
  unfold unlP
  rw [Bool.eq_iff_iff]
  simp only [decide_eq_true_eq, Bool.and_eq_true, Bool.not_eq_true', decide_eq_false_iff_not]
  exact unl_snoc' a x
theorem unl_rev (l : List Int) : unlP l.reverse = unlP l := by
  unfold unlP
  exact decide_eq_decide.2 (List.reverse_perm l).nodup_iff
theorem reads_own0 {w : World} {A : Option Addr} {n cp : Nat} {xs : List Int} (h : w.ownsRow 0 3 1 (.slice A n cp) xs.length (xs.map (Value.int .i64))) : n = xs.length ∧ (Kd.int .i64).C w A xs.length xs := by
  obtain ⟨A', c', he, hr⟩ := own_reads (k := .i64) h
  injection he with h1 h2 h3
  subst h1 h2
  exact ⟨rfl, Kd.C_of_reads (d := (0 : Int)) (h1 := fun _ => rfl) hr⟩
set_option maxHeartbeats 4000000 in
set_option maxRecDepth 100000 in
theorem unlikes_calls {w : World} {A0 : Option Addr} {c0 : Nat} {a : List Int} {x : Int} (hc : a.length + 1 ≤ c0) (h : (Kd.int .i64).C w A0 (a ++ [x]).length (a ++ [x])) (hl : a.length + 1 ≤ 300) :
    Calls Try.prog 5 #[.slice A0 (a.length + 1) c0] w fun e w' => e = .returned (.bool true) ∧ Fr [] w w' := by
  obtain ⟨l, hll⟩ : ∃ l, l = a ++ [x] := ⟨_, rfl⟩
  have hlen : l.length = a.length + 1 := by rw [hll]; simp
  have hta : l.take a.length = a := by rw [hll]; simp
  rw [← hll] at h
  have HA := Lib.hid h
  have HU : Hid (∀ W, Fr [] w W → Calls Try.prog 15 #[.slice A0 (a.length + 1) c0] W fun e w' => e = .returned (.bool (unlP l)) ∧ Fr [] W w') := by
    intro W hF
    have := unlike_calls (w := W) (c := c0) (Kd.C_below h hF.below) (by omega)
    rw [hlen] at this
    exact this.mono fun e w' h => ⟨h.1, Fr.of_below [] h.2⟩
  have hfr : (Kd.int .i64).C w A0 a.length a := by
    have := take_C a.length h (by omega)
    rw [hta] at this
    exact this
  have HUa : Hid (∀ W, Fr [] w W → Calls Try.prog 15 #[.slice A0 a.length c0] W fun e w' => e = .returned (.bool (unlP a)) ∧ Fr [] W w') := by
    intro W hF
    exact (unlike_calls (w := W) (c := c0) (Kd.C_below hfr hF.below) (by omega)).mono fun e w' h => ⟨h.1, Fr.of_below [] h.2⟩
  have hx : l.getD a.length 0 = x := by rw [hll]; simp [List.getD_eq_getElem?_getD]
  obtain ⟨ad, rfl, hcx⟩ := int_at h a.length (by omega)
  rw [hx] at hcx
  have HX : Hid (∀ (W : World) j, Fr [] w W → j < a.length + 1 → W.cell? (ad.add j) = some (.int .i64 (l.getD j 0))) := by
    intro W j hF hj
    obtain ⟨ad', e, hcj⟩ := int_at (Kd.C_below h hF.below) j (by omega)
    injection e with e
    subst e
    exact hcj
  have hz0 : ((a.length : Int) + 1 == 0) = false := by simp; omega
  have HXX := Lib.hid hx
  have HLL := Lib.hid hll
  have HLEN := Lib.hid hlen
  have HTA := Lib.hid hta
  refine calls_k fun R hR => ?_
  clear h hfr hcx hx hll hlen hta
  go_enter Try.func5, Try.ntmps5
  go_wp2_with (go_at_call 12; refine (walive_calls _).mono ?_; rintro e w1 ⟨rfl, hF1⟩)
  have hcx := HX.out w1 a.length hF1 (by omega)
  rw [HXX.out] at hcx
  have hw1 : IntKind.i64.wrap ((a.length : Int) + 1 - 1) = (a.length : Int) := by rw [IntKind.wrap_i64]; omega
  have hn1 : ((a.length : Int) + 1 - 1) = (a.length : Int) := by omega
  go_quiet (fail)
  go_wp2
  obtain ⟨W0, hW0⟩ : ∃ W0, W0 = w1.drewN nq := ⟨_, rfl⟩
  rw [← hW0]
  have hF0 : Fr [] w W0 := by rw [hW0]; exact hF1.drewN nq
  have hB0 : (W0.alloc (.cells #[] 3)).ownsRow 0 3 1 (.slice (some ⟨W0.heap.size, 0, none⟩) 0 0) (l.drop (a.length + 1)).reverse.length ((l.drop (a.length + 1)).reverse.map (Value.int .i64)) := by
    rw [List.drop_of_length_le (by rw [HLEN.out]; exact Nat.le_refl _)]
    exact World.ownsRow_made W0 #[] 0 (Nat.zero_le _) (by unfold maxLen; omega) rfl
  have hFA : Fr [] w (W0.alloc (.cells #[] 3)) := hF0.alloc _
  have hNA : Fresh [] (Value.slice (some ⟨W0.heap.size, 0, none⟩) 0 0).ownBlock.toList w := fun k hk => .inr (by simp [Value.ownBlock] at hk; have := hF0.size; omega)
  have hs0 : W0.heap.size = w1.heap.size := by rw [hW0]; rfl
  rw [hs0] at hB0 hNA
  clear hW0 hF0 hF1 hcx hw1 hn1 hs0
  go_loopw [6, 7] (fun v u wr => ∃ (i : Nat) (B : Option Addr) (nn cp : Nat), i ≤ a.length + 1 ∧ u = .int .i64 ((i : Int) - 1) ∧ v = .slice B nn cp ∧ Hid (wr.ownsRow 0 3 1 (.slice B nn cp) (l.drop i).reverse.length ((l.drop i).reverse.map (Value.int .i64)) ∧ Fr [] w wr ∧ Fresh [] (Value.slice B nn cp).ownBlock.toList w)) (fun _ u _ => (RowKit.intOf u + 1).toNat)
  case atStart => exact ⟨a.length + 1, _, _, _, Nat.le_refl _, by congr 1; omega, rfl, ⟨hB0, hFA, hNA⟩⟩
  case round =>
    obtain ⟨i, B, nn, cp, hi, rfl, rfl, hH⟩ := hrel
    clear hB0 hFA hNA
    cases i with
    | succ j =>
      have e1 : ((j + 1 : Nat) : Int) - 1 = (j : Int) := by omega
      rw [e1]
      have hcj := HX.out wr j hH.out.2.1 (by omega)
      obtain ⟨y, hy⟩ : ∃ y, y = l.getD j 0 := ⟨_, rfl⟩
      have hll2 := HLEN.out
      have hdr : (l.drop j).reverse = (l.drop (j + 1)).reverse ++ [y] := by
        rw [hy, List.drop_eq_getElem_cons (by omega), List.reverse_cons]; simp [List.getD_eq_getElem?_getD, show j < l.length by omega]
      rw [← hy] at hcj
      have HD := Lib.hid hdr
      obtain ⟨S, hS⟩ : ∃ S, S = (l.drop (j + 1)).reverse := ⟨_, rfl⟩
      have hSl : S.length ≤ 300 := by rw [hS, List.length_reverse, List.length_drop]; omega
      rw [← hS] at hH HD
      have hb1 : S.length < maxLen := by unfold maxLen; omega
      have hb2 : (S.length + 1) * 8 ≤ 140737488355328 := by omega
      have hj1 : j < a.length + 1 := by omega
      clear hy hdr hS e1 hll2
      go_wp2_with (at_builtin; refine wp_append1 rfl _ _ 24 3 rfl Try.underlying24 infoZ rfl (by decide) hH.out.1 rfl [.int .i64 y] rfl rfl (by simp [Value.oneCell']) hb1 hb2 ?_; intro A2 cp2 W2 hown hF2 hN2)
      go_roundw
      case rel =>
        refine ⟨j, _, _, _, by omega, by go_num, rfl, ?_⟩
        refine ⟨by rw [HD.out, List.length_append, List.map_append]; exact hown, hH.out.2.1.trans hF2 hH.out.2.2, fun k hk => ?_⟩
        rcases hN2 k hk with h | h
        · exact hH.out.2.2 k h
        · exact .inr (by have := hH.out.2.1.size; omega)
      case measure => first | (simp [RowKit.intOf]; done) | (simp [RowKit.intOf]; omega)
    | zero =>
      have e1 : ((0 : Nat) : Int) - 1 = -1 := by omega
      rw [e1]
      rw [List.drop_zero] at hH
      obtain ⟨h1, h2, h3⟩ := hH.out
      have hnn := (reads_own0 h1).1
      have hrd := (reads_own0 h1).2
      have hl9 : l.reverse.length = a.length + 1 := by rw [List.length_reverse]; exact HLEN.out
      have HUb : Hid (∀ W, Fr [] wr W → Calls Try.prog 15 #[.slice B nn cp] W fun e w' => e = .returned (.bool (unlP l)) ∧ Fr [] W w') := by
        intro W hF
        rw [hnn]
        have := unlike_calls (w := W) (c := cp) (Kd.C_below hrd hF.below) (by omega)
        rw [unl_rev] at this
        exact this.mono fun e w' h => ⟨h.1, Fr.of_below [] h.2⟩
      have H2 := Lib.hid h2
      clear hH h1 h2 h3 hnn hrd e1 hl9
      go_wp2
      go_loopw [5, 48] (fun v u w9 => ∃ k : Nat, k ≤ a.length ∧ u = .int .i64 k ∧ v = .bool (decide (x ∈ a.take k)) ∧ ∃ n, w9 = wr.drewN n) (fun _ u _ => a.length - (RowKit.intOf u).toNat)
      case atStart => exact ⟨0, Nat.zero_le _, rfl, by simp, 0, rfl⟩
      case round =>
        obtain ⟨k, hk, rfl, rfl, n, rfl⟩ := hrel
        by_cases hlt : k < a.length
        · have hck := HX.out (wr.drewN n) k (H2.out.drewN n) (by omega)
          have hgd : l.getD k 0 = a[k] := by
            have := HTA.out
            rw [List.getD_eq_getElem?_getD, List.getElem?_eq_getElem (show k < l.length by rw [HLEN.out]; omega)]
            simp only [Option.getD_some]
            have h1 : (l.take a.length)[k]? = a[k]? := by rw [this]
            rw [List.getElem?_take, if_pos hlt, List.getElem?_eq_getElem (show k < l.length by rw [HLEN.out]; omega), List.getElem?_eq_getElem hlt] at h1
            exact Option.some.inj h1
          have ht : a.take (k + 1) = a.take k ++ [a[k]] := List.take_succ_eq_append_getElem hlt
          obtain ⟨y, hy⟩ : ∃ y, y = a[k] := ⟨_, rfl⟩
          rw [hgd, ← hy] at hck
          rw [← hy] at ht
          by_cases hin : x ∈ a.take k
          · have hb1 : decide (x ∈ a.take k) = true := decide_eq_true hin
            have hb2 : decide (x ∈ a.take (k + 1)) = true := decide_eq_true (by rw [ht]; simp [hin])
            have HB2 := Lib.hid hb2
            rw [hb1]
            clear hgd ht hy hin hb1 hb2
            go_wp2
            go_roundw
            case rel => exact ⟨k + 1, by omega, by go_num, by rw [HB2.out], by first | exact ⟨_, rfl⟩ | exact drew2 _ _ _⟩
            case measure => simp [RowKit.intOf]; omega
          · have hb1 : decide (x ∈ a.take k) = false := decide_eq_false hin
            have hb2 : decide (x ∈ a.take (k + 1)) = (y == x) := by
              rw [ht, Bool.eq_iff_iff]
              simp only [decide_eq_true_eq, List.mem_append, List.mem_singleton, beq_iff_eq]
              exact ⟨fun h => h.elim (fun h => absurd h hin) Eq.symm, fun h => .inr h.symm⟩
            have HB2 := Lib.hid hb2
            rw [hb1]
            clear hgd ht hy hin hb1 hb2
            go_wp2
            go_roundw
            case rel => exact ⟨k + 1, by omega, by go_num, by rw [HB2.out], by first | exact ⟨_, rfl⟩ | exact drew2 _ _ _⟩
            case measure => simp [RowKit.intOf]; omega
        · obtain rfl : k = a.length := by omega
          rw [List.take_length]
          have hu : unlP l = (unlP a && !decide (x ∈ a)) := by rw [HLL.out]; exact unl_snoc a x
          rw [hu] at HU HUb
          obtain ⟨p, hp⟩ : ∃ p, p = unlP a := ⟨_, rfl⟩
          obtain ⟨q, hq⟩ : ∃ q, q = decide (x ∈ a) := ⟨_, rfl⟩
          rw [← hp] at HU HUb HUa
          rw [← hq] at HU HUb ⊢
          have HWn : Hid (Fr [] w (wr.drewN n)) := H2.out.drewN n
          have HWb : Hid (Fr [] wr (wr.drewN n)) := (Fr.refl _ _).drewN n
          clear hp hq hu
          cases p <;> cases q
          all_goals
            simp only [Bool.and_true, Bool.and_false, Bool.not_true, Bool.not_false, Bool.false_and, Bool.true_and] at HU HUb
            go_wp2_with (first
              | (go_at_call 15; with_reducible refine (HU.out _ (by first | exact HWn.out | exact hFr2 | exact hFr3 | exact hFr4)).mono ?_; rintro e w5 ⟨rfl, hG5⟩; first | (have hFr4 := hFr3.trans hG5 (by simp)) | (have hFr2 := HWn.out.trans hG5 (by simp); have hFb2 := HWb.out.trans hG5 (by simp)))
              | (go_at_call 15; with_reducible refine (HUa.out _ hFr2).mono ?_; rintro e w6 ⟨rfl, hG6⟩; have hFr2b := hFr2.trans hG6 (by simp); have hFb3 := hFb2.trans hG6 (by simp))
              | (go_at_call 15; with_reducible refine (HUb.out _ hFb3).mono ?_; rintro e w7 ⟨rfl, hG7⟩; have hFr3 := hFr2b.trans hG7 (by simp)))
            exact hR.out _ _ ⟨rfl, by first | exact hFr4 | exact hFr2b⟩
theorem WatchUnlikes_walk (w : World) (A : Option Addr) (c : Nat) (l : List Int) (h : (Kd.int .i64).C w A l.length l) (hm : l.length ≤ maxLen) (hb : l.length * 8 ≤ 140737488351232) (hw : ∀ x ∈ l, (Lit.int .i64 x).wf = true) (hc : l.length ≤ c) :
    Calls Try.prog 5 #[.slice A l.length c] w fun e w' => e = .returned (.bool true) ∧ Fr [] w w' := by
  by_cases h1 : 0 < l.length ∧ l.length ≤ 300
  · have hne : l ≠ [] := List.length_pos_iff.1 h1.1
    obtain ⟨a, x, rfl⟩ : ∃ a x, l = a ++ [x] := ⟨l.dropLast, l.getLast hne, (List.dropLast_concat_getLast hne).symm⟩
    have hl : (a ++ [x]).length = a.length + 1 := by simp
    have := unlikes_calls (c0 := c) (by omega) h (by omega)
    rw [hl]; exact this
  · refine calls_k fun R hR => ?_
    by_cases h2 : 300 < l.length
    · clear h h1
      go_enter Try.func5, Try.ntmps5
      go_wp2_with (go_at_call 12; refine (walive_calls _).mono ?_; rintro e w1 ⟨rfl, hF1⟩)
      exact hR.out _ _ ⟨rfl, hF1⟩
    · have h3 : l.length = 0 := by omega
      have h4 : ((l.length : Int) == 0) = true := by simp [h3]
      clear h h1 h3
      go_enter Try.func5, Try.ntmps5
      go_wp2_with (go_at_call 12; refine (walive_calls _).mono ?_; rintro e w1 ⟨rfl, hF1⟩)
      exact hR.out _ _ ⟨rfl, hF1⟩
end Go.Np.Try
