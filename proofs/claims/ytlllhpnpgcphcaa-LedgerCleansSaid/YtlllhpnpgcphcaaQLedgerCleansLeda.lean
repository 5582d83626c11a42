/- A text that the row of LedgerCleans needs. (Pruned by tools/prune.py.) -/
import Derived.Test.YtlllhpnpgcphcaaQLedgerCleansChk
set_option linter.unusedVariables false
set_option linter.unusedSimpArgs false
namespace Go.Np.Try
open Go.RowKit Go.Proofs Go.Proofs.Ytlllhpnpgcphcaa.PX Go.Proofs.YtlllhpnpgcphcaaW.PrintWords
def okD (C : Ch) (d : Int) : Bool := decide (d = 0) || C.t.has d
def settledN (C : Ch) (l : List Int) : Nat := (l.takeWhile (okD C)).length
theorem takeWhile_len {p : Int → Bool} {l : List Int} {k : Nat} (h : ∀ i, i < k → p (l.getD i 0) = true) (hk : k ≤ l.length) (he : k = l.length ∨ p (l.getD k 0) = false) : (l.takeWhile p).length = k := by
  induction l generalizing k with
  | nil => simp at hk; simp [hk]
  | cons x l ih =>
    cases k with
    | zero =>
      rcases he with he | he
      · simp at he
      · simp at he
        simp [List.takeWhile_cons, he]
    | succ k =>
      have h0 : p x = true := by simpa using h 0 (by omega)
      rw [List.takeWhile_cons, if_pos h0, List.length_cons, ih (k := k) (fun i hi => by simpa using h (i + 1) (by omega)) (by simpa using hk) (by simpa using he)]
set_option maxHeartbeats 2000000 in
set_option maxRecDepth 100000 in
theorem settled_calls {X : Nat → Prop} {w : World} {c : Nat} {C : Ch} {A : Option Addr} {cp : Nat} {l : List Int} (h : ChAt X w c C) (hC : (Kd.int .i64).C w A l.length l) :
    Calls Try.prog 61 #[.pointer (some ⟨c, 0, none⟩), .slice A l.length cp] w fun e w' => e = .returned (.int .i64 (settledN C l)) ∧ Fr [] w w' := by
  obtain ⟨p, v, D, h⟩ := h
  have H := Lib.hid h
  have HL := Lib.hid (fun k hk => int_at hC k hk)
  have hmx : l.length ≤ 9223372036854775807 := hC.2.1
  have HTR : Hid (∀ W, Fr [] w W → Calls Try.prog 49 #[.pointer (some ⟨c, 0, none⟩)] W fun e w' => e = .returned (.pointer (some ⟨p, 0, none⟩)) ∧ Fr [] W w') := fun W hW => ch_tree (H.out.fr hW)
  refine calls_k fun R hR => ?_
  obtain ⟨N, hN⟩ : ∃ N, l.length = N := ⟨_, rfl⟩
  rw [hN] at hmx
  rw [hN]
  have HN := Lib.hid hN
  clear h hC hN
  go_enter Try.func61, Try.ntmps61
  go_upto_region 2 with (fail)
  go_loopg [9] N (fun gn i wr => ∃ (m k : Nat), m = gn ∧ i = .int .i64 k ∧ m + k = N ∧ Hid (∀ i, i < k → okD C (l.getD i 0) = true) ∧ Hid (Fr [] w wr))
  case atStart => exact ⟨_, 0, rfl, rfl, rfl, fun i hi => absurd hi (Nat.not_lt_zero _), Fr.refl _ _⟩
  case round =>
    obtain ⟨m, k, rfl, rfl, hk, HP, HF⟩ := hrel
    by_cases hlt : k < N
    · obtain ⟨m', rfl⟩ : ∃ m', m = m' + 1 := ⟨m - 1, by omega⟩
      obtain ⟨ad, rfl, hcell⟩ := HL.out k (by rw [HN.out]; exact hlt)
      have hcell := (HF.out.cell (lt_cell hcell) (by simp)).trans hcell
      obtain ⟨d, hd⟩ : ∃ d, l.getD k 0 = d := ⟨_, rfl⟩
      rw [hd] at hcell
      have hok : okD C d = (decide (d = 0) || C.t.has d) := rfl
      by_cases h0 : d = 0
      · have hne : (d == 0) = true := by simpa using h0
        have HP' : Hid (∀ i, i < k + 1 → okD C (l.getD i 0) = true) := by
          show ∀ i, i < k + 1 → okD C (l.getD i 0) = true
          intro i hi
          by_cases e : i = k
          · rw [e, hd, hok, h0]; rfl
          · exact HP.out i (by omega)
        subst h0
        clear hok hd
        go_wp2
        go_roundg m'
        case rel => exact ⟨m', k + 1, rfl, by go_num, by omega, HP', HF⟩
        case measure => omega
      · have hne : (d == 0) = false := by simpa using h0
        obtain ⟨b, hb⟩ : ∃ b, C.t.has d = b := ⟨_, rfl⟩
        rw [hb] at hok
        have HHA : Hid (∀ W, Fr [] w W → Calls Try.prog 16 #[.pointer (some ⟨p, 0, none⟩), .int .i64 d] W fun e w' => e = .returned (.bool b) ∧ Fr [] W w') := fun W hW => by
          have h := has_calls (H.out.fr hW).tr d
          rw [hb] at h; exact h
        cases b with
        | true =>
          have HP' : Hid (∀ i, i < k + 1 → okD C (l.getD i 0) = true) := by
            show ∀ i, i < k + 1 → okD C (l.getD i 0) = true
            intro i hi
            by_cases e : i = k
            · rw [e, hd, hok]; simp
            · exact HP.out i (by omega)
          clear hok hd hb
          go_wp2_with (first
            | (go_at_call 49; refine (HTR.out _ HF.out).mono ?_; rintro e w1 ⟨rfl, hFn⟩; have HF1 := Lib.hid (HF.out.trans hFn (by simp)); clear hFn)
            | (go_at_call 16; refine (HHA.out _ HF1.out).mono ?_; rintro e w2 ⟨rfl, hFn⟩; have HF2 := Lib.hid (HF1.out.trans hFn (by simp)); clear hFn))
          go_roundg m'
          case rel => exact ⟨m', k + 1, rfl, by go_num, by omega, HP', HF2⟩
          case measure => omega
        | false =>
          have hse : settledN C l = k := takeWhile_len HP.out (by rw [HN.out]; omega) (.inr (by rw [hd, hok]; simp [h0]))
          rw [hse] at hR
          clear hok hd hb hse
          go_wp2_with (first
            | (go_at_call 49; refine (HTR.out _ HF.out).mono ?_; rintro e w1 ⟨rfl, hFn⟩; have HF1 := Lib.hid (HF.out.trans hFn (by simp)); clear hFn)
            | (go_at_call 16; refine (HHA.out _ HF1.out).mono ?_; rintro e w2 ⟨rfl, hFn⟩; have HF2 := Lib.hid (HF1.out.trans hFn (by simp)); clear hFn))
          exact hR.out _ _ ⟨rfl, HF2.out⟩
    · obtain rfl : k = N := by omega
      have hse : settledN C l = k := takeWhile_len HP.out (by rw [HN.out]; exact Nat.le_refl _) (.inl HN.out.symm)
      rw [hse] at hR
      clear hse
      go_wp2
      exact hR.out _ _ ⟨rfl, HF.out⟩
def cleanL : List Int → List Int → List Int
  | _, [] => []
  | met, x :: l => if x ∈ met then cleanL met l else x :: cleanL (met ++ [x]) l
theorem cleanL_cong : ∀ (l a b : List Int), (∀ x, x ∈ a ↔ x ∈ b) → cleanL a l = cleanL b l
  | [], _, _, _ => rfl
  | x :: l, a, b, h => by
    simp only [cleanL]
    by_cases hx : x ∈ a
    · rw [if_pos hx, if_pos ((h x).1 hx)]; exact cleanL_cong l a b h
    · rw [if_neg hx, if_neg (fun hb => hx ((h x).2 hb)), cleanL_cong l (a ++ [x]) (b ++ [x]) (fun y => by simp [h y])]
theorem cleanL_append : ∀ (l m met : List Int), cleanL met (l ++ m) = cleanL met l ++ cleanL (met ++ l) m
  | [], m, met => by simp [cleanL]
  | x :: l, m, met => by
    simp only [List.cons_append, cleanL]
    by_cases hx : x ∈ met
    · rw [if_pos hx, if_pos hx, cleanL_append l m met]
      congr 1
      exact cleanL_cong m _ _ (fun y => by simp only [List.mem_append, List.mem_cons]; exact ⟨fun h => h.elim .inl (fun h => .inr (.inr h)), fun h => h.elim .inl (fun h => h.elim (fun e => .inl (e ▸ hx)) .inr)⟩)
    · rw [if_neg hx, if_neg hx, List.cons_append, cleanL_append l m (met ++ [x])]
      simp
theorem cleanL_mem : ∀ (l met : List Int) (x : Int), x ∈ cleanL met l ↔ x ∈ l ∧ x ∉ met
  | [], met, x => by simp [cleanL]
  | y :: l, met, x => by
    simp only [cleanL]
    by_cases hy : y ∈ met
    · rw [if_pos hy, cleanL_mem l met x]
      constructor
      · rintro ⟨h1, h2⟩; exact ⟨by simp [h1], h2⟩
      · rintro ⟨h1, h2⟩
        rcases List.mem_cons.1 h1 with rfl | h1
        · exact absurd hy h2
        · exact ⟨h1, h2⟩
    · have hs : ∀ z : Int, z ∈ met ++ [y] ↔ z ∈ met ∨ z = y := fun z => by simp
      rw [if_neg hy, List.mem_cons, cleanL_mem l (met ++ [y]) x, hs, not_or, List.mem_cons]
      constructor
      · rintro (rfl | ⟨h1, h2, h3⟩)
        · exact ⟨.inl rfl, hy⟩
        · exact ⟨.inr h1, h2⟩
      · rintro ⟨h1, h2⟩
        by_cases e : x = y
        · exact .inl e
        · exact .inr ⟨h1.resolve_left e, h2, e⟩
theorem cleanL_nodup : ∀ (l met : List Int), (cleanL met l).Nodup
  | [], met => by simp [cleanL]
  | y :: l, met => by
    simp only [cleanL]
    by_cases hy : y ∈ met
    · rw [if_pos hy]; exact cleanL_nodup l met
    · rw [if_neg hy, List.nodup_cons]
      exact ⟨fun h => ((cleanL_mem l _ y).1 h).2 (by simp), cleanL_nodup l _⟩
end Go.Np.Try
