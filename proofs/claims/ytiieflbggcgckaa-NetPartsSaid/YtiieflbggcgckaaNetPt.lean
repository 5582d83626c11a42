/- NetParts: the walk. -/
import Derived.Test.YtiieflbggcgckaaNetSd
set_option linter.unusedVariables false
set_option linter.unusedSimpArgs false
namespace Go.Np.Try
open Go.RowKit Go.Proofs Go.Conc Go.Proofs.YtiieflbggcgckaaW.PrintWords
theorem sameP_comm (m a b : Int) : sameP m a b = sameP m b a := by
  unfold sameP
  by_cases h : (0 ≤ a ∧ a ≤ 6) ∧ 0 ≤ b ∧ b ≤ 6
  · rw [if_pos h, if_pos ⟨h.2, h.1⟩]; exact decide_eq_decide.2 ⟨Eq.symm, Eq.symm⟩
  · rw [if_neg h, if_neg (fun h' => h ⟨h'.2, h'.1⟩)]
theorem sameP_trans {m a b c : Int} (h1 : sameP m a b = true) (h2 : sameP m b c = true) : sameP m a c = true := by
  unfold sameP at h1 h2 ⊢
  split at h1
  · split at h2
    · rename_i p q
      rw [if_pos ⟨p.1, q.2⟩]
      simp only [decide_eq_true_eq] at h1 h2 ⊢
      omega
    · cases h2
  · cases h1
theorem spL_one (j a : Int) : ∀ n : Nat, 0 ≤ j → spL j a n = if j < n ∧ j ≠ a then [j] else [] := by
  intro n
  induction n with
  | zero => intro h; rw [if_neg (by omega)]; rfl
  | succ n ih =>
    intro h
    rw [spL, ih h]
    by_cases h1 : j < n
    · rw [if_neg (show ¬ ((n : Int) ≠ a ∧ (j = -1 ∨ j = (n : Int))) by omega), List.append_nil]
      by_cases h2 : j = a
      · rw [if_neg (by omega), if_neg (by omega)]
      · rw [if_pos (by omega), if_pos (by omega)]
    · rw [if_neg (by omega), List.nil_append]
      by_cases h2 : j = n
      · subst h2
        by_cases h3 : (n : Int) = a
        · rw [if_neg (by omega), if_neg (by omega)]
        · rw [if_pos (by omega), if_pos (by omega)]
      · rw [if_neg (by omega), if_neg (by omega)]
theorem spL_next (a : Int) (n k : Nat) (h : k < n) : spL (-1) a (k + 1) = spL (-1) a k ++ spL k a n := by
  rw [spL_one k a n (by omega), spL]
  congr 1
  by_cases h3 : (k : Int) = a
  · rw [if_neg (by omega), if_neg (by omega)]
  · rw [if_pos (by omega), if_pos (by omega)]
theorem spL_ne (j a : Int) : ∀ n : Nat, ∀ x ∈ spL j a n, x ≠ a := by
  intro n
  induction n with
  | zero => intro x h; simp [spL] at h
  | succ n ih =>
    intro x h
    rw [spL, List.mem_append] at h
    rcases h with h | h
    · exact ih x h
    · split at h
      · simp at h; omega
      · simp at h
/-- A row of one's own over base world w0. -/
def EoI (w0 W : World) (v : Value) (l : List Int) : Prop := W.ownsRow w0.heap.size 3 1 v l.length (nums .i64 l) ∧ Below w0.heap.size w0 W
theorem EoI.sl {w0 W : World} {v : Value} {l : List Int} (h : EoI w0 W v l) : SlI W v l := by
  obtain ⟨A, c, he, hr⟩ := own_reads (k := .i64) h.1
  exact ⟨A, c, he, by subst he; exact own_cap h.1, Kd.C_of_reads (d := (0 : Int)) (h1 := fun _ => rfl) hr⟩
theorem own_move_fr {w w1 : World} {base : Nat} {e : TypeId} {size n : Nat} {v : Value} {xs : List Value} (h : w.ownsRow base e size v n xs) (hF : Fr [] w w1) : w1.ownsRow base e size v n xs := own_move h (fun k hk => hF.block k (own_lt h k hk) (by simp))
theorem below_fr {w W W1 : World} (h : Below w.heap.size w W) (hF : Fr [] W W1) : Below w.heap.size w W1 := ((Fr.of_below [] h).trans hF (by simp)).below
theorem slice_formB {w : World} {base : Nat} {e : TypeId} {sz n : Nat} {v : Value} {xs : List Value} (h : w.ownsRow base e sz v n xs) : ∃ A cp, v = .slice A n cp := by
  rcases h.2 with ⟨h1, h2⟩ | ⟨g, cap, cur, h1, _⟩
  · exact ⟨none, 0, by rw [h1, h2]⟩
  · exact ⟨_, _, h1⟩
theorem SlI.at {w : World} {A : Option Addr} {n c : Nat} {l : List Int} (h : SlI w (.slice A n c) l) (k : Nat) (hk : k < l.length) : ∃ ad, A = some ad ∧ w.cell? (ad.add k) = some (.int .i64 (l.getD k 0)) := by
  obtain ⟨A', c', he, _, h3⟩ := h
  injection he with h1 _ _
  subst h1
  exact int_at h3 k hk

set_option maxHeartbeats 2000000 in
set_option maxRecDepth 100000 in
theorem parts_calls {w : World} (m n0 n1 n2 many : Int) (hmw : (Lit.int .i64 many).wf = true) :
    Calls Try.prog 14 #[.int .i64 m, .agg #[.int .i64 n0, .int .i64 n1, .int .i64 n2], .int .i64 many] w fun e w' => e = .returned (.bool true) ∧ Fr [] w w' := by
  refine calls_k fun R hR => ?_
  go_enter Try.func14, Try.ntmps14
  go_wp2_with (first
      | (go_at_call 27; refine (netAlive_calls _).mono ?_; rintro e w1 ⟨rfl, hF1⟩)
      | (go_at_call 38; refine (nsides_calls (Fr.refl [] _)).mono ?_; rintro e w2 ⟨g, rfl, hI, hF2⟩)
      | (go_at_call 42; refine (ncut_calls m hF2 hI).mono ?_; rintro e w3 ⟨rfl, hI3, hF3⟩))
  obtain ⟨q, hq⟩ : ∃ q, q = w.heap.size := ⟨_, rfl⟩
  obtain ⟨W0, hW0⟩ : ∃ W0, W0 = w.alloc (.cells #[.int .i64 n0, .int .i64 n1, .int .i64 n2] 56) := ⟨_, rfl⟩
  rw [← hW0] at hF1
  have hFw : Fr [] w W0 := by rw [hW0]; exact (Fr.refl _ _).alloc _
  have hsz : W0.heap.size = w.heap.size + 1 := by rw [hW0]; simp
  have hbq : W0.heap[q]? = some (.cells #[.int .i64 n0, .int .i64 n1, .int .i64 n2] 56) := by
    rw [hW0, hq, heap_alloc_new]
  have hF03 : Fr [] W0 w3 := hF1.trans hF3 (by simp)
  have hR' : Hid (∀ e w', e = .returned (.bool true) ∧ Fr [] w1 w' → R e w') := fun e w' h => hR.out e w' ⟨h.1, hFw.trans (hF1.trans h.2 (by simp)) (by simp)⟩
  have hqc : ∀ (i : Nat) (c : Value), (#[Value.int .i64 n0, .int .i64 n1, .int .i64 n2])[i]? = some c → w3.cell? ⟨q, i, none⟩ = some c := by
    intro i c hc
    rw [hF03.cell (by show q < _; omega) (by simp)]
    simpa [World.cell?, hbq] using hc
  have hc0 := hqc 0 _ rfl
  have hc1 := hqc 1 _ rfl
  have hc2 := hqc 2 _ rfl
  rw [← hq]
  clear hbq hF03 hqc hsz hFw hW0 hq hF1 hF2 hI hR
  go_quiet (fail)
  have hI4 : IsSd w1 (w3.drewN nq) g m := hI3
  have hF4 : Fr [] w1 (w3.drewN nq) := hF3.drewN nq
  obtain ⟨w4, hw4⟩ : ∃ w4, w4 = w3.drewN nq := ⟨_, rfl⟩
  rw [← hw4] at hI4 hF4 ⊢
  clear hw4 hI3 hF3 hc0 hc1 hc2
  have CS : ∀ (a b : Int) (r : Bool), sameP m a b = r → Hid (∀ W, IsSd w1 W g m → Fr [] w1 W → Calls Try.prog 41 #[.pointer (some ⟨g, 0, none⟩), .int .i64 a, .int .i64 b] W fun e w' => e = .returned (.bool r) ∧ IsSd w1 w' g m ∧ Fr [] w1 w') := by
    intro a b r hr W h1 h2
    refine (nsame_calls a b h2 h1).mono ?_
    rintro e w' ⟨rfl, a1, a2, a3⟩
    exact ⟨by rw [hr], a1, a2⟩
  have hcomm := sameP_comm m n1 n0
  by_cases h01 : sameP m n0 n1 = true
  · by_cases h12 : sameP m n1 n2 = true
    · have C01 := CS n0 n1 true h01
      have C10 := CS n1 n0 true (by rw [hcomm]; exact h01)
      have C12 := CS n1 n2 true h12
      have C02 := CS n0 n2 true (sameP_trans h01 h12)
      clear h01 h12
      clear CS hcomm
      by_cases hr1 : many < 1
      · have CE : Hid (∀ W, Calls Try.prog 44 #[.int .i64 (-1), .int .i64 n0, .int .i64 many] W fun e w' => (∃ A c, e = .returned (.slice A 0 c)) ∧ Fr [] W w') := by
          intro W
          refine (spread_calls (-1) n0 many).mono ?_
          rintro e w' ⟨v, rfl, ⟨A, c, rfl, _⟩, a3⟩
          rw [spP, if_neg (by omega)]
          exact ⟨⟨A, c, rfl⟩, a3⟩
        go_wp2_with (first
          | (go_at_call 41; with_reducible refine (C01.out _ (by assumption) (by assumption)).mono ?_; rintro e w5 ⟨rfl, hI5, hF5⟩)
          | (go_at_call 41; with_reducible refine (C10.out _ (by assumption) (by assumption)).mono ?_; rintro e w5 ⟨rfl, hI5, hF5⟩)
          | (go_at_call 41; with_reducible refine (C12.out _ (by assumption) (by assumption)).mono ?_; rintro e w5 ⟨rfl, hI5, hF5⟩)
          | (go_at_call 41; with_reducible refine (C02.out _ (by assumption) (by assumption)).mono ?_; rintro e w5 ⟨rfl, hI5, hF5⟩)
          | (go_at_call 44; refine (CE.out _).mono ?_; rintro e w6 ⟨⟨A6, c6, rfl⟩, hF6⟩))
        exact hR'.out _ _ ⟨rfl, by first | exact Fr.trans (by assumption) hF6 (by simp)⟩
      · by_cases hr2 : 7 < many
        · have CE : Hid (∀ W, Calls Try.prog 44 #[.int .i64 (-1), .int .i64 n0, .int .i64 many] W fun e w' => (∃ A c, e = .returned (.slice A 0 c)) ∧ Fr [] W w') := by
            intro W
            refine (spread_calls (-1) n0 many).mono ?_
            rintro e w' ⟨v, rfl, ⟨A, c, rfl, _⟩, a3⟩
            rw [spP, if_neg (by omega)]
            exact ⟨⟨A, c, rfl⟩, a3⟩
          go_wp2_with (first
            | (go_at_call 41; with_reducible refine (C01.out _ (by assumption) (by assumption)).mono ?_; rintro e w5 ⟨rfl, hI5, hF5⟩)
            | (go_at_call 41; with_reducible refine (C10.out _ (by assumption) (by assumption)).mono ?_; rintro e w5 ⟨rfl, hI5, hF5⟩)
            | (go_at_call 41; with_reducible refine (C12.out _ (by assumption) (by assumption)).mono ?_; rintro e w5 ⟨rfl, hI5, hF5⟩)
            | (go_at_call 41; with_reducible refine (C02.out _ (by assumption) (by assumption)).mono ?_; rintro e w5 ⟨rfl, hI5, hF5⟩)
            | (go_at_call 44; refine (CE.out _).mono ?_; rintro e w6 ⟨⟨A6, c6, rfl⟩, hF6⟩))
          exact hR'.out _ _ ⟨rfl, by first | exact Fr.trans (by assumption) hF6 (by simp)⟩
        · obtain ⟨N, rfl⟩ := Int.eq_ofNat_of_zero_le (show 0 ≤ many by omega)
          have hN1 : 1 ≤ N := by omega
          have hN7 : N ≤ 7 := by omega
          have CL : Hid (∀ W, Calls Try.prog 44 #[.int .i64 (-1), .int .i64 n0, .int .i64 (N : Int)] W fun e w' => (∃ A c, e = .returned (.slice A (spL (-1) n0 N).length c) ∧ SlI w' (.slice A (spL (-1) n0 N).length c) (spL (-1) n0 N)) ∧ Fr [] W w') := by
            intro W
            refine (spread_calls (-1) n0 N).mono ?_
            have e1 : spP (-1) n0 N = spL (-1) n0 N := by rw [spP, if_pos (by omega)]; rfl
            rw [e1]
            rintro e w' ⟨v, rfl, h, a3⟩
            obtain ⟨A, c, rfl, h2⟩ := h
            exact ⟨⟨A, c, rfl, ⟨A, c, rfl, h2⟩⟩, a3⟩
          have CK : Hid (∀ (k : Nat) W, k < N → Calls Try.prog 44 #[.int .i64 (k : Int), .int .i64 n0, .int .i64 (N : Int)] W fun e w' => (∃ A c, e = .returned (.slice A (spL k n0 N).length c) ∧ ReadsInt w' .i64 A (spL k n0 N).length (spL k n0 N)) ∧ Fr [] W w') := by
            intro k W hk
            refine (spread_calls k n0 N).mono ?_
            have e1 : spP k n0 N = spL k n0 N := by rw [spP, if_pos (by omega)]; rfl
            rw [e1]
            rintro e w' ⟨v, rfl, h, a3⟩
            obtain ⟨A, c, rfl, h2, h3⟩ := h
            exact ⟨⟨A, c, rfl, Kd.reads_of_C (d := (0 : Int)) h3⟩, a3⟩
          obtain ⟨L, hL⟩ : ∃ L, L = spL (-1) n0 N := ⟨_, rfl⟩
          have hLN := spL_len (-1) n0 N
          have HNE := Lib.hid (spL_ne (-1) n0 N)
          rw [← hL] at CL hLN HNE
          have HL := Lib.hid hL
          clear hL
          go_wp2_with (first
            | (go_at_call 41; with_reducible refine (C01.out _ (by assumption) (by assumption)).mono ?_; rintro e w5 ⟨rfl, hI5, hF5⟩)
            | (go_at_call 41; with_reducible refine (C10.out _ (by assumption) (by assumption)).mono ?_; rintro e w5 ⟨rfl, hI5, hF5⟩)
            | (go_at_call 41; with_reducible refine (C12.out _ (by assumption) (by assumption)).mono ?_; rintro e w5 ⟨rfl, hI5, hF5⟩)
            | (go_at_call 41; with_reducible refine (C02.out _ (by assumption) (by assumption)).mono ?_; rintro e w5 ⟨rfl, hI5, hF5⟩)
            | (go_at_call 44; refine (CL.out _).mono ?_; rintro e w6 ⟨⟨A6, c6, rfl, hA6⟩, hF6⟩))
          have hF16 : Fr [] w1 w6 := Fr.trans (by assumption) hF6 (by simp)
          have hE0 : EoI w6 (w6.alloc (.cells #[] 3)) (.slice (some ⟨w6.heap.size, 0, none⟩) 0 0) (spL (-1) n0 0) := ⟨World.ownsRow_made w6 #[] 0 (Nat.le_refl _) (Nat.zero_le _) rfl, (Below.refl _ _).alloc (Nat.le_refl _) _⟩
          clear CL hF6
          go_loopw [12, 13] (fun v u wr => ∃ (k : Nat) (A : Option Addr) (nn cp : Nat), k ≤ N ∧ u = .int .i64 k ∧ v = .slice A nn cp ∧ EoI w6 wr (.slice A nn cp) (spL (-1) n0 k)) (fun _ u _ => N - (intOf u).toNat)
          case atStart => exact ⟨0, _, _, _, Nat.zero_le _, rfl, rfl, hE0⟩
          case round =>
            obtain ⟨k, A8, nn8, cp8, hk, rfl, rfl, hE⟩ := hrel
            clear hE0
            by_cases hlt : k < N
            · have CK1 := Lib.hid (fun W => CK.out k W hlt)
              have HN := Lib.hid (spL_next n0 N k hlt)
              have hb0 := spL_len (-1) n0 k
              have hb1 := spL_len k n0 N
              have hE3 := Lib.hid hE
              obtain ⟨S, hS⟩ : ∃ S, S = spL k n0 N := ⟨_, rfl⟩
              rw [← hS] at CK1 hb1 HN
              obtain ⟨T, hT⟩ : ∃ T, T = spL (-1) n0 k := ⟨_, rfl⟩
              rw [← hT] at hb0 hE3 HN
              clear hE hS hT
              have hbb : (T.length + S.length) * 8 ≤ 140737488355328 := by omega
              go_wp2_with (first
                | (go_at_call 44; refine (CK1.out _).mono ?_; rintro e w7 ⟨⟨A7, c7, rfl, hA7⟩, hF7⟩; have hO7 := own_move_fr hE3.out.1 hF7; have hB7 := below_fr hE3.out.2 hF7)
                | (at_builtin; go_must (refine print_append_row (w0 := w6) w6.heap.size rfl _ _ 24 3 .i64 8 rfl Try.underlying24 infoI (by decide) (.slice A8 nn8 cp8) T S A7 S.length c7 rfl rfl hO7 hA7 hB7 hB7.size hbb ?_); intro v8 w8 hO8 hB8 _ _; go_must (obtain ⟨A9, c9, rfl⟩ := slice_formB hO8)))
              go_roundw
              case rel => exact ⟨k + 1, _, _, _, by omega, by go_num, rfl, by rw [HN.out, ← List.length_append]; exact ⟨hO8, hB8⟩⟩
              case measure => simp [intOf]; omega
            · obtain rfl : k = N := by omega
              have hSl := hE.sl
              have hF67 : Fr [] w6 wr := Fr.of_below [] hE.2
              rw [← HL.out] at hSl
              have hAl := hA6.fr hF67
              have hFr := hF16.trans hF67 (by simp)
              have CSame := Lib.hid (fun (W : World) (h : ∃ n, W = wr.drewN n) => same_sl (w := W) (u := .slice A6 L.length c6) (v := .slice A8 nn8 cp8) (a := L) (b := L) (by obtain ⟨n, rfl⟩ := h; exact hAl.fr ((Fr.refl _ _).drewN n)) (by obtain ⟨n, rfl⟩ := h; exact hSl.fr ((Fr.refl _ _).drewN n)))
              clear hE hSl
              have hAt := Lib.hid (fun k hk => hAl.at k hk)
              clear hAl hF67 hA6 hF16 CK
              go_wp2
              go_loopw [84] (fun u w9 => ∃ j : Nat, j ≤ L.length ∧ u = .int .i64 j ∧ ∃ n, w9 = wr.drewN n) (fun u _ => L.length - (intOf u).toNat)
              case atStart => exact ⟨0, Nat.zero_le _, rfl, 0, rfl⟩
              case round =>
                obtain ⟨j, hj, rfl, n, rfl⟩ := hrel
                by_cases hjl : j < L.length
                · obtain ⟨ad, rfl, hcell⟩ := hAt.out j hjl
                  have hne : ((L.getD j 0) == n0) = false := by
                    have hx : L.getD j 0 ∈ L := by rw [List.getD_eq_getElem?_getD, List.getElem?_eq_getElem hjl]; exact List.getElem_mem _
                    simpa using HNE.out _ hx
                  obtain ⟨x, hx⟩ : ∃ x, x = L.getD j 0 := ⟨_, rfl⟩
                  rw [← hx] at hcell hne
                  clear hx
                  go_wp2
                  go_roundw
                  case rel => exact ⟨j + 1, by omega, by go_num, by first | exact ⟨_, rfl⟩ | exact drew2 _ _ _⟩
                  case measure => simp [intOf]; omega
                · obtain rfl : j = L.length := by omega
                  go_wp2_with (go_at_call 33; refine (CSame.out _ (by first | exact ⟨_, rfl⟩ | exact ⟨0, rfl⟩ | exact drew2 _ _ _)).mono ?_; rintro e w9 ⟨rfl, hF9⟩)
                  exact hR'.out _ _ ⟨by simp, (hFr.drewN _).trans hF9 (by simp)⟩
    · have h12 : sameP m n1 n2 = false := by simpa using h12
      have C01 := CS n0 n1 true h01
      have C10 := CS n1 n0 true (by rw [hcomm]; exact h01)
      have C12 := CS n1 n2 false h12
      have C02 := Lib.hid True.intro
      clear h01 h12
      clear CS hcomm
      by_cases hr1 : many < 1
      · have CE : Hid (∀ W, Calls Try.prog 44 #[.int .i64 (-1), .int .i64 n0, .int .i64 many] W fun e w' => (∃ A c, e = .returned (.slice A 0 c)) ∧ Fr [] W w') := by
          intro W
          refine (spread_calls (-1) n0 many).mono ?_
          rintro e w' ⟨v, rfl, ⟨A, c, rfl, _⟩, a3⟩
          rw [spP, if_neg (by omega)]
          exact ⟨⟨A, c, rfl⟩, a3⟩
        go_wp2_with (first
          | (go_at_call 41; with_reducible refine (C01.out _ (by assumption) (by assumption)).mono ?_; rintro e w5 ⟨rfl, hI5, hF5⟩)
          | (go_at_call 41; with_reducible refine (C10.out _ (by assumption) (by assumption)).mono ?_; rintro e w5 ⟨rfl, hI5, hF5⟩)
          | (go_at_call 41; with_reducible refine (C12.out _ (by assumption) (by assumption)).mono ?_; rintro e w5 ⟨rfl, hI5, hF5⟩)
          | (go_at_call 44; refine (CE.out _).mono ?_; rintro e w6 ⟨⟨A6, c6, rfl⟩, hF6⟩))
        exact hR'.out _ _ ⟨rfl, by first | exact Fr.trans (by assumption) hF6 (by simp)⟩
      · by_cases hr2 : 7 < many
        · have CE : Hid (∀ W, Calls Try.prog 44 #[.int .i64 (-1), .int .i64 n0, .int .i64 many] W fun e w' => (∃ A c, e = .returned (.slice A 0 c)) ∧ Fr [] W w') := by
            intro W
            refine (spread_calls (-1) n0 many).mono ?_
            rintro e w' ⟨v, rfl, ⟨A, c, rfl, _⟩, a3⟩
            rw [spP, if_neg (by omega)]
            exact ⟨⟨A, c, rfl⟩, a3⟩
          go_wp2_with (first
            | (go_at_call 41; with_reducible refine (C01.out _ (by assumption) (by assumption)).mono ?_; rintro e w5 ⟨rfl, hI5, hF5⟩)
            | (go_at_call 41; with_reducible refine (C10.out _ (by assumption) (by assumption)).mono ?_; rintro e w5 ⟨rfl, hI5, hF5⟩)
            | (go_at_call 41; with_reducible refine (C12.out _ (by assumption) (by assumption)).mono ?_; rintro e w5 ⟨rfl, hI5, hF5⟩)
            | (go_at_call 44; refine (CE.out _).mono ?_; rintro e w6 ⟨⟨A6, c6, rfl⟩, hF6⟩))
          exact hR'.out _ _ ⟨rfl, by first | exact Fr.trans (by assumption) hF6 (by simp)⟩
        · obtain ⟨N, rfl⟩ := Int.eq_ofNat_of_zero_le (show 0 ≤ many by omega)
          have hN1 : 1 ≤ N := by omega
          have hN7 : N ≤ 7 := by omega
          have CL : Hid (∀ W, Calls Try.prog 44 #[.int .i64 (-1), .int .i64 n0, .int .i64 (N : Int)] W fun e w' => (∃ A c, e = .returned (.slice A (spL (-1) n0 N).length c) ∧ SlI w' (.slice A (spL (-1) n0 N).length c) (spL (-1) n0 N)) ∧ Fr [] W w') := by
            intro W
            refine (spread_calls (-1) n0 N).mono ?_
            have e1 : spP (-1) n0 N = spL (-1) n0 N := by rw [spP, if_pos (by omega)]; rfl
            rw [e1]
            rintro e w' ⟨v, rfl, h, a3⟩
            obtain ⟨A, c, rfl, h2⟩ := h
            exact ⟨⟨A, c, rfl, ⟨A, c, rfl, h2⟩⟩, a3⟩
          have CK : Hid (∀ (k : Nat) W, k < N → Calls Try.prog 44 #[.int .i64 (k : Int), .int .i64 n0, .int .i64 (N : Int)] W fun e w' => (∃ A c, e = .returned (.slice A (spL k n0 N).length c) ∧ ReadsInt w' .i64 A (spL k n0 N).length (spL k n0 N)) ∧ Fr [] W w') := by
            intro k W hk
            refine (spread_calls k n0 N).mono ?_
            have e1 : spP k n0 N = spL k n0 N := by rw [spP, if_pos (by omega)]; rfl
            rw [e1]
            rintro e w' ⟨v, rfl, h, a3⟩
            obtain ⟨A, c, rfl, h2, h3⟩ := h
            exact ⟨⟨A, c, rfl, Kd.reads_of_C (d := (0 : Int)) h3⟩, a3⟩
          obtain ⟨L, hL⟩ : ∃ L, L = spL (-1) n0 N := ⟨_, rfl⟩
          have hLN := spL_len (-1) n0 N
          have HNE := Lib.hid (spL_ne (-1) n0 N)
          rw [← hL] at CL hLN HNE
          have HL := Lib.hid hL
          clear hL
          go_wp2_with (first
            | (go_at_call 41; with_reducible refine (C01.out _ (by assumption) (by assumption)).mono ?_; rintro e w5 ⟨rfl, hI5, hF5⟩)
            | (go_at_call 41; with_reducible refine (C10.out _ (by assumption) (by assumption)).mono ?_; rintro e w5 ⟨rfl, hI5, hF5⟩)
            | (go_at_call 41; with_reducible refine (C12.out _ (by assumption) (by assumption)).mono ?_; rintro e w5 ⟨rfl, hI5, hF5⟩)
            | (go_at_call 44; refine (CL.out _).mono ?_; rintro e w6 ⟨⟨A6, c6, rfl, hA6⟩, hF6⟩))
          have hF16 : Fr [] w1 w6 := Fr.trans (by assumption) hF6 (by simp)
          have hE0 : EoI w6 (w6.alloc (.cells #[] 3)) (.slice (some ⟨w6.heap.size, 0, none⟩) 0 0) (spL (-1) n0 0) := ⟨World.ownsRow_made w6 #[] 0 (Nat.le_refl _) (Nat.zero_le _) rfl, (Below.refl _ _).alloc (Nat.le_refl _) _⟩
          clear CL hF6
          go_loopw [12, 13] (fun v u wr => ∃ (k : Nat) (A : Option Addr) (nn cp : Nat), k ≤ N ∧ u = .int .i64 k ∧ v = .slice A nn cp ∧ EoI w6 wr (.slice A nn cp) (spL (-1) n0 k)) (fun _ u _ => N - (intOf u).toNat)
          case atStart => exact ⟨0, _, _, _, Nat.zero_le _, rfl, rfl, hE0⟩
          case round =>
            obtain ⟨k, A8, nn8, cp8, hk, rfl, rfl, hE⟩ := hrel
            clear hE0
            by_cases hlt : k < N
            · have CK1 := Lib.hid (fun W => CK.out k W hlt)
              have HN := Lib.hid (spL_next n0 N k hlt)
              have hb0 := spL_len (-1) n0 k
              have hb1 := spL_len k n0 N
              have hE3 := Lib.hid hE
              obtain ⟨S, hS⟩ : ∃ S, S = spL k n0 N := ⟨_, rfl⟩
              rw [← hS] at CK1 hb1 HN
              obtain ⟨T, hT⟩ : ∃ T, T = spL (-1) n0 k := ⟨_, rfl⟩
              rw [← hT] at hb0 hE3 HN
              clear hE hS hT
              have hbb : (T.length + S.length) * 8 ≤ 140737488355328 := by omega
              go_wp2_with (first
                | (go_at_call 44; refine (CK1.out _).mono ?_; rintro e w7 ⟨⟨A7, c7, rfl, hA7⟩, hF7⟩; have hO7 := own_move_fr hE3.out.1 hF7; have hB7 := below_fr hE3.out.2 hF7)
                | (at_builtin; go_must (refine print_append_row (w0 := w6) w6.heap.size rfl _ _ 24 3 .i64 8 rfl Try.underlying24 infoI (by decide) (.slice A8 nn8 cp8) T S A7 S.length c7 rfl rfl hO7 hA7 hB7 hB7.size hbb ?_); intro v8 w8 hO8 hB8 _ _; go_must (obtain ⟨A9, c9, rfl⟩ := slice_formB hO8)))
              go_roundw
              case rel => exact ⟨k + 1, _, _, _, by omega, by go_num, rfl, by rw [HN.out, ← List.length_append]; exact ⟨hO8, hB8⟩⟩
              case measure => simp [intOf]; omega
            · obtain rfl : k = N := by omega
              have hSl := hE.sl
              have hF67 : Fr [] w6 wr := Fr.of_below [] hE.2
              rw [← HL.out] at hSl
              have hAl := hA6.fr hF67
              have hFr := hF16.trans hF67 (by simp)
              have CSame := Lib.hid (fun (W : World) (h : ∃ n, W = wr.drewN n) => same_sl (w := W) (u := .slice A6 L.length c6) (v := .slice A8 nn8 cp8) (a := L) (b := L) (by obtain ⟨n, rfl⟩ := h; exact hAl.fr ((Fr.refl _ _).drewN n)) (by obtain ⟨n, rfl⟩ := h; exact hSl.fr ((Fr.refl _ _).drewN n)))
              clear hE hSl
              have hAt := Lib.hid (fun k hk => hAl.at k hk)
              clear hAl hF67 hA6 hF16 CK
              go_wp2
              go_loopw [84] (fun u w9 => ∃ j : Nat, j ≤ L.length ∧ u = .int .i64 j ∧ ∃ n, w9 = wr.drewN n) (fun u _ => L.length - (intOf u).toNat)
              case atStart => exact ⟨0, Nat.zero_le _, rfl, 0, rfl⟩
              case round =>
                obtain ⟨j, hj, rfl, n, rfl⟩ := hrel
                by_cases hjl : j < L.length
                · obtain ⟨ad, rfl, hcell⟩ := hAt.out j hjl
                  have hne : ((L.getD j 0) == n0) = false := by
                    have hx : L.getD j 0 ∈ L := by rw [List.getD_eq_getElem?_getD, List.getElem?_eq_getElem hjl]; exact List.getElem_mem _
                    simpa using HNE.out _ hx
                  obtain ⟨x, hx⟩ : ∃ x, x = L.getD j 0 := ⟨_, rfl⟩
                  rw [← hx] at hcell hne
                  clear hx
                  go_wp2
                  go_roundw
                  case rel => exact ⟨j + 1, by omega, by go_num, by first | exact ⟨_, rfl⟩ | exact drew2 _ _ _⟩
                  case measure => simp [intOf]; omega
                · obtain rfl : j = L.length := by omega
                  go_wp2_with (go_at_call 33; refine (CSame.out _ (by first | exact ⟨_, rfl⟩ | exact ⟨0, rfl⟩ | exact drew2 _ _ _)).mono ?_; rintro e w9 ⟨rfl, hF9⟩)
                  exact hR'.out _ _ ⟨by simp, (hFr.drewN _).trans hF9 (by simp)⟩
  · have h01 : sameP m n0 n1 = false := by simpa using h01
    have C01 := CS n0 n1 false h01
    have C10 := CS n1 n0 false (by rw [hcomm]; exact h01)
    have C12 := Lib.hid True.intro
    have C02 := Lib.hid True.intro
    clear h01
    clear CS hcomm
    by_cases hr1 : many < 1
    · have CE : Hid (∀ W, Calls Try.prog 44 #[.int .i64 (-1), .int .i64 n0, .int .i64 many] W fun e w' => (∃ A c, e = .returned (.slice A 0 c)) ∧ Fr [] W w') := by
        intro W
        refine (spread_calls (-1) n0 many).mono ?_
        rintro e w' ⟨v, rfl, ⟨A, c, rfl, _⟩, a3⟩
        rw [spP, if_neg (by omega)]
        exact ⟨⟨A, c, rfl⟩, a3⟩
      go_wp2_with (first
        | (go_at_call 41; with_reducible refine (C01.out _ (by assumption) (by assumption)).mono ?_; rintro e w5 ⟨rfl, hI5, hF5⟩)
        | (go_at_call 41; with_reducible refine (C10.out _ (by assumption) (by assumption)).mono ?_; rintro e w5 ⟨rfl, hI5, hF5⟩)
        | (go_at_call 44; refine (CE.out _).mono ?_; rintro e w6 ⟨⟨A6, c6, rfl⟩, hF6⟩))
      exact hR'.out _ _ ⟨rfl, by first | exact Fr.trans (by assumption) hF6 (by simp)⟩
    · by_cases hr2 : 7 < many
      · have CE : Hid (∀ W, Calls Try.prog 44 #[.int .i64 (-1), .int .i64 n0, .int .i64 many] W fun e w' => (∃ A c, e = .returned (.slice A 0 c)) ∧ Fr [] W w') := by
          intro W
          refine (spread_calls (-1) n0 many).mono ?_
          rintro e w' ⟨v, rfl, ⟨A, c, rfl, _⟩, a3⟩
          rw [spP, if_neg (by omega)]
          exact ⟨⟨A, c, rfl⟩, a3⟩
        go_wp2_with (first
          | (go_at_call 41; with_reducible refine (C01.out _ (by assumption) (by assumption)).mono ?_; rintro e w5 ⟨rfl, hI5, hF5⟩)
          | (go_at_call 41; with_reducible refine (C10.out _ (by assumption) (by assumption)).mono ?_; rintro e w5 ⟨rfl, hI5, hF5⟩)
          | (go_at_call 44; refine (CE.out _).mono ?_; rintro e w6 ⟨⟨A6, c6, rfl⟩, hF6⟩))
        exact hR'.out _ _ ⟨rfl, by first | exact Fr.trans (by assumption) hF6 (by simp)⟩
      · obtain ⟨N, rfl⟩ := Int.eq_ofNat_of_zero_le (show 0 ≤ many by omega)
        have hN1 : 1 ≤ N := by omega
        have hN7 : N ≤ 7 := by omega
        have CL : Hid (∀ W, Calls Try.prog 44 #[.int .i64 (-1), .int .i64 n0, .int .i64 (N : Int)] W fun e w' => (∃ A c, e = .returned (.slice A (spL (-1) n0 N).length c) ∧ SlI w' (.slice A (spL (-1) n0 N).length c) (spL (-1) n0 N)) ∧ Fr [] W w') := by
          intro W
          refine (spread_calls (-1) n0 N).mono ?_
          have e1 : spP (-1) n0 N = spL (-1) n0 N := by rw [spP, if_pos (by omega)]; rfl
          rw [e1]
          rintro e w' ⟨v, rfl, h, a3⟩
          obtain ⟨A, c, rfl, h2⟩ := h
          exact ⟨⟨A, c, rfl, ⟨A, c, rfl, h2⟩⟩, a3⟩
        have CK : Hid (∀ (k : Nat) W, k < N → Calls Try.prog 44 #[.int .i64 (k : Int), .int .i64 n0, .int .i64 (N : Int)] W fun e w' => (∃ A c, e = .returned (.slice A (spL k n0 N).length c) ∧ ReadsInt w' .i64 A (spL k n0 N).length (spL k n0 N)) ∧ Fr [] W w') := by
          intro k W hk
          refine (spread_calls k n0 N).mono ?_
          have e1 : spP k n0 N = spL k n0 N := by rw [spP, if_pos (by omega)]; rfl
          rw [e1]
          rintro e w' ⟨v, rfl, h, a3⟩
          obtain ⟨A, c, rfl, h2, h3⟩ := h
          exact ⟨⟨A, c, rfl, Kd.reads_of_C (d := (0 : Int)) h3⟩, a3⟩
        obtain ⟨L, hL⟩ : ∃ L, L = spL (-1) n0 N := ⟨_, rfl⟩
        have hLN := spL_len (-1) n0 N
        have HNE := Lib.hid (spL_ne (-1) n0 N)
        rw [← hL] at CL hLN HNE
        have HL := Lib.hid hL
        clear hL
        go_wp2_with (first
          | (go_at_call 41; with_reducible refine (C01.out _ (by assumption) (by assumption)).mono ?_; rintro e w5 ⟨rfl, hI5, hF5⟩)
          | (go_at_call 41; with_reducible refine (C10.out _ (by assumption) (by assumption)).mono ?_; rintro e w5 ⟨rfl, hI5, hF5⟩)
          | (go_at_call 44; refine (CL.out _).mono ?_; rintro e w6 ⟨⟨A6, c6, rfl, hA6⟩, hF6⟩))
        have hF16 : Fr [] w1 w6 := Fr.trans (by assumption) hF6 (by simp)
        have hE0 : EoI w6 (w6.alloc (.cells #[] 3)) (.slice (some ⟨w6.heap.size, 0, none⟩) 0 0) (spL (-1) n0 0) := ⟨World.ownsRow_made w6 #[] 0 (Nat.le_refl _) (Nat.zero_le _) rfl, (Below.refl _ _).alloc (Nat.le_refl _) _⟩
        clear CL hF6
        go_loopw [12, 13] (fun v u wr => ∃ (k : Nat) (A : Option Addr) (nn cp : Nat), k ≤ N ∧ u = .int .i64 k ∧ v = .slice A nn cp ∧ EoI w6 wr (.slice A nn cp) (spL (-1) n0 k)) (fun _ u _ => N - (intOf u).toNat)
        case atStart => exact ⟨0, _, _, _, Nat.zero_le _, rfl, rfl, hE0⟩
        case round =>
          obtain ⟨k, A8, nn8, cp8, hk, rfl, rfl, hE⟩ := hrel
          clear hE0
          by_cases hlt : k < N
          · have CK1 := Lib.hid (fun W => CK.out k W hlt)
            have HN := Lib.hid (spL_next n0 N k hlt)
            have hb0 := spL_len (-1) n0 k
            have hb1 := spL_len k n0 N
            have hE3 := Lib.hid hE
            obtain ⟨S, hS⟩ : ∃ S, S = spL k n0 N := ⟨_, rfl⟩
            rw [← hS] at CK1 hb1 HN
            obtain ⟨T, hT⟩ : ∃ T, T = spL (-1) n0 k := ⟨_, rfl⟩
            rw [← hT] at hb0 hE3 HN
            clear hE hS hT
            have hbb : (T.length + S.length) * 8 ≤ 140737488355328 := by omega
            go_wp2_with (first
              | (go_at_call 44; refine (CK1.out _).mono ?_; rintro e w7 ⟨⟨A7, c7, rfl, hA7⟩, hF7⟩; have hO7 := own_move_fr hE3.out.1 hF7; have hB7 := below_fr hE3.out.2 hF7)
              | (at_builtin; go_must (refine print_append_row (w0 := w6) w6.heap.size rfl _ _ 24 3 .i64 8 rfl Try.underlying24 infoI (by decide) (.slice A8 nn8 cp8) T S A7 S.length c7 rfl rfl hO7 hA7 hB7 hB7.size hbb ?_); intro v8 w8 hO8 hB8 _ _; go_must (obtain ⟨A9, c9, rfl⟩ := slice_formB hO8)))
            go_roundw
            case rel => exact ⟨k + 1, _, _, _, by omega, by go_num, rfl, by rw [HN.out, ← List.length_append]; exact ⟨hO8, hB8⟩⟩
            case measure => simp [intOf]; omega
          · obtain rfl : k = N := by omega
            have hSl := hE.sl
            have hF67 : Fr [] w6 wr := Fr.of_below [] hE.2
            rw [← HL.out] at hSl
            have hAl := hA6.fr hF67
            have hFr := hF16.trans hF67 (by simp)
            have CSame := Lib.hid (fun (W : World) (h : ∃ n, W = wr.drewN n) => same_sl (w := W) (u := .slice A6 L.length c6) (v := .slice A8 nn8 cp8) (a := L) (b := L) (by obtain ⟨n, rfl⟩ := h; exact hAl.fr ((Fr.refl _ _).drewN n)) (by obtain ⟨n, rfl⟩ := h; exact hSl.fr ((Fr.refl _ _).drewN n)))
            clear hE hSl
            have hAt := Lib.hid (fun k hk => hAl.at k hk)
            clear hAl hF67 hA6 hF16 CK
            go_wp2
            go_loopw [84] (fun u w9 => ∃ j : Nat, j ≤ L.length ∧ u = .int .i64 j ∧ ∃ n, w9 = wr.drewN n) (fun u _ => L.length - (intOf u).toNat)
            case atStart => exact ⟨0, Nat.zero_le _, rfl, 0, rfl⟩
            case round =>
              obtain ⟨j, hj, rfl, n, rfl⟩ := hrel
              by_cases hjl : j < L.length
              · obtain ⟨ad, rfl, hcell⟩ := hAt.out j hjl
                have hne : ((L.getD j 0) == n0) = false := by
                  have hx : L.getD j 0 ∈ L := by rw [List.getD_eq_getElem?_getD, List.getElem?_eq_getElem hjl]; exact List.getElem_mem _
                  simpa using HNE.out _ hx
                obtain ⟨x, hx⟩ : ∃ x, x = L.getD j 0 := ⟨_, rfl⟩
                rw [← hx] at hcell hne
                clear hx
                go_wp2
                go_roundw
                case rel => exact ⟨j + 1, by omega, by go_num, by first | exact ⟨_, rfl⟩ | exact drew2 _ _ _⟩
                case measure => simp [intOf]; omega
              · obtain rfl : j = L.length := by omega
                go_wp2_with (go_at_call 33; refine (CSame.out _ (by first | exact ⟨_, rfl⟩ | exact ⟨0, rfl⟩ | exact drew2 _ _ _)).mono ?_; rintro e w9 ⟨rfl, hF9⟩)
                exact hR'.out _ _ ⟨by simp, (hFr.drewN _).trans hF9 (by simp)⟩
theorem NetParts_walk (w : World) (m : Int) (hm : (Lit.int .i64 m).wf = true) (v3 : Value) (x3 : Int × Int × Int) (h3 : v3 = .agg #[.int .i64 x3.1, .int .i64 x3.2.1, .int .i64 x3.2.2] ∧ (Lit.int .i64 x3.1).wf = true ∧ (Lit.int .i64 x3.2.1).wf = true ∧ (Lit.int .i64 x3.2.2).wf = true)
    (many : Int) (hmw : (Lit.int .i64 many).wf = true) :
    Calls Try.prog 14 #[.int .i64 m, v3, .int .i64 many] w fun e w' => e = .returned (.bool true) ∧ Fr [] w w' := by
  obtain ⟨rfl, b1, b2, b3⟩ := h3
  exact parts_calls m _ _ _ many hmw
end Go.Np.Try
