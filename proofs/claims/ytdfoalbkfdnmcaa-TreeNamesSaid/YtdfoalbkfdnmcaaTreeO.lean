/- tree.Tree: Get, Back, Common. -/
import Derived.Test.YtdfoalbkfdnmcaaTreeN
set_option linter.unusedVariables false
set_option linter.unusedSimpArgs false
namespace Go.Np.Try
open Go.RowKit Go.Proofs Go.Proofs.Ytdfoalbkfdnmcaa.PX Go.Proofs.YtdfoalbkfdnmcaaW.PrintWords
def Tr.get (t : Tr) (n : Int) : Blk := match t.find n with
  | some e => e.blk
  | none => z28
theorem txs_few {b : Blk} (h : nameB b ≠ 0) : b.f4.length ≤ 3 := by
  have hr := (nameB_pos h).1
  simp only [rightB, okTxs, unlikeB, Bool.and_eq_true, decide_eq_true_eq] at hr
  omega
set_option maxHeartbeats 4000000 in
set_option maxRecDepth 100000 in
theorem get_calls {X : Nat → Prop} {w : World} {p : Nat} {t : Tr} (h : TrAt X w p t) (hO : t.Ok) (n : Int) :
    Calls Try.prog 21 #[.pointer (some ⟨p, 0, none⟩), .int .i64 n] w fun e w' => ∃ A' c', e = .returned (.tuple #[blkV (t.get n) A' c', .bool (t.has n)]) ∧ w'.ownsRow 0 59 2 (.slice A' (t.get n).f4.length c') (t.get n).f4.length (flatT (t.get n).f4) ∧ (∀ k ∈ (Value.slice A' (t.get n).f4.length c').ownBlock.toList, w.heap.size ≤ k) ∧ Fr [] w w' := by
  obtain ⟨b, v, ds, qs, h⟩ := h
  obtain ⟨W1, hW1⟩ : ∃ W1, W1 = w.alloc (.cells #[.int .i64 0, .int .i64 0, .int .i64 0, .int .i64 0, .slice none 0 0] 28) := ⟨_, rfl⟩
  have hF1 : Fr [] w W1 := by rw [hW1]; exact (Fr.refl _ _).alloc _
  have h1 := h.fr0 hF1
  have hc := cell_of h1.hp 0
  simp at hc
  obtain ⟨q, hh, hl, hs, hn, hqc, hqC⟩ := h1.look n
  have hget : q.b = t.get n := by
    unfold Tr.get
    cases hf : t.find n with
    | none => rw [(hn hf).1]; rfl
    | some e => exact (hs e hf).1
  have hfew : q.b.f4.length ≤ 1099511627776 := by
    cases hf : t.find n with
    | none => rw [(hn hf).1]; decide
    | some e =>
      have hk := hO.known e (Tr.find_some hf).1
      have := txs_few (b := e.blk) (by rw [← hk.1]; exact hk.2.1)
      rw [(hs e hf).1]; omega
  rw [← hget]
  obtain ⟨W2, hW2⟩ : ∃ W2, W2 = W1.alloc (.cells #[.int .i64 q.b.f0, .int .i64 q.b.f1, .int .i64 q.b.f2, .int .i64 q.b.f3, .slice q.A q.b.f4.length q.c, .int .i64 hh] 73) := ⟨_, rfl⟩
  obtain ⟨g, hg⟩ : ∃ g, g = w.heap.size := ⟨_, rfl⟩
  obtain ⟨g2, hg2⟩ : ∃ g2, g2 = W1.heap.size := ⟨_, rfl⟩
  have hF2 : Fr [] W1 W2 := by rw [hW2]; exact (Fr.refl _ _).alloc _
  have hb1 : W1.heap[g]? = some (.cells #[.int .i64 0, .int .i64 0, .int .i64 0, .int .i64 0, .slice none 0 0] 28 (0, 0)) := by rw [hW1, hg]; exact heap_alloc_new _ _
  have hb2 : W2.heap[g2]? = some (.cells #[.int .i64 q.b.f0, .int .i64 q.b.f1, .int .i64 q.b.f2, .int .i64 q.b.f3, .slice q.A q.b.f4.length q.c, .int .i64 hh] 73 (0, 0)) := by rw [hW2, hg2]; exact heap_alloc_new _ _
  have hg12 : g < W1.heap.size := (Array.getElem?_eq_some_iff.1 hb1).1
  have i0 := cell_of hb2 0
  have i1 := cell_of hb2 1
  have i2 := cell_of hb2 2
  have i3 := cell_of hb2 3
  have i4 := cell_of hb2 4
  simp at i0 i1 i2 i3 i4
  have HCP := Lib.hid (copy_calls q (Kd.C_below hqC hF2.below) hfew)
  simp only [blkV] at HCP
  have hb12 := (hF2.block g hg12 (by simp)).trans hb1
  have HB12 := Lib.hid hb12
  have HF12 := Lib.hid (hF1.trans hF2 (by simp))
  have HS12 : Hid (g < W2.heap.size) := Nat.lt_of_lt_of_le hg12 hF2.size
  have hgw : w.heap.size ≤ g := Nat.le_of_eq hg.symm
  replace hl := hl true
  simp only [if_true, knV] at hl
  have HW2 := Lib.hid hW2
  have HG2 := Lib.hid hg2
  refine calls_k fun R hR => ?_
  clear h h1 hs hn hget hfew hqC hqc hF1 hF2 hb1 hb2 hb12 hg12 hO hW2 hg2
  go_enter Try.func21, Try.ntmps21
  go_upto_region 1 with (fail)
  rw [← hW1, ← hg]
  clear hW1 hg
  go_upto_region 2 with (fail)
  rw [← HW2.out, ← HG2.out]
  clear hl hc
  go_wp2_with (first
    | (go_at_call 17; refine HCP.out.mono ?_; rintro e w3 ⟨A3, c3, rfl, ho3, hn3, hF3⟩
       simp only [blkV]
       have hb3 := (hF3.block g HS12.out (by simp)).trans HB12.out
       have f0 := cell_of hb3 0
       have f1 := cell_of hb3 1
       have f2 := cell_of hb3 2
       have f3 := cell_of hb3 3
       have f4 := cell_of hb3 4
       simp at f0 f1 f2 f3 f4
       have z0 := froz_of hb3 0
       have z1 := froz_of hb3 1
       have z2 := froz_of hb3 2
       have z3 := froz_of hb3 3
       have z4 := froz_of hb3 4
       have HO3 := Lib.hid ho3
       have HN3 := Lib.hid hn3
       have HF3 := Lib.hid hF3
       have HB3 := Lib.hid hb3
       clear ho3 hn3 hF3 hb3 HCP i0 i1 i2 i3 i4))
  have hb4 := put5_heap HB3.out (.int .i64 q.b.f0) (.int .i64 q.b.f1) (.int .i64 q.b.f2) (.int .i64 q.b.f3) (.slice A3 q.b.f4.length c3)
  have hf4 := put5_fr (HF12.out.trans HF3.out (by simp)) (.inr hgw) (.int .i64 q.b.f0) (.int .i64 q.b.f1) (.int .i64 q.b.f2) (.int .i64 q.b.f3) (.slice A3 q.b.f4.length c3)
  have hf34 := put5_fr (b := g) (Fr.refl [g] w3) (.inl (by simp)) (.int .i64 q.b.f0) (.int .i64 q.b.f1) (.int .i64 q.b.f2) (.int .i64 q.b.f3) (.slice A3 q.b.f4.length c3)
  unfold put5 at hb4 hf4 hf34
  have hrow := row_fr HO3.out hf34 (fun k hk hm => by
    have := HN3.out k hk
    have := HS12.out
    simp at hm; omega)
  refine bodyPost_ret (results_ct rfl _ _ g 28 _ (0, 0) _ rfl hb4 Try.underlying28 rfl (by kernel_rfl)) rfl ?_
  refine hR.out _ _ ⟨A3, c3, by simp [blkV], hrow, fun k hk => ?_, hf4⟩
  have := HN3.out k hk
  have := HF12.out.size
  omega
/-! ### Back -/
def Tr.back (t : Tr) (n s : Int) : Int := if ((t.path n).length : Int) ≤ max 0 s then 0 else (t.path n).getD ((t.path n).length - 1 - s.toNat) 0
theorem OwnI.at {base : Nat} {w : World} {A : Option Addr} {c : Nat} {l : List Int} (h : OwnI base w (.slice A l.length c) l) (j : Nat) (hj : j < l.length) : ∃ g, A = some ⟨g, 0, none⟩ ∧ w.cell? ⟨g, j, none⟩ = some (.int .i64 (l.getD j 0)) := by
  refine row_at h.1 j _ ?_
  simp [List.getD_eq_getElem?_getD, List.getElem?_eq_getElem hj]
theorem OwnI.form {base : Nat} {w : World} {v : Value} {l : List Int} (h : OwnI base w v l) : ∃ A c, v = .slice A l.length c := slice_form h.1
theorem OwnI.formN {base : Nat} {w : World} {v : Value} {l : List Int} {N : Nat} (h : OwnI base w v l) (hN : l.length = N) : ∃ A c, v = .slice A N c := by subst hN; exact slice_form h.1
set_option maxHeartbeats 4000000 in
set_option maxRecDepth 100000 in
theorem back_calls {X : Nat → Prop} {w : World} {p : Nat} {t : Tr} (h : TrAt X w p t) (hG : t.Good) (n s : Int) :
    Calls Try.prog 23 #[.pointer (some ⟨p, 0, none⟩), .int .i64 n, .int .i64 s] w fun e w' => e = .returned (.int .i64 (t.back n s)) ∧ Fr [] w w' := by
  have HP := Lib.hid (path_calls h hG n)
  have hlen := hG.path400 n
  refine calls_k fun R hR => ?_
  unfold Tr.back at hR
  generalize t.path n = L at *
  clear h hG
  obtain ⟨k, hm⟩ : ∃ k : Nat, max 0 s = (k : Int) := ⟨s.toNat, by omega⟩
  have hk : s.toNat = k := by omega
  rw [hm, hk] at hR
  clear hk
  obtain ⟨N, hN⟩ : ∃ N, L.length = N := ⟨_, rfl⟩
  rw [hN] at hR hlen
  have HN := Lib.hid hN
  clear hN
  by_cases hle : (N : Int) ≤ (k : Int)
  · rw [if_pos hle] at hR
    have hle' : N ≤ k := by omega
    go_enter Try.func23, Try.ntmps23
    go_wp2_with (go_at_call 15; refine HP.out.mono ?_; rintro e w1 ⟨v, rfl, hO, hF⟩; obtain ⟨A, c, rfl⟩ := hO.formN HN.out)
    exact hR.out _ _ ⟨rfl, hF⟩
  · rw [if_neg hle] at hR
    obtain ⟨j, rfl⟩ : ∃ j, N = k + 1 + j := ⟨N - (k + 1), by omega⟩
    have e1 : k + 1 + j - 1 - k = j := by omega
    rw [e1] at hR
    have hle' : ¬ (k + 1 + j ≤ k) := by omega
    have hle2 : ¬ ((k : Int) + 1 + (j : Int) ≤ (k : Int)) := by omega
    have e2 : (k : Int) + 1 + (j : Int) - 1 = (k : Int) + (j : Int) := by omega
    have e3 : (j : Int) < (k : Int) + 1 + (j : Int) := by omega
    have e4 : j < k + 1 + j := by omega
    clear e1 hle
    go_enter Try.func23, Try.ntmps23
    go_wp2_with (go_at_call 15; refine HP.out.mono ?_; rintro e w1 ⟨v, rfl, hO, hF⟩; obtain ⟨A, c, rfl⟩ := hO.formN HN.out; obtain ⟨g, rfl, hcell⟩ := OwnI.at (A := A) (c := c) (l := L) (by rw [HN.out]; exact hO) j (by rw [HN.out]; omega); have HF := Lib.hid hF; clear hO hF)
    exact hR.out _ _ ⟨rfl, HF.out⟩
/-! ### Common -/
def comPre : List Int → List Int → List Int
  | x :: a, y :: b => if x = y then x :: comPre a b else []
  | _, _ => []
theorem comPre_eq : ∀ (j : Nat) (a b : List Int), a.take j = b.take j → j ≤ a.length → j ≤ b.length → (j = a.length ∨ j = b.length ∨ a.getD j 0 ≠ b.getD j 0) → comPre a b = a.take j
  | 0, a, b, _, _, _, h => by
    cases a with
    | nil => simp [comPre]
    | cons x a =>
      cases b with
      | nil => simp [comPre]
      | cons y b =>
        simp at h
        simp [comPre, h]
  | j + 1, a, b, ht, ha, hb, h => by
    cases a with
    | nil => simp at ha
    | cons x a =>
      cases b with
      | nil => simp at hb
      | cons y b =>
        simp only [List.take_succ_cons, List.cons.injEq] at ht
        simp only [comPre, if_pos ht.1, List.take_succ_cons]
        rw [comPre_eq j a b ht.2 (by simpa using ha) (by simpa using hb) (by simpa using h)]
def Tr.common (t : Tr) (a b : Int) : Int := ((comPre (t.path a) (t.path b)).getLast?).getD 0
theorem take_getD {a b : List Int} {j : Nat} (h : a.take j = b.take j) (ha : j < a.length) (hb : j < b.length) (he : a.getD j 0 = b.getD j 0) : a.take (j + 1) = b.take (j + 1) := by
  have e1 : a.getD j 0 = a[j] := by simp [List.getD_eq_getElem?_getD, ha]
  have e2 : b.getD j 0 = b[j] := by simp [List.getD_eq_getElem?_getD, hb]
  rw [List.take_succ_eq_append_getElem ha, List.take_succ_eq_append_getElem hb, h, ← e1, ← e2, he]
theorem last_take {a : List Int} {j : Nat} (ha : j < a.length) : ((a.take (j + 1)).getLast?).getD 0 = a.getD j 0 := by
  rw [List.take_succ_eq_append_getElem ha, List.getLast?_append, List.getLast?_singleton]
  simp [List.getD_eq_getElem?_getD, ha]
set_option maxHeartbeats 4000000 in
set_option maxRecDepth 100000 in
theorem common_calls {X : Nat → Prop} {w : World} {p : Nat} {t : Tr} (h : TrAt X w p t) (hG : t.Good) (a b : Int) :
    Calls Try.prog 24 #[.pointer (some ⟨p, 0, none⟩), .int .i64 a, .int .i64 b] w fun e w' => e = .returned (.int .i64 (t.common a b)) ∧ Fr [] w w' := by
  have HP1 := Lib.hid (path_calls h hG a)
  have HP2 : Hid (∀ w1, Fr [] w w1 → _) := fun w1 hF => path_calls (h.fr hF) hG b
  have hl1 := hG.path400 a
  have hl2 := hG.path400 b
  refine calls_k fun R hR => ?_
  unfold Tr.common at hR
  generalize t.path a = L at *
  generalize t.path b = M at *
  clear h hG
  obtain ⟨N, hN⟩ : ∃ N, L.length = N := ⟨_, rfl⟩
  obtain ⟨K, hK⟩ : ∃ K, M.length = K := ⟨_, rfl⟩
  rw [hN] at hl1
  rw [hK] at hl2
  have HN := Lib.hid hN
  have HK := Lib.hid hK
  obtain ⟨Mn, hMn⟩ : ∃ Mn : Nat, min (N : Int) (K : Int) = (Mn : Int) := ⟨min N K, by omega⟩
  have hMN : Mn ≤ N := by omega
  have hMK : Mn ≤ K := by omega
  have HMO : Hid (Mn = N ∨ Mn = K) := by unfold Hid; omega
  clear hN hK
  go_enter Try.func24, Try.ntmps24
  go_upto_region 4 with (first
    | (go_at_call 15; refine HP1.out.mono ?_; rintro e w1 ⟨v, rfl, hO, hF⟩; obtain ⟨A, c, rfl⟩ := hO.formN HN.out; have HO1 := Lib.hid hO; have HF1 := Lib.hid hF; clear HP1 hO hF)
    | (go_at_call 15; refine (HP2.out _ HF1.out).mono ?_; rintro e w2 ⟨v2, rfl, hO, hF⟩; obtain ⟨B, d, rfl⟩ := hO.formN HK.out; have HO2 := Lib.hid hO; have HF2 := Lib.hid hF; clear HP2 hO hF))
  have HO1' := Lib.hid (HO1.out.fr HF2.out (by simp))
  have HFW := Lib.hid (HF1.out.trans HF2.out (by simp))
  clear hMn HO1
  go_loopg [7, 22] Mn (fun gn o i wr => ∃ (m j : Nat), m = gn ∧ o = .int .i64 (((L.take j).getLast?).getD 0) ∧ i = .int .i64 j ∧ m + j = Mn ∧ Hid (L.take j = M.take j) ∧ Hid (Fr [] w2 wr))
  case atStart => exact ⟨_, 0, rfl, by simp, rfl, rfl, by unfold Hid; simp, Fr.refl _ _⟩
  case round =>
    obtain ⟨m, j, rfl, rfl, rfl, hj, HT, HF⟩ := hrel
    by_cases hlt : j < Mn
    · obtain ⟨g1, rfl, hc1⟩ := OwnI.at (A := A) (c := c) (l := L) (by rw [HN.out]; exact HO1'.out.fr HF.out (by simp)) j (by rw [HN.out]; omega)
      obtain ⟨g2, rfl, hc2⟩ := OwnI.at (A := B) (c := d) (l := M) (by rw [HK.out]; exact HO2.out.fr HF.out (by simp)) j (by rw [HK.out]; omega)
      have hjN : j < N := by omega
      have hjK : j < K := by omega
      by_cases he : L.getD j 0 = M.getD j 0
      · have ht := take_getD HT.out (by rw [HN.out]; exact hjN) (by rw [HK.out]; exact hjK) he
        have hlast := last_take (a := L) (j := j) (by rw [HN.out]; exact hjN)
        have HT' := Lib.hid ht
        have HLA := Lib.hid hlast
        rw [← he] at hc2
        generalize L.getD j 0 = z at *
        clear he ht hlast
        go_upto_region 6 with (fail)
        go_quiet (fail)
        go_wp2
        obtain ⟨m', rfl⟩ : ∃ m', m = m' + 1 := ⟨m - 1, by omega⟩
        go_roundg m'
        case rel => exact ⟨m', j + 1, rfl, by rw [HLA.out], by go_num, by omega, HT', by first | exact HF.out.drew | exact HF.out.drewN _⟩
        case measure => omega
      · have hcp := comPre_eq j L M HT.out (by rw [HN.out]; omega) (by rw [HK.out]; omega) (.inr (.inr he))
        have hne : (L.getD j 0 != M.getD j 0) = true := by simpa using he
        rw [hcp] at hR
        generalize L.getD j 0 = z1 at *
        generalize M.getD j 0 = z2 at *
        clear he hcp
        go_upto_region 6 with (fail)
        go_quiet (fail)
        go_wp2
        exact hR.out _ _ ⟨rfl, by first | exact (HFW.out.trans HF.out (by simp)).drew | exact (HFW.out.trans HF.out (by simp)).drewN _⟩
    · obtain rfl : j = Mn := by omega
      have hcp := comPre_eq j L M HT.out (by rw [HN.out]; omega) (by rw [HK.out]; omega) (by rw [HN.out, HK.out]; rcases HMO.out with h | h; exact .inl h; exact .inr (.inl h))
      rw [hcp] at hR
      clear hcp
      go_wp2
      exact hR.out _ _ ⟨rfl, HFW.out.trans HF.out (by simp)⟩
end Go.Np.Try
