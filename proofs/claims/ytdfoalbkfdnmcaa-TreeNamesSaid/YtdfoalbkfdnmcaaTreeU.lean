/- tree.Tree: Tip. -/
import Derived.Test.YtdfoalbkfdnmcaaTreeV
set_option linter.unusedVariables false
set_option linter.unusedSimpArgs false
namespace Go.Np.Try
open Go.RowKit Go.Proofs Go.Proofs.Ytdfoalbkfdnmcaa.PX Go.Proofs.YtdfoalbkfdnmcaaW.PrintWords
def orP (l : List Int) : Int := (l.find? (fun x => decide (x ≠ 0))).getD 0
theorem SlI.at {w : World} {A : Option Addr} {c : Nat} {l : List Int} (h : SlI w (.slice A l.length c) l) (j : Nat) (hj : j < l.length) : ∃ ad, A = some ad ∧ w.cell? (ad.add j) = some (.int .i64 (l.getD j 0)) := by
  obtain ⟨B, d, e, _, hC⟩ := h
  injection e with e1 _ e3
  subst e1
  obtain ⟨ad, e, hc⟩ := Kd.at_int hC (j : Int) (by omega) (by omega)
  exact ⟨ad, e, by simpa [rd] using hc⟩
set_option maxHeartbeats 4000000 in
set_option maxRecDepth 100000 in
theorem or_calls {w : World} {A : Option Addr} {c : Nat} {l : List Int} {N : Nat} (hN : N = l.length) (h : SlI w (.slice A l.length c) l) (hl : l.length ≤ 100000) :
    Calls Try.prog 43 #[.slice A N c] w fun e w' => e = .returned (.int .i64 (orP l)) ∧ Fr [] w w' := by
  refine calls_k fun R hR => ?_
  have HN := Lib.hid hN
  have HS := Lib.hid h
  have hl' : N ≤ 100000 := by omega
  clear h hl hN
  go_enter Try.func43, Try.ntmps43
  go_upto_region 3 with (fail)
  go_loopg [8] N (fun gn i wr => ∃ (m j : Nat), m = gn ∧ i = .int .i64 j ∧ m + j = N ∧ Hid (orP l = orP (l.drop j)) ∧ Hid (Fr [] w wr))
  case atStart => exact ⟨_, 0, rfl, rfl, rfl, by unfold Hid; simp, Fr.refl _ _⟩
  case round =>
    obtain ⟨m, j, rfl, rfl, hj, HE, HF⟩ := hrel
    by_cases hlt : j < N
    · have hjl : j < l.length := by have := HN.out; omega
      obtain ⟨ad, rfl, hc⟩ := SlI.at (HS.out.fr HF.out) j hjl
      have hd : l.drop j = l.getD j 0 :: l.drop (j + 1) := by
        rw [List.drop_eq_getElem_cons hjl]; simp [List.getD_eq_getElem?_getD, hjl]
      have he := HE.out
      rw [hd] at he
      by_cases hz : l.getD j 0 = 0
      · rw [hz] at he hc
        have he2 : orP l = orP (l.drop (j + 1)) := by rw [he]; simp [orP]
        have HE2 := Lib.hid he2
        clear he hz hd he2
        go_wp2
        obtain ⟨m', rfl⟩ : ∃ m', m = m' + 1 := ⟨m - 1, by omega⟩
        go_roundg m'
        case rel => exact ⟨m', j + 1, rfl, by go_num, by omega, HE2, HF⟩
        case measure => omega
      · have he2 : orP l = l.getD j 0 := by rw [he]; simp only [orP, List.find?_cons]; rw [show decide (l.getD j 0 ≠ 0) = true from decide_eq_true hz]; rfl
        rw [he2] at hR
        have hzb : (l.getD j 0 != 0) = true := by simpa using hz
        generalize l.getD j 0 = z at *
        clear he he2 hd hz
        go_wp2
        exact hR.out _ _ ⟨rfl, HF.out⟩
    · obtain rfl : j = N := by omega
      have he := HE.out
      rw [HN.out, List.drop_length] at he
      rw [he] at hR
      clear he
      go_wp2
      exact hR.out _ _ ⟨rfl, HF.out⟩
theorem OwnI.two (w : World) (x y : Int) : OwnI w.heap.size (w.alloc (.cells #[.int .i64 x, .int .i64 y] 3)) (.slice (some ⟨w.heap.size, 0, none⟩) 2 2) [x, y] :=
  ⟨⟨rfl, .inr ⟨w.heap.size, 2, #[.int .i64 x, .int .i64 y], rfl, Nat.zero_le _, heap_alloc_new w _, Nat.le_refl _, by decide, rfl, rfl⟩⟩, fun k hk => by simp [Value.ownBlock] at hk; omega⟩
theorem OwnI.slN {base : Nat} {w : World} {A : Option Addr} {c : Nat} {l : List Int} (h : OwnI base w (.slice A l.length c) l) : SlI w (.slice A l.length c) l := h.sl
def Tr.cmp (t : Tr) (a b : Int) : Int := orP [Lib.compareInt (t.high b) (t.high a), Lib.compareInt a b]
theorem Tr.cmp_neg {t : Tr} {a b : Int} : t.cmp a b < 0 ↔ t.high b < t.high a ∨ (t.high b = t.high a ∧ a < b) := by
  unfold Tr.cmp orP Lib.compareInt
  by_cases h1 : t.high b < t.high a
  · simp [h1]
  · by_cases h2 : t.high b > t.high a
    · have h3 : ¬ t.high b = t.high a := by omega
      simp [h1, h2, h3]
    · have h3 : t.high b = t.high a := by omega
      simp only [h3, Int.lt_irrefl, if_false, gt_iff_lt, false_or, true_and]
      by_cases h4 : a < b
      · simp [h4]
      · by_cases h5 : b < a
        · simp [h4, h5]
        · simp [h4, h5]
set_option maxHeartbeats 4000000 in
set_option maxRecDepth 100000 in
theorem cmp_calls {X : Nat → Prop} {w : World} {p bx : Nat} {t : Tr} (h : TrAt X w p t) (hb : w.cell? ⟨bx, 0, none⟩ = some (.pointer (some ⟨p, 0, none⟩))) (a b : Int) :
    Calls Try.prog 42 #[.int .i64 a, .int .i64 b, .pointer (some ⟨bx, 0, none⟩)] w fun e w' => e = .returned (.int .i64 (t.cmp a b)) ∧ Fr [] w w' := by
  refine calls_k fun R hR => ?_
  have HH := Lib.hid h
  have HSF : Hid (∀ W', Fr [] w W' → W'.cell? ⟨bx, 0, none⟩ = some (.pointer (some ⟨p, 0, none⟩))) := fun W' hF => cellF hF hb
  have HFD : Hid (Fr [] w w.drew) := (Fr.refl _ _).drew
  clear h hb
  go_enter Try.func42, Try.ntmps42
  go_wp2_with fail
  have hSD := HSF.out _ HFD.out
  go_region_held3 (fun W => W.cell? ⟨bx, 0, none⟩ = some (.pointer (some ⟨p, 0, none⟩)))
    (first | assumption | exact HSF.out _ (HF2.out.alloc _))
    (first
      | (go_at_call 14; refine (height_calls (HH.out.fr HFD.out) b).mono ?_; rintro e w1 ⟨rfl, hF1⟩; have HF1 := Lib.hid (HFD.out.trans hF1 (by simp)); have hS1 := HSF.out _ HF1.out; clear hF1 HFD)
      | (go_at_call 14; refine (height_calls (HH.out.fr HF1.out) a).mono ?_; rintro e w2 ⟨rfl, hF2⟩; have HF2 := Lib.hid (HF1.out.trans hF2 (by simp)); have hS2 := HSF.out _ HF2.out; clear hF2 HF1)
      | (go_at_call 44; refine (Try.cmp_Compare_int _ _ _).mono ?_; rintro e w3 ⟨rfl, rfl⟩)
      | (go_at_call 43; refine (or_calls rfl (OwnI.two _ _ _).slN (by simp)).mono ?_; rintro e w4 ⟨rfl, hF4⟩; have HF4 := Lib.hid ((HF2.out.alloc _).trans hF4 (by simp)); have hS4 := HSF.out _ HF4.out; clear hF4))
  all_goals (go_wp2; exact hR.out _ _ ⟨rfl, HF4.out⟩)
/-! ### MinFunc, Tip -/
def Tr.low (t : Tr) (m y : Int) : Int := if t.cmp y m < 0 then y else m
def Tr.tipOf (t : Tr) : List Int → Int
  | [] => 0
  | x :: l => l.foldl t.low x
def Tr.tip (t : Tr) : Int := t.tipOf t.names
set_option maxHeartbeats 4000000 in
set_option maxRecDepth 100000 in
theorem min_calls {X : Nat → Prop} {w : World} {p bx N c : Nat} {A : Option Addr} {t : Tr} {l : List Int} (h : TrAt X w p t) (hb : w.cell? ⟨bx, 0, none⟩ = some (.pointer (some ⟨p, 0, none⟩))) (hN : l.length = N + 1) (hO : OwnI 0 w (.slice A (N + 1) c) l) (hl : N ≤ 100000) :
    Calls Try.prog 41 #[.slice A (N + 1) c, .func (.func 42) #[] #[.pointer (some ⟨bx, 0, none⟩)]] w fun e w' => e = .returned (.int .i64 (t.tipOf l)) ∧ Fr [] w w' := by
  refine calls_k fun R hR => ?_
  have HH := Lib.hid h
  have HSF : Hid (∀ W', Fr [] w W' → W'.cell? ⟨bx, 0, none⟩ = some (.pointer (some ⟨p, 0, none⟩))) := fun W' hF => cellF hF hb
  have HN := Lib.hid hN
  have HO := Lib.hid hO
  cases l with
  | nil => simp at hN
  | cons x l =>
    obtain ⟨g, rfl, hc0⟩ := OwnI.at (A := A) (c := c) (l := x :: l) (by rw [HN.out]; exact hO) 0 (by simp)
    simp at hc0
    clear h hb hN hO
    go_enter Try.func41, Try.ntmps41
    go_upto_region 5 with (fail)
    clear hc0
    go_loopg [5, 6] N (fun gn o i wr => ∃ (m j : Nat), m = gn ∧ o = .int .i64 ((l.take j).foldl t.low x) ∧ i = .int .i64 ((j : Int) + 1) ∧ m + j = N ∧ Hid (Fr [] w wr))
    case atStart => exact ⟨_, 0, rfl, by simp, by simp, rfl, Fr.refl _ _⟩
    case round =>
      obtain ⟨m, j, rfl, rfl, rfl, hj, HF⟩ := hrel
      by_cases hlt : j < N
      · have hlN : l.length = N := by have := HN.out; simpa using this
        obtain ⟨g', e', hc⟩ := OwnI.at (A := some ⟨g, 0, none⟩) (c := c) (l := x :: l) (by rw [HN.out]; exact HO.out.fr HF.out (by simp)) (j + 1) (by simp; omega)
        injection e' with e'
        injection e' with e'
        subst e'
        have hfold : (l.take (j + 1)).foldl t.low x = t.low ((l.take j).foldl t.low x) (l.getD j 0) := by
          rw [List.take_succ_eq_append_getElem (by omega), List.foldl_append]
          simp [List.getD_eq_getElem?_getD, show j < l.length by omega]
        have hy : (x :: l).getD (j + 1) 0 = l.getD j 0 := by simp
        rw [hy] at hc
        generalize l.getD j 0 = y at *
        generalize (l.take j).foldl t.low x = u at *
        have HFO := Lib.hid hfold
        have HCM := Lib.hid (cmp_calls (HH.out.fr HF.out) (HSF.out _ HF.out) y u)
        have e1 : ((j : Int) + 1).toNat = j + 1 := by omega
        have e2 : (0 : Int) ≤ (j : Int) + 1 := by omega
        have e3 : (j : Int) + 1 < (N : Int) + 1 := by omega
        clear hfold hy hlN
        obtain ⟨m', rfl⟩ : ∃ m', m = m' + 1 := ⟨m - 1, by omega⟩
        by_cases hlow : t.cmp y u < 0
        · have hlw : t.low u y = y := if_pos hlow
          have HLW := Lib.hid hlw
          clear hlw
          go_wp2_with (go_at_call 42; refine HCM.out.mono ?_; rintro e w1 ⟨rfl, hF1⟩; replace hc := cellF hF1 hc; have HF1 := Lib.hid hF1; clear hF1 HCM)
          go_roundg m'
          case rel => exact ⟨m', j + 1, rfl, by rw [HFO.out, HLW.out], by go_num, by omega, HF.out.trans HF1.out (by simp)⟩
          case measure => omega
        · have hlw : t.low u y = u := if_neg hlow
          have HLW := Lib.hid hlw
          clear hlw
          go_wp2_with (go_at_call 42; refine HCM.out.mono ?_; rintro e w1 ⟨rfl, hF1⟩; replace hc := cellF hF1 hc; have HF1 := Lib.hid hF1; clear hF1 HCM)
          go_roundg m'
          case rel => exact ⟨m', j + 1, rfl, by rw [HFO.out, HLW.out], by go_num, by omega, HF.out.trans HF1.out (by simp)⟩
          case measure => omega
      · obtain rfl : j = N := by omega
        have hlN : l.length = j := by have := HN.out; simpa using this
        have ht : t.tipOf (x :: l) = (l.take j).foldl t.low x := by rw [List.take_of_length_le (by omega)]; rfl
        rw [ht] at hR
        clear ht hlN
        go_wp2
        exact hR.out _ _ ⟨rfl, HF.out⟩
theorem names_len {t : Tr} (h : t.Ok) : t.names.length = t.known.length := by
  have hn : (t.known.map (·.name)).Nodup := (List.nodup_append.1 h.nodup).1
  have h1 := (Go.Np.unlike_iff (t.known.map (·.name))).2 hn
  simpa [Tr.names, uniq] using h1
set_option maxHeartbeats 4000000 in
set_option maxRecDepth 100000 in
theorem tip_calls {X : Nat → Prop} {w : World} {p : Nat} {t : Tr} (h : TrAt X w p t) (hO : t.Ok) :
    Calls Try.prog 13 #[.pointer (some ⟨p, 0, none⟩)] w fun e w' => e = .returned (.int .i64 t.tip) ∧ Fr [] w w' := by
  refine calls_k fun R hR => ?_
  obtain ⟨W, hW⟩ : ∃ W, W = w.alloc (.cells #[.pointer (some ⟨p, 0, none⟩)] 24) := ⟨_, rfl⟩
  obtain ⟨bx, hbx⟩ : ∃ bx, bx = w.heap.size := ⟨_, rfl⟩
  have hF : Fr [] w W := by rw [hW]; exact (Fr.refl _ _).alloc _
  have hbl : W.heap[bx]? = some (.cells #[.pointer (some ⟨p, 0, none⟩)] 24 (0, 0)) := by rw [hW, hbx]; exact heap_alloc_new _ _
  have hcb := cell_of hbl 0
  simp at hcb
  have HT := Lib.hid (h.fr hF)
  obtain ⟨b, v, ds, qs, h1⟩ := h.fr hF
  have hc := cell_of h1.hp 0
  simp at hc
  obtain ⟨es, cl, hb, hme, _⟩ := h1.hM
  have hsz : es.size = t.known.length := by
    have := congrArg List.length hme
    rw [← h1.ds_len]
    simpa using this
  have hnl := names_len hO
  have hlen := fun ty => len_map hb ty
  have hfew := hO.few
  have HF := Lib.hid hF
  clear h h1 hF hbl hme hO
  by_cases h0 : t.known.length = 0
  · have htip : t.tip = 0 := by
      unfold Tr.tip
      rw [List.eq_nil_of_length_eq_zero (by omega : t.names.length = 0)]
      rfl
    have hz : ((es.size : Int) == 0) = true := by rw [show es.size = 0 by omega]; rfl
    have hz2 : es.size = 0 := by omega
    have hes : es = #[] := by simpa using hz2
    rw [htip] at hR
    clear hsz hnl htip hz2
    subst hes
    go_enter Try.func13, Try.ntmps13
    go_upto_region 1 with (fail)
    rw [← hW, ← hbx]
    clear hW hbx
    go_wp2
    exact hR.out _ _ ⟨rfl, HF.out⟩
  · have hz : ((es.size : Int) == 0) = false := by simp; rintro rfl; simp at hsz; omega
    obtain ⟨N, hN⟩ : ∃ N, t.names.length = N + 1 := ⟨t.names.length - 1, by omega⟩
    have hN4 : N ≤ 100000 := by omega
    have HN := Lib.hid hN
    have HNM := Lib.hid (names_calls HT.out (Nat.le_trans hfew (by decide)))
    have HSF : Hid (∀ W', Fr [] W W' → W'.cell? ⟨bx, 0, none⟩ = some (.pointer (some ⟨p, 0, none⟩))) := fun W' hF => cellF hF hcb
    unfold Tr.tip at hR
    clear hsz hnl hN h0 hfew
    go_enter Try.func13, Try.ntmps13
    go_upto_region 1 with (fail)
    rw [← hW, ← hbx]
    clear hW hbx
    go_wp2_with (first
      | (go_at_call 12; refine HNM.out.mono ?_; rintro e w1 ⟨v1, rfl, hO1, hF1⟩
         obtain ⟨A1, c1, rfl⟩ := hO1.formN HN.out
         have HMI := Lib.hid (min_calls (HT.out.fr hF1) (HSF.out _ hF1) HN.out ⟨hO1.1, fun k hk => Nat.zero_le _⟩ hN4)
         have HF1 := Lib.hid hF1
         clear hF1 hO1 HNM)
      | (go_at_call 41; refine HMI.out.mono ?_; rintro e w2 ⟨rfl, hF2⟩))
    exact hR.out _ _ ⟨rfl, (HF.out.trans HF1.out (by simp)).trans hF2 (by simp)⟩
end Go.Np.Try
