/- NetTakes: the walk. -/
import Derived.Test.YtiieflbggcgckaaBagOwn
import Derived.Test.YtiieflbggcgckaaSame
set_option linter.unusedVariables false
set_option linter.unusedSimpArgs false
namespace Go.Np.Try
open Go.RowKit Go.Proofs Go.Conc Go.Proofs.YtiieflbggcgckaaW.PrintWords

theorem reads_own {w : World} {A : Option Addr} {n cp : Nat} {xs : List Int} (h : w.ownsRow 0 3 1 (.slice A n cp) xs.length (xs.map encI)) : n = xs.length ∧ (Kd.int .i64).C w A xs.length xs := by
  obtain ⟨A', c', he, hr⟩ := own_reads (k := .i64) h
  injection he with h1 h2 h3
  subst h1 h2
  exact ⟨rfl, Kd.C_of_reads (d := (0 : Int)) (h1 := fun _ => rfl) hr⟩
theorem reads_fr {w w' : World} {A : Option Addr} {xs : List Int} (h : (Kd.int .i64).C w A xs.length xs) (hf : Fr [] w w') : (Kd.int .i64).C w' A xs.length xs := Kd.C_below h hf.below

theorem src_take {W : World} {ad : Addr} {l : List Int} (n : Nat) (h : (Kd.int .i64).C W (some ad) l.length l) : ∀ j u, ((l.take n).map encI)[j]? = some u → W.cell? (ad.add j) = some u := by
  intro j u hu
  rw [List.getElem?_map, List.getElem?_take] at hu
  split at hu
  · obtain ⟨x, hx, rfl⟩ := Option.map_eq_some_iff.1 hu
    have hj := (List.getElem?_eq_some_iff.1 hx).1
    obtain ⟨ad', he, hc⟩ := int_at h j hj
    injection he with he
    subst he
    rw [hc]
    simp [encI, List.getD_eq_getElem?_getD, hx]
  · simp at hu
theorem src_drop {W : World} {ad : Addr} {c : Nat} {l : List Int} (n : Nat) (hn : n ≤ l.length) (h : (Kd.int .i64).C W (some ad) l.length l) : ∀ A1 : Addr, (if c = n then some ad else some (ad.add n)) = some A1 → l.length ≤ c → ∀ j u, ((l.drop n).map encI)[j]? = some u → W.cell? (A1.add j) = some u := by
  intro A1 hA hlc j u hu
  rw [List.getElem?_map, List.getElem?_drop] at hu
  obtain ⟨x, hx, rfl⟩ := Option.map_eq_some_iff.1 hu
  have hj := (List.getElem?_eq_some_iff.1 hx).1
  obtain ⟨ad', he, hc⟩ := int_at h (n + j) hj
  injection he with he
  subst he
  rw [if_neg (by omega)] at hA
  injection hA with hA
  subst hA
  have e1 : (ad.add n).add j = ad.add (n + j) := by
    unfold Addr.add
    by_cases h1 : n = 0 <;> by_cases h2 : j = 0 <;> simp [h1, h2, Nat.add_assoc]
  rw [e1, hc]
  simp [encI, List.getD_eq_getElem?_getD, hx]

set_option maxHeartbeats 4000000 in
set_option maxRecDepth 100000 in
theorem takes_calls {w : World} {A0 : Option Addr} {c0 : Nat} {l : List Int} (i : Int) (hi : (Lit.int .i64 i).wf = true) (ha : (Kd.int .i64).C w A0 l.length l) (hc : l.length ≤ c0) :
    Calls Try.prog 9 #[.slice A0 l.length c0, .int .i64 i] w fun e w' => e = .returned (.bool true) ∧ Fr [] w w' := by
  have HA := Lib.hid ha
  have hm := Kd.C_max ha
  have HALIVE := Lib.hid (netAlive_calls w)
  refine calls_k fun R hR => ?_
  clear ha
  by_cases hl : l.length ≤ 200
  · go_enter Try.func9, Try.ntmps9
    go_wp2_with (first
      | (go_at_call 27; refine HALIVE.out.mono ?_; rintro e w1 ⟨rfl, hF1⟩)
      | (go_at_call 28; refine (new_own _).mono ?_; rintro e w2 ⟨p, rfl, hO2⟩))
    have hO0 := hO2.base hF1
    clear hO2 hF1 HALIVE
    go_loopw [25] (fun u wr => ∃ k : Nat, k ≤ l.length ∧ u = .int .i64 k ∧ Own w wr p (l.take k)) (fun u _ => l.length - (intOf u).toNat)
    case atStart => exact ⟨0, Nat.zero_le _, rfl, hO0⟩
    case round =>
      obtain ⟨k, hk, rfl, hO⟩ := hrel
      clear hO0
      by_cases hlt : k < l.length
      · obtain ⟨ad0, rfl, hc0⟩ := int_at (reads_fr HA.out hO.fr) k hlt
        obtain ⟨x, hx⟩ : ∃ x, x = l.getD k 0 := ⟨_, rfl⟩
        rw [← hx] at hc0
        have htk : l.take (k + 1) = l.take k ++ [x] := by
          rw [hx, List.take_succ_eq_append_getElem hlt]; simp [List.getD_eq_getElem?_getD, hlt]
        have HT := Lib.hid htk
        have hll : (l.take k).length < 4000 := by rw [List.length_take]; omega
        have HP := Lib.hid (put_own x hO hll)
        clear hx htk hll
        go_wp2_with (go_at_call 29; refine HP.out.mono ?_; rintro e w3 ⟨rfl, hO3⟩)
        go_roundw
        case rel => exact ⟨k + 1, by omega, by go_num, by rw [HT.out]; exact hO3⟩
        case measure => simp [intOf]; omega
      · obtain rfl : k = l.length := by omega
        rw [List.take_length] at hO
        have HAT := Lib.hid (fun (w3 : World) (h : Own w w3 p l) => at_own i h)
        have HTK := Lib.hid (fun (w3 : World) (h : Own w w3 p l) => take_own i h)
        by_cases hq : 0 ≤ i ∧ i < l.length
        · obtain ⟨hq0, hq1⟩ := hq
          obtain ⟨n, rfl⟩ := Int.eq_ofNat_of_zero_le hq0
          have hnl : n < l.length := by omega
          obtain ⟨x, hx⟩ : ∃ x, x = l.getD n 0 := ⟨_, rfl⟩
          have hq2 : atP l n = (x, true) := by rw [hx]; exact if_pos ⟨hq0, hq1⟩
          rw [hq2] at HAT HTK
          simp only [if_true, Int.toNat_natCast] at HTK
          obtain ⟨m, hmm⟩ : ∃ m, m = l.eraseIdx n := ⟨_, rfl⟩
          rw [← hmm] at HTK
          have HX := Lib.hid hx
          have HM := Lib.hid hmm
          clear hq2 hx hmm
          go_wp2_with (first
            | (go_at_call 30; refine (HAT.out _ (by assumption)).mono ?_; rintro e w3 ⟨rfl, hO3⟩)
            | (go_at_call 31; refine (HTK.out _ (by assumption)).mono ?_; rintro e w4 ⟨rfl, hO4⟩))
          clear HAT HTK hO hO3
          have hT0 : Two w (w4.alloc (.cells #[] 3)) p m (.slice (some ⟨w4.heap.size, 0, none⟩) 0 0) [] := hO4.two (World.ownsRow_made w4 #[] 0 (Nat.zero_le _) (by unfold maxLen; omega) rfl) ((Fr.refl _ _).alloc _) (fun k hk => .inr (by simp [Value.ownBlock] at hk; omega))
          have hml := hO4.len
          clear hO4
          go_loopw [12, 13] (fun v u wr => ∃ (j : Nat) (A : Option Addr) (cp : Nat), j ≤ m.length ∧ u = .int .i64 j ∧ v = .slice A j cp ∧ Two w wr p m (.slice A j cp) (m.take j)) (fun _ u _ => m.length - (intOf u).toNat)
          case atStart => exact ⟨0, _, _, Nat.zero_le _, rfl, rfl, hT0⟩
          case round =>
            obtain ⟨j, A, cp, hj, rfl, rfl, hT⟩ := hrel
            clear hT0
            by_cases hjl : j < m.length
            · obtain ⟨x, hx⟩ : ∃ x, x = m.getD j 0 := ⟨_, rfl⟩
              have hat : atP m j = (x, true) := by rw [hx]; exact if_pos ⟨by omega, by omega⟩
              have htk : m.take (j + 1) = m.take j ++ [x] := by
                rw [hx, List.take_succ_eq_append_getElem hjl]; simp [List.getD_eq_getElem?_getD, hjl]
              have HT := Lib.hid htk
              have HL1 := Lib.hid (len_two hT)
              have HA1 := Lib.hid (fun (w5 : World) (h : Two w w5 p m (.slice A j cp) (m.take j)) => at_two (j : Int) h)
              rw [hat] at HA1
              have hb1 : (m.take j).length < maxLen := by rw [List.length_take]; unfold maxLen; omega
              have hb2 : ((m.take j).length + 1) * 8 ≤ 140737488355328 := by rw [List.length_take]; omega
              have HLT := Lib.hid (show (m.take j).length = j by rw [List.length_take]; omega)
              clear hx hat htk hT
              go_wp2_with (first
                | (go_at_call 32; refine HL1.out.mono ?_; rintro e w5 ⟨rfl, hT5, _⟩)
                | (go_at_call 30; refine (HA1.out _ (by assumption)).mono ?_; rintro e w6 ⟨rfl, hT6⟩)
                | (at_builtin; refine wp_append1 rfl _ _ 24 3 rfl Try.underlying24 infoI rfl (by decide) hT6.row rfl [.int .i64 x] rfl rfl (by simp [Value.oneCell']) hb1 hb2 ?_; intro A2 cp2 W2 hown hF2 hN2))
              go_roundw
              case rel =>
                have e1 : (m.take j).length = j := HLT.out
                rw [e1] at hown hN2
                refine ⟨j + 1, A2, cp2, by omega, by go_num, by first | rfl | rw [e1], ?_⟩
                refine hT6.grow ?_ hF2 hN2
                rw [HT.out, List.map_append, List.length_append, e1]; exact hown
              case measure => simp [intOf]; omega
            · obtain rfl : j = m.length := by omega
              rw [List.take_length] at hT
              obtain ⟨_, hrd⟩ := reads_own hT.row
              have HL1 := Lib.hid (len_two hT)
              have HR2 := Lib.hid hrd
              have HFR := Lib.hid hT.fr
              clear hT hrd
              go_wp2_with (first
                | (go_at_call 32; refine HL1.out.mono ?_; rintro e w5 ⟨rfl, hT5, n5, rfl⟩))
              obtain ⟨ad0, rfl, _⟩ := int_at HA.out n hnl
              have HS1 := Lib.hid (fun (W : World) (h : Fr [] w W) => src_take n (reads_fr HA.out h))
              have e1 : 0 ≤ (n : Int) + 1 := by omega
              have e2 : (n : Int) + 1 ≤ (l.length : Int) := by omega
              have e3 : n ≤ c0 := by omega
              have e4 : n + 1 ≤ c0 := by omega
              have e5 : n ≤ l.length := by omega
              obtain ⟨A1, hA1⟩ : ∃ A1, (if c0 = n + 1 then some ad0 else some (ad0.add (n + 1))) = some A1 := by split <;> exact ⟨_, rfl⟩
              have HS2 := Lib.hid (fun (W : World) (h : Fr [] w W) => src_drop (c := c0) (n + 1) (by omega) (reads_fr HA.out h) A1 hA1 hc)
              have HA2 : Hid ((if c0 = n + 1 then some ad0 else some { block := ad0.block, off := ad0.off + (n + 1) }) = some A1) := by have := hA1; simp [Addr.add] at this; exact this
              clear hA1
              have hb3 : n ≤ 200 := by omega
              have hb4 : l.length - (n + 1) ≤ 200 := by omega
              have HN0 := Lib.hid (show w.heap.size ≤ wr.heap.size from HFR.out.size)
              have ew : IntKind.i64.wrap ((n : Int) + 1) = (n : Int) + 1 := IntWalk.i64_in _ (by omega)
              have et : ((n : Int) + 1).toNat = n + 1 := by omega
              go_region_law (first
                | (refine st_appendS rfl (.tmp 75) (.tmp 78) 24 3 rfl Try.underlying24 infoI rfl (by decide) (World.ownsRow_made _ #[] 0 (Nat.zero_le _) (by unfold maxLen; omega) rfl) (by simp [Act.eval, Act.put]) ad0 n c0 ((l.take n).map encI) (by simp [Act.eval, Act.put]) (by simp; omega) (HS1.out _ (((HFR.out.drewN n5).drew).alloc _)) (ints_oneCell .i64 _) (by unfold maxLen; omega) (by omega) ?_; intro A5 c5 W5 hr5 hF5 hN5; have hF5' : Fr [] w W5 := (((HFR.out.drewN n5).drew).alloc _).trans hF5 (fun k hk => .inr (by simp [Value.ownBlock] at hk; rw [hk]; exact HN0.out)); have hG5 : Fr [] wr W5 := ((((Fr.refl [] wr).drewN n5).drew).alloc _).trans hF5 (fun k hk => .inr (by simp [Value.ownBlock] at hk; omega)))
                | (refine st_appendS rfl (.tmp 79) (.tmp 83) 24 3 rfl Try.underlying24 infoI rfl (by decide) hr5 (by simp [Act.eval, Act.put]) A1 (l.length - (n + 1)) (c0 - (n + 1)) ((l.drop (n + 1)).map encI) (by simp [Act.eval, Act.put]; exact HA2.out) (by simp) (HS2.out _ hF5') (ints_oneCell .i64 _) (by unfold maxLen; omega) (by omega) ?_; intro A6 c6 W6 hr6 hF6 hN6))
              have hk6 : ∀ k ∈ (Value.slice A5 (0 + n) c5).ownBlock.toList, wr.heap.size ≤ k := fun k hk => by
                rcases hN5 k hk with h | h
                · simp [Value.ownBlock] at h; omega
                · simp at h; omega
              have hG6 : Fr [] wr W6 := hG5.trans hF6 (fun k hk => .inr (hk6 k hk))
              have hF6' : Fr [] w W6 := HFR.out.trans hG6 (by simp)
              have hlm : m.length = l.length - 1 := by rw [HM.out, List.length_eraseIdx, if_pos hnl]
              simp only [Nat.zero_add] at hr6 ⊢
              have hNm : n + (l.length - (n + 1)) = m.length := by omega
              rw [hNm] at hr6 ⊢
              have hr7 : W6.ownsRow 0 3 1 (.slice A6 m.length c6) m.length (m.map encI) := by
                rw [show m.map encI = (l.eraseIdx n).map encI by rw [HM.out], List.eraseIdx_eq_take_drop_succ, List.map_append]; exact hr6
              obtain ⟨_, hrd6⟩ := reads_own hr7
              have HS : Hid (Calls Try.prog 33 #[.slice A m.length cp, .slice A6 m.length c6] W6 fun e w' => e = .returned (.bool true) ∧ ∃ n, w' = W6.drewN n) := by
                refine (same_calls (c0 := cp) (c1 := c6) (Kd.C_below HR2.out hG6.below) hrd6).mono ?_
                rintro e w' ⟨rfl, h⟩
                exact ⟨by simp, h⟩
              obtain ⟨ad1, he1, hc6⟩ := int_at (reads_fr HA.out hF6') n hnl
              injection he1 with he1
              subst he1
              rw [← HX.out] at hc6
              clear hr5 hr6 hr7 hrd6 hNm hlm ew et hF5 hF6 hN5 hN6 hF5' hG5 hk6
              go_wp2_with (go_at_call 33; (with_reducible refine HS.out.mono ?_); rintro e w6 ⟨rfl, n6, rfl⟩)
              all_goals exact hR.out _ _ ⟨rfl, hF6'.drewN _⟩
        · have hq2 : atP l i = (0, false) := if_neg hq
          rw [hq2] at HAT HTK
          simp only [Bool.false_eq_true, if_false] at HTK
          obtain ⟨m, hmm⟩ : ∃ m, m = l := ⟨_, rfl⟩
          rw [← hmm] at HTK
          have HM := Lib.hid hmm
          clear hq2 hmm
          go_wp2_with (first
            | (go_at_call 30; refine (HAT.out _ (by assumption)).mono ?_; rintro e w3 ⟨rfl, hO3⟩)
            | (go_at_call 31; refine (HTK.out _ (by rw [HM.out]; assumption)).mono ?_; rintro e w4 ⟨rfl, hO4⟩))
          clear HAT HTK hO hO3
          have hT0 : Two w (w4.alloc (.cells #[] 3)) p m (.slice (some ⟨w4.heap.size, 0, none⟩) 0 0) [] := hO4.two (World.ownsRow_made w4 #[] 0 (Nat.zero_le _) (by unfold maxLen; omega) rfl) ((Fr.refl _ _).alloc _) (fun k hk => .inr (by simp [Value.ownBlock] at hk; omega))
          have hml := hO4.len
          clear hO4
          go_loopw [12, 13] (fun v u wr => ∃ (j : Nat) (A : Option Addr) (cp : Nat), j ≤ m.length ∧ u = .int .i64 j ∧ v = .slice A j cp ∧ Two w wr p m (.slice A j cp) (m.take j)) (fun _ u _ => m.length - (intOf u).toNat)
          case atStart => exact ⟨0, _, _, Nat.zero_le _, rfl, rfl, hT0⟩
          case round =>
            obtain ⟨j, A, cp, hj, rfl, rfl, hT⟩ := hrel
            clear hT0
            by_cases hjl : j < m.length
            · obtain ⟨x, hx⟩ : ∃ x, x = m.getD j 0 := ⟨_, rfl⟩
              have hat : atP m j = (x, true) := by rw [hx]; exact if_pos ⟨by omega, by omega⟩
              have htk : m.take (j + 1) = m.take j ++ [x] := by
                rw [hx, List.take_succ_eq_append_getElem hjl]; simp [List.getD_eq_getElem?_getD, hjl]
              have HT := Lib.hid htk
              have HL1 := Lib.hid (len_two hT)
              have HA1 := Lib.hid (fun (w5 : World) (h : Two w w5 p m (.slice A j cp) (m.take j)) => at_two (j : Int) h)
              rw [hat] at HA1
              have hb1 : (m.take j).length < maxLen := by rw [List.length_take]; unfold maxLen; omega
              have hb2 : ((m.take j).length + 1) * 8 ≤ 140737488355328 := by rw [List.length_take]; omega
              have HLT := Lib.hid (show (m.take j).length = j by rw [List.length_take]; omega)
              clear hx hat htk hT
              go_wp2_with (first
                | (go_at_call 32; refine HL1.out.mono ?_; rintro e w5 ⟨rfl, hT5, _⟩)
                | (go_at_call 30; refine (HA1.out _ (by assumption)).mono ?_; rintro e w6 ⟨rfl, hT6⟩)
                | (at_builtin; refine wp_append1 rfl _ _ 24 3 rfl Try.underlying24 infoI rfl (by decide) hT6.row rfl [.int .i64 x] rfl rfl (by simp [Value.oneCell']) hb1 hb2 ?_; intro A2 cp2 W2 hown hF2 hN2))
              go_roundw
              case rel =>
                have e1 : (m.take j).length = j := HLT.out
                rw [e1] at hown hN2
                refine ⟨j + 1, A2, cp2, by omega, by go_num, by first | rfl | rw [e1], ?_⟩
                refine hT6.grow ?_ hF2 hN2
                rw [HT.out, List.map_append, List.length_append, e1]; exact hown
              case measure => simp [intOf]; omega
            · obtain rfl : j = m.length := by omega
              rw [List.take_length] at hT
              obtain ⟨_, hrd⟩ := reads_own hT.row
              have HL1 := Lib.hid (len_two hT)
              have HR2 := Lib.hid hrd
              have HFR := Lib.hid hT.fr
              clear hT hrd
              have HS := Lib.hid (fun n => same_calls (c0 := cp) (c1 := c0) (Kd.C_drewN HR2.out n) (Kd.C_drewN (reads_fr HA.out HFR.out) n))
              go_wp2_with (first
                | (go_at_call 32; refine HL1.out.mono ?_; rintro e w5 ⟨rfl, hT5, n5, rfl⟩)
                | (go_at_call 33; refine (HS.out n5).mono ?_; rintro e w6 ⟨rfl, n6, rfl⟩))
              refine hR.out _ _ ⟨?_, HFR.out.drewN _⟩
              simp [HM.out]
  · have hl2 : 200 < l.length := by omega
    go_enter Try.func9, Try.ntmps9
    go_wp2_with (go_at_call 27; refine HALIVE.out.mono ?_; rintro e w1 ⟨rfl, hF1⟩)
    exact hR.out _ _ ⟨rfl, hF1⟩
theorem NetTakes_walk (w : World) (A0 : Option Addr) (c0 : Nat) (l : List Int) (ha : (Kd.int .i64).C w A0 l.length l) (_ : l.length ≤ maxLen) (_ : l.length * 8 ≤ 140737488351232) (_ : ∀ x ∈ l, (Lit.int .i64 x).wf = true) (hc : l.length ≤ c0) (i : Int) (hi : (Lit.int .i64 i).wf = true) :
    Calls Try.prog 9 #[.slice A0 l.length c0, .int .i64 i] w fun e w' => e = .returned (.bool true) ∧ Fr [] w w' := takes_calls i hi ha hc
end Go.Np.Try
