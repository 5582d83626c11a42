/- A text that the row of LedgerCleans needs. (Pruned by tools/prune.py.) -/
import Derived.Test.YtlllhpnpgcphcaaQLedgerCleansLedg
set_option linter.unusedVariables false
set_option linter.unusedSimpArgs false
namespace Go.Np.Try
open Go.RowKit Go.Proofs Go.Proofs.Ytlllhpnpgcphcaa.PX Go.Proofs.YtlllhpnpgcphcaaW.PrintWords
theorem cleanL_le : ∀ (l met : List Int), (cleanL met l).length ≤ l.length
  | [], _ => Nat.le_refl _
  | x :: l, met => by
    simp only [cleanL]
    have h1 := cleanL_le l met
    have h2 := cleanL_le l (met ++ [x])
    split
    · simp; omega
    · simp; omega
theorem clean_in {l : List Int} {k : Nat} (hk : k < l.length) {d : Int} (hd : l.getD k 0 = d) (hm : d ∈ l.take k) : cleanL [] (l.take (k + 1)) = cleanL [] (l.take k) := by
  rw [take_snocI hk hd, cleanL_append]
  simp [cleanL, hm]
theorem clean_out {l : List Int} {k : Nat} (hk : k < l.length) {d : Int} (hd : l.getD k 0 = d) (hm : d ∉ l.take k) : cleanL [] (l.take (k + 1)) = cleanL [] (l.take k) ++ [d] := by
  rw [take_snocI hk hd, cleanL_append]
  simp [cleanL, hm]
def DelIn (W : World) (r c : Nat) (l : List Int) (k : Nat) : Prop :=
  ∃ ds, W.heap[r]? = some (.cells ds 3 (0, 0)) ∧ ds.size = c ∧ (∀ p, p < (cleanL [] (l.take k)).length → ds[p]? = some (.int .i64 ((cleanL [] (l.take k)).getD p 0))) ∧ ∀ p, k ≤ p → p < l.length → ds[p]? = some (.int .i64 (l.getD p 0))
theorem DelIn.mv {W W' : World} {r c k : Nat} {l : List Int} (h : DelIn W r c l k) (he : W'.heap[r]? = W.heap[r]?) : DelIn W' r c l k := by
  obtain ⟨ds, h1, h2⟩ := h
  exact ⟨ds, he.trans h1, h2⟩
theorem DelIn.lt {W : World} {r c k : Nat} {l : List Int} (h : DelIn W r c l k) : r < W.heap.size := by
  obtain ⟨ds, h1, h2⟩ := h
  exact (Array.getElem?_eq_some_iff.1 h1).1
theorem DelIn.start {W : World} {r c n : Nat} {l : List Int} {cs : Array Value} (hr : W.heap[r]? = some (.cells cs 3 (0, 0))) (hs : cs.size = c) (hc : ∀ i, i < l.length → cs[i]? = some (.int .i64 (l.getD i 0))) (hn : n < l.length) (h1 : cleanL [] (l.take n) = l.take n) (h2 : l.getD n 0 ∈ l.take n) : DelIn W r c l (n + 1) ∧ (cleanL [] (l.take (n + 1))).length = n := by
  have e := clean_in hn rfl h2
  rw [h1] at e
  refine ⟨⟨cs, hr, hs, fun p hp => ?_, fun p _ hp => hc p hp⟩, by rw [e, List.length_take]; omega⟩
  rw [e] at hp ⊢
  rw [List.length_take] at hp
  rw [hc p (by omega)]
  simp [List.getD_eq_getElem?_getD, List.getElem?_take]
  rw [if_pos (by omega)]
theorem DelIn.skip {W : World} {r c k : Nat} {l : List Int} (h : DelIn W r c l k) (hk : k < l.length) (hm : l.getD k 0 ∈ l.take k) : DelIn W r c l (k + 1) := by
  obtain ⟨ds, h1, h2, h3, h4⟩ := h
  have e := clean_in hk rfl hm
  exact ⟨ds, h1, h2, fun p hp => by rw [e] at hp ⊢; exact h3 p hp, fun p hp hl => h4 p (by omega) hl⟩
theorem DelIn.put {W : World} {r c k o : Nat} {l : List Int} {d : Int} (h : DelIn W r c l k) (hk : k < l.length) (hd : l.getD k 0 = d) (hm : d ∉ l.take k) (ho : (cleanL [] (l.take k)).length = o) (hok : o < k) (hlc : l.length ≤ c) : DelIn (W.setCell ⟨r, o, none⟩ (.int .i64 d)) r c l (k + 1) := by
  obtain ⟨ds, h1, h2, h3, h4⟩ := h
  have e := clean_out hk hd hm
  refine ⟨_, obj_set h1 o _, by simpa using h2, fun p hp => ?_, fun p hp hl => ?_⟩
  · rw [e] at hp ⊢
    rw [List.length_append, List.length_singleton, ho] at hp
    by_cases hpo : p = o
    · subst hpo
      rw [Array.getElem?_setIfInBounds_self_of_lt (by omega)]
      rw [List.getD_eq_getElem?_getD, List.getElem?_append_right (by omega), ho]
      simp
    · rw [Array.getElem?_setIfInBounds_ne (by omega), h3 p (by omega)]
      rw [List.getD_eq_getElem?_getD, List.getD_eq_getElem?_getD, List.getElem?_append_left (by omega)]
  · rw [Array.getElem?_setIfInBounds_ne (by omega)]
    exact h4 p (by omega) hl
theorem DelIn.cells {W : World} {r c k o : Nat} {l : List Int} (h : DelIn W r c l k) (hlc : l.length ≤ c) (ho : o < k) (hk : k ≤ l.length) : (k < l.length → W.cell? ⟨r, k, none⟩ = some (.int .i64 (l.getD k 0))) ∧ (∃ u, W.cell? ⟨r, o, none⟩ = some u) ∧ W.frozen? ⟨r, o, none⟩ = false := by
  obtain ⟨ds, h1, h2, h3, h4⟩ := h
  refine ⟨fun hk => by rw [cell_of h1]; exact h4 k (Nat.le_refl _) hk, ?_, froz_of h1 _⟩
  rw [cell_of h1]
  exact ⟨ds[o]'(by omega), Array.getElem?_eq_getElem (by omega)⟩
theorem zeroInt (w : World) : (zeroValue 3).run Try.prog w = .ok (.int .i64 0) w := by kernel_rfl
theorem DelIn.final {W : World} {r c o : Nat} {l : List Int} (h : DelIn W r c l l.length) (hlc : l.length ≤ c) (hcm : c ≤ maxLen) (ho : (cleanL [] l).length = o) (hol : o < l.length) : ∃ W', (∀ (ty : TypeId) (cc : Nat), (Builtin.clear_ #[39] ty #[.slice (some ⟨r, o, none⟩) (l.length - o) cc]).run Try.prog W = .ok (.tuple #[]) W') ∧ SlI W' (.slice (some ⟨r, 0, none⟩) o c) (cleanL [] l) ∧ Fr [r] W W' := by
  obtain ⟨ds, h1, h2, h3, h4⟩ := h
  rw [List.take_length] at h3
  obtain ⟨zs, hzl, hcl⟩ := run_clear_row (P := Try.prog) 39 3 Try.underlying39 zeroInt (size := 1) rfl (by simp [Value.cells, Value.oneCell']) h1 o (l.length - o) (by omega) (by omega)
  refine ⟨_, fun ty cc => hcl ty cc, ?_, fr_setRow⟩
  have hO : OwnI 0 (W.setRow r (ds.toList.take o ++ zs ++ ds.toList.drop (o + zs.length)).toArray) (.slice (some ⟨r, 0, none⟩) o c) (cleanL [] l) := by
    refine ⟨⟨?_, .inr ⟨r, c, _, by rw [ho], Nat.zero_le _, setRow_heap W r ds _ _ _ h1, by omega, hcm, ?_, ?_⟩⟩, fun k _ => Nat.zero_le _⟩
    · simp
    · simp only [List.size_toArray, List.length_append, List.length_take, List.length_drop, Array.length_toList, hzl]
      omega
    · simp only [List.append_assoc, Nat.mul_one]
      rw [ho, List.take_append_of_le_length (by rw [List.length_take, Array.length_toList]; omega), List.take_take, Nat.min_self]
      apply List.ext_getElem?
      intro p
      rw [List.getElem?_take, List.getElem?_map]
      by_cases hp : p < o
      · rw [if_pos hp, Array.getElem?_toList, h3 p (by omega), List.getD_eq_getElem?_getD, List.getElem?_eq_getElem (by omega)]
        simp
      · rw [if_neg hp, List.getElem?_eq_none (by omega)]
        rfl
  exact hO.sl
theorem getD_at {l : List Int} {n : Nat} (h : n < l.length) : l[n]? = some (l.getD n 0) := by simp [List.getD_eq_getElem?_getD, h]
theorem take_part (l : List Int) {n m : Nat} (h : n ≤ m) : l.take m = l.take n ++ (l.take m).drop n := by
  have := List.take_append_drop n (l.take m)
  rw [List.take_take, Nat.min_eq_left h] at this
  exact this.symm
set_option maxHeartbeats 4000000 in
set_option maxRecDepth 100000 in
theorem delete_some {w : World} {r c g b n0 : Nat} {l : List Int} {cs : Array Value} (hr : w.heap[r]? = some (.cells cs 3 (0, 0))) (hs : cs.size = c) (hlc : l.length ≤ c) (hcm : c ≤ maxLen) (hcs : ∀ i, i < l.length → cs[i]? = some (.int .i64 (l.getD i 0))) (hC : (Kd.int .i64).C w (some ⟨r, 0, none⟩) l.length l) (hrb : r ≠ b) (hgb : g ≠ b) (hgr : g ≠ r) (hg : w.cell? ⟨g, 0, none⟩ = some (.map (some b))) (hM : SetAt w b [])
    (hn : n0 < l.length) (h1 : cleanL [] (l.take n0) = l.take n0) (h2 : l.getD n0 0 ∈ l.take n0) :
    Calls Try.prog 92 #[.slice (some ⟨r, 0, none⟩) l.length c, .func (.func 94) #[] #[.pointer (some ⟨g, 0, none⟩)]] w fun e w' => ∃ v, e = .returned v ∧ SlI w' v (cleanL [] l) ∧ Fr [b, r] w w' := by
  have hbr : b ≠ r := fun e => hrb e.symm
  have HI := Lib.hid (firstmet_calls (c := c) hC (fun ad e => by injection e with e; subst e; exact hrb) hgb hg hM)
  have HR0 : Hid (∀ W, Fr [b] w W → W.heap[r]? = some (.cells cs 3 (0, 0))) := fun W hW => (hW.block r (Array.getElem?_eq_some_iff.1 hr).1 (by simpa using hrb)).trans hr
  have HG : Hid (∀ W, Fr [b, r] w W → W.cell? ⟨g, 0, none⟩ = some (.map (some b))) := fun W hW => (hW.cell (lt_cell hg) (by simp; exact ⟨hgb, hgr⟩)).trans hg
  have HS := Lib.hid hs
  have HCS := Lib.hid hcs
  have HCM := Lib.hid hcm
  have HN1 := Lib.hid h1
  have HN2 := Lib.hid h2
  have HUN : Hid (∀ n, n < l.length → cleanL [] (l.take n) = l.take n → l.getD n 0 ∈ l.take n → n = n0) := by
    show ∀ n, n < l.length → cleanL [] (l.take n) = l.take n → l.getD n 0 ∈ l.take n → n = n0
    intro n hn' ha hb
    rcases Nat.lt_trichotomy n n0 with h | h | h
    · exfalso
      have h3 : (cleanL [] (l.take n0)).Nodup := cleanL_nodup _ _
      rw [HN1.out] at h3
      have h4 := take_part l (Nat.le_of_lt h)
      rw [h4, List.nodup_append] at h3
      refine h3.2.2 _ hb _ ?_ rfl
      rw [List.mem_iff_getElem?]
      exact ⟨0, by rw [List.getElem?_drop, List.getElem?_take, if_pos (by omega), Nat.add_zero, getD_at (by omega)]⟩
    · exact h
    · exfalso
      have h3 : (cleanL [] (l.take n)).Nodup := cleanL_nodup _ _
      rw [ha] at h3
      have h4 := take_part l (Nat.le_of_lt h)
      rw [h4, List.nodup_append] at h3
      refine h3.2.2 _ HN2.out _ ?_ rfl
      rw [List.mem_iff_getElem?]
      exact ⟨0, by rw [List.getElem?_drop, List.getElem?_take, if_pos (by omega), Nat.add_zero, getD_at (by omega)]⟩
  have hmx : l.length ≤ 9223372036854775807 := hC.2.1
  refine calls_k fun R hR => ?_
  obtain ⟨N, hN⟩ : ∃ N, l.length = N := ⟨_, rfl⟩
  rw [hN] at hmx hlc hn
  simp only [hN] at HI
  rw [hN]
  have HN := Lib.hid hN
  clear hr hs hcm hcs hC hg hM h1 h2 hN
  go_enter Try.func92, Try.ntmps92
  go_upto_region 2 with (first
    | (go_at_call 111; refine HI.out.mono ?_; rintro e w1 ⟨x, rfl, hx, hF1⟩; have HX := Lib.hid hx; have HF1 := Lib.hid hF1; clear hx hF1 HI))
  have hx : x = (n0 : Int) ∧ SetAt w1 b (l.take n0) := by
    rcases HX.out with ⟨rfl, hcl⟩ | ⟨n, rfl, hn', h1, h2, h3⟩
    · exfalso
      have h3 : (cleanL [] l).Nodup := cleanL_nodup _ _
      rw [hcl] at h3
      have h4 : l = l.take n0 ++ l.drop n0 := (List.take_append_drop n0 l).symm
      rw [h4, List.nodup_append] at h3
      refine h3.2.2 _ HN2.out _ ?_ rfl
      rw [List.mem_iff_getElem?]
      have := HN.out
      exact ⟨0, by rw [List.getElem?_drop, Nat.add_zero, getD_at (by omega)]⟩
    · have := HUN.out n (by rw [HN.out]; exact hn') h1 h2
      subst this
      exact ⟨rfl, h3⟩
  obtain ⟨rfl, hset⟩ := hx
  obtain ⟨hd1, hd2⟩ := DelIn.start (HR0.out _ HF1.out) HS.out HCS.out (by rw [HN.out]; exact hn) HN1.out HN2.out
  have HD0 := Lib.hid hd1
  have HL0 := Lib.hid hd2
  have HSET0 : Hid (SetAt w1 b (l.take (n0 + 1))) := by
    show SetAt _ _ _
    refine hset.cong (fun z => ?_)
    rw [take_snocI (by rw [HN.out]; exact hn) rfl, List.mem_append, List.mem_singleton]
    exact ⟨.inl, fun h => h.elim id (fun e => e ▸ HN2.out)⟩
  have HF0 : Hid (Fr [b, r] w w1) := HF1.out.mono (fun x hx => .inl (by simp at hx; simp [hx]))
  have hne1 : ((n0 : Int) == -1) = false := by rw [beq_eq_false_iff_ne]; omega
  clear hset hd1 hd2 HX HF1 HR0 HS HCS HUN
  go_upto_region 5 with (fail)
  clear hne1
  go_loopg [5, 6] (N - (n0 + 1)) (fun gn i j wr => ∃ (m k o : Nat), m = gn ∧ i = .int .i64 o ∧ j = .int .i64 k ∧ m + k = N ∧ o < k ∧ Hid ((cleanL [] (l.take k)).length = o) ∧ Hid (DelIn wr r c l k) ∧ Hid (SetAt wr b (l.take k)) ∧ Hid (Fr [b, r] w wr))
  case atStart => exact ⟨_, n0 + 1, n0, rfl, rfl, by go_num, by omega, by omega, HL0, HD0, HSET0, HF0⟩
  case round =>
    obtain ⟨m, k, o, rfl, rfl, rfl, hk, hok, HL, HD, HM, HF⟩ := hrel
    clear HL0 HD0 HSET0 HF0
    by_cases hlt : k < N
    · obtain ⟨m', rfl⟩ : ∃ m', m = m' + 1 := ⟨m - 1, by omega⟩
      have hkl : k < l.length := by rw [HN.out]; exact hlt
      have hcell := (HD.out.cells (o := o) (by rw [HN.out]; exact hlc) hok (Nat.le_of_lt hkl)).1 hkl
      obtain ⟨d, hd⟩ : ∃ d, l.getD k 0 = d := ⟨_, rfl⟩
      rw [hd] at hcell
      obtain ⟨mm, hm1, hm2⟩ := HM.out
      have HC := Lib.hid (met_calls (HG.out _ HF.out) hm1 hm2 d)
      have HDD := Lib.hid hd
      have HKL := Lib.hid hkl
      obtain ⟨q, hq⟩ : ∃ q, decide (d ∈ l.take k) = q := ⟨_, rfl⟩
      rw [hq] at HC
      have HT := Lib.hid (take_snocI hkl hd)
      clear hd hm1 hm2 hkl
      cases q with
      | true =>
        have HQ := Lib.hid (of_decide_eq_true hq)
        clear hq
        go_wp2_with (go_at_call 94; refine HC.out.mono ?_; rintro e w1 ⟨rfl, hm1, hF1⟩; have HM1 := Lib.hid hm1; have HF1 := Lib.hid hF1; clear hF1 hm1 HC)
        go_roundg m'
        case rel =>
          refine ⟨m', k + 1, o, rfl, rfl, by go_num, by omega, by omega, ?_, ?_, ?_, ?_⟩
          · show _ = _
            rw [clean_in HKL.out HDD.out HQ.out]; exact HL.out
          · exact (HD.out.mv (HF1.out.block r HD.out.lt (by simpa using hrb))).skip HKL.out (by rw [HDD.out]; exact HQ.out)
          · show SetAt _ _ _
            rw [HT.out]; exact HM1.out
          · exact HF.out.trans HF1.out (fun y hy => .inl (by simp at hy; simp [hy]))
        case measure => omega
      | false =>
        have HQ := Lib.hid (of_decide_eq_false hq)
        clear hq
        go_wp2_with (go_at_call 94; refine HC.out.mono ?_; rintro e w1 ⟨rfl, hm1, hF1⟩
                     have HM1 := Lib.hid hm1
                     have HF1 := Lib.hid hF1
                     have HD1 := Lib.hid (HD.out.mv (HF1.out.block r HD.out.lt (by simpa using hrb)))
                     obtain ⟨_, ⟨u, hu⟩, hfz⟩ := HD1.out.cells (o := o) (by rw [HN.out]; exact hlc) hok (Nat.le_of_lt HKL.out)
                     clear hF1 hm1 HC)
        go_roundg m'
        case rel =>
          refine ⟨m', k + 1, o + 1, rfl, by go_num, by go_num, by omega, by omega, ?_, ?_, ?_, ?_⟩
          · show _ = _
            rw [clean_out HKL.out HDD.out HQ.out, List.length_append, HL.out]; rfl
          · exact HD1.out.put HKL.out HDD.out HQ.out HL.out hok (by rw [HN.out]; exact hlc)
          · obtain ⟨m9, h8, h9⟩ := HM1.out
            exact ⟨m9, h8.setCell hbr _, by rw [HT.out]; exact h9⟩
          · exact (HF.out.trans HF1.out (fun y hy => .inl (by simp at hy; simp [hy]))).setCell (.inl (by simp)) _
        case measure => omega
    · obtain rfl : k = N := by omega
      have hkl := HN.out
      obtain ⟨W', hrun, hSl, hFr⟩ := DelIn.final (o := o) (by rw [hkl]; exact HD.out) (by rw [hkl]; exact hlc) HCM.out (by have := HL.out; rw [← hkl, List.take_length] at this; exact this) (by omega)
      rw [hkl] at hrun
      have hne : c ≠ o := by omega
      have HSl := Lib.hid hSl
      have HFr := Lib.hid (HF.out.trans hFr (fun y hy => .inl (by simp at hy; simp [hy])))
      clear hkl hSl hFr
      go_wp2
      exact hR.out _ _ ⟨_, rfl, HSl.out, HFr.out⟩
end Go.Np.Try
