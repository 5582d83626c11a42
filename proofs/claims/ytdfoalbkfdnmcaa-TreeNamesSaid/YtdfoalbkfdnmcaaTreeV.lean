/- tree.Tree: Missing. (Printed by tools/gen_tmiss.py.) -/
import Derived.Test.YtdfoalbkfdnmcaaTreeO
import Derived.Test.YtdfoalbkfdnmcaaRoundR
set_option linter.unusedVariables false
set_option linter.unusedSimpArgs false
namespace Go.Np.Try
open Go.RowKit Go.Proofs Go.Proofs.Ytdfoalbkfdnmcaa.PX Go.Proofs.YtdfoalbkfdnmcaaW.PrintWords
def Tr.lacks (t : Tr) (b : Blk) : Bool := !t.ready b && !decide (b.f3 ∈ t.wait.map nameB)
def Tr.missing (t : Tr) : List Int := uniq ((t.wait.filter t.lacks).map (·.f3))
set_option maxHeartbeats 8000000 in
set_option maxRecDepth 100000 in
theorem missing_calls {X : Nat → Prop} {w : World} {p : Nat} {t : Tr} (h : TrAt X w p t) (hlen : t.wait.length ≤ 100000) :
    Calls Try.prog 25 #[.pointer (some ⟨p, 0, none⟩)] w fun e w' => ∃ v, e = .returned v ∧ OwnI w.heap.size w' v t.missing ∧ Fr [] w w' := by
  have HTR := Lib.hid h
  obtain ⟨b, v, ds, qs, h⟩ := h
  obtain ⟨A, c, rfl, hc⟩ := h.hv.form
  have hc1 := cell_of h.hp 1
  simp at hc1
  have hqs := h.hqs
  have hlq : qs.length ≤ 100000 := by rw [← hqs] at hlen; simpa using hlen
  have HH := Lib.hid h
  have HWL := Lib.hid hlen
  obtain ⟨fin, hfin⟩ : ∃ fin : List Int, fin = ((qs.filter (fun q => t.lacks q.b)).map (·.b.f3)) := ⟨_, rfl⟩
  have hmiss : t.missing = uniq fin := by
    unfold Tr.missing
    rw [hfin, ← hqs, List.filter_map, List.map_map]
    rfl
  have hfl : fin.length ≤ qs.length := by rw [hfin, List.length_map]; exact List.length_filter_le _ _
  have HFN := Lib.hid hfin
  refine calls_k fun R hR => ?_
  rw [hmiss] at hR
  clear h hqs hlen hmiss hfin
  go_enter Try.func25, Try.ntmps25
  go_upto_region 3 with (fail)
  clear hc1
  go_loopg [3, 12] qs.length (fun gn o i wr => ∃ (m j : Nat) (l : List Int) (D : Option Addr) (cp : Nat), m = gn ∧ m + j = qs.length ∧ o = .slice D l.length cp ∧ i = .int .i64 j ∧ Hid (l = ((qs.take j).filter (fun q => t.lacks q.b)).map (·.b.f3)) ∧ Hid (OwnI w.heap.size wr (.slice D l.length cp) l) ∧ Hid (Fr [] w wr))
  case atStart => exact ⟨_, 0, [], none, 0, rfl, rfl, rfl, rfl, by unfold Hid; simp, OwnI.nil _ _, Fr.refl _ _⟩
  case round =>
    obtain ⟨m, j, l, D, cp, rfl, hj, rfl, rfl, HL, HO, HF⟩ := hrel
    have hll : l.length ≤ qs.length := by
      rw [HL.out, List.length_map]
      exact Nat.le_trans (List.length_filter_le _ _) (by rw [List.length_take]; omega)
    by_cases hlt : j < qs.length
    · have hr := HH.out.fr0 HF.out
      obtain ⟨q, hq⟩ : ∃ q, qs[j]? = some q := ⟨_, List.getElem?_eq_getElem hlt⟩
      obtain ⟨ad, rfl, c0, c1, c2, c3, c4⟩ := Go.Np.Try.RowAt.blk hr.hv j q hq
      have htake : qs.take (j + 1) = qs.take j ++ [q] := by rw [List.take_add_one, hq]; rfl
      have hnext : ((qs.take (j + 1)).filter (fun q => t.lacks q.b)).map (·.b.f3) = l ++ (if t.lacks q.b = true then [q.b.f3] else []) := by
        rw [htake, List.filter_append, List.map_append, ← HL.out, List.filter_cons]
        by_cases hb : t.lacks q.b = true <;> simp [hb]
      have HNX := Lib.hid hnext
      obtain ⟨W8, hW8⟩ : ∃ W8, W8 = wr.alloc (.cells #[.int .i64 q.b.f0, .int .i64 q.b.f1, .int .i64 q.b.f2, .int .i64 q.b.f3, .slice q.A q.b.f4.length q.c] 28) := ⟨_, rfl⟩
      obtain ⟨g, hg⟩ : ∃ g, g = wr.heap.size := ⟨_, rfl⟩
      have hbl : W8.heap[g]? = some (.cells #[.int .i64 q.b.f0, .int .i64 q.b.f1, .int .i64 q.b.f2, .int .i64 q.b.f3, .slice q.A q.b.f4.length q.c] 28 (0, 0)) := by rw [hW8, hg]; exact heap_alloc_new _ _
      have e0 := cell_of hbl 0
      have e1 := cell_of hbl 1
      have e2 := cell_of hbl 2
      have e3 := cell_of hbl 3
      have e4 := cell_of hbl 4
      simp at e0 e1 e2 e3 e4
      have hF8 : Fr [] wr W8 := by rw [hW8]; exact (Fr.refl _ _).alloc _
      have HSF : Hid (∀ W', Fr [] W8 W' → W'.cell? ⟨g, 0, none⟩ = some (.int .i64 q.b.f0) ∧ W'.cell? ⟨g, 1, none⟩ = some (.int .i64 q.b.f1) ∧ W'.cell? ⟨g, 2, none⟩ = some (.int .i64 q.b.f2) ∧ W'.cell? ⟨g, 3, none⟩ = some (.int .i64 q.b.f3) ∧ W'.cell? ⟨g, 4, none⟩ = some (.slice q.A q.b.f4.length q.c)) := fun W' hF' => ⟨cellF hF' e0, cellF hF' e1, cellF hF' e2, cellF hF' e3, cellF hF' e4⟩
      have HFW := Lib.hid (HF.out.trans hF8 (by simp))
      have HRD := Lib.hid (ready_calls (HTR.out.fr (HFW.out.drew)) q.b q.A q.c)
      simp only [blkV] at HRD
      have hO8 := HO.out.fr hF8 (by simp)
      have HO8 := Lib.hid hO8
      have hb63 : l.length < maxLen := by unfold maxLen; omega
      have hb8 : (l.length + 1) * 8 ≤ 140737488355328 := by omega
      obtain ⟨m', rfl⟩ : ∃ m', m = m' + 1 := ⟨m - 1, by omega⟩
      clear hr hq htake hbl hF8 hnext hO8 HO HL
      go_upto_region 5 with (fail)
      rw [← hW8, ← hg]
      clear hW8 hg c0 c1 c2 c3 c4 e0 e1 e2 e3 e4
      cases hrd : t.ready q.b with
      | true =>
        rw [hrd] at HRD
        have hla : t.lacks q.b = false := by unfold Tr.lacks; rw [hrd]; rfl
        have hnx := HNX.out
        rw [hla, if_neg (by simp), List.append_nil] at hnx
        have HNX' := Lib.hid hnx
        clear hrd hla hnx HNX
        refine wp_region_held_drew (S := fun W => W.cell? ⟨g, 0, none⟩ = some (.int .i64 q.b.f0) ∧ W.cell? ⟨g, 1, none⟩ = some (.int .i64 q.b.f1) ∧ W.cell? ⟨g, 2, none⟩ = some (.int .i64 q.b.f2) ∧ W.cell? ⟨g, 3, none⟩ = some (.int .i64 q.b.f3) ∧ W.cell? ⟨g, 4, none⟩ = some (.slice q.A q.b.f4.length q.c)) (by kernel_rfl) (HSF.out _ ((Fr.refl _ _).drew)) (fun hHeld => ?_)
        refine held_take (i := 0) (v := ?_) rfl (by kernel_rfl) (by kernel_rfl) (by kernel_rfl) (fun _ _ _ h => h) (Or.inl ⟨by rfl, ?_⟩) (by assumption) ?_
        rotate_left
        · intro w hSw; obtain ⟨s0, s1, s2, s3, s4⟩ := hSw; (try go_simp); first | done | with_reducible rfl | assumption | skip
        try simp only [Act.put, List.setIfInBounds_toArray, List.set_cons_zero, List.set_cons_succ]
        refine held_take (i := 1) (v := ?_) rfl (by kernel_rfl) (by kernel_rfl) (by kernel_rfl) (fun _ _ _ h => h) (Or.inl ⟨by rfl, ?_⟩) (by assumption) ?_
        rotate_left
        · intro w hSw; obtain ⟨s0, s1, s2, s3, s4⟩ := hSw; (try go_simp); first | done | with_reducible rfl | assumption | skip
        try simp only [Act.put, List.setIfInBounds_toArray, List.set_cons_zero, List.set_cons_succ]
        refine held_one (i := 2) rfl (by kernel_rfl) (by rfl) (fun K2 hK2 => ?_)
        go_simp
        refine (HRD.out).mono ?_
        rintro e w9 ⟨rfl, hF9⟩
        refine hK2.out _ _ (HSF.out _ (((Fr.refl _ _).drew).trans hF9 (by simp))) (fun hHeld2 => ?_)
        try simp only [Act.put, List.setIfInBounds_toArray, List.set_cons_zero, List.set_cons_succ]
        clear hK2 K2
        refine held_take (i := 3) (v := ?_) rfl (by kernel_rfl) (by kernel_rfl) (by kernel_rfl) (fun _ _ _ h => h) (Or.inl ⟨by rfl, ?_⟩) (by assumption) ?_
        rotate_left
        · intro w hSw; obtain ⟨s0, s1, s2, s3, s4⟩ := hSw; (try go_simp); first | done | with_reducible rfl | assumption | skip
        try simp only [Act.put, List.setIfInBounds_toArray, List.set_cons_zero, List.set_cons_succ]
        refine held_take (i := 4) (v := .bool false) rfl (by kernel_rfl) (by kernel_rfl) (by kernel_rfl) (fun _ _ _ h => h) (Or.inl ⟨by rfl, ?_⟩) (by assumption) ?_
        · intro w hSw; obtain ⟨s0, s1, s2, s3, s4⟩ := hSw; (try go_simp); first | done | with_reducible rfl | assumption | skip
        try simp only [Act.put, List.setIfInBounds_toArray, List.set_cons_zero, List.set_cons_succ]
        refine held_take (i := 5) (v := undef) rfl (by kernel_rfl) (by kernel_rfl) (by kernel_rfl) (fun _ _ _ h => h) (Or.inr ⟨by rfl, rfl⟩) (by assumption) ?_
        try simp only [Act.put, List.setIfInBounds_toArray, List.set_cons_zero, List.set_cons_succ]
        refine held_take (i := 6) (v := undef) rfl (by kernel_rfl) (by kernel_rfl) (by kernel_rfl) (fun _ _ _ h => h) (Or.inr ⟨by rfl, rfl⟩) (by assumption) ?_
        try simp only [Act.put, List.setIfInBounds_toArray, List.set_cons_zero, List.set_cons_succ]
        refine held_take (i := 7) (v := undef) rfl (by kernel_rfl) (by kernel_rfl) (by kernel_rfl) (fun _ _ _ h => h) (Or.inr ⟨by rfl, rfl⟩) (by assumption) ?_
        try simp only [Act.put, List.setIfInBounds_toArray, List.set_cons_zero, List.set_cons_succ]
        refine held_take (i := 8) (v := undef) rfl (by kernel_rfl) (by kernel_rfl) (by kernel_rfl) (fun _ _ _ h => h) (Or.inr ⟨by rfl, rfl⟩) (by assumption) ?_
        try simp only [Act.put, List.setIfInBounds_toArray, List.set_cons_zero, List.set_cons_succ]
        refine held_take (i := 9) (v := undef) rfl (by kernel_rfl) (by kernel_rfl) (by kernel_rfl) (fun _ _ _ h => h) (Or.inr ⟨by rfl, rfl⟩) (by assumption) ?_
        try simp only [Act.put, List.setIfInBounds_toArray, List.set_cons_zero, List.set_cons_succ]
        refine held_take (i := 10) (v := undef) rfl (by kernel_rfl) (by kernel_rfl) (by kernel_rfl) (fun _ _ _ h => h) (Or.inr ⟨by rfl, rfl⟩) (by assumption) ?_
        try simp only [Act.put, List.setIfInBounds_toArray, List.set_cons_zero, List.set_cons_succ]
        refine held_take (i := 11) (v := ?_) rfl (by kernel_rfl) (by kernel_rfl) (by kernel_rfl) (fun _ _ _ h => h) (Or.inl ⟨by rfl, ?_⟩) (by assumption) ?_
        rotate_left
        · intro w hSw; obtain ⟨s0, s1, s2, s3, s4⟩ := hSw; (try go_simp); first | done | with_reducible rfl | assumption | skip
        try simp only [Act.put, List.setIfInBounds_toArray, List.set_cons_zero, List.set_cons_succ]
        refine wpAnyH_done (by kernel_rfl) ?_ _

        have HF89 : Hid (Fr [] W8 w9) := ((Fr.refl [] W8).drew).trans hF9 (by simp)
        go_wp2
        go_roundg m'
        case rel => exact ⟨m', j + 1, l, D, cp, rfl, by omega, rfl, by go_num, HNX'.out.symm, HO8.out.fr HF89.out (by simp), HFW.out.trans HF89.out (by simp)⟩
        case measure => omega
      | false =>
        rw [hrd] at HRD
        cases hin : decide (q.b.f3 ∈ t.wait.map nameB) with
        | true =>
          have hla : t.lacks q.b = false := by unfold Tr.lacks; rw [hrd, hin]; rfl
          have hnx := HNX.out
          rw [hla, if_neg (by simp), List.append_nil] at hnx
          have HNX' := Lib.hid hnx
          have HIN := Lib.hid hin
          clear hrd hla hnx HNX hin
          have HFD : Hid (Fr [] W8 W8.drew) := (Fr.refl _ _).drew
          have hSD := HSF.out _ HFD.out
          go_region_held3 (fun W => W.cell? ⟨g, 0, none⟩ = some (.int .i64 q.b.f0) ∧ W.cell? ⟨g, 1, none⟩ = some (.int .i64 q.b.f1) ∧ W.cell? ⟨g, 2, none⟩ = some (.int .i64 q.b.f2) ∧ W.cell? ⟨g, 3, none⟩ = some (.int .i64 q.b.f3) ∧ W.cell? ⟨g, 4, none⟩ = some (.slice q.A q.b.f4.length q.c))
            (assumption)
            (first
              | (go_at_call 47; refine HRD.out.mono ?_; rintro e w9 ⟨rfl, hF9⟩; have HF9 := Lib.hid (HFD.out.trans hF9 (by simp)); have hS9 := HSF.out _ HF9.out; clear hF9)
              | (go_at_call 20; refine (waiting_calls (HTR.out.fr (HFW.out.trans HF9.out (by simp))) HWL.out).mono ?_; rintro e w10 ⟨v10, rfl, hO10, hF10⟩; have HF10 := Lib.hid (HF9.out.trans hF10 (by simp)); have hS10 := HSF.out _ HF10.out; have HO10 := Lib.hid hO10; clear hF10 hO10)
              | (go_at_call 46; refine (contains_calls q.b.f3 HO10.out.sl (by rw [List.length_map]; have := HWL.out; omega)).mono ?_; rintro e w11 ⟨rfl, hF11⟩; have HF11 := Lib.hid (HF10.out.trans hF11 (by simp)); have hS11 := HSF.out _ HF11.out; rw [HIN.out]; clear hF11))

          all_goals
            go_wp2
            go_roundg m'
            case rel => exact ⟨m', j + 1, l, D, cp, rfl, by omega, rfl, by go_num, HNX'.out.symm, HO8.out.fr HF11.out (by simp), HFW.out.trans HF11.out (by simp)⟩
            case measure => omega
        | false =>
          have hla : t.lacks q.b = true := by unfold Tr.lacks; rw [hrd, hin]; rfl
          have hnx := HNX.out
          rw [hla, if_pos rfl] at hnx
          have HNX' := Lib.hid hnx
          have HIN := Lib.hid hin
          clear hrd hla hnx HNX hin
          have HFD : Hid (Fr [] W8 W8.drew) := (Fr.refl _ _).drew
          have hSD := HSF.out _ HFD.out
          go_region_held3 (fun W => W.cell? ⟨g, 0, none⟩ = some (.int .i64 q.b.f0) ∧ W.cell? ⟨g, 1, none⟩ = some (.int .i64 q.b.f1) ∧ W.cell? ⟨g, 2, none⟩ = some (.int .i64 q.b.f2) ∧ W.cell? ⟨g, 3, none⟩ = some (.int .i64 q.b.f3) ∧ W.cell? ⟨g, 4, none⟩ = some (.slice q.A q.b.f4.length q.c))
            (assumption)
            (first
              | (go_at_call 47; refine HRD.out.mono ?_; rintro e w9 ⟨rfl, hF9⟩; have HF9 := Lib.hid (HFD.out.trans hF9 (by simp)); have hS9 := HSF.out _ HF9.out; clear hF9)
              | (go_at_call 20; refine (waiting_calls (HTR.out.fr (HFW.out.trans HF9.out (by simp))) HWL.out).mono ?_; rintro e w10 ⟨v10, rfl, hO10, hF10⟩; have HF10 := Lib.hid (HF9.out.trans hF10 (by simp)); have hS10 := HSF.out _ HF10.out; have HO10 := Lib.hid hO10; clear hF10 hO10)
              | (go_at_call 46; refine (contains_calls q.b.f3 HO10.out.sl (by rw [List.length_map]; have := HWL.out; omega)).mono ?_; rintro e w11 ⟨rfl, hF11⟩; have HF11 := Lib.hid (HF10.out.trans hF11 (by simp)); have hS11 := HSF.out _ HF11.out; rw [HIN.out]; clear hF11))

          all_goals
            have hrow := (HO8.out.fr HF11.out (by simp)).1
            obtain ⟨i0, i1, i2, i3, i4⟩ := HSF.out _ HF11.out
            go_wp2_with (at_builtin; refine wp_append1 rfl _ _ 29 3 rfl Try.underlying29 infoI rfl (by decide) hrow rfl [.int .i64 q.b.f3] rfl rfl (by simp [Value.oneCell']) hb63 hb8 ?_; intro A5 c5 w5 hr5 hF5 hN5)
            have hO8b := HO8.out.2
            have hFb : Fr [] w w5 := (HFW.out.trans HF11.out (by simp)).trans hF5 (fun k hk => .inr (hO8b k hk))
            have hs1 := HF11.out.size
            have hs2 := HFW.out.size
            have hO5 : OwnI w.heap.size w5 (.slice A5 (l ++ [q.b.f3]).length c5) (l ++ [q.b.f3]) := by
              refine ⟨by simpa using hr5, fun k hk => ?_⟩
              rcases hN5 k (by simpa using hk) with h1 | h1
              · exact hO8b k h1
              · omega
            go_roundg m'
            case rel => exact ⟨m', j + 1, l ++ [q.b.f3], A5, c5, rfl, by omega, by simp, by go_num, HNX'.out.symm, hO5, hFb⟩
            case measure => omega
    · obtain rfl : j = qs.length := by omega
      have hl2 := HL.out
      rw [List.take_length, ← HFN.out] at hl2
      subst hl2
      have HS := Lib.hid (sort_I HO.out (by omega))
      have hsl : (l.mergeSort fun x y => decide (x ≤ y)).length = l.length := List.length_mergeSort l
      have HSL : Hid ((l.mergeSort fun x y => decide (x ≤ y)).length ≤ 9223372036854775807) := by unfold Hid; rw [hsl]; omega
      clear hsl
      go_wp2_with (first
        | (go_at_call 53; refine HS.out.mono ?_; rintro e w2 ⟨rfl, hO2, hF2⟩
           have HC2 := Lib.hid (compact_I hO2 HSL.out)
           have HF2 := Lib.hid hF2
           clear hF2 hO2 HS)
        | (go_at_call 54; refine HC2.out.mono ?_; rintro e w3 ⟨u, rfl, hO3, hF3⟩))
      exact hR.out _ _ ⟨_, rfl, hO3, (HF.out.trans HF2.out (fun k hk => .inr (HO.out.2 k hk))).trans hF3 (fun k hk => .inr (HO.out.2 k hk))⟩
end Go.Np.Try
