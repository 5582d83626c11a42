/- A text that the row of LedgerCleans needs. (Pruned by tools/prune.py.) -/
import Derived.Test.YtlllhpnpgcphcaaQLedgerCleansCha
set_option linter.unusedVariables false
set_option linter.unusedSimpArgs false
namespace Go.Np.Try
open Go.RowKit Go.Proofs Go.Proofs.Ytlllhpnpgcphcaa.PX Go.Proofs.YtlllhpnpgcphcaaW.PrintWords
theorem OwnI.V {base : Nat} {w : World} {v : Value} {l : List Int} (h : OwnI base w v l) : VI w (fun k => k ∈ v.ownBlock.toList) v l := by
  obtain ⟨A, c, hv, hc, _⟩ := h.sl
  refine ⟨A, c, hv, hc, fun W' hW => ?_⟩
  have h2 : OwnI base W' v l := ⟨row_move h.1 (fun k hk => hW k (by simp [hk]) (h.lt k (by simp [hk]))), h.2⟩
  obtain ⟨A', c', hv', _, hC⟩ := h2.sl
  rw [hv] at hv'
  injection hv' with e1 _ _
  rw [e1]; exact hC
theorem clone_own {w : World} {A : Option Addr} {c : Nat} {l : List Int} (h : (Kd.int .i64).C w A l.length l) (hb : l.length < 17592186044416) :
    Calls Try.prog 87 #[.slice A l.length c] w fun e w' => ∃ v, e = .returned v ∧ OwnI w.heap.size w' v l ∧ Fr [] w w' := by
  cases A with
  | none =>
    have hl : l = [] := by
      cases l with
      | nil => rfl
      | cons x l => obtain ⟨ad, e, _⟩ := int_at h 0 (by simp); cases e
    subst hl
    refine (Try.slices_Clone_int_nil _ c w).mono ?_
    rintro e w' ⟨rfl, rfl⟩
    exact ⟨_, rfl, OwnI.nil _ _, Fr.refl _ _⟩
  | some ad =>
    by_cases hl : l.length = 0
    · obtain rfl := List.eq_nil_of_length_eq_zero hl
      refine (Try.slices_Clone_int_zero ad c w).mono ?_
      rintro e w' ⟨v, rfl, h1, _, h2⟩
      exact ⟨v, rfl, OwnI.of_base h1, Fr.of_below [] h2⟩
    · have hs : ad.spot = none := by
        obtain ⟨ad', e, hc⟩ := int_at h 0 (by omega)
        injection e with e
        subst e
        have h0 : ad.add 0 = ad := by simp [Addr.add]
        rw [h0] at hc
        obtain ⟨b, o, s⟩ := ad
        exact cell_spot hc
      obtain ⟨b, o, s⟩ := ad
      simp only at hs
      subst hs
      refine (Try.slices_Clone_int b o l.length c l w (Nat.le_refl _) (by omega) (fun j hj => ?_)).mono ?_
      · obtain ⟨ad', e, hc⟩ := int_at h j hj
        injection e with e
        rw [← e, addr_add _ _ rfl] at hc
        exact hc
      · rintro e w' ⟨v, rfl, h1, _, h2⟩
        rw [List.take_length] at h1
        exact ⟨v, rfl, OwnI.of_base h1, Fr.of_below [] h2⟩
theorem wins_calls {w : World} {P : Nat → Prop} {A : Option Addr} {c : Nat} {dr : List Int} (h : VI w P (.slice A dr.length c) dr) (s m : Int) :
    Calls Try.prog 51 #[.slice A dr.length c, .int .i64 s, .int .i64 m] w fun e w' => e = .returned (.bool (winsB dr s m)) ∧ Fr [] w w' := by
  obtain ⟨_, hc, hC⟩ := Kd.V_reads' h
  refine (lot_Wins.calls A c dr s m _ w hC hc (wins_ev dr hC.2.1 s m)).mono ?_
  rintro e w' ⟨h1, ⟨n, rfl⟩⟩
  exact ⟨h1, (Fr.refl _ _).drewN n⟩
theorem right_calls {w : World} (q : BV) (h : Kd.C k52 w q.A q.b.f4.length q.b.f4) (hc : q.b.f4.length ≤ q.c) :
    Calls Try.prog 88 #[.agg #[.int .i64 q.b.f0, .int .i64 q.b.f1, .int .i64 q.b.f2, .int .i64 q.b.f3, .slice q.A q.b.f4.length q.c]] w fun e w' => e = .returned (.bool (rightB q.b)) ∧ Fr [] w w' :=
  (block_Right.calls 40 q.b.f0 q.b.f1 q.b.f2 q.b.f3 q.A q.c q.b.f4 _ w h hc (right_ev q.b 40 (by omega))).mono (fun e w' h => ⟨h.1, Fr.of_below [] h.2⟩)
set_option maxHeartbeats 4000000 in
set_option maxRecDepth 100000 in
theorem ch_new {w : World} {A : Option Addr} {c : Nat} {dr : List Int} (h : (Kd.int .i64).C w A dr.length dr) (hb : dr.length < 17592186044416) (deep : Int) :
    Calls Try.prog 41 #[.slice A dr.length c, .int .i64 deep] w fun e w' => ∃ g, e = .returned (.pointer (some ⟨g, 0, none⟩)) ∧ ChAt (fun k => k < w.heap.size) w' g ⟨⟨[], []⟩, dr, deep, 0⟩ ∧ Fr [] w w' := by
  have HNW := Lib.hid (new_calls (w := w))
  have HC := Lib.hid h
  refine calls_k fun R hR => ?_
  clear h
  go_enter Try.func41, Try.ntmps41
  go_wp2_with (first
    | (go_at_call 26; refine HNW.out.mono ?_; rintro e w1 ⟨p, rfl, hT1, hF1, hp1⟩
       have HT1 := Lib.hid hT1
       have HF1 := Lib.hid hF1
       have HCL := Lib.hid (clone_own (c := c) (Kd.C_below HC.out hF1.below) hb)
       clear hT1 hF1 HNW hp1)
    | (go_at_call 87; refine HCL.out.mono ?_; rintro e w2 ⟨v2, rfl, hO, hF2⟩
       obtain ⟨A2, d2, rfl⟩ := hO.form
       have HO := Lib.hid hO
       have HF2 := Lib.hid hF2
       clear hO hF2 HCL))
  obtain ⟨W3, hW3⟩ : ∃ W3, W3 = w2.alloc (.cells #[.pointer (some ⟨p, 0, none⟩), .slice A2 dr.length d2, .int .i64 deep, .int .i64 0] 114) := ⟨_, rfl⟩
  have hF3 : Fr [] w2 W3 := by rw [hW3]; exact (Fr.refl _ _).alloc _
  have hs1 := HF1.out.size
  have hs2 := HF2.out.size
  have hs3 : W3.heap.size = w2.heap.size + 1 := by rw [hW3]; simp
  have hb3 : W3.heap[w2.heap.size]? = some (.cells #[.pointer (some ⟨p, 0, none⟩), .slice A2 dr.length d2, .int .i64 deep, .int .i64 0] 114 (0, 0)) := by rw [hW3]; exact heap_alloc_new _ _
  have hfin : ChAt (fun k => k < w.heap.size) W3 w2.heap.size ⟨⟨[], []⟩, dr, deep, 0⟩ := by
    refine ⟨p, .slice A2 dr.length d2, fun k => k ∈ (Value.slice A2 dr.length d2).ownBlock.toList, hb3, ((HT1.out.later HF2.out (by simp)).later hF3 (by simp)).grow (fun k hk _ => ?_), (Kd.V_below HO.out.V hF3.below), fun k hk => ⟨?_, ?_, ?_⟩, ?_⟩
    · rcases hk with (hk | hk) | hk
      · exact .inl (.inl hk)
      · exact .inr ⟨by omega, by omega⟩
      · exact .inl (.inr ⟨HO.out.2 k hk, HO.out.lt k hk⟩)
    · have := HO.out.2 k hk; omega
    · have := HO.out.lt k hk; omega
    · have := HO.out.lt k hk; omega
    · show ¬ w2.heap.size < w.heap.size; omega
  rw [← hW3]
  refine hR.out _ _ ⟨_, rfl, hfin, (HF1.out.trans HF2.out (by simp)).trans hF3 (by simp)⟩
set_option maxHeartbeats 4000000 in
set_option maxRecDepth 100000 in
theorem ch_tree {X : Nat → Prop} {w : World} {c p : Nat} {C : Ch} {v : Value} {D : Nat → Prop} (h : ChIn X w c C p v D) : Calls Try.prog 49 #[.pointer (some ⟨c, 0, none⟩)] w fun e w' => e = .returned (.pointer (some ⟨p, 0, none⟩)) ∧ Fr [] w w' := by
  obtain ⟨c0, c1, c2, c3, _⟩ := h.cells
  refine calls_k fun R hR => ?_
  clear h
  go_enter Try.func49, Try.ntmps49
  go_wp2
  exact hR.out _ _ ⟨rfl, Fr.refl _ _⟩
set_option maxHeartbeats 4000000 in
set_option maxRecDepth 100000 in
theorem ch_next {X : Nat → Prop} {w : World} {c : Nat} {C : Ch} (h : ChAt X w c C) (s : Int) : Calls Try.prog 47 #[.pointer (some ⟨c, 0, none⟩), .int .i64 s] w fun e w' => e = .returned (.tuple #[]) ∧ ChAt X w' c (C.next s) ∧ FrX X w w' := by
  obtain ⟨p, v, D, h⟩ := h
  obtain ⟨c0, c1, c2, c3, c4⟩ := h.cells
  have H := Lib.hid h
  refine calls_k fun R hR => ?_
  clear h
  go_enter Try.func47, Try.ntmps47
  go_wp2
  refine bodyPost_end (v := .tuple #[]) (results_none rfl _ _ _) rfl ?_
  refine hR.out _ _ ⟨rfl, ⟨p, v, D, ?_⟩, ⟨[c], (Fr.refl [c] w).setCell (p := ⟨c, 3, none⟩) (.inl (by simp)) _, fun k hk => by simp at hk; subst hk; exact H.out.c⟩⟩
  first
    | exact H.out.set _
    | (have := H.out.set (max C.slot s); simpa [Ch.next] using this)
set_option maxHeartbeats 4000000 in
set_option maxRecDepth 100000 in
theorem ch_conf {X : Nat → Prop} {w : World} {c : Nat} {C : Ch} (h : ChAt X w c C) (hG : C.t.Good) : Calls Try.prog 44 #[.pointer (some ⟨c, 0, none⟩)] w fun e w' => e = .returned (.int .i64 C.conf) ∧ Fr [] w w' := by
  obtain ⟨p, v, D, h⟩ := h
  have H := Lib.hid h
  have HG := Lib.hid hG
  have HS : Hid (∀ W, Fr [] w W → W.cell? ⟨c, 0, none⟩ = some (.pointer (some ⟨p, 0, none⟩)) ∧ W.cell? ⟨c, 2, none⟩ = some (.int .i64 C.deep)) := fun W hW => ⟨(H.out.fr hW).cells.1, (H.out.fr hW).cells.2.2.1⟩
  have hd : Fr [] w w.drew := (Fr.refl _ _).drew
  have hs0 := HS.out _ hd
  have HD := Lib.hid hd
  refine calls_k fun R hR => ?_
  clear h hG hd
  go_enter Try.func44, Try.ntmps44
  go_upto_region 1 with (fail)
  go_region_held3 (fun W => W.cell? ⟨c, 0, none⟩ = some (.pointer (some ⟨p, 0, none⟩)) ∧ W.cell? ⟨c, 2, none⟩ = some (.int .i64 C.deep))
    (assumption)
    (first
      | (go_at_call 34; refine (tip_calls (H.out.tr.fr HD.out) HG.out.ok).mono ?_; rintro e z1 ⟨rfl, hF1⟩; have HD1 := Lib.hid (HD.out.trans hF1 (by simp)); have hs1 := HS.out _ HD1.out; clear hF1)
      | (go_at_call 22; refine (back_calls (H.out.tr.fr HD1.out) HG.out C.t.tip C.deep).mono ?_; rintro e z2 ⟨rfl, hF1⟩; have HD2 := Lib.hid (HD1.out.trans hF1 (by simp)); have hs2 := HS.out _ HD2.out; clear hF1))
  all_goals
    go_wp2
    exact hR.out _ _ ⟨rfl, HD2.out⟩
end Go.Np.Try
