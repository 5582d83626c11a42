/- What CheckNames needs. -/
import Derived.Test.YtgfiglcmhlbjjaaQCheckNamesCkS
set_option linter.unusedVariables false
set_option linter.unusedSimpArgs false
namespace Go.Np.Try
open Go.RowKit Go.Proofs Go.Proofs.Ytgfiglcmhlbjjaa.PX Go.Proofs.YtgfiglcmhlbjjaaW.PrintWords
theorem putL_two {t : TypeId} {g : Nat} {w : World} {x0 x1 : Value} (u0 u1 : Value) (h : w.heap[g]? = some (.cells #[x0, x1] t (0, 0))) : (putL w g 0 [u0, u1]).heap[g]? = some (.cells #[u0, u1] t (0, 0)) := by
  have := putL_heap g [u0, u1] w 0 _ h
  simpa only [setL, List.setIfInBounds_toArray, List.set_cons_zero, List.set_cons_succ] using this
section
variable {X : Nat → Prop} {w w' w1 : World} {p : Nat} {c c' : Co} {a a' : Pl}
set_option maxHeartbeats 8000000 in
set_option maxRecDepth 100000 in
theorem c_enter (h : CoIn X w p c a) (hX : ∀ k, X k → k < w.heap.size) (hok : c.Ok) (ho : c.out.length ≤ 100000000) (v : Int) :
    Calls Try.prog 18 #[.pointer (some ⟨p, 0, none⟩), .int .i64 v] w fun e w' => e = .returned (.tuple #[]) ∧ CoAt X w' p (c.enter v) ∧ FrX X w w' := by
  obtain ⟨d, hd⟩ : ∃ d : Co, d = { c with view := v, step := 1 } := ⟨_, rfl⟩
  have hz5 := froz_of h.box 5
  have hc5 : w.cell? ⟨p, 5, none⟩ = some (.int .i64 c.view) := h.cells 5
  have h0 : CoIn X (w.setCell ⟨p, 5, none⟩ (.int .i64 v)) p { c with view := v } { a with left := a.left } := h.set (a' := a) 5 _ rfl rfl rfl rfl rfl rfl rfl
  have hf0 : FrX X w (w.setCell ⟨p, 5, none⟩ (.int .i64 v)) := h.setX 5 _
  have HTO : Hid (Calls Try.prog 24 #[.pointer (some ⟨p, 0, none⟩), .int .i64 1] (w.setCell ⟨p, 5, none⟩ (.int .i64 v)) fun e w' => e = .returned (.tuple #[]) ∧ ∃ b, CoIn X w' p d b ∧ FrX X w w') := by
    refine (c_to h0 1).mono ?_
    rintro e w' ⟨rfl, r, h1, h2⟩
    exact ⟨rfl, _, by rw [hd]; exact h1, hf0.trans h2⟩
  have hn7 : d.st.length ≤ 7 := by rw [hd]; exact hok.st.2.1
  have hme : d.me = c.me := by rw [hd]
  have hpr : d.props = c.props := by rw [hd]
  have hvw : d.view = v := by rw [hd]
  have hle : d.leads c.me v = c.leads c.me v := by rw [hd]; rfl
  obtain ⟨dd, hdd⟩ : ∃ dd : Co, dd = { d with props := aput d.props v d.bid } := ⟨_, rfl⟩
  have HE : Hid (c.enter v = if (alook d.props v).isSome = true ∨ d.leads d.me v = false then d else dd.send dd.offer) := by
    show _ = _
    unfold Co.enter
    subst hdd hd
    rfl
  have HOU : Hid (dd.out.length ≤ 100000000) := by show _ ≤ _; rw [hdd, hd]; exact ho
  have HDD := Lib.hid hdd
  have HX := Lib.hid hX
  rw [HE.out]
  clear h h0 hf0 hd hdd hme hpr hle ho hX hok
  obtain ⟨x1, hx1⟩ : ∃ x, ((alook d.props v).getD (0, 0)).1 = x := ⟨_, rfl⟩
  obtain ⟨x2, hx2⟩ : ∃ x, ((alook d.props v).getD (0, 0)).2 = x := ⟨_, rfl⟩
  obtain ⟨B, hB⟩ : ∃ B, (alook d.props v).isSome = B := ⟨_, rfl⟩
  have HLK : Hid (∀ W b, CoIn X W p d b → (Instr.lookup 33 (.map (some b.bp)) (.int .i64 v) true).run Try.prog W = .ok (.tuple #[.agg #[.int .i64 x1, .int .i64 x2], .bool B]) W) := fun W b hW => by
    have := hW.look v true
    rw [hx1, hx2, hB] at this
    exact this
  rw [hB]
  refine calls_k fun R hR => ?_
  clear hx1 hx2 hB
  go_enter Try.func18, Try.ntmps18
  go_upto_region 2 with (go_at_call 24; refine HTO.out.mono ?_; rintro e w1 ⟨rfl, b, h1, hf1⟩; have H1 := Lib.hid h1; have HF1 := Lib.hid hf1; have hlk := HLK.out _ _ h1; have c10 : w1.cell? ⟨p, 10, none⟩ = some (.map (some b.bp)) := h1.cells 10; clear h1 hf1 HTO hz5 hc5)
  go_upto_region 3 with (fail)
  obtain ⟨V, hV⟩ : ∃ V, V = w1.alloc (.cells #[.int .i64 x1, .int .i64 x2] 36) := ⟨_, rfl⟩
  have hFV : Fr [] w1 V := by rw [hV]; exact (Fr.refl _ _).alloc _
  rw [← hV]
  have H2 := Lib.hid (H1.out.fr hFV)
  have HF2 := Lib.hid (HF1.out.trans (FrX.of0 hFV))
  have c0 : V.cell? ⟨p, 0, none⟩ = some (.int .i64 d.me) := H2.out.cells 0
  have HLD := Lib.hid (c_leads H2.out hn7 d.me v)
  clear hV hFV hlk c10 H1 HF1 HLK
  cases B with
  | true =>
    go_wp2
    go_end0
    refine hR.out _ _ ⟨rfl, ⟨b, ?_⟩, HF2.out⟩
    rw [if_pos (by simp)]
    exact H2.out
  | false =>
    obtain ⟨L, hL⟩ : ∃ L, d.leads d.me v = L := ⟨_, rfl⟩
    rw [hL] at HLD hR
    clear hL
    cases L with
    | false =>
      go_wp2_with (go_at_call 25; refine HLD.out.mono ?_; rintro e y ⟨rfl, n, rfl⟩; clear HLD)
      go_end0
      refine hR.out _ _ ⟨rfl, ⟨b, ?_⟩, HF2.out.trans (FrX.of0 ((Fr.refl _ _).drewN n))⟩
      rw [if_pos (by simp)]
      exact H2.out.fr ((Fr.refl _ _).drewN n)
    | true =>
      rw [if_neg (by simp)] at hR
      go_upto_region 4 with (go_at_call 25; refine HLD.out.mono ?_; rintro e y ⟨rfl, n, rfl⟩; clear HLD)
      obtain ⟨V4, hV4⟩ : ∃ V4, V4 = V.drewN n := ⟨_, rfl⟩
      have hF4 : Fr [] V V4 := by rw [hV4]; exact (Fr.refl _ _).drewN n
      have H4 := Lib.hid (H2.out.fr hF4)
      have HF4 := Lib.hid (HF2.out.trans (FrX.of0 hF4))
      rw [← hV4]
      clear hV4 hF4 H2 HF2 c0
      have c8 : V4.cell? ⟨p, 8, none⟩ = some (.int .i64 d.tip) := H4.out.cells 8
      go_upto_region 5 with (fail)
      obtain ⟨V5, hV5⟩ : ∃ V5, V5 = V4.alloc (.cells #[.int .i64 d.tip, .int .i64 (-1)] 36) := ⟨_, rfl⟩
      obtain ⟨g, hg⟩ : ∃ g, g = V4.heap.size := ⟨_, rfl⟩
      have hF5 : Fr [] V4 V5 := by rw [hV5]; exact (Fr.refl _ _).alloc _
      have hb5 : V5.heap[g]? = some (.cells #[.int .i64 d.tip, .int .i64 (-1)] 36 (0, 0)) := by rw [hV5, hg]; exact heap_alloc_new _ _
      have H5 := Lib.hid (H4.out.fr hF5)
      have HF5 := Lib.hid (HF4.out.trans (FrX.of0 hF5))
      have hgo : Hid (∀ k ∈ b.own p, k ≠ g) := fun k hk => by have := H4.out.lt k hk; omega
      have hgx : Hid (¬ X g) := fun hx => by
        have h1 := HX.out g hx
        have h2 := HF4.out.size
        omega
      rw [← hV5, ← hg]
      clear hV5 c8 H4 HF4 hF5 hg
      have c15 : V5.cell? ⟨p, 15, none⟩ = some (.int .i64 d.valid.2) := H5.out.cells 15
      have c14 : V5.cell? ⟨p, 14, none⟩ = some (.int .i64 d.valid.1) := H5.out.cells 14
      have g0 : V5.cell? ⟨g, 0, none⟩ = some (.int .i64 d.tip) := cell_of hb5 0
      have g1 : V5.cell? ⟨g, 1, none⟩ = some (.int .i64 (-1)) := cell_of hb5 1
      have y0 := froz_of hb5 0
      have y1 := froz_of hb5 1
      have HB5 := Lib.hid hb5
      clear hb5
      -- what is left, for any bid
      have HLAST : Hid (∀ (V7 : World) (q1 q2 : Int), CoIn X V7 p d b → FrX X w V7 → (q1, q2) = d.bid → V7.heap[g]? = some (.cells #[.int .i64 q1, .int .i64 q2] 36 (0, 0)) → Hid (
          (∀ n, ∃ w8, (Instr.mapUpdate 33 (.map (some b.bp)) (.int .i64 v) (.agg #[.int .i64 q1, .int .i64 q2])).run Try.prog (V7.drewN n) = .ok () w8 ∧ CoIn X w8 p dd b ∧ FrX X w w8 ∧ w8.cell? ⟨p, 10, none⟩ = some (.map (some b.bp)) ∧ w8.cell? ⟨g, 0, none⟩ = some (.int .i64 q1) ∧ w8.cell? ⟨g, 1, none⟩ = some (.int .i64 q2)))) := by
        intro V7 q1 q2 h7 hf7 hq hb7 n
        have h8 := h7.fr ((Fr.refl [] _).drewN n)
        obtain ⟨w8, u1, u2, u3, u4⟩ := h8.prs.run_update key_int Try.underlying33 v (.agg #[.int .i64 q1, .int .i64 q2])
        have h9 : CoIn X w8 p { d with props := aput d.props v (q1, q2) } b := h8.proposed u3 u2
        have hgb : g ≠ b.bp := fun e => by
          have h1 := h7.prs
          obtain ⟨es, cl, hh, _⟩ := h1
          rw [← e, hb7] at hh
          cases hh
        have hb8 : w8.heap[g]? = some (.cells #[.int .i64 q1, .int .i64 q2] 36 (0, 0)) := (u3.block g (Array.getElem?_eq_some_iff.1 hb7).1 (by simpa using hgb)).trans hb7
        refine ⟨w8, u1, by rw [HDD.out, ← hq]; exact h9, (hf7.trans (FrX.of0 ((Fr.refl [] _).drewN n))).trans (h8.frOf h8.own1.2.2.1 u3), h9.cells 10, cell_of hb8 0, cell_of hb8 1⟩
      have HSQ : Hid (∀ (V7 : World) (q1 q2 : Int), (q1, q2) = d.bid → Fr [g] V5 V7 → V7.heap[g]? = some (.cells #[.int .i64 q1, .int .i64 q2] 36 (0, 0)) → CoIn X V7 p d b ∧ FrX X w V7) := fun V7 q1 q2 _ hf _ => ⟨H5.out.keep (fun k hk => hf.block k (H5.out.lt k hk) (by simpa using hgo.out k hk)), HF5.out.trans ⟨[g], hf, fun k hk => by simp at hk; subst hk; exact hgx.out⟩⟩
      have HB0 : Hid ((d.tip, (-1 : Int)) = d.bid ∨ 0 ≤ d.valid.2) := by
        show _ ∨ _
        by_cases h : 0 ≤ d.valid.2
        · exact .inr h
        · exact .inl (by unfold Co.bid; rw [if_neg h])
      by_cases hv : 0 ≤ d.valid.2
      · have hb : decide (0 ≤ d.valid.2) = true := decide_eq_true hv
        have hbid : (d.valid.1, d.valid.2) = d.bid := by unfold Co.bid; rw [if_pos hv]
        have HBID := Lib.hid hbid
        clear hv hbid HB0
        go_upto_region 7 with (fail)
        obtain ⟨V7, hV7⟩ : ∃ V7, V7 = putL V5 g 0 [.int .i64 d.valid.1, .int .i64 d.valid.2] := ⟨_, rfl⟩
        have hF7 : Fr [g] V5 V7 := by rw [hV7]; exact putL_fr g _ V5 0 (Fr.refl _ _) (.inl (by simp))
        have hb7 : V7.heap[g]? = some (.cells #[.int .i64 d.valid.1, .int .i64 d.valid.2] 36 (0, 0)) := by rw [hV7]; exact putL_two _ _ HB5.out
        simp only [putL] at hV7
        rw [← hV7]
        clear hV7 c14 c15 g0 g1 y0 y1 hb
        have H7 := Lib.hid (HSQ.out V7 _ _ HBID.out hF7 hb7)
        obtain ⟨w8, hrun, h8, hf8, s1, s2, s3⟩ := (HLAST.out V7 _ _ H7.out.1 H7.out.2 HBID.out hb7).out 1
        have hrun' : (Instr.mapUpdate 33 (.map (some b.bp)) (.int .i64 v) (.agg #[.int .i64 d.valid.1, .int .i64 d.valid.2])).run Try.prog V7.drew = .ok () w8 := hrun
        have hS8 : w8.cell? ⟨p, 10, none⟩ = some (.map (some b.bp)) ∧ w8.cell? ⟨g, 0, none⟩ = some (.int .i64 d.valid.1) ∧ w8.cell? ⟨g, 1, none⟩ = some (.int .i64 d.valid.2) := ⟨s1, s2, s3⟩
        have hS7 : V7.drew.cell? ⟨p, 10, none⟩ = some (.map (some b.bp)) ∧ V7.drew.cell? ⟨g, 0, none⟩ = some (.int .i64 d.valid.1) ∧ V7.drew.cell? ⟨g, 1, none⟩ = some (.int .i64 d.valid.2) := ⟨H7.out.1.cells 10, cell_of hb7 0, cell_of hb7 1⟩
        have H8 := Lib.hid h8
        have HF8 := Lib.hid hf8
        have HPR := Lib.hid (c_proposal h8)
        clear hrun h8 hf8 s1 s2 s3 hF7 hb7 HLAST HSQ H5 HF5 HB5
        go_region_held3 (fun W => W.cell? ⟨p, 10, none⟩ = some (.map (some b.bp)) ∧ W.cell? ⟨g, 0, none⟩ = some (.int .i64 d.valid.1) ∧ W.cell? ⟨g, 1, none⟩ = some (.int .i64 d.valid.2)) (with_reducible assumption) (fail)
        all_goals
          go_wp2_with (first
            | (go_at_call 27; refine HPR.out.mono ?_; rintro e w9 ⟨rfl, hf9⟩
               have h9 := H8.out.fr hf9
               have HF9 := Lib.hid (HF8.out.trans (FrX.of0 hf9))
               have HSE := Lib.hid (c_send h9 (fun k hk => by have := HX.out k hk; have := HF9.out.size; omega) dd.offer rfl HOU.out)
               clear h9 hf9 HPR)
            | (go_at_call 26; refine HSE.out.mono ?_; rintro e w10 ⟨rfl, ov, h10, hf10⟩
               have H10 := Lib.hid h10
               have HF10 := Lib.hid (HF9.out.trans hf10)
               clear h10 hf10 HSE))
          go_end0
          exact hR.out _ _ ⟨rfl, ⟨_, H10.out⟩, HF10.out⟩
      · have hb : decide (0 ≤ d.valid.2) = false := decide_eq_false hv
        have hbid : (d.tip, (-1 : Int)) = d.bid := by unfold Co.bid; rw [if_neg hv]
        have HBID := Lib.hid hbid
        clear hv hbid HB0
        go_upto_region 7 with (fail)
        obtain ⟨V7, hV7⟩ : ∃ V7, V7 = V5 := ⟨_, rfl⟩
        have hF7 : Fr [g] V5 V7 := by rw [hV7]; exact Fr.refl _ _
        have hb7 : V7.heap[g]? = some (.cells #[.int .i64 d.tip, .int .i64 (-1)] 36 (0, 0)) := by rw [hV7]; exact HB5.out
        rw [← hV7]
        clear hV7 c14 c15 g0 g1 y0 y1 hb
        have H7 := Lib.hid (HSQ.out V7 _ _ HBID.out hF7 hb7)
        obtain ⟨w8, hrun, h8, hf8, s1, s2, s3⟩ := (HLAST.out V7 _ _ H7.out.1 H7.out.2 HBID.out hb7).out 1
        have hrun' : (Instr.mapUpdate 33 (.map (some b.bp)) (.int .i64 v) (.agg #[.int .i64 d.tip, .int .i64 (-1)])).run Try.prog V7.drew = .ok () w8 := hrun
        have hS8 : w8.cell? ⟨p, 10, none⟩ = some (.map (some b.bp)) ∧ w8.cell? ⟨g, 0, none⟩ = some (.int .i64 d.tip) ∧ w8.cell? ⟨g, 1, none⟩ = some (.int .i64 (-1)) := ⟨s1, s2, s3⟩
        have hS7 : V7.drew.cell? ⟨p, 10, none⟩ = some (.map (some b.bp)) ∧ V7.drew.cell? ⟨g, 0, none⟩ = some (.int .i64 d.tip) ∧ V7.drew.cell? ⟨g, 1, none⟩ = some (.int .i64 (-1)) := ⟨H7.out.1.cells 10, cell_of hb7 0, cell_of hb7 1⟩
        have H8 := Lib.hid h8
        have HF8 := Lib.hid hf8
        have HPR := Lib.hid (c_proposal h8)
        clear hrun h8 hf8 s1 s2 s3 hF7 hb7 HLAST HSQ H5 HF5 HB5
        go_region_held3 (fun W => W.cell? ⟨p, 10, none⟩ = some (.map (some b.bp)) ∧ W.cell? ⟨g, 0, none⟩ = some (.int .i64 d.tip) ∧ W.cell? ⟨g, 1, none⟩ = some (.int .i64 (-1))) (with_reducible assumption) (fail)
        all_goals
          go_wp2_with (first
            | (go_at_call 27; refine HPR.out.mono ?_; rintro e w9 ⟨rfl, hf9⟩
               have h9 := H8.out.fr hf9
               have HF9 := Lib.hid (HF8.out.trans (FrX.of0 hf9))
               have HSE := Lib.hid (c_send h9 (fun k hk => by have := HX.out k hk; have := HF9.out.size; omega) dd.offer rfl HOU.out)
               clear h9 hf9 HPR)
            | (go_at_call 26; refine HSE.out.mono ?_; rintro e w10 ⟨rfl, ov, h10, hf10⟩
               have H10 := Lib.hid h10
               have HF10 := Lib.hid (HF9.out.trans hf10)
               clear h10 hf10 HSE))
          go_end0
          exact hR.out _ _ ⟨rfl, ⟨_, H10.out⟩, HF10.out⟩
end
end Go.Np.Try
