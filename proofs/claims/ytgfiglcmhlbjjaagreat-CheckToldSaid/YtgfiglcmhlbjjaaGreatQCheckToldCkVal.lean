/- What CheckTold needs. -/
import Derived.Test.YtgfiglcmhlbjjaaGreatQCheckToldCkS
import Derived.Sort.LoopGhostIn
section
set_option linter.unusedVariables false
set_option linter.unusedSimpArgs false
namespace Go.Np.Tryz
open Go.RowKit Go.Proofs Go.Proofs.YtgfiglcmhlbjjaaGreat.PX Go.Proofs.YtgfiglcmhlbjjaaGreatW.PrintWords
theorem putL_two {t : TypeId} {g : Nat} {w : World} {x0 x1 : Value} (u0 u1 : Value) (h : w.heap[g]? = some (.cells #[x0, x1] t (0, 0))) : (putL w g 0 [u0, u1]).heap[g]? = some (.cells #[u0, u1] t (0, 0)) := by
  have := putL_heap g [u0, u1] w 0 _ h
  simpa only [setL, List.setIfInBounds_toArray, List.set_cons_zero, List.set_cons_succ] using this
section
variable {X : Nat → Prop} {w w' w1 : World} {p : Nat} {c c' : Co} {a a' : Pl}
set_option maxHeartbeats 8000000 in
set_option maxRecDepth 100000 in
theorem c_enter (h : CoIn X w p c a) (hX : ∀ k, X k → k < w.heap.size) (hok : c.Ok) (ho : c.out.length ≤ 100000000) (v : Int) :
    Calls Tryz.prog 30 #[.pointer (some ⟨p, 0, none⟩), .int .i64 v] w fun e w' => e = .returned (.tuple #[]) ∧ CoAt X w' p (c.enter v) ∧ FrX X w w' := by
  obtain ⟨d, hd⟩ : ∃ d : Co, d = { c with view := v, step := 1 } := ⟨_, rfl⟩
  have hz5 := froz_of h.box 5
  have hc5 : w.cell? ⟨p, 5, none⟩ = some (.int .i64 c.view) := h.cells 5
  have h0 : CoIn X (w.setCell ⟨p, 5, none⟩ (.int .i64 v)) p { c with view := v } { a with left := a.left } := h.set (a' := a) 5 _ rfl rfl rfl rfl rfl rfl rfl
  have hf0 : FrX X w (w.setCell ⟨p, 5, none⟩ (.int .i64 v)) := h.setX 5 _
  have HTO : Hid (Calls Tryz.prog 39 #[.pointer (some ⟨p, 0, none⟩), .int .i64 1] (w.setCell ⟨p, 5, none⟩ (.int .i64 v)) fun e w' => e = .returned (.tuple #[]) ∧ ∃ b, CoIn X w' p d b ∧ FrX X w w') := by
    refine (c_to h0 1).mono ?_
    rintro e w' ⟨rfl, r, h1, h2⟩
    exact ⟨rfl, _, by rw [hd]; exact h1, hf0.trans h2⟩
  have hn7 : d.st.length ≤ 7 := by rw [hd]; exact hok.st.2.1
  have hme : d.me = c.me := by rw [hd]
  have hpr : d.props = c.props := by rw [hd]
  have hvw : d.view = v := by rw [hd]
  have hle : d.leads c.me v = c.leads c.me v := by rw [hd]; rfl
  obtain ⟨dd, hdd⟩ : ∃ dd : Co, dd = { d with props := aput d.props v d.bid } := ⟨_, rfl⟩
  have HE : Hid (c.enter v = if (alook d.props v).isSome = true ∨ d.leads d.me v = false then d else dd.send dd.offer) := by
    show _ = _
    unfold Co.enter
    subst hdd hd
    rfl
  have HOU : Hid (dd.out.length ≤ 100000000) := by show _ ≤ _; rw [hdd, hd]; exact ho
  have HDD := Lib.hid hdd
  have HX := Lib.hid hX
  rw [HE.out]
  clear h h0 hf0 hd hdd hme hpr hle ho hX hok
  obtain ⟨x1, hx1⟩ : ∃ x, ((alook d.props v).getD (0, 0)).1 = x := ⟨_, rfl⟩
  obtain ⟨x2, hx2⟩ : ∃ x, ((alook d.props v).getD (0, 0)).2 = x := ⟨_, rfl⟩
  obtain ⟨B, hB⟩ : ∃ B, (alook d.props v).isSome = B := ⟨_, rfl⟩
  have HLK : Hid (∀ W b, CoIn X W p d b → (Instr.lookup 71 (.map (some b.bp)) (.int .i64 v) true).run Tryz.prog W = .ok (.tuple #[.agg #[.int .i64 x1, .int .i64 x2], .bool B]) W) := fun W b hW => by
    have := hW.look v true
    rw [hx1, hx2, hB] at this
    exact this
  rw [hB]
  refine calls_k fun R hR => ?_
  clear hx1 hx2 hB
  go_enter Tryz.func30, Tryz.ntmps30
  go_upto_region 2 with (go_at_call 39; refine HTO.out.mono ?_; rintro e w1 ⟨rfl, b, h1, hf1⟩; have H1 := Lib.hid h1; have HF1 := Lib.hid hf1; have hlk := HLK.out _ _ h1; have c10 : w1.cell? ⟨p, 10, none⟩ = some (.map (some b.bp)) := h1.cells 10; clear h1 hf1 HTO hz5 hc5)
  go_upto_region 3 with (fail)
  obtain ⟨V, hV⟩ : ∃ V, V = w1.alloc (.cells #[.int .i64 x1, .int .i64 x2] 74) := ⟨_, rfl⟩
  have hFV : Fr [] w1 V := by rw [hV]; exact (Fr.refl _ _).alloc _
  rw [← hV]
  have H2 := Lib.hid (H1.out.fr hFV)
  have HF2 := Lib.hid (HF1.out.trans (FrX.of0 hFV))
  have c0 : V.cell? ⟨p, 0, none⟩ = some (.int .i64 d.me) := H2.out.cells 0
  have HLD := Lib.hid (c_leads H2.out hn7 d.me v)
  clear hV hFV hlk c10 H1 HF1 HLK
  cases B with
  | true =>
    go_wp2
    go_end0
    refine hR.out _ _ ⟨rfl, ⟨b, ?_⟩, HF2.out⟩
    rw [if_pos (by simp)]
    exact H2.out
  | false =>
    obtain ⟨L, hL⟩ : ∃ L, d.leads d.me v = L := ⟨_, rfl⟩
    rw [hL] at HLD hR
    clear hL
    cases L with
    | false =>
      go_wp2_with (go_at_call 37; refine HLD.out.mono ?_; rintro e y ⟨rfl, n, rfl⟩; clear HLD)
      go_end0
      refine hR.out _ _ ⟨rfl, ⟨b, ?_⟩, HF2.out.trans (FrX.of0 ((Fr.refl _ _).drewN n))⟩
      rw [if_pos (by simp)]
      exact H2.out.fr ((Fr.refl _ _).drewN n)
    | true =>
      rw [if_neg (by simp)] at hR
      go_upto_region 4 with (go_at_call 37; refine HLD.out.mono ?_; rintro e y ⟨rfl, n, rfl⟩; clear HLD)
      obtain ⟨V4, hV4⟩ : ∃ V4, V4 = V.drewN n := ⟨_, rfl⟩
      have hF4 : Fr [] V V4 := by rw [hV4]; exact (Fr.refl _ _).drewN n
      have H4 := Lib.hid (H2.out.fr hF4)
      have HF4 := Lib.hid (HF2.out.trans (FrX.of0 hF4))
      rw [← hV4]
      clear hV4 hF4 H2 HF2 c0
      have c8 : V4.cell? ⟨p, 8, none⟩ = some (.int .i64 d.tip) := H4.out.cells 8
      go_upto_region 5 with (fail)
      obtain ⟨V5, hV5⟩ : ∃ V5, V5 = V4.alloc (.cells #[.int .i64 d.tip, .int .i64 (-1)] 74) := ⟨_, rfl⟩
      obtain ⟨g, hg⟩ : ∃ g, g = V4.heap.size := ⟨_, rfl⟩
      have hF5 : Fr [] V4 V5 := by rw [hV5]; exact (Fr.refl _ _).alloc _
      have hb5 : V5.heap[g]? = some (.cells #[.int .i64 d.tip, .int .i64 (-1)] 74 (0, 0)) := by rw [hV5, hg]; exact heap_alloc_new _ _
      have H5 := Lib.hid (H4.out.fr hF5)
      have HF5 := Lib.hid (HF4.out.trans (FrX.of0 hF5))
      have hgo : Hid (∀ k ∈ b.own p, k ≠ g) := fun k hk => by have := H4.out.lt k hk; omega
      have hgx : Hid (¬ X g) := fun hx => by
        have h1 := HX.out g hx
        have h2 := HF4.out.size
        omega
      rw [← hV5, ← hg]
      clear hV5 c8 H4 HF4 hF5 hg
      have c15 : V5.cell? ⟨p, 15, none⟩ = some (.int .i64 d.valid.2) := H5.out.cells 15
      have c14 : V5.cell? ⟨p, 14, none⟩ = some (.int .i64 d.valid.1) := H5.out.cells 14
      have g0 : V5.cell? ⟨g, 0, none⟩ = some (.int .i64 d.tip) := cell_of hb5 0
      have g1 : V5.cell? ⟨g, 1, none⟩ = some (.int .i64 (-1)) := cell_of hb5 1
      have y0 := froz_of hb5 0
      have y1 := froz_of hb5 1
      have HB5 := Lib.hid hb5
      clear hb5
      -- what is left, for any bid
      have HLAST : Hid (∀ (V7 : World) (q1 q2 : Int), CoIn X V7 p d b → FrX X w V7 → (q1, q2) = d.bid → V7.heap[g]? = some (.cells #[.int .i64 q1, .int .i64 q2] 74 (0, 0)) → Hid (
          (∀ n, ∃ w8, (Instr.mapUpdate 71 (.map (some b.bp)) (.int .i64 v) (.agg #[.int .i64 q1, .int .i64 q2])).run Tryz.prog (V7.drewN n) = .ok () w8 ∧ CoIn X w8 p dd b ∧ FrX X w w8 ∧ w8.cell? ⟨p, 10, none⟩ = some (.map (some b.bp)) ∧ w8.cell? ⟨g, 0, none⟩ = some (.int .i64 q1) ∧ w8.cell? ⟨g, 1, none⟩ = some (.int .i64 q2)))) := by
        intro V7 q1 q2 h7 hf7 hq hb7 n
        have h8 := h7.fr ((Fr.refl [] _).drewN n)
        obtain ⟨w8, u1, u2, u3, u4⟩ := h8.prs.run_update key_int Tryz.underlying71 v (.agg #[.int .i64 q1, .int .i64 q2])
        have h9 : CoIn X w8 p { d with props := aput d.props v (q1, q2) } b := h8.proposed u3 u2
        have hgb : g ≠ b.bp := fun e => by
          have h1 := h7.prs
          obtain ⟨es, cl, hh, _⟩ := h1
          rw [← e, hb7] at hh
          cases hh
        have hb8 : w8.heap[g]? = some (.cells #[.int .i64 q1, .int .i64 q2] 74 (0, 0)) := (u3.block g (Array.getElem?_eq_some_iff.1 hb7).1 (by simpa using hgb)).trans hb7
        refine ⟨w8, u1, by rw [HDD.out, ← hq]; exact h9, (hf7.trans (FrX.of0 ((Fr.refl [] _).drewN n))).trans (h8.frOf h8.own1.2.2.1 u3), h9.cells 10, cell_of hb8 0, cell_of hb8 1⟩
      have HSQ : Hid (∀ (V7 : World) (q1 q2 : Int), (q1, q2) = d.bid → Fr [g] V5 V7 → V7.heap[g]? = some (.cells #[.int .i64 q1, .int .i64 q2] 74 (0, 0)) → CoIn X V7 p d b ∧ FrX X w V7) := fun V7 q1 q2 _ hf _ => ⟨H5.out.keep (fun k hk => hf.block k (H5.out.lt k hk) (by simpa using hgo.out k hk)), HF5.out.trans ⟨[g], hf, fun k hk => by simp at hk; subst hk; exact hgx.out⟩⟩
      have HB0 : Hid ((d.tip, (-1 : Int)) = d.bid ∨ 0 ≤ d.valid.2) := by
        show _ ∨ _
        by_cases h : 0 ≤ d.valid.2
        · exact .inr h
        · exact .inl (by unfold Co.bid; rw [if_neg h])
      by_cases hv : 0 ≤ d.valid.2
      · have hb : decide (0 ≤ d.valid.2) = true := decide_eq_true hv
        have hbid : (d.valid.1, d.valid.2) = d.bid := by unfold Co.bid; rw [if_pos hv]
        have HBID := Lib.hid hbid
        clear hv hbid HB0
        go_upto_region 7 with (fail)
        obtain ⟨V7, hV7⟩ : ∃ V7, V7 = putL V5 g 0 [.int .i64 d.valid.1, .int .i64 d.valid.2] := ⟨_, rfl⟩
        have hF7 : Fr [g] V5 V7 := by rw [hV7]; exact putL_fr g _ V5 0 (Fr.refl _ _) (.inl (by simp))
        have hb7 : V7.heap[g]? = some (.cells #[.int .i64 d.valid.1, .int .i64 d.valid.2] 74 (0, 0)) := by rw [hV7]; exact putL_two _ _ HB5.out
        simp only [putL] at hV7
        rw [← hV7]
        clear hV7 c14 c15 g0 g1 y0 y1 hb
        have H7 := Lib.hid (HSQ.out V7 _ _ HBID.out hF7 hb7)
        obtain ⟨w8, hrun, h8, hf8, s1, s2, s3⟩ := (HLAST.out V7 _ _ H7.out.1 H7.out.2 HBID.out hb7).out 1
        have hrun' : (Instr.mapUpdate 71 (.map (some b.bp)) (.int .i64 v) (.agg #[.int .i64 d.valid.1, .int .i64 d.valid.2])).run Tryz.prog V7.drew = .ok () w8 := hrun
        have hS8 : w8.cell? ⟨p, 10, none⟩ = some (.map (some b.bp)) ∧ w8.cell? ⟨g, 0, none⟩ = some (.int .i64 d.valid.1) ∧ w8.cell? ⟨g, 1, none⟩ = some (.int .i64 d.valid.2) := ⟨s1, s2, s3⟩
        have hS7 : V7.drew.cell? ⟨p, 10, none⟩ = some (.map (some b.bp)) ∧ V7.drew.cell? ⟨g, 0, none⟩ = some (.int .i64 d.valid.1) ∧ V7.drew.cell? ⟨g, 1, none⟩ = some (.int .i64 d.valid.2) := ⟨H7.out.1.cells 10, cell_of hb7 0, cell_of hb7 1⟩
        have H8 := Lib.hid h8
        have HF8 := Lib.hid hf8
        have HPR := Lib.hid (c_proposal h8)
        clear hrun h8 hf8 s1 s2 s3 hF7 hb7 HLAST HSQ H5 HF5 HB5
        go_region_held3 (fun W => W.cell? ⟨p, 10, none⟩ = some (.map (some b.bp)) ∧ W.cell? ⟨g, 0, none⟩ = some (.int .i64 d.valid.1) ∧ W.cell? ⟨g, 1, none⟩ = some (.int .i64 d.valid.2)) (with_reducible assumption) (fail)
        all_goals
          go_wp2_with (first
            | (go_at_call 46; refine HPR.out.mono ?_; rintro e w9 ⟨rfl, hf9⟩
               have h9 := H8.out.fr hf9
               have HF9 := Lib.hid (HF8.out.trans (FrX.of0 hf9))
               have HSE := Lib.hid (c_send h9 (fun k hk => by have := HX.out k hk; have := HF9.out.size; omega) dd.offer rfl HOU.out)
               clear h9 hf9 HPR)
            | (go_at_call 45; refine HSE.out.mono ?_; rintro e w10 ⟨rfl, ov, h10, hf10⟩
               have H10 := Lib.hid h10
               have HF10 := Lib.hid (HF9.out.trans hf10)
               clear h10 hf10 HSE))
          go_end0
          exact hR.out _ _ ⟨rfl, ⟨_, H10.out⟩, HF10.out⟩
      · have hb : decide (0 ≤ d.valid.2) = false := decide_eq_false hv
        have hbid : (d.tip, (-1 : Int)) = d.bid := by unfold Co.bid; rw [if_neg hv]
        have HBID := Lib.hid hbid
        clear hv hbid HB0
        go_upto_region 7 with (fail)
        obtain ⟨V7, hV7⟩ : ∃ V7, V7 = V5 := ⟨_, rfl⟩
        have hF7 : Fr [g] V5 V7 := by rw [hV7]; exact Fr.refl _ _
        have hb7 : V7.heap[g]? = some (.cells #[.int .i64 d.tip, .int .i64 (-1)] 74 (0, 0)) := by rw [hV7]; exact HB5.out
        rw [← hV7]
        clear hV7 c14 c15 g0 g1 y0 y1 hb
        have H7 := Lib.hid (HSQ.out V7 _ _ HBID.out hF7 hb7)
        obtain ⟨w8, hrun, h8, hf8, s1, s2, s3⟩ := (HLAST.out V7 _ _ H7.out.1 H7.out.2 HBID.out hb7).out 1
        have hrun' : (Instr.mapUpdate 71 (.map (some b.bp)) (.int .i64 v) (.agg #[.int .i64 d.tip, .int .i64 (-1)])).run Tryz.prog V7.drew = .ok () w8 := hrun
        have hS8 : w8.cell? ⟨p, 10, none⟩ = some (.map (some b.bp)) ∧ w8.cell? ⟨g, 0, none⟩ = some (.int .i64 d.tip) ∧ w8.cell? ⟨g, 1, none⟩ = some (.int .i64 (-1)) := ⟨s1, s2, s3⟩
        have hS7 : V7.drew.cell? ⟨p, 10, none⟩ = some (.map (some b.bp)) ∧ V7.drew.cell? ⟨g, 0, none⟩ = some (.int .i64 d.tip) ∧ V7.drew.cell? ⟨g, 1, none⟩ = some (.int .i64 (-1)) := ⟨H7.out.1.cells 10, cell_of hb7 0, cell_of hb7 1⟩
        have H8 := Lib.hid h8
        have HF8 := Lib.hid hf8
        have HPR := Lib.hid (c_proposal h8)
        clear hrun h8 hf8 s1 s2 s3 hF7 hb7 HLAST HSQ H5 HF5 HB5
        go_region_held3 (fun W => W.cell? ⟨p, 10, none⟩ = some (.map (some b.bp)) ∧ W.cell? ⟨g, 0, none⟩ = some (.int .i64 d.tip) ∧ W.cell? ⟨g, 1, none⟩ = some (.int .i64 (-1))) (with_reducible assumption) (fail)
        all_goals
          go_wp2_with (first
            | (go_at_call 46; refine HPR.out.mono ?_; rintro e w9 ⟨rfl, hf9⟩
               have h9 := H8.out.fr hf9
               have HF9 := Lib.hid (HF8.out.trans (FrX.of0 hf9))
               have HSE := Lib.hid (c_send h9 (fun k hk => by have := HX.out k hk; have := HF9.out.size; omega) dd.offer rfl HOU.out)
               clear h9 hf9 HPR)
            | (go_at_call 45; refine HSE.out.mono ?_; rintro e w10 ⟨rfl, ov, h10, hf10⟩
               have H10 := Lib.hid h10
               have HF10 := Lib.hid (HF9.out.trans hf10)
               clear h10 hf10 HSE))
          go_end0
          exact hR.out _ _ ⟨rfl, ⟨_, H10.out⟩, HF10.out⟩
end
end Go.Np.Tryz
end
section
set_option linter.unusedVariables false
set_option linter.unusedSimpArgs false
namespace Go.Np.Tryz
open Go.RowKit Go.Proofs Go.Proofs.YtgfiglcmhlbjjaaGreat.PX Go.Proofs.YtgfiglcmhlbjjaaGreatW.PrintWords
section
variable {X : Nat → Prop} {w w' w1 : World} {p : Nat} {c c' : Co} {a a' : Pl}
set_option maxHeartbeats 4000000 in
set_option maxRecDepth 100000 in
theorem ttick_calls (h : CoIn X w p c a) : Calls Tryz.prog 31 #[.pointer (some ⟨p, 7, none⟩)] w fun e w' => ∃ b r, e = .returned (.bool b) ∧ CoIn X w' p c { a with left := r } ∧ FrX X w w' := by
  have hc : w.cell? ⟨p, 7, none⟩ = some (.int .i64 a.left) := h.cells 7
  have hz := froz_of h.box 7
  obtain ⟨l, hl⟩ : ∃ l, a.left = l := ⟨_, rfl⟩
  rw [hl] at hc
  have HSET : Hid (∀ W r s, CoIn X W p c { a with left := s } → CoIn X (W.setCell ⟨p, 7, none⟩ (.int .i64 r)) p c { a with left := r } ∧ FrX X W (W.setCell ⟨p, 7, none⟩ (.int .i64 r))) := fun W r s hW => ⟨hW.set (a' := { a with left := r }) 7 _ rfl rfl rfl rfl rfl rfl rfl, hW.setX 7 _⟩
  have H0 : Hid (CoIn X w p c { a with left := l }) := by show CoIn _ _ _ _ _; rw [← hl]; exact h
  refine calls_k fun R hR => ?_
  clear h hl
  by_cases hgt : 0 < l
  · have b1 : decide (0 < l) = true := decide_eq_true hgt
    clear hgt
    go_enter Tryz.func31, Tryz.ntmps31
    go_upto_region 3 with (fail)
    obtain ⟨l1, hl1⟩ : ∃ l1, l1 = wrap64 (l - 1) := ⟨_, rfl⟩
    obtain ⟨V, hV⟩ : ∃ V, V = w.setCell ⟨p, 7, none⟩ (.int .i64 l1) := ⟨_, rfl⟩
    have H1 := Lib.hid (HSET.out w l1 l H0.out)
    rw [← hV] at H1
    rw [← hl1, ← hV]
    clear hV hl1 hc hz b1
    have hc : V.cell? ⟨p, 7, none⟩ = some (.int .i64 l1) := H1.out.1.cells 7
    have hz := froz_of H1.out.1.box 7
    go_upto_region 4 with (fail)
    obtain ⟨l2, hl2⟩ : ∃ l2, l2 = max 0 l1 := ⟨_, rfl⟩
    obtain ⟨V2, hV2⟩ : ∃ V2, V2 = V.setCell ⟨p, 7, none⟩ (.int .i64 l2) := ⟨_, rfl⟩
    have H2 := Lib.hid (HSET.out V l2 l1 H1.out.1)
    rw [← hV2] at H2
    rw [← hl2, ← hV2]
    clear hV2 hl2 hc hz
    have hc : V2.cell? ⟨p, 7, none⟩ = some (.int .i64 l2) := H2.out.1.cells 7
    go_wp2
    exact hR.out _ _ ⟨_, l2, rfl, H2.out.1, H1.out.2.trans H2.out.2⟩
  · have b1 : decide (0 < l) = false := decide_eq_false hgt
    clear hgt
    go_enter Tryz.func31, Tryz.ntmps31
    go_upto_region 4 with (fail)
    obtain ⟨l2, hl2⟩ : ∃ l2, l2 = max 0 l := ⟨_, rfl⟩
    obtain ⟨V2, hV2⟩ : ∃ V2, V2 = w.setCell ⟨p, 7, none⟩ (.int .i64 l2) := ⟨_, rfl⟩
    have H2 := Lib.hid (HSET.out w l2 l H0.out)
    rw [← hV2] at H2
    rw [← hl2, ← hV2]
    clear hV2 hl2 hc hz
    have hc : V2.cell? ⟨p, 7, none⟩ = some (.int .i64 l2) := H2.out.1.cells 7
    go_wp2
    exact hR.out _ _ ⟨_, l2, rfl, H2.out.1, H2.out.2⟩
set_option maxHeartbeats 4000000 in
set_option maxRecDepth 100000 in
theorem c_lapse (h : CoIn X w p c a) (hX : ∀ k, X k → k < w.heap.size) (hok : c.Ok) (hl : c.m.length < 999999) (ho : c.out.length ≤ 100000000) :
    Calls Tryz.prog 32 #[.pointer (some ⟨p, 0, none⟩)] w fun e w' => e = .returned (.tuple #[]) ∧ CoAt X w' p c.lapse ∧ FrX X w w' := by
  obtain ⟨st, hst⟩ : ∃ st, c.step = st := ⟨_, rfl⟩
  have s6 : w.cell? ⟨p, 6, none⟩ = some (.int .i64 st) := by rw [← hst]; exact h.cells 6
  have hs := hok.step
  rw [hst] at hs
  have H := Lib.hid h
  have HX := Lib.hid hX
  have HOK := Lib.hid hok
  have HL := Lib.hid hl
  have HO := Lib.hid ho
  have HST := Lib.hid hst
  have hs' : st = 0 ∨ st = 1 ∨ st = 2 ∨ st = 3 := by omega
  refine calls_k fun R hR => ?_
  clear h hX hok hl ho hst hs
  rcases hs' with rfl | rfl | rfl | rfl
  · have HLA : Hid (c.lapse = c) := by show _ = _; unfold Co.lapse; rw [HST.out]; rfl
    go_enter Tryz.func32, Tryz.ntmps32
    go_wp2
    go_end0
    refine hR.out _ _ ⟨rfl, ?_, FrX.of0 (Fr.refl _ _)⟩
    rw [HLA.out]
    exact ⟨a, H.out⟩
  · have HLA : Hid (c.lapse = (c.cast 4 (-1)).toS 2) := by show _ = _; unfold Co.lapse; rw [HST.out]; rfl
    have HCC := Lib.hid (c_cast H.out HX.out HOK.out HL.out HO.out 4 (-1) (.inl rfl))
    go_enter Tryz.func32, Tryz.ntmps32
    go_wp2_with (first
      | (go_at_call 47; refine HCC.out.mono ?_; rintro e w1 ⟨rfl, ⟨ov, h1⟩, hf1⟩; have HF1 := Lib.hid hf1; have HTO := Lib.hid (c_to h1 2); clear h1 hf1 HCC)
      | (go_at_call 39; refine HTO.out.mono ?_; rintro e w2 ⟨rfl, r, h2, hf2⟩; have H2 := Lib.hid h2; have HF2 := Lib.hid (HF1.out.trans hf2); clear h2 hf2 HTO))
    go_end0
    refine hR.out _ _ ⟨rfl, ?_, HF2.out⟩
    rw [HLA.out]
    exact ⟨_, H2.out⟩
  · have HLA : Hid (c.lapse = (c.cast 5 (-1)).toS 3) := by show _ = _; unfold Co.lapse; rw [HST.out]; rfl
    have HCC := Lib.hid (c_cast H.out HX.out HOK.out HL.out HO.out 5 (-1) (.inr rfl))
    go_enter Tryz.func32, Tryz.ntmps32
    go_wp2_with (first
      | (go_at_call 47; refine HCC.out.mono ?_; rintro e w1 ⟨rfl, ⟨ov, h1⟩, hf1⟩; have HF1 := Lib.hid hf1; have HTO := Lib.hid (c_to h1 3); clear h1 hf1 HCC)
      | (go_at_call 39; refine HTO.out.mono ?_; rintro e w2 ⟨rfl, r, h2, hf2⟩; have H2 := Lib.hid h2; have HF2 := Lib.hid (HF1.out.trans hf2); clear h2 hf2 HTO))
    go_end0
    refine hR.out _ _ ⟨rfl, ?_, HF2.out⟩
    rw [HLA.out]
    exact ⟨_, H2.out⟩
  · obtain ⟨d, hd⟩ : ∃ d, d = c.toS 3 := ⟨_, rfl⟩
    have hdo : d.Ok := by rw [hd]; exact HOK.out.toS (by omega)
    have hdu : d.out.length ≤ 100000000 := by rw [hd]; exact HO.out
    have hv0 : d.view = c.view := by rw [hd]; rfl
    obtain ⟨v, hv⟩ : ∃ v, d.view = v := ⟨_, rfl⟩
    have hvb := hdo.view
    rw [hv] at hvb
    have hwr : wrap64 (v + 1) = v + 1 := w64 (by omega) (by omega)
    have HLA : Hid (c.lapse = if v < 1000 then d.enter (v + 1) else d) := by show _ = _; unfold Co.lapse; rw [HST.out, ← hd, ← hv0, hv]; rfl
    have HTO : Hid (Calls Tryz.prog 39 #[.pointer (some ⟨p, 0, none⟩), .int .i64 3] w fun e w' => e = .returned (.tuple #[]) ∧ ∃ b, CoIn X w' p d b ∧ FrX X w w') := by
      refine (c_to H.out 3).mono ?_
      rintro e w' ⟨rfl, r, h1, h2⟩
      exact ⟨rfl, _, by rw [hd]; exact h1, h2⟩
    have HD := Lib.hid hdo
    have HDU := Lib.hid hdu
    have HV := Lib.hid hv
    have HWR : Hid (∀ W b, CoIn X W p d b → FrX X w W → Calls Tryz.prog 30 #[.pointer (some ⟨p, 0, none⟩), .int .i64 (v + 1)] W fun e w' => e = .returned (.tuple #[]) ∧ CoAt X w' p (d.enter (v + 1)) ∧ FrX X W w') := fun W b hW hf => c_enter hW (fun k hk => Nat.lt_of_lt_of_le (HX.out k hk) hf.size) HD.out HDU.out (v + 1)
    clear hdo hdu hd hv0 hv hvb
    by_cases hlt : v < 1000
    · rw [if_pos hlt] at HLA
      have b1 : decide (v < 1000) = true := decide_eq_true hlt
      clear hlt
      go_enter Tryz.func32, Tryz.ntmps32
      go_wp2_with (first
        | (go_at_call 39; refine HTO.out.mono ?_; rintro e w2 ⟨rfl, b, h2, hf2⟩; have c5 : w2.cell? ⟨p, 5, none⟩ = some (.int .i64 v) := (by rw [← HV.out]; exact h2.cells 5); have HEN := Lib.hid (HWR.out _ _ h2 hf2); have HF2 := Lib.hid hf2; clear h2 hf2 HTO)
        | (go_at_call 30; refine HEN.out.mono ?_; rintro e w3 ⟨rfl, h3, hf3⟩; have H3 := Lib.hid h3; have HF3 := Lib.hid (HF2.out.trans hf3); clear h3 hf3 HEN))
      go_end0
      refine hR.out _ _ ⟨rfl, ?_, HF3.out⟩
      rw [HLA.out]
      exact H3.out
    · rw [if_neg hlt] at HLA
      have b1 : decide (v < 1000) = false := decide_eq_false hlt
      clear hlt
      go_enter Tryz.func32, Tryz.ntmps32
      go_wp2_with (go_at_call 39; refine HTO.out.mono ?_; rintro e w2 ⟨rfl, b, h2, hf2⟩; have c5 : w2.cell? ⟨p, 5, none⟩ = some (.int .i64 v) := (by rw [← HV.out]; exact h2.cells 5); have H2 := Lib.hid h2; have HF2 := Lib.hid hf2; clear h2 hf2 HTO)
      go_end0
      refine hR.out _ _ ⟨rfl, ?_, HF2.out⟩
      rw [HLA.out]
      exact ⟨_, H2.out⟩
end
end Go.Np.Tryz
end
section
set_option linter.unusedVariables false
set_option linter.unusedSimpArgs false
namespace Go.Np.Tryz
open Go.RowKit Go.Proofs Go.Proofs.YtgfiglcmhlbjjaaGreat.PX Go.Proofs.YtgfiglcmhlbjjaaGreatW.PrintWords
set_option maxHeartbeats 2000000 in
set_option maxRecDepth 100000 in
theorem tnew_own {w : World} {A0 : Option Addr} {c0 : Nat} {l : List Int} (h : (Kd.int .i64).C w A0 l.length l) (hb : l.length < 17592186044416) :
    Calls Tryz.prog 43 #[.slice A0 l.length c0] w fun e w' => ∃ pt bt tv, e = .returned (.pointer (some ⟨pt, 0, none⟩)) ∧ w'.heap[pt]? = some (.cells #[tv, .map (some bt)] 116 (0, 0)) ∧ MapIs balE w' bt (([] : List (Bal × Int)).map encV) ∧ OwnI w.heap.size w' tv l ∧ w.heap.size ≤ bt ∧ bt < pt ∧ (∀ k ∈ tv.ownBlock.toList, k < bt) ∧ Fr [] w w' := by
  have hmm := @run_makeMap Tryz.prog
  have HC := Lib.hid (clone_own (c := c0) h hb)
  refine calls_k fun R hR => ?_
  clear h
  go_enter Tryz.func43, Tryz.ntmps43
  go_wp2_with (go_at_call 27; refine HC.out.mono ?_; rintro e w1 ⟨v, rfl, h1, h2⟩; obtain ⟨A, c, rfl⟩ := h1.form; have H1 := Lib.hid h1; have H2 := Lib.hid h2; clear h1 h2 HC)
  have hm0 : MapIs balE (w1.alloc (.map #[] 0)) w1.heap.size (([] : List (Bal × Int)).map encV) := MapIs.made w1
  have hsz : (w1.alloc (.map #[] 0)).heap.size = w1.heap.size + 1 := by simp
  have hF1 : Fr [] w1 ((w1.alloc (.map #[] 0)).alloc (.cells #[.slice A l.length c, .map (some w1.heap.size)] 116)) := ((Fr.refl _ _).alloc _).alloc _
  refine hR.out _ _ ⟨w1.heap.size + 1, w1.heap.size, .slice A l.length c, rfl, ?_, hm0.alloc _, H1.out.fr hF1 (by simp), H2.out.size, by omega, fun k hk => H1.out.lt k hk, H2.out.trans hF1 (by simp)⟩
  rw [← hsz]
  exact heap_alloc_new _ _
theorem none_calls (w : World) : Calls Tryz.prog 44 #[] w fun e w' => e = .returned (.agg #[.int .i64 0, .int .i64 (-1)]) ∧ Fr [] w w' := by
  refine (check_none.calls 0 (-1) w rfl).mono ?_
  rintro e w' ⟨h1, h2⟩
  exact ⟨h1, Fr.of_below [] h2⟩
structure CoBx (X : Nat → Prop) (w : World) (p : Nat) (c : Co) (left : Int) (sv dv ov : Value) (z5 z6 z9 z10 z11 z12 z13 z14 z15 : Value) : Prop where
  box : w.heap[p]? = some (.cells #[.int .i64 c.me, sv, .int .i64 c.base, .int .i64 c.most, dv, z5, z6, .int .i64 left, .int .i64 c.tip, z9, z10, z11, z12, z13, z14, z15, ov] 78 (0, 0))
  st : OwnI 0 w sv c.st
  dec : OwnI 0 w dv c.decs
  out : w.ownsRow 0 48 14 ov c.out.length (flatA c.out)
  nd : (p :: (sv.ownBlock.toList ++ (dv.ownBlock.toList ++ ov.ownBlock.toList))).Nodup
  nX : ∀ k ∈ p :: (sv.ownBlock.toList ++ (dv.ownBlock.toList ++ ov.ownBlock.toList)), ¬ X k
section
variable {X : Nat → Prop} {w w' w1 : World} {p : Nat} {c c' : Co} {a a' : Pl}
theorem CoIn.bx (h : CoIn X w p c a) : CoBx X w p c a.left a.sv a.dv a.ov (.int .i64 c.view) (.int .i64 c.step) (.pointer (some ⟨a.pt, 0, none⟩)) (.map (some a.bp)) (.map (some a.bs)) (.int .i64 c.lock.1) (.int .i64 c.lock.2) (.int .i64 c.valid.1) (.int .i64 c.valid.2) := by
  have hnd := h.nd
  have hnX := h.nX
  unfold Pl.own at hnd hnX
  simp only [List.nodup_cons, List.nodup_append, List.mem_cons, List.mem_append] at hnd hnX
  refine ⟨h.box, h.st, h.dec, h.out, ?_, ?_⟩
  · simp only [List.nodup_cons, List.nodup_append, List.mem_cons, List.mem_append]
    grind
  · simp only [List.mem_cons, List.mem_append]
    grind
theorem CoBx.lt {left : Int} {sv dv ov z5 z6 z9 z10 z11 z12 z13 z14 z15 : Value} (h : CoBx X w p c left sv dv ov z5 z6 z9 z10 z11 z12 z13 z14 z15) : p < w.heap.size ∧ (∀ k ∈ sv.ownBlock.toList, k < w.heap.size) ∧ (∀ k ∈ dv.ownBlock.toList, k < w.heap.size) ∧ (∀ k ∈ ov.ownBlock.toList, k < w.heap.size) :=
  ⟨(Array.getElem?_eq_some_iff.1 h.box).1, row_lt h.st.1, row_lt h.dec.1, row_lt h.out⟩
theorem CoBx.renew {left : Int} {sv dv ov z5 z6 z9 z10 z11 z12 z13 z14 z15 tv : Value} {pt bt bp bs : Nat} (h : CoBx X w p c left sv dv ov z5 z6 z9 z10 z11 z12 z13 z14 z15) (hX : ∀ k, X k → k < w.heap.size) (hf : Fr [p] w w')
    (hb : w'.heap[p]? = some (.cells (coreV c.rest ⟨left, sv, tv, dv, ov, pt, bt, bp, bs⟩) 78 (0, 0))) (tal : w'.heap[pt]? = some (.cells #[tv, .map (some bt)] 116 (0, 0))) (tst : OwnI w.heap.size w' tv c.st)
    (vts : MapIs balE w' bt (([] : List (Bal × Int)).map encV)) (prs : MapIs keyE w' bp ([] : List (Int × Value))) (sds : MapIs keyE w' bs ([] : List (Int × Value))) (h1 : w.heap.size ≤ bt) (h2 : bt < pt) (h3 : pt < bp) (h4 : bp < bs) (h5 : ∀ k ∈ tv.ownBlock.toList, k < bt) :
    CoIn X w' p c.rest ⟨left, sv, tv, dv, ov, pt, bt, bp, bs⟩ := by
  obtain ⟨l1, l2, l3, l4⟩ := h.lt
  have hnd := h.nd
  have hnX := h.nX
  have t1 := tst.2
  simp only [List.nodup_cons, List.nodup_append, List.mem_cons, List.mem_append] at hnd hnX
  have hm : ∀ {v : Value}, (∀ k ∈ v.ownBlock.toList, k < w.heap.size) → (∀ k ∈ v.ownBlock.toList, k ≠ p) → ∀ k ∈ v.ownBlock.toList, w'.heap[k]? = w.heap[k]? := fun g1 g2 k hk => hf.block k (g1 k hk) (by simpa using g2 k hk)
  refine ⟨hb, tal, ?_, ⟨tst.1, fun _ _ => Nat.zero_le _⟩, ?_, ?_, ⟨[], rfl, vts, Inv.nil _⟩, prs, sds, ?_, ?_⟩
  · exact h.st.move0 (hm l2 (by grind))
  · exact h.dec.move0 (hm l3 (by grind))
  · exact row_move h.out (fun k e => hm l4 (by grind) k (by simp [e]))
  · have ho := opt_nodup tv.ownBlock
    unfold Pl.own
    simp only [List.nodup_cons, List.nodup_append, List.mem_cons, List.mem_append]
    clear hm hf hb tal tst vts prs sds hX hnX h
    refine ⟨?_, ?_, ?_, ?_, ?_, ?_⟩
    · rintro (e | e | e | e | e | e | e | e)
      · omega
      · omega
      · omega
      · omega
      · grind
      · have := t1 _ e; omega
      · grind
      · grind
    · rintro (e | e | e | e | e | e | e)
      · omega
      · omega
      · omega
      · have := l2 _ e; omega
      · have := h5 _ e; omega
      · have := l3 _ e; omega
      · have := l4 _ e; omega
    · rintro (e | e | e | e | e | e)
      · omega
      · omega
      · have := l2 _ e; omega
      · have := h5 _ e; omega
      · have := l3 _ e; omega
      · have := l4 _ e; omega
    · rintro (e | e | e | e | e)
      · omega
      · have := l2 _ e; omega
      · have := h5 _ e; omega
      · have := l3 _ e; omega
      · have := l4 _ e; omega
    · rintro (e | e | e | e)
      · have := l2 _ e; omega
      · have := h5 _ e; omega
      · have := l3 _ e; omega
      · have := l4 _ e; omega
    · refine ⟨hnd.2.1, ⟨ho, hnd.2.2.1, ?_⟩, ?_⟩
      · intro x hx y hy e
        subst e
        rcases hy with hy | hy
        · have := t1 _ hx; have := l3 _ hy; omega
        · have := t1 _ hx; have := l4 _ hy; omega
      · intro x hx y hy e
        subst e
        rcases hy with hy | hy | hy
        · have := t1 _ hy; have := l2 _ hx; omega
        · exact hnd.2.2.2 _ hx _ (.inl hy) rfl
        · exact hnd.2.2.2 _ hx _ (.inr hy) rfl
  · unfold Pl.own
    simp only [List.mem_cons, List.mem_append]
    intro k hk hx
    have := hX k hx
    grind
end
end Go.Np.Tryz
end
section
set_option linter.unusedVariables false
set_option linter.unusedSimpArgs false
namespace Go.Np.Tryz
open Go.RowKit Go.Proofs Go.Proofs.YtgfiglcmhlbjjaaGreat.PX Go.Proofs.YtgfiglcmhlbjjaaGreatW.PrintWords
section
variable {X : Nat → Prop} {w w' w1 : World} {p : Nat} {c c' : Co} {a a' : Pl}
theorem setL_rest (x0 x1 x2 x3 x4 x5 x6 x7 x8 x9 x10 x11 x12 x13 x14 x15 x16 u0 u1 u2 u3 u4 u5 u6 : Value) : setL #[x0, x1, x2, x3, x4, x5, x6, x7, x8, x9, x10, x11, x12, x13, x14, x15, x16] 9 [u0, u1, u2, u3, u4, u5, u6] = #[x0, x1, x2, x3, x4, x5, x6, x7, x8, u0, u1, u2, u3, u4, u5, u6, x16] := by
  simp only [setL, List.setIfInBounds_toArray, List.set_cons_zero, List.set_cons_succ]
theorem setL_vs (x0 x1 x2 x3 x4 x5 x6 x7 x8 x9 x10 x11 x12 x13 x14 x15 x16 u0 u1 : Value) : setL #[x0, x1, x2, x3, x4, x5, x6, x7, x8, x9, x10, x11, x12, x13, x14, x15, x16] 5 [u0, u1] = #[x0, x1, x2, x3, x4, u0, u1, x7, x8, x9, x10, x11, x12, x13, x14, x15, x16] := by
  simp only [setL, List.setIfInBounds_toArray, List.set_cons_zero, List.set_cons_succ]
theorem OwnI.slC {base : Nat} {w : World} {A : Option Addr} {d : Nat} {l : List Int} (h : OwnI base w (.slice A l.length d) l) : (Kd.int .i64).C w A l.length l := by
  obtain ⟨A', c', he, _, hC⟩ := h.sl
  injection he with he1 _ _
  rw [he1]; exact hC
set_option maxHeartbeats 4000000 in
set_option maxRecDepth 100000 in
theorem c_rest {left : Int} {sv dv ov z5 z6 z9 z10 z11 z12 z13 z14 z15 : Value} (h : CoBx X w p c left sv dv ov z5 z6 z9 z10 z11 z12 z13 z14 z15) (hX : ∀ k, X k → k < w.heap.size) (hl : c.st.length ≤ 7) :
    Calls Tryz.prog 28 #[.pointer (some ⟨p, 0, none⟩)] w fun e w' => e = .returned (.tuple #[]) ∧ CoAt X w' p c.rest ∧ FrX X w w' := by
  have hmm := @run_makeMap Tryz.prog
  obtain ⟨As, ds, rfl⟩ := h.st.form
  have hbx := h.box
  have y5 := froz_of hbx 5
  have y6 := froz_of hbx 6
  have k5 : w.cell? ⟨p, 5, none⟩ = some z5 := cell_of hbx 5
  have k6 : w.cell? ⟨p, 6, none⟩ = some z6 := cell_of hbx 6
  have H := Lib.hid h
  have HX := Lib.hid hX
  have HBX := Lib.hid hbx
  refine calls_k fun R hR => ?_
  clear h hX hbx
  go_enter Tryz.func28, Tryz.ntmps28
  go_upto_region 1 with (fail)
  obtain ⟨W1, hW1⟩ : ∃ W1, W1 = putL w p 5 [.int .i64 0, .int .i64 0] := ⟨_, rfl⟩
  have hF1 : Fr [p] w W1 := by rw [hW1]; exact putL_fr p _ w 5 (Fr.refl _ _) (.inl (by simp))
  have hb1 : W1.heap[p]? = some (.cells #[.int .i64 c.me, .slice As c.st.length ds, .int .i64 c.base, .int .i64 c.most, dv, .int .i64 0, .int .i64 0, .int .i64 left, .int .i64 c.tip, z9, z10, z11, z12, z13, z14, z15, ov] 78 (0, 0)) := by
    rw [hW1, ← setL_vs _ _ _ _ _ z5 z6]; exact putL_heap p _ w 5 _ HBX.out
  simp only [putL] at hW1
  rw [← hW1]
  clear hW1 y5 y6 k5 k6 HBX
  have k1 : W1.cell? ⟨p, 1, none⟩ = some (.slice As c.st.length ds) := cell_of hb1 1
  have hpS : Hid (∀ k ∈ (Value.slice As c.st.length ds).ownBlock.toList, k ≠ p) := fun k hk e => by
    have := H.out.nd
    simp only [List.nodup_cons, List.mem_append] at this
    exact this.1 (.inl (e ▸ hk))
  have hC1 : (Kd.int .i64).C W1 As c.st.length c.st := by
    have h1 : OwnI 0 W1 (.slice As c.st.length ds) c.st := H.out.st.fr hF1 (fun k hk => by simpa using hpS.out k hk)
    exact h1.slC
  have HTN := Lib.hid (tnew_own (c0 := ds) hC1 (by omega))
  have HN1 := Lib.hid (fun W => none_calls W)
  have HN2 := Lib.hid (fun W => none_calls W)
  have HF1 := Lib.hid hF1
  have HB1 := Lib.hid hb1
  clear hF1 hb1 hC1
  obtain ⟨NS, hNS⟩ : ∃ NS, c.st.length = NS := ⟨_, rfl⟩
  have HNS := Lib.hid hNS
  rw [hNS] at HTN k1
  clear hNS
  go_wp2_with (first
    | (go_at_call 43; refine HTN.out.mono ?_; rintro e w2 ⟨pt, bt, tv, rfl, t1, t2, t3, t4, t5, t6, t7⟩
       have HT1 := Lib.hid t1
       have HT2 := Lib.hid t2
       have HT3 := Lib.hid t3
       have HT4 := Lib.hid (show _ ∧ _ ∧ _ from ⟨t4, t5, t6⟩)
       have HF2 := Lib.hid t7
       have hptl : Hid (pt < w2.heap.size) := (Array.getElem?_eq_some_iff.1 t1).1
       clear t1 t2 t3 t4 t5 t6 t7 HTN)
    | (go_at_call 44; refine (HN1.out _).mono ?_; rintro e w3 ⟨rfl, hf3⟩
       have HF3 := Lib.hid hf3
       clear hf3 HN1)
    | (go_at_call 44; refine (HN2.out _).mono ?_; rintro e w4 ⟨rfl, hf4⟩
       have hM : Fr [] w2 ((w2.alloc (.map #[] 0)).alloc (.map #[] 0)) := ((Fr.refl _ _).alloc _).alloc _
       have hF24 : Fr [] w2 w4 := (hM.trans HF3.out (by simp)).trans hf4 (by simp)
       have hF14 : Fr [] W1 w4 := HF2.out.trans hF24 (by simp)
       have hb4 : w4.heap[p]? = some (.cells #[.int .i64 c.me, .slice As c.st.length ds, .int .i64 c.base, .int .i64 c.most, dv, .int .i64 0, .int .i64 0, .int .i64 left, .int .i64 c.tip, z9, z10, z11, z12, z13, z14, z15, ov] 78 (0, 0)) := (hF14.block p (Array.getElem?_eq_some_iff.1 HB1.out).1 (by simp)).trans HB1.out
       have m1 : MapIs keyE w4 w2.heap.size ([] : List (Int × Value)) := (((MapIs.made w2).alloc _).fr HF3.out (by simp)).fr hf4 (by simp)
       have m2 : MapIs keyE w4 (w2.heap.size + 1) ([] : List (Int × Value)) := by
         have hm := MapIs.made (κ := Int) (kE := keyE) (w2.alloc (.map #[] 0))
         rw [show (w2.alloc (.map #[] 0)).heap.size = w2.heap.size + 1 from by simp] at hm
         exact (hm.fr HF3.out (by simp)).fr hf4 (by simp)
       have HM1 := Lib.hid m1
       have HM2 := Lib.hid m2
       have HF24 := Lib.hid hF24
       have HF14 := Lib.hid hF14
       have HB4 := Lib.hid hb4
       have k9 : w4.cell? ⟨p, 9, none⟩ = some z9 := cell_of hb4 9
       have y9 := froz_of hb4 9
       have k10 : w4.cell? ⟨p, 10, none⟩ = some z10 := cell_of hb4 10
       have y10 := froz_of hb4 10
       have k11 : w4.cell? ⟨p, 11, none⟩ = some z11 := cell_of hb4 11
       have y11 := froz_of hb4 11
       have k12 : w4.cell? ⟨p, 12, none⟩ = some z12 := cell_of hb4 12
       have y12 := froz_of hb4 12
       have k13 : w4.cell? ⟨p, 13, none⟩ = some z13 := cell_of hb4 13
       have y13 := froz_of hb4 13
       have k14 : w4.cell? ⟨p, 14, none⟩ = some z14 := cell_of hb4 14
       have y14 := froz_of hb4 14
       have k15 : w4.cell? ⟨p, 15, none⟩ = some z15 := cell_of hb4 15
       have y15 := froz_of hb4 15
       clear hf4 HN2 hM hF24 hF14 hb4 m1 m2))
  obtain ⟨W5, hW5⟩ : ∃ W5, W5 = putL w4 p 9 [.pointer (some ⟨pt, 0, none⟩), .map (some w2.heap.size), .map (some (w2.heap.size + 1)), .int .i64 0, .int .i64 (-1), .int .i64 0, .int .i64 (-1)] := ⟨_, rfl⟩
  have hF5 : Fr [p] w4 W5 := by rw [hW5]; exact putL_fr p _ w4 9 (Fr.refl _ _) (.inl (by simp))
  have hb5 : W5.heap[p]? = some (.cells (coreV c.rest ⟨left, .slice As c.st.length ds, tv, dv, ov, pt, bt, w2.heap.size, w2.heap.size + 1⟩) 78 (0, 0)) := by
    have h1 := putL_heap p [.pointer (some ⟨pt, 0, none⟩), .map (some w2.heap.size), .map (some (w2.heap.size + 1)), .int .i64 0, .int .i64 (-1), .int .i64 0, .int .i64 (-1)] w4 9 _ HB4.out
    rw [setL_rest, ← hW5] at h1
    exact h1
  simp only [putL] at hW5
  go_end0
  rw [← hW5]
  have hp1 : p < W1.heap.size := (Array.getElem?_eq_some_iff.1 HB1.out).1
  obtain ⟨t4, t5, t6⟩ := HT4.out
  have hs1 := HF1.out.size
  have hne : ∀ k, W1.heap.size ≤ k → k ∉ [p] := fun k hk hm => by simp at hm; omega
  have hFp : Fr [p] w W5 := (HF1.out.trans (HF14.out.mono (T := [p]) (by simp)) (fun x hx => .inl hx)).trans hF5 (fun x hx => .inl hx)
  have hptl := hptl.out
  have hin := H.out.renew (fun k hk => HX.out k hk) hFp hb5 ((hF5.block pt (Nat.lt_of_lt_of_le hptl HF24.out.size) (hne pt (by omega))).trans ((HF24.out.block pt hptl (by simp)).trans HT1.out))
    ⟨((HT3.out.fr HF24.out (by simp)).fr hF5 (fun k hk => hne k (HT3.out.2 k hk))).1, fun k hk => Nat.le_trans hs1 (HT3.out.2 k hk)⟩ ((HT2.out.fr HF24.out (by simp)).fr hF5 (hne bt t4)) (HM1.out.fr hF5 (hne _ (by have := HF2.out.size; omega))) (HM2.out.fr hF5 (hne _ (by have := HF2.out.size; omega))) (by omega) t5 hptl (by omega) t6
  refine hR.out _ _ ⟨rfl, ⟨_, hin⟩, ⟨[p], hFp, fun k hk => ?_⟩⟩
  simp at hk
  subst hk
  exact H.out.nX k (by simp)
end
end Go.Np.Tryz
end
section
set_option linter.unusedVariables false
set_option linter.unusedSimpArgs false
namespace Go.Np.Tryz
open Go.RowKit Go.Proofs Go.Proofs.YtgfiglcmhlbjjaaGreat.PX Go.Proofs.YtgfiglcmhlbjjaaGreatW.PrintWords
set_option maxHeartbeats 4000000 in
set_option maxRecDepth 100000 in
theorem c_new {w : World} {A0 : Option Addr} {c0 : Nat} {st : List Int} (h : (Kd.int .i64).C w A0 st.length st) (hl : st.length ≤ 7) (me base most : Int) :
    Calls Tryz.prog 9 #[.int .i64 me, .slice A0 st.length c0, .int .i64 base, .int .i64 most] w fun e w' => ∃ p, e = .returned (.pointer (some ⟨p, 0, none⟩)) ∧ CoAt (fun k => k < w.heap.size) w' p (Co.new me st base most) ∧ Fr [] w w' ∧ w.heap.size ≤ p := by
  have HC := Lib.hid (clone_own (c := c0) h (by omega))
  obtain ⟨NS, hNS⟩ : ∃ NS, st.length = NS := ⟨_, rfl⟩
  have HNS := Lib.hid hNS
  rw [hNS] at HC
  rw [hNS]
  refine calls_k fun R hR => ?_
  clear h hNS
  go_enter Tryz.func9, Tryz.ntmps9
  go_upto_region 2 with (go_at_call 27; refine HC.out.mono ?_; rintro e w1 ⟨v, rfl, h1, h2⟩; obtain ⟨A, d, rfl⟩ := h1.formN HNS.out; have H1 := Lib.hid h1; have H2 := Lib.hid h2; clear h1 h2 HC)
  obtain ⟨W2, hW2⟩ : ∃ W2, W2 = w1.alloc (.cells #[.int .i64 me, .slice A NS d, .int .i64 base, .int .i64 most, .slice none 0 0, .int .i64 0, .int .i64 0, .int .i64 0, .int .i64 0, .pointer none, .map none, .map none, .int .i64 0, .int .i64 0, .int .i64 0, .int .i64 0, .slice none 0 0] 78) := ⟨_, rfl⟩
  obtain ⟨p, hp⟩ : ∃ p, p = w1.heap.size := ⟨_, rfl⟩
  have hF2 : Fr [] w1 W2 := by rw [hW2]; exact (Fr.refl _ _).alloc _
  have hb2 : W2.heap[p]? = some (.cells #[.int .i64 me, .slice A NS d, .int .i64 base, .int .i64 most, .slice none 0 0, .int .i64 0, .int .i64 0, .int .i64 0, .int .i64 0, .pointer none, .map none, .map none, .int .i64 0, .int .i64 0, .int .i64 0, .int .i64 0, .slice none 0 0] 78 (0, 0)) := by rw [hW2, hp]; exact heap_alloc_new _ _
  have hs1 := H2.out.size
  have hbx : CoBx (fun k => k < w.heap.size) W2 p (Co.new me st base most) 0 (.slice A NS d) (.slice none 0 0) (.slice none 0 0) (.int .i64 0) (.int .i64 0) (.pointer none) (.map none) (.map none) (.int .i64 0) (.int .i64 0) (.int .i64 0) (.int .i64 0) := by
    have ho := H1.out.fr hF2 (by simp)
    refine ⟨hb2, ⟨ho.1, fun _ _ => Nat.zero_le _⟩, OwnI.nil _ _, World.ownsRow_nil _ _ _ _, ?_, ?_⟩
    · have hn := opt_nodup (Value.slice A NS d).ownBlock
      have hl : p ∉ (Value.slice A NS d).ownBlock.toList := fun hk => by have := H1.out.lt p hk; omega
      simp [Value.ownBlock] at hn hl ⊢
      exact ⟨hl, hn⟩
    · intro k hk hx
      have hk' : k = p ∨ k ∈ (Value.slice A NS d).ownBlock.toList := by simpa [Value.ownBlock] using hk
      have hx' : k < w.heap.size := hx
      rcases hk' with e | hk'
      · omega
      · have := H1.out.2 k hk'; omega
  have HR := Lib.hid (c_rest hbx (fun k hk => by have : k < w.heap.size := hk; have := hF2.size; omega) hl)
  have HF2 := Lib.hid (H2.out.trans hF2 (by simp))
  rw [← hW2, ← hp]
  have hge : w.heap.size ≤ p := by omega
  clear hW2 hbx hF2 hb2 hp hs1
  go_wp2_with (go_at_call 28; refine HR.out.mono ?_; rintro e w3 ⟨rfl, h3, hf3⟩; have H3 := Lib.hid h3; have HF3 := Lib.hid hf3; clear h3 hf3 HR)
  refine hR.out _ _ ⟨p, rfl, H3.out, HF3.out.old HF2.out, hge⟩
end Go.Np.Tryz
end
section
set_option linter.unusedVariables false
set_option linter.unusedSimpArgs false
namespace Go.Np.Tryz
open Go.RowKit Go.Proofs Go.Proofs.YtgfiglcmhlbjjaaGreat.PX Go.Proofs.YtgfiglcmhlbjjaaGreatW.PrintWords
section
variable {X : Nat → Prop} {w w' w1 : World} {p : Nat} {c c' : Co} {a a' : Pl}
theorem CoIn.flushed (h : CoIn X w p c a) : CoIn X (w.setCell ⟨p, 16, none⟩ (.slice none 0 0)) p c.flush { a with ov := .slice none 0 0 } := by
  have hnd := h.nd
  have hlt := h.lt
  have hm : ∀ k, k ∈ a.own p ↔ k = p ∨ k = a.pt ∨ k = a.bt ∨ k = a.bp ∨ k = a.bs ∨ k ∈ a.sv.ownBlock.toList ∨ k ∈ a.tv.ownBlock.toList ∨ k ∈ a.dv.ownBlock.toList ∨ k ∈ a.ov.ownBlock.toList := fun k => by
    unfold Pl.own; simp only [List.mem_cons, List.mem_append]
  have hk : ∀ k ∈ a.own p, k ≠ p → (w.setCell ⟨p, 16, none⟩ (.slice none 0 0)).heap[k]? = w.heap[k]? := fun k h1 h3 => set_far w h3 _
  unfold Pl.own at hnd
  simp only [List.nodup_cons, List.nodup_append, List.mem_cons, List.mem_append, not_or] at hnd
  have hb : (w.setCell ⟨p, 16, none⟩ (.slice none 0 0)).heap[p]? = some (.cells (coreV c.flush { a with ov := .slice none 0 0 }) 78 (0, 0)) := by rw [obj_set h.box 16 _]; rfl
  obtain ⟨q, hm1, hm2, hm3⟩ := h.vts
  refine ⟨hb, (hk _ ((hm _).2 (by grind)) (by grind)).trans h.tal, ?_, ?_, ?_, World.ownsRow_nil _ _ _ _, ⟨q, hm1, hm2.move (hk _ ((hm _).2 (by grind)) (by grind)), hm3⟩, h.prs.move (hk _ ((hm _).2 (by grind)) (by grind)), h.sds.move (hk _ ((hm _).2 (by grind)) (by grind)), ?_, fun k hk' => h.nX k ?_⟩
  · exact h.st.move0 (fun k h1 => hk k ((hm _).2 (by grind)) (by grind))
  · exact h.tst.move0 (fun k h1 => hk k ((hm _).2 (by grind)) (by grind))
  · exact h.dec.move0 (fun k h1 => hk k ((hm _).2 (by grind)) (by grind))
  · exact (own_ov (N := w.heap.size) h.nd h.lt (by simp [Value.ownBlock])).1
  · rcases (own_ov (N := w.heap.size + k + 1) h.nd (fun j hj => by have := h.lt j hj; omega) (by simp [Value.ownBlock])).2 k hk' with h1 | h1
    · exact h1
    · omega
set_option maxHeartbeats 2000000 in
set_option maxRecDepth 100000 in
theorem c_flush (h : CoIn X w p c a) : Calls Tryz.prog 35 #[.pointer (some ⟨p, 0, none⟩)] w fun e w' => e = .returned a.ov ∧ CoIn X w' p c.flush { a with ov := .slice none 0 0 } ∧ FrX X w w' ∧ w' = w.setCell ⟨p, 16, none⟩ (.slice none 0 0) := by
  have hc : w.cell? ⟨p, 16, none⟩ = some a.ov := h.cells 16
  have hz := froz_of h.box 16
  have H1 := Lib.hid h.flushed
  have H2 := Lib.hid (h.setX 16 (.slice none 0 0))
  obtain ⟨ov, hov⟩ : ∃ ov, a.ov = ov := ⟨_, rfl⟩
  obtain ⟨A, d, hf⟩ := slice_form h.out
  rw [hov] at hf
  subst hf
  rw [hov] at hc
  rw [hov]
  obtain ⟨n, hn⟩ : ∃ n, c.out.length = n := ⟨_, rfl⟩
  rw [hn] at hc
  rw [hn]
  refine calls_k fun R hR => ?_
  clear h hov hn
  go_enter Tryz.func35, Tryz.ntmps35
  go_wp2
  exact hR.out _ _ ⟨rfl, H1.out, H2.out, rfl⟩
set_option maxHeartbeats 8000000 in
set_option maxRecDepth 100000 in
theorem c_judge (h : CoIn X w p c a) (hst : okS c.st) (hm : c.m.length < 1000000) (q1 q2 : Int) (hq : wf64 q2) : Calls Tryz.prog 53 #[.pointer (some ⟨p, 0, none⟩), .agg #[.int .i64 q1, .int .i64 q2]] w fun e w' => e = .returned (.tuple #[.int .i64 (c.judge (q1, q2)).1, .bool (c.judge (q1, q2)).2]) ∧ Fr [] w w' := by
  obtain ⟨W, hW⟩ : ∃ W, W = w.alloc (.cells #[.int .i64 q1, .int .i64 q2] 74) := ⟨_, rfl⟩
  obtain ⟨g, hg⟩ : ∃ g, g = w.heap.size := ⟨_, rfl⟩
  have hF : Fr [] w W := by rw [hW]; exact (Fr.refl _ _).alloc _
  have hbl : W.heap[g]? = some (.cells #[.int .i64 q1, .int .i64 q2] 74 (0, 0)) := by rw [hW, hg]; exact heap_alloc_new _ _
  have hlt : g < W.heap.size := (Array.getElem?_eq_some_iff.1 hbl).1
  have HBL := Lib.hid hbl
  have H1 := Lib.hid (h.fr hF)
  obtain ⟨l1, hl1⟩ : ∃ l, c.lock.1 = l := ⟨_, rfl⟩
  obtain ⟨l2, hl2⟩ : ∃ l, c.lock.2 = l := ⟨_, rfl⟩
  obtain ⟨mr, hmr⟩ : ∃ r, mostR c.st c.m 4 q2 = r := ⟨_, rfl⟩
  have HS : Hid (∀ W', Fr [] W W' → W'.cell? ⟨p, 9, none⟩ = some (.pointer (some ⟨a.pt, 0, none⟩)) ∧ W'.cell? ⟨p, 12, none⟩ = some (.int .i64 l1) ∧ W'.cell? ⟨p, 13, none⟩ = some (.int .i64 l2) ∧ W'.cell? ⟨g, 0, none⟩ = some (.int .i64 q1) ∧ W'.cell? ⟨g, 1, none⟩ = some (.int .i64 q2)) := fun W' hW' => by
    have h2 := H1.out.fr hW'
    have h3 : W'.heap[g]? = some (.cells #[.int .i64 q1, .int .i64 q2] 74 (0, 0)) := (hW'.block g hlt (by simp)).trans HBL.out
    exact ⟨h2.cells 9, by rw [← hl1]; exact h2.cells 12, by rw [← hl2]; exact h2.cells 13, cell_of h3 0, cell_of h3 1⟩
  have HM : Hid (∀ W', Fr [] W W' → Calls Tryz.prog 52 #[.pointer (some ⟨a.pt, 0, none⟩), .int .i64 4, .int .i64 q2] W' fun e w' => e = .returned (.tuple #[.int .i64 mr.1, .bool mr.2]) ∧ Fr [] W' w') := fun W' hW' => by
    have := zMost ((H1.out.fr hW').tz hst hm) 4 q2 (by decide) hq
    rw [hmr] at this
    exact this
  have hJ : c.judge (q1, q2) = if q2 = -1 then (if l2 = -1 ∨ l1 = q1 then (q1, true) else (-1, true)) else if mr.2 = true ∧ mr.1 = q1 then (if l2 ≤ q2 ∨ l1 = q1 then (q1, true) else (-1, true)) else (0, false) := by
    unfold Co.judge
    simp only [hl1, hl2, hmr]
  rw [hJ]
  obtain ⟨m1, m2⟩ := mr
  simp only at HM
  simp only
  have HF := Lib.hid hF
  have hS0 := HS.out _ (Fr.refl _ _)
  obtain ⟨s0, s1, s2, s3, s4⟩ := hS0
  refine calls_k fun R hR => ?_
  clear h hF hbl hl1 hl2 hmr hJ hq hlt
  by_cases hq2 : q2 = -1
  · subst hq2
    by_cases hll : l2 = -1
    · subst hll
      go_enter Tryz.func53, Tryz.ntmps53
      go_upto_region 1 with (fail)
      rw [← hW, ← hg]
      clear hW hg
      go_upto_region 7 with (fail)
      go_quiet (fail)
      go_wp2
      refine hR.out _ _ ⟨?_, HF.out.drewN _⟩
      simp
    · have b1 : (l2 == -1) = false := by simpa using hll
      by_cases hl1 : l1 = q1
      · have b2 : (l1 == q1) = true := by simpa using hl1
        go_enter Tryz.func53, Tryz.ntmps53
        go_upto_region 1 with (fail)
        rw [← hW, ← hg]
        clear hW hg
        go_upto_region 7 with (fail)
        go_quiet (fail)
        go_wp2
        refine hR.out _ _ ⟨?_, HF.out.drewN _⟩
        simp [hl1]
      · have b2 : (l1 == q1) = false := by simpa using hl1
        go_enter Tryz.func53, Tryz.ntmps53
        go_upto_region 1 with (fail)
        rw [← hW, ← hg]
        clear hW hg
        go_upto_region 7 with (fail)
        go_quiet (fail)
        go_wp2
        refine hR.out _ _ ⟨?_, HF.out.drewN _⟩
        simp [hl1, hll]
  · have b1 : (l2 == -1) = decide (l2 = -1) := by by_cases e : l2 = -1 <;> simp [e]
    have b0 : (q2 != -1) = true := by simpa using hq2
    cases m2 with
    | false =>
      go_enter Tryz.func53, Tryz.ntmps53
      go_upto_region 1 with (fail)
      rw [← hW, ← hg]
      clear hW hg
      go_upto_region 3 with (fail)
      have HF0 : Hid (Fr [] W W.drew) := (Fr.refl _ _).drew
      have hS1 := HS.out _ HF0.out
      clear s0 s1 s2 s3 s4
      go_region_held3 (fun W => W.cell? ⟨p, 9, none⟩ = some (.pointer (some ⟨a.pt, 0, none⟩)) ∧ W.cell? ⟨p, 12, none⟩ = some (.int .i64 l1) ∧ W.cell? ⟨p, 13, none⟩ = some (.int .i64 l2) ∧ W.cell? ⟨g, 0, none⟩ = some (.int .i64 q1) ∧ W.cell? ⟨g, 1, none⟩ = some (.int .i64 q2)) (with_reducible assumption)
        (first
          | (go_at_call 52; refine (HM.out _ HF0.out).mono ?_; rintro e w3 ⟨rfl, hf3⟩
             have hS3 := HS.out _ (HF0.out.trans hf3 (by simp))
             have HF3 := Lib.hid (HF.out.trans (HF0.out.trans hf3 (by simp)) (by simp))
             clear hf3 HM))
      all_goals (obtain ⟨s0, s1, s2, s3, s4⟩ := hS3)
      all_goals (clear hS1 HS)
      all_goals
        go_wp2
        refine hR.out _ _ ⟨?_, HF3.out⟩
        simp [hq2]
    | true =>
      by_cases hm1 : m1 = q1
      · have b2 : (m1 != q1) = false := by simpa using hm1
        by_cases hle : l2 ≤ q2
        · have b3 : decide (l2 ≤ q2) = true := decide_eq_true hle
          go_enter Tryz.func53, Tryz.ntmps53
          go_upto_region 1 with (fail)
          rw [← hW, ← hg]
          clear hW hg
          go_upto_region 3 with (fail)
          have HF0 : Hid (Fr [] W W.drew) := (Fr.refl _ _).drew
          have hS1 := HS.out _ HF0.out
          clear s0 s1 s2 s3 s4
          go_region_held3 (fun W => W.cell? ⟨p, 9, none⟩ = some (.pointer (some ⟨a.pt, 0, none⟩)) ∧ W.cell? ⟨p, 12, none⟩ = some (.int .i64 l1) ∧ W.cell? ⟨p, 13, none⟩ = some (.int .i64 l2) ∧ W.cell? ⟨g, 0, none⟩ = some (.int .i64 q1) ∧ W.cell? ⟨g, 1, none⟩ = some (.int .i64 q2)) (with_reducible assumption)
            (first
              | (go_at_call 52; refine (HM.out _ HF0.out).mono ?_; rintro e w3 ⟨rfl, hf3⟩
                 have hS3 := HS.out _ (HF0.out.trans hf3 (by simp))
                 have HF3 := Lib.hid (HF.out.trans (HF0.out.trans hf3 (by simp)) (by simp))
                 clear hf3 HM))
          all_goals (obtain ⟨s0, s1, s2, s3, s4⟩ := hS3)
          all_goals (clear hS1 HS)
          all_goals
            go_upto_region 6 with (fail)
            go_quiet (fail)
            go_upto_region 7 with (fail)
            go_quiet (fail)
            go_wp2
            refine hR.out _ _ ⟨?_, by first | exact HF3.out.drewN _ | exact (HF3.out.drewN _).drewN _⟩
            simp [hq2, hm1, hle]
        · have b3 : decide (l2 ≤ q2) = false := decide_eq_false hle
          by_cases hl1 : l1 = q1
          · have b4 : (l1 == q1) = true := by simpa using hl1
            go_enter Tryz.func53, Tryz.ntmps53
            go_upto_region 1 with (fail)
            rw [← hW, ← hg]
            clear hW hg
            go_upto_region 3 with (fail)
            have HF0 : Hid (Fr [] W W.drew) := (Fr.refl _ _).drew
            have hS1 := HS.out _ HF0.out
            clear s0 s1 s2 s3 s4
            go_region_held3 (fun W => W.cell? ⟨p, 9, none⟩ = some (.pointer (some ⟨a.pt, 0, none⟩)) ∧ W.cell? ⟨p, 12, none⟩ = some (.int .i64 l1) ∧ W.cell? ⟨p, 13, none⟩ = some (.int .i64 l2) ∧ W.cell? ⟨g, 0, none⟩ = some (.int .i64 q1) ∧ W.cell? ⟨g, 1, none⟩ = some (.int .i64 q2)) (with_reducible assumption)
              (first
                | (go_at_call 52; refine (HM.out _ HF0.out).mono ?_; rintro e w3 ⟨rfl, hf3⟩
                   have hS3 := HS.out _ (HF0.out.trans hf3 (by simp))
                   have HF3 := Lib.hid (HF.out.trans (HF0.out.trans hf3 (by simp)) (by simp))
                   clear hf3 HM))
            all_goals (obtain ⟨s0, s1, s2, s3, s4⟩ := hS3)
            all_goals (clear hS1 HS)
            all_goals
              go_upto_region 6 with (fail)
              go_quiet (fail)
              go_upto_region 7 with (fail)
              go_quiet (fail)
              go_wp2
              refine hR.out _ _ ⟨?_, by first | exact HF3.out.drewN _ | exact (HF3.out.drewN _).drewN _⟩
              simp [hq2, hm1, hl1, if_neg (Int.not_le.2 hle)]
          · have b4 : (l1 == q1) = false := by simpa using hl1
            go_enter Tryz.func53, Tryz.ntmps53
            go_upto_region 1 with (fail)
            rw [← hW, ← hg]
            clear hW hg
            go_upto_region 3 with (fail)
            have HF0 : Hid (Fr [] W W.drew) := (Fr.refl _ _).drew
            have hS1 := HS.out _ HF0.out
            clear s0 s1 s2 s3 s4
            go_region_held3 (fun W => W.cell? ⟨p, 9, none⟩ = some (.pointer (some ⟨a.pt, 0, none⟩)) ∧ W.cell? ⟨p, 12, none⟩ = some (.int .i64 l1) ∧ W.cell? ⟨p, 13, none⟩ = some (.int .i64 l2) ∧ W.cell? ⟨g, 0, none⟩ = some (.int .i64 q1) ∧ W.cell? ⟨g, 1, none⟩ = some (.int .i64 q2)) (with_reducible assumption)
              (first
                | (go_at_call 52; refine (HM.out _ HF0.out).mono ?_; rintro e w3 ⟨rfl, hf3⟩
                   have hS3 := HS.out _ (HF0.out.trans hf3 (by simp))
                   have HF3 := Lib.hid (HF.out.trans (HF0.out.trans hf3 (by simp)) (by simp))
                   clear hf3 HM))
            all_goals (obtain ⟨s0, s1, s2, s3, s4⟩ := hS3)
            all_goals (clear hS1 HS)
            all_goals
              go_upto_region 6 with (fail)
              go_quiet (fail)
              go_upto_region 7 with (fail)
              go_quiet (fail)
              go_wp2
              refine hR.out _ _ ⟨?_, by first | exact HF3.out.drewN _ | exact (HF3.out.drewN _).drewN _⟩
              simp [hq2, hm1, hl1, if_neg (Int.not_le.2 hle)]
      · have b2 : (m1 != q1) = true := by simpa using hm1
        go_enter Tryz.func53, Tryz.ntmps53
        go_upto_region 1 with (fail)
        rw [← hW, ← hg]
        clear hW hg
        go_upto_region 3 with (fail)
        have HF0 : Hid (Fr [] W W.drew) := (Fr.refl _ _).drew
        have hS1 := HS.out _ HF0.out
        clear s0 s1 s2 s3 s4
        go_region_held3 (fun W => W.cell? ⟨p, 9, none⟩ = some (.pointer (some ⟨a.pt, 0, none⟩)) ∧ W.cell? ⟨p, 12, none⟩ = some (.int .i64 l1) ∧ W.cell? ⟨p, 13, none⟩ = some (.int .i64 l2) ∧ W.cell? ⟨g, 0, none⟩ = some (.int .i64 q1) ∧ W.cell? ⟨g, 1, none⟩ = some (.int .i64 q2)) (with_reducible assumption)
          (first
            | (go_at_call 52; refine (HM.out _ HF0.out).mono ?_; rintro e w3 ⟨rfl, hf3⟩
               have hS3 := HS.out _ (HF0.out.trans hf3 (by simp))
               have HF3 := Lib.hid (HF.out.trans (HF0.out.trans hf3 (by simp)) (by simp))
               clear hf3 HM))
        all_goals (obtain ⟨s0, s1, s2, s3, s4⟩ := hS3)
        all_goals (clear hS1 HS)
        all_goals
          go_wp2
          refine hR.out _ _ ⟨?_, HF3.out⟩
          simp [hq2, hm1]
end
end Go.Np.Tryz
end
section
set_option linter.unusedVariables false
set_option linter.unusedSimpArgs false
namespace Go.Np.Tryz
open Go.RowKit Go.Proofs Go.Shelf Go.Lib
attribute [local go_sem] Oper.semAt_some
def valQ (q : Int × Value) : Int := match q.2 with | .int _ v => v | _ => 0
theorem valQ_int (x z : Int) : valQ (x, Value.int .i64 z) = z := rfl
set_option maxRecDepth 100000 in
set_option maxHeartbeats 2000000 in
theorem vq_keys1_in (F : Fence) (n : Nat) (h7 : F.fn 81) (hro : F.round = none) (hn : 1 ≤ n) (l Bm b : Nat) (mm : List (Int × Value)) (hv : ∀ q ∈ mm, q.2 = Value.int .i64 (valQ q)) (J Jx : List Int → World → Prop)
    (hY : ∀ pre x W, J pre W → pre.length < mm.length → YieldAt F (n - 1) Tryz.prog l #[.int .i64 x] W fun e W' =>
      (e = .returned (.bool true) ∧ J (pre ++ [x]) W' ∧ KeepsWalks W W') ∨ (e = .returned (.bool false) ∧ Jx (pre ++ [x]) W'))
    (W : World) (hJ : AbidesFrom W.heap.size J) (hm : W.cell? ⟨Bm, 0, none⟩ = some (.map (some b))) (hM : MapIs keyE W b mm) (h0 : J [] W) :
    CallsIn F n Tryz.prog 81 #[.func (.yield l) #[] #[], .pointer (some ⟨Bm, 0, none⟩)] W fun e W' => (∃ v, e = .returned v) ∧
      ((∃ ys, ys.Perm (mm.map valQ) ∧ J ys W') ∨ (∃ pre : List Int, Jx pre W')) := by
  obtain ⟨ob, hranges, hI⟩ := IterIs.begin (P := Tryz.prog) (k := 3) hM
  have hrange := hranges 72 3 Tryz.underlying72
  clear hranges
  have hJ0 : J [] (W.alloc ob) := hJ [] W _ none h0 (World.grownBy_alloc W ob none) (fun r e => by cases e)
  have hsz0 : W.heap.size ≤ (W.alloc ob).heap.size := by simp
  obtain ⟨r, hr⟩ : ∃ r, r = W.heap.size := ⟨_, rfl⟩
  obtain ⟨W2, hW2⟩ : ∃ W2, W2 = W.alloc ob := ⟨_, rfl⟩
  rw [← hr, ← hW2] at hrange hI
  rw [← hW2] at hJ0
  have hrr : W.heap.size ≤ r := Nat.le_of_eq hr.symm
  clear hr hW2 hsz0
  have HI := Lib.hid hI
  clear hI
  refine callsIn_of_wp Tryz.func81 rfl h7 ?_ hro
  simp only [Tryz.ntmps81, List.size_toArray, List.length_cons, List.length_nil, Nat.reduceAdd, Nat.reduceSub, Array.replicate_succ, Array.replicate_zero, List.push_toArray, List.append_toArray, List.nil_append, List.cons_append]
  gi_wp2
  clear hrange hm
  gi_loopg [4] mm.length (fun gn _ wr => ∃ (left : List (Int × Value)) (ss : List Int), gn = left.length ∧ Hid (IterIs keyE wr r b left) ∧ ss.length + left.length = mm.length ∧ Hid ((ss ++ left.map valQ).Perm (mm.map valQ)) ∧ Hid (J ss wr) ∧ Hid (∀ q ∈ left, q.2 = Value.int .i64 (valQ q)))
  case atStart => exact ⟨mm, [], rfl, HI, by simp, by show List.Perm _ _; simp, hJ0, hv⟩
  case round =>
    obtain ⟨left, ss, rfl, HIr, hlen, HP, HJ, HV⟩ := hrel
    rcases HIr.out.run_next (P := Tryz.prog) 0 with ⟨rfl, hnext⟩ | ⟨l1, x, y, l2, w', rfl, hnext, hI', hF', hsz', hentry⟩
    · gi_wp2
      go_end0
      exact ⟨⟨_, rfl⟩, .inl ⟨ss, by simpa using HP.out, HJ.out⟩⟩
    · obtain ⟨z, rfl⟩ : ∃ z, y = Value.int .i64 z := ⟨_, HV.out (x, y) (by simp)⟩
      have HV2 : Hid (∀ q ∈ l1 ++ l2, q.2 = Value.int .i64 (valQ q)) := fun q hq => HV.out q (by rcases List.mem_append.1 hq with h | h <;> simp [h])
      have hJ2 : J ss w' := hJ ss wr w' (some r) HJ.out (grown_fr hF') (fun r' e => by cases e; exact ⟨hrr, iter_walk HIr.out⟩)
      obtain ⟨fn, tmps, assign, body, hy, hR⟩ := hY ss z w' hJ2 (by simp at hlen; omega)
      have HI' := Lib.hid hI'
      have HR := Lib.hid hR
      have hl2 : (l1 ++ l2).length < (l1 ++ (x, Value.int .i64 z) :: l2).length := by simp
      have hl3 : (ss ++ [z]).length + (l1 ++ l2).length = mm.length := by simp at hlen ⊢; omega
      have hp3 : ((ss ++ [z]) ++ (l1 ++ l2).map valQ).Perm (mm.map valQ) := by
        refine List.Perm.trans ?_ HP.out
        simp only [List.map_append, List.map_cons, List.append_assoc, List.singleton_append, valQ_int]
        exact List.Perm.append_left _ List.perm_middle.symm
      have HP3 := Lib.hid hp3
      clear hp3 hI' hR hF' hsz' hJ2 HJ HP HIr hlen HV
      gi_wp2
      refine HR.out.mono ?_
      rintro e W3 (⟨rfl, hJ3, hk3⟩ | ⟨rfl, hJx3⟩)
      · gi_wp2
        go_roundg (l1 ++ l2).length
        case measure => exact hl2
        case rel => exact ⟨l1 ++ l2, ss ++ [z], rfl, iter_keeps HI'.out hk3, hl3, HP3, hJ3, HV2⟩
      · gi_wp2
        refine bodyPost_ret (results_none rfl _ _ _) rfl ?_
        exact ⟨⟨_, rfl⟩, .inr ⟨ss ++ [z], hJx3⟩⟩
theorem vq_stops (F : Fence) (n : Nat) (h7 : F.fn 81) (hro : F.round = none) (hn : 1 ≤ n) (Bm b : Nat) (mm : List (Int × Value)) (hv : ∀ q ∈ mm, q.2 = Value.int .i64 (valQ q)) (w : World) (hBs : Bm < w.heap.size)
    (hc : w.cell? ⟨Bm, 0, none⟩ = some (.map (some b))) (hM : MapIs keyE w b mm) :
    SeqStopsK F n Tryz.prog 81 #[.pointer (some ⟨Bm, 0, none⟩)] (fun x : Int => #[Value.int .i64 x]) KeepsWalks (fun ys => ys.Perm (mm.map valQ)) (fun _ => True) mm.length w := fun l J Jx W hW hJ _ hY h0 => by
  have hbl : b < w.heap.size := by obtain ⟨es, cl, g, _⟩ := hM; exact (Array.getElem?_eq_some_iff.1 g).1
  refine (vq_keys1_in F n h7 hro hn l Bm b mm hv J Jx hY W hJ ((hW.cell (p := ⟨Bm, 0, none⟩) hBs).trans hc) (hM.move (hW.block b hbl)) h0).mono ?_
  rintro e W' ⟨he, h | ⟨pre, hj⟩⟩
  · exact ⟨he, .inl h⟩
  · exact ⟨he, .inr ⟨pre, trivial, hj⟩⟩
set_option maxRecDepth 100000 in
set_option maxHeartbeats 2000000 in
theorem vq_appendSeq_in (Bm b : Nat) (mm : List (Int × Value)) (hv : ∀ q ∈ mm, q.2 = Value.int .i64 (valQ q)) (hreach : mm.length * 8 ≤ 140737488351232) (w : World) (hBs : Bm < w.heap.size) (hc : w.cell? ⟨Bm, 0, none⟩ = some (.map (some b))) (hM : MapIs keyE w b mm) :
    CallsIn Fence.wide 6 Tryz.prog 90 #[.slice none 0 0, .func (.func 81) #[] #[.pointer (some ⟨Bm, 0, none⟩)]] w fun e W' => ∃ (v : Value) (ys : List Int), e = .returned v ∧ ys.Perm (mm.map valQ) ∧ W'.ownsRow w.heap.size 3 1 v ys.length (ys.map (Value.int .i64)) ∧ Below w.heap.size w W' := by
  have hlen : mm.length ≤ maxLen := by unfold maxLen; omega
  have hbytes : mm.length * 8 ≤ 140737488355328 := by omega
  obtain ⟨i0, hi, hz0, hz1, hz2⟩ := info_parts infoZ
  refine callsIn_of_wp_marks Tryz.func90 rfl trivial ?_ rfl
  simp only [Tryz.ntmps90, List.size_toArray, List.length_cons, List.length_nil, Nat.reduceAdd, Nat.reduceSub, Array.replicate_succ, Array.replicate_zero, List.push_toArray, List.append_toArray, List.nil_append, List.cons_append]
  gi_wp2
  have bO := Boxed.new w 22 (.slice none 0 0)
  have hB0 : Below w.heap.size w (w.alloc (.cells #[.slice none 0 0] 22)) := (Below.refl _ w).alloc (Nat.le_refl _) _
  refine wpIn_rangeFunc_ownG rfl (by omega) (gf := 81) (lb := #[.pointer (some ⟨Bm, 0, none⟩)]) rfl trivial (enters_of Tryz.func81 (by kernel_rfl) rfl)
    (vq_stops Fence.wide 5 trivial rfl (by omega) Bm b mm hv (w.alloc (.cells #[.slice none 0 0] 22)) (by simp; omega) ((hB0.cell (p := ⟨Bm, 0, none⟩) hBs).trans hc) (hM.alloc _)) walksK_t (fun W l o o' => walksK_b (w := w) W l o o' ∘ (fun h => by simp at h; omega)) (Below.refl _ _) (fun _ => rfl)
    (fun pre W => (∃ v, Boxed W w.heap.size 22 v ∧ W.ownsRow w.heap.size 3 1 v pre.length (pre.map (Value.int .i64)) ∧ (v = .slice none 0 0 ↔ pre = [])) ∧ Below w.heap.size w W)
    (fun _ _ _ => False)
    (OwnFrom.and (Own.from (holdsRow_own w.heap.size w.heap.size 22 3 1 (fun pre => pre.length) (fun pre => pre.map (Value.int .i64)) (fun pre v => v = .slice none 0 0 ↔ pre = [])) _) (ownFrom_below (Nat.le_refl _) (by simp)))
    (fun _ _ _ _ _ hs _ _ => hs)
    ⟨⟨_, bO, World.ownsRow_nil _ _ _ _, by simp⟩, hB0⟩
    (fun x => { tmps := #[.slice none 0 0, .func (.func 81) #[] #[.pointer (some ⟨Bm, 0, none⟩)], .pointer (some ⟨w.heap.size, 0, none⟩), undef, .slice none 0 0, .int .i64 x, .func (.func 81) #[] #[.pointer (some ⟨Bm, 0, none⟩)], .int .i64 x, undef, undef, undef, undef, undef], defers := [] }) ?assign ?body ?done ?stop
  case assign =>
    intro l x W K hK
    gi_wp2
    exact hK
  case body =>
    rintro l pre x W ⟨⟨v, hv, hrow, hnil⟩, hB⟩ hlt
    have hc := hv.cell
    gi_wp2_with (gi_at_builtin; refine wpListIn_append_own _ rfl _ _ 22 rfl w.heap.size 3 i0 (.int .i64 0) 1 8 Tryz.underlying22 hi hz0 hz1 hz2 rfl (by decide) _ _ _ rfl (hrow.alloc _) ⟨W.heap.size, 0, none⟩ 1 1 [.int .i64 x] rfl rfl (cell_one_new _ _ _) (by simp [Value.oneCell']) (by omega) (by omega) (by have := hB.size; simp; omega) ?_; intro v' w1 hown' hgrow _; obtain ⟨g', cap', rfl⟩ := ownsRow_succ hown'; obtain ⟨hv1, hv2, hr2, hk2, hb2⟩ := hv.appended (by decide) hrow hB.size (Nat.le_refl _) hown' hgrow; have hc1 := hv1.cell; have hf1 := hv1.frozen)
    exact ⟨hk2.from _, ⟨hk2.size, fun k o ho hw => hk2.same k o ho (Obj.not_cells_of_walk hw)⟩, ⟨_, hv2, by simpa using hr2, by simp⟩, hB.trans hb2⟩
  case done =>
    rintro D ys W hD hperm ⟨⟨v, hv, hrow, hnil⟩, hB⟩ hK
    have hc := hv.cell
    gi_wp2
    refine ⟨by simp, .inl ⟨_, _, rfl, run_takeDeferred hK, ?_⟩⟩
    exact ⟨_, results_tmp rfl _ _ _, v, ys, rfl, hperm, ownsRow_putObj hrow _ hK rfl, hB.trans (belowK_b (w := w) (Nat.le_refl _) W D _ _ (by simp at hD; omega) hK rfl rfl)⟩
  case stop =>
    rintro D c pre W _ _ h _
    exact h.elim
set_option maxHeartbeats 1000000 in
theorem vq_keys_in (F : Fence) (n : Nat) (h5 : F.fn 66) (hro : F.round = none) (b : Nat) (w : World) :
    CallsIn F n Tryz.prog 66 #[.map (some b)] w fun e w' => e = .returned (.func (.func 81) #[] #[.pointer (some ⟨w.heap.size, 0, none⟩)]) ∧ w' = w.alloc (.cells #[.map (some b)] 72) := by
  refine callsIn_of_wp Tryz.func66 rfl h5 ?_ hro
  simp only [Tryz.ntmps66, List.size_toArray, List.length_cons, List.length_nil, Nat.reduceAdd, Nat.reduceSub, Array.replicate_succ, Array.replicate_zero, List.push_toArray, List.append_toArray, List.nil_append, List.cons_append]
  gi_wp2
  go_ret
  exact ⟨rfl, rfl⟩
set_option maxHeartbeats 1000000 in
set_option maxRecDepth 100000 in
theorem vq_collect {w : World} (Bm b : Nat) (mm : List (Int × Value)) (hv : ∀ q ∈ mm, q.2 = Value.int .i64 (valQ q)) (hreach : mm.length * 8 ≤ 140737488351232) (hBs : Bm < w.heap.size) (hc : w.cell? ⟨Bm, 0, none⟩ = some (.map (some b))) (hM : MapIs keyE w b mm) :
    Calls Tryz.prog 79 #[.func (.func 81) #[] #[.pointer (some ⟨Bm, 0, none⟩)]] w fun e W' => ∃ (v : Value) (ys : List Int), e = .returned v ∧ ys.Perm (mm.map valQ) ∧ W'.ownsRow w.heap.size 3 1 v ys.length (ys.map (Value.int .i64)) ∧ Below w.heap.size w W' := by
  have HA := Lib.hid ((callsIn_wide (n := 6)).1 (vq_appendSeq_in Bm b mm hv hreach w hBs hc hM))
  refine calls_k fun R hR => ?_
  clear hM hc
  go_enter Tryz.func79, Tryz.ntmps79
  go_wp2_with (go_at_call 90; refine HA.out.mono ?_; rintro e w1 ⟨v, ys, rfl, h1, h2, h3⟩)
  exact hR.out _ _ ⟨v, ys, rfl, h1, h2, h3⟩
theorem sorted_ext : ∀ (l k : List Int), l.Pairwise (· ≤ ·) → k.Pairwise (· ≤ ·) → l.Perm k → l = k := by
  intro l
  induction l with
  | nil => intro k _ _ h; exact (List.nil_perm.1 h).symm
  | cons x l ih =>
    intro k hl hk h
    cases k with
    | nil => exact absurd h.symm (by simp)
    | cons y k =>
      rw [List.pairwise_cons] at hl hk
      have e : x = y := by
        rcases List.mem_cons.1 (h.subset (List.mem_cons_self ..)) with e | e
        · exact e
        · rcases List.mem_cons.1 (h.symm.subset (List.mem_cons_self ..)) with e2 | e2
          · exact e2.symm
          · exact Int.le_antisymm (hl.1 _ e2) (hk.1 _ e)
      subst e
      rw [ih k hl.2 hk.2 (List.Perm.cons_inv h)]
theorem ms_perm {l k : List Int} (h : l.Perm k) : (l.mergeSort fun x y => decide (x ≤ y)) = k.mergeSort fun x y => decide (x ≤ y) :=
  sorted_ext _ _ (sorted_ms l) (sorted_ms k) (((List.mergeSort_perm l _).trans h).trans (List.mergeSort_perm k _).symm)
set_option maxHeartbeats 1000000 in
set_option maxRecDepth 100000 in
theorem vq_sorted {w : World} (Bm b : Nat) (mm : List (Int × Value)) (hv : ∀ q ∈ mm, q.2 = Value.int .i64 (valQ q)) (hreach : mm.length * 8 ≤ 140737488351232) (hBs : Bm < w.heap.size) (hc : w.cell? ⟨Bm, 0, none⟩ = some (.map (some b))) (hM : MapIs keyE w b mm) :
    Calls Tryz.prog 65 #[.func (.func 81) #[] #[.pointer (some ⟨Bm, 0, none⟩)]] w fun e W' => ∃ v, e = .returned v ∧ OwnI w.heap.size W' v ((mm.map valQ).mergeSort fun x y => decide (x ≤ y)) ∧ Fr [] w W' := by
  have HA := Lib.hid (vq_collect Bm b mm hv hreach hBs hc hM)
  have HND : Hid (∀ ys : List Int, ys.Perm (mm.map valQ) → ys.length = mm.length ∧ (ys.mergeSort fun x y => decide (x ≤ y)) = ((mm.map valQ).mergeSort fun x y => decide (x ≤ y))) := fun ys hp => ⟨by simpa using hp.length_eq, ms_perm hp⟩
  refine calls_k fun R hR => ?_
  clear hM hc
  go_enter Tryz.func65, Tryz.ntmps65
  go_wp2_with (first
    | (go_at_call 79; refine HA.out.mono ?_; rintro e w1 ⟨v, ys, rfl, hp, h1, h2⟩; obtain ⟨n1, n2⟩ := HND.out ys hp; have HS := Lib.hid (sort_own h1 (by omega)); rw [n2] at HS; have H2 := Lib.hid h2; clear h1 h2 hp n1 n2)
    | (go_at_call 80; refine HS.out.mono ?_; rintro e w2 ⟨rfl, h3, h4⟩))
  exact hR.out _ _ ⟨v, rfl, OwnI.of_base h3, Fr.of_below [] (H2.out.grown h4 H2.out.size (fun k hk => Go.Proofs.YtgfiglcmhlbjjaaGreatW.PrintWords.own_base h3 k hk))⟩
end Go.Np.Tryz
end
