/- What CheckTold needs. -/
import Derived.Test.YtgfiglcmhlbjjaaGreatQCheckToldCkG
import Derived.WalkMore
set_option linter.unusedVariables false
set_option linter.unusedSimpArgs false
namespace Go.Np.Tryz
open Go.RowKit Go.Proofs Go.Proofs.YtgfiglcmhlbjjaaGreat.PX Go.Proofs.YtgfiglcmhlbjjaaGreatW.PrintWords
theorem ex_frame {F : (Nat → Value) → Act} (a : Act) (h : a = F (fun i => a.tmps.getD i undef)) : ∃ u, a = F u := ⟨_, h⟩
section
variable {X : Nat → Prop} {w w' w1 : World} {p : Nat} {c c' : Co} {a a' : Pl}
set_option maxHeartbeats 8000000 in
set_option maxRecDepth 100000 in
theorem c_settle (h : CoIn X w p c a) (hX : ∀ k, X k → k < w.heap.size) (hok : c.Ok) (hwf : c.Wf) (ho : c.out.length ≤ 1000000) {A : Option Addr} {dn : Nat} {known : List Int} (hkn : ∀ W, FrX X w W → (Kd.int .i64).C W A known.length known) :
    Calls Tryz.prog 33 #[.pointer (some ⟨p, 0, none⟩), .slice A known.length dn] w fun e w' => e = .returned (.tuple #[]) ∧ ∃ c', Co.Settles known c c' ∧ CoAt X w' p c' ∧ FrX X w w' := by
  obtain ⟨W1, hW1⟩ : ∃ W1, W1 = w.alloc (.cells #[.slice A known.length dn] 22) := ⟨_, rfl⟩
  obtain ⟨bx, hbx⟩ : ∃ bx, bx = w.heap.size := ⟨_, rfl⟩
  have hF1 : Fr [] w W1 := by rw [hW1]; exact (Fr.refl _ _).alloc _
  have hb1 : W1.heap[bx]? = some (.cells #[.slice A known.length dn] 22 (0, 0)) := by rw [hW1, hbx]; exact heap_alloc_new _ _
  obtain ⟨X1, hX1⟩ : ∃ X1 : Nat → Prop, X1 = fun k => X k ∨ k = bx := ⟨_, rfl⟩
  have h1 := h.fr hF1
  have H1 : Hid (CoIn X1 W1 p c a) := ⟨h1.box, h1.tal, h1.st, h1.tst, h1.dec, h1.out, h1.vts, h1.prs, h1.sds, h1.nd, fun k hk hx => by
    rw [hX1] at hx
    rcases hx with hx | hx
    · exact h.nX k hk hx
    · have := h.lt k hk; omega⟩
  have HX1 : Hid (∀ k, X1 k → k < W1.heap.size) := fun k hk => by
    rw [hX1] at hk
    have h2 := (Array.getElem?_eq_some_iff.1 hb1).1
    rcases hk with hk | hk
    · exact Nat.lt_of_lt_of_le (hX k hk) hF1.size
    · omega
  have HKN : Hid (∀ W v, FrX X1 W1 W → Calls Tryz.prog 48 #[.int .i64 v, .pointer (some ⟨bx, 0, none⟩)] W fun e w' => e = .returned (.bool (knowsB known v)) ∧ w' = W) := fun W v hW => by
    have e1 : W.heap[bx]? = some (.cells #[.slice A known.length dn] 22 (0, 0)) := (hW.block (Array.getElem?_eq_some_iff.1 hb1).1 (by rw [hX1]; exact .inr rfl)).trans hb1
    exact knows_calls (hkn W ((FrX.of0 hF1).trans (hW.weak (fun k hk => by rw [hX1]; exact .inl hk)))) (cell_of e1 0) v
  have HEND : Hid (∀ W d, CoAt X1 W p d → FrX X1 W1 W → CoAt X W p d ∧ FrX X w W) := fun W d hd hf => by
    obtain ⟨b, hd⟩ := hd
    refine ⟨⟨b, hd.x (fun k _ hk => by rw [hX1]; exact .inl hk)⟩, (FrX.of0 hF1).trans (hf.weak (fun k hk => by rw [hX1]; exact .inl hk))⟩
  have HO : Hid (c.out.length + c.mu ≤ 11014018) := by have := hok.mu_le; show _ ≤ _; omega
  have HOK := Lib.hid hok
  have HWF := Lib.hid hwf
  obtain ⟨nk, hnk⟩ : ∃ n, known.length = n := ⟨_, rfl⟩
  rw [hnk] at hW1
  rw [hnk]
  refine calls_k fun R hR => ?_
  clear h h1 hX hok hwf ho hkn hF1 hb1 hX1 hnk
  go_enter Tryz.func33, Tryz.ntmps33
  go_upto_region 2 with (fail)
  rw [← hW1, ← hbx]
  clear hW1 hbx
  obtain ⟨J, hJ⟩ : ∃ J : Nat → Act → World → Prop, J = fun n a' w' => ∃ (cc : Co) (b : Pl), n = cc.mu ∧ (∃ (u : Nat → Value), a' = { tmps := #[.pointer (some ⟨p, 0, none⟩), .slice A nk dn, u 2, .pointer (some ⟨bx, 0, none⟩), .func (.func 48) #[] #[.pointer (some ⟨bx, 0, none⟩)], u 5, u 6, u 7, u 8, u 9, u 10, u 11, u 12, u 13, u 14, u 15, u 16, u 17, u 18, u 19, u 20, u 21, u 22, u 23, u 24, u 25, u 26, u 27, u 28, u 29, u 30, u 31, u 32, u 33, u 34, u 35, u 36, u 37, u 38, u 39, u 40, u 41, u 42, u 43, u 44, u 45, u 46, u 47, u 48, u 49, u 50, u 51, u 52, u 53, u 54, u 55, u 56, u 57, u 58, u 59, u 60, u 61, u 62, u 63, u 64, u 65, u 66, u 67, u 68, u 69, u 70, u 71, u 72, u 73, u 74, u 75, u 76, u 77, u 78, u 79, u 80, u 81, u 82, u 83, u 84, u 85, u 86, u 87, u 88, u 89, u 90, u 91, u 92, u 93, u 94, u 95, u 96, u 97, u 98, u 99, u 100, u 101, u 102, u 103, u 104, u 105, u 106, u 107, u 108, u 109, u 110, u 111, u 112, u 113, u 114, u 115, u 116, u 117, u 118, u 119, u 120, u 121, u 122, u 123, u 124, u 125, u 126, u 127, u 128, u 129, u 130, u 131, u 132, u 133, u 134, u 135, u 136, u 137, u 138, u 139, u 140, u 141, u 142, u 143, u 144, u 145, u 146, u 147, u 148, u 149, u 150, u 151, u 152, u 153, u 154, u 155, u 156, u 157, u 158, u 159, u 160, u 161, u 162, u 163, u 164, u 165, u 166, u 167, u 168, u 169, u 170, u 171, u 172, u 173, u 174, u 175, u 176, u 177, u 178, u 179, u 180, u 181, u 182, u 183, u 184, u 185, u 186, u 187, u 188, u 189, u 190, u 191, u 192, u 193, u 194, u 195, u 196, u 197], defers := [] }) ∧ CoIn X1 w' p cc b ∧ cc.Ok ∧ cc.Wf ∧ FrX X1 W1 w' ∧ (∀ d, Co.Settles known cc d → Co.Settles known c d) ∧ cc.out.length + cc.mu ≤ 11014018 := ⟨_, rfl⟩
  have HJ := Lib.hid hJ
  clear hJ
  refine wp_scope_jumpsG3 0 J rfl ?_ ?_
  · intro n a' w' hj
    rw [HJ.out] at hj
    obtain ⟨cc, b, rfl, ⟨u, rfl⟩, h2, hok, hwf, hfx, hst, ho⟩ := hj
    have HIN := Lib.hid h2
    have HCO := Lib.hid (c_over h2)
    have hml : cc.m.length < 1000000 := Nat.lt_of_le_of_lt (hok.votes.len hok.st.2.1) (by omega)
    have HCA := Lib.hid (fun W (hW : Fr [] w' W) => c_agreed (h2.fr hW) hok.st hml hwf.said)
    have HOC := Lib.hid hok
    have HWC := Lib.hid hwf
    have HFC := Lib.hid hfx
    have HSC := Lib.hid hst
    have HLC := Lib.hid ho
    have HML := Lib.hid hml
    clear h2 hok hwf hfx hst ho hml
    -- the end of it, in any world in which nothing of the core was changed
    have HSTOP : Hid (cc.next known = (cc, false) → ∀ W, Fr [] w' W → R (.returned (.tuple #[])) W) := fun hn W hW => by
      obtain ⟨e1, e2⟩ := HEND.out _ cc ⟨b, HIN.out.fr hW⟩ (HFC.out.trans (FrX.of0 hW))
      exact hR.out _ _ ⟨rfl, cc, HSC.out cc (.stop hn), e1, e2⟩
    by_cases hov : 1000 < cc.idx
    · have b1 : decide (1000 < cc.idx) = true := decide_eq_true hov
      rw [b1] at HCO
      have HN : Hid (cc.next known = (cc, false)) := by show _ = _; unfold Co.next; rw [if_pos hov]
      clear b1 hov
      go_wp2_with (go_at_call 29; refine HCO.out.mono ?_; rintro e w1 ⟨rfl, n1, rfl⟩; clear HCO)
      simp only [Exit.jump]
      go_end0
      exact HSTOP.out HN.out _ ((Fr.refl _ _).drewN n1)
    · have b1 : decide (1000 < cc.idx) = false := decide_eq_false hov
      rw [b1] at HCO
      have HOV := Lib.hid hov
      clear b1 hov
      obtain ⟨v, hv⟩ : ∃ v, cc.agreed.1 = v := ⟨_, rfl⟩
      obtain ⟨B, hB⟩ : ∃ B, cc.agreed.2 = B := ⟨_, rfl⟩
      rw [hv, hB] at HCA
      have HVA := Lib.hid hv
      have HBA := Lib.hid hB
      clear hv hB
      cases B with
      | true =>
        have HN : Hid (cc.next known = (cc.decide1 v, true)) := by
          show _ = _
          unfold Co.next
          rw [if_neg (by have := HOV.out; omega), if_pos HBA.out, HVA.out]
        obtain ⟨ix, hix⟩ : ∃ ix, cc.idx = ix := ⟨_, rfl⟩
        obtain ⟨m6, hm6⟩ : ∃ m6 : Am, m6 = ⟨-1, 6, cc.me, ix, 0, v, 0⟩ := ⟨_, rfl⟩
        obtain ⟨cs, hcs⟩ : ∃ cs : Co, cs = cc.send m6 := ⟨_, rfl⟩
        have HIX : Hid (∀ W, Fr [] w' W → Calls Tryz.prog 18 #[.pointer (some ⟨p, 0, none⟩)] W fun e w'' => e = .returned (.int .i64 ix) ∧ w'' = W) := fun W hW => by
          have := c_index (HIN.out.fr hW); rw [hix] at this; exact this
        have HSE : Hid (∀ W, Fr [] w' W → Calls Tryz.prog 45 #[.pointer (some ⟨p, 0, none⟩), .agg #[.int .i64 6, .int .i64 cc.me, .int .i64 ix, .int .i64 0, .int .i64 v, .int .i64 0, .int .i64 0, .int .i64 0, .int .i64 0, .int .i64 0, .int .i64 0, .int .i64 0, .slice none 0 0]] W fun e w'' => e = .returned (.tuple #[]) ∧ ∃ ov, CoIn X1 w'' p cs { b with ov := ov } ∧ FrX X1 W w'') := fun W hW => by
          have := c_send (HIN.out.fr hW) (fun k hk => Nat.lt_of_lt_of_le (HX1.out k hk) (HFC.out.trans (FrX.of0 hW)).size) m6 (by rw [hm6]) (by have := HLC.out; omega)
          rw [← hcs] at this
          rw [hm6] at this
          exact this
        have HDE : Hid (cc.decide1 v = ({ cs with decs := cs.decs ++ [v] } : Co).rest) := by show _ = _; unfold Co.decide1; rw [hcs, hm6, hix]; rfl
        have HCM0 : Hid (∀ W, Fr [] w' W → W.cell? ⟨p, 0, none⟩ = some (.int .i64 cc.me)) := fun W hW => (HIN.out.fr hW).cells 0
        have HDL : Hid (cs.decs = cc.decs ∧ cs.st = cc.st ∧ cs.me = cc.me) := by show _ ∧ _; rw [hcs]; exact ⟨rfl, rfl, rfl⟩
        clear hix hm6 hcs
        go_upto_region 5 with (first
          | (go_at_call 29; refine HCO.out.mono ?_; rintro e w1 ⟨rfl, n1, rfl⟩; clear HCO)
          | (go_at_call 50; refine (HCA.out _ ((Fr.refl _ _).drewN n1)).mono ?_; rintro e w2 ⟨rfl, hf2⟩; have HF2 := Lib.hid (((Fr.refl [] w').drewN n1).trans hf2 (by simp)); clear hf2 HCA))
        have HF2d : Hid (Fr [] w' w2.drew) := HF2.out.drew
        have hF2d := HF2d.out
        have hS2 := HCM0.out _ HF2d.out
        go_region_held3 (fun W => W.cell? ⟨p, 0, none⟩ = some (.int .i64 cc.me)) (with_reducible assumption)
          (first
            | (go_at_call 18; refine (HIX.out _ hF2d).mono ?_; rintro e y ⟨rfl, rfl⟩; clear HIX)
            | (go_at_call 45; refine (HSE.out _ hF2d).mono ?_; rintro e w5 ⟨rfl, ov, h5, hf5⟩
               have hS5 : w5.cell? ⟨p, 0, none⟩ = some (.int .i64 cc.me) := by rw [h5.cells 0]; show some (Value.int .i64 cs.me) = _; rw [HDL.out.2.2]
               have H5 := Lib.hid h5
               have HF5 := Lib.hid (HFC.out.trans ((FrX.of0 HF2d.out).trans hf5))
               clear h5 hf5 HSE))
        all_goals (clear hS5 hS2 hF2d)
        all_goals
          obtain ⟨Ad, dd, hdv, c4⟩ := H5.out.dv
          have hrow := H5.out.dec.1
          rw [hdv] at hrow
          obtain ⟨nd, hnd⟩ : ∃ n, cs.decs.length = n := ⟨_, rfl⟩
          have hn1 : nd ≤ 1000 := by
            have h1 := HOV.out
            have h2 := HDL.out.1
            unfold Co.idx at h1
            rw [← h2, hnd] at h1
            omega
          rw [hnd] at hdv c4 hrow
          have HROW := Lib.hid hrow
          have HDV := Lib.hid hdv
          have HND := Lib.hid hnd
          have h63 : nd < maxLen := by unfold maxLen; omega
          have hbb : (nd + 1) * 8 ≤ 140737488355328 := by omega
          clear hrow hdv hnd
          go_upto_region 7 with (at_builtin; refine wp_append1 rfl _ _ 22 3 rfl Tryz.underlying22 infoZ rfl (by decide) HROW.out rfl [.int .i64 v] rfl rfl (by simp [Value.oneCell']) h63 hbb ?_; intro A6 c6 w6 hr6 hF6 hN6
                                 have hd6 := H5.out.decd (fun k hk => Nat.lt_of_lt_of_le (HX1.out k hk) HF5.out.size) v (w1 := w6) (dv' := .slice A6 (nd + 1) c6) (by rw [HDV.out]; exact hF6) (by rw [List.length_append, HND.out, List.map_append]; exact hr6) (by rw [HDV.out]; exact hN6)
                                 have hb6 : w6.heap[p]? = some (.cells (coreV cs { b with ov := ov }) 78 (0, 0)) := (hF6.block p (H5.out.lt p (by simp [Pl.own])) (fun hm => row_ne_obj HROW.out H5.out.box (by decide) hm)).trans H5.out.box
                                 have hz6 := froz_of hb6 4
                                 have hk6 : w6.cell? ⟨p, 4, none⟩ = some b.dv := cell_of hb6 4
                                 have HFD : Hid (FrX X1 w5 (w6.setCell ⟨p, 4, none⟩ (.slice A6 (nd + 1) c6))) := ⟨p :: (Value.slice Ad nd dd).ownBlock.toList, (hF6.mono (fun x hx => .inl (List.mem_cons_of_mem _ hx))).setCell (.inl (by simp)) _, fun k hk => by
                                   rcases List.mem_cons.1 hk with rfl | hk
                                   · exact H5.out.pX
                                   · exact H5.out.nX k (by unfold Pl.own; rw [HDV.out]; simp only [List.mem_cons, List.mem_append]; exact .inr (.inr (.inr (.inr (.inr (.inr (.inr (.inl hk)))))))) ⟩
                                 have HD6 := Lib.hid hd6
                                 clear hr6 hF6 hN6 hd6 hb6)
          have HRE := Lib.hid (c_rest HD6.out.bx (fun k hk => Nat.lt_of_lt_of_le (HX1.out k hk) (HF5.out.trans HFD.out).size) (by show cs.st.length ≤ 7; rw [HDL.out.2.1]; exact HOC.out.st.2.1))
          clear hz6 hk6 c4
          go_wp2_with (go_at_call 28; refine HRE.out.mono ?_; rintro e w7 ⟨rfl, h7, hf7⟩; have H7 := Lib.hid h7; have HF7 := Lib.hid (HF5.out.trans (HFD.out.trans hf7)); clear h7 hf7 HRE)
          go_step3
          rw [← HDE.out] at H7
          obtain ⟨b7, H7⟩ := H7.out
          have HMU : (cc.decide1 v).mu < cc.mu := by
            have h1 := Co.next_mu HOC.out (known := known) (by rw [HN.out])
            rw [HN.out] at h1
            exact h1
          have HOE : (cc.decide1 v).Ok := HOC.out.decide1 v
          have HWE : (cc.decide1 v).Wf := Co.Wf.decide1 cc v
          have HLE : (cc.decide1 v).out.length + (cc.decide1 v).mu ≤ 11014018 := by
            have h1 := Co.next_out cc known
            rw [HN.out] at h1
            have h3 : (cc.decide1 v).out.length ≤ cc.out.length + 1 := h1
            have h2 := HLC.out
            omega
          refine ⟨rfl, (cc.decide1 v).mu, HMU, ?_⟩
          rw [HJ.out]
          exact ⟨cc.decide1 v, b7, rfl, ex_frame _ rfl, H7, HOE, HWE, HF7.out, fun d hd => HSC.out d (.go HN.out hd), HLE⟩
      | false =>
        by_cases hs0 : cc.step = 0
        · have HN : Hid (cc.next known = (cc, false)) := by show _ = _; unfold Co.next; rw [if_neg HOV.out, if_neg (by rw [HBA.out]; simp), if_pos hs0]
          have HS0 : Hid (∀ W, Fr [] w' W → W.cell? ⟨p, 6, none⟩ = some (.int .i64 0)) := fun W hW => by
            have := (HIN.out.fr hW).cells 6
            rw [this]; show some (Value.int .i64 cc.step) = _; rw [hs0]
          clear hs0
          go_upto_region 8 with (first
            | (go_at_call 29; refine HCO.out.mono ?_; rintro e w1 ⟨rfl, n1, rfl⟩; clear HCO)
            | (go_at_call 50; refine (HCA.out _ ((Fr.refl _ _).drewN n1)).mono ?_; rintro e w2 ⟨rfl, hf2⟩; have HF2 := Lib.hid (((Fr.refl [] w').drewN n1).trans hf2 (by simp)); have s6 := HS0.out _ HF2.out; clear hf2 HCA))
          go_wp2
          simp only [Exit.jump]
          go_end0
          exact HSTOP.out HN.out _ HF2.out
        · obtain ⟨st, hst⟩ : ∃ st, cc.step = st := ⟨_, rfl⟩
          have b0 : (st == 0) = false := by rw [← hst]; simpa using hs0
          have HCELL : Hid (∀ W, Fr [] w' W → W.cell? ⟨p, 6, none⟩ = some (.int .i64 st) ∧ W.cell? ⟨p, 5, none⟩ = some (.int .i64 cc.view) ∧ W.cell? ⟨p, 9, none⟩ = some (.pointer (some ⟨b.pt, 0, none⟩))) := fun W hW => ⟨by rw [← hst]; exact (HIN.out.fr hW).cells 6, (HIN.out.fr hW).cells 5, (HIN.out.fr hW).cells 9⟩
          obtain ⟨ah, hah⟩ : ∃ v, ahR cc.st cc.m cc.view = v := ⟨_, rfl⟩
          have HAA : Hid (∀ W, Fr [] w' W → Calls Tryz.prog 51 #[.pointer (some ⟨b.pt, 0, none⟩), .int .i64 cc.view] W fun e w'' => e = .returned (.int .i64 ah) ∧ Fr [] W w'') := fun W hW => by
            have := zAh ((HIN.out.fr hW).tz HOC.out.st HML.out) cc.view
            rw [hah] at this
            exact this
          have HST := Lib.hid hst
          have HS0 := Lib.hid hs0
          have HAH := Lib.hid hah
          clear hst hs0 hah
          go_upto_region 9 with (first
            | (go_at_call 29; refine HCO.out.mono ?_; rintro e w1 ⟨rfl, n1, rfl⟩; clear HCO)
            | (go_at_call 50; refine (HCA.out _ ((Fr.refl _ _).drewN n1)).mono ?_; rintro e w2 ⟨rfl, hf2⟩; have HF2 := Lib.hid (((Fr.refl [] w').drewN n1).trans hf2 (by simp)); obtain ⟨s6, s5, s9⟩ := HCELL.out _ HF2.out; clear hf2 HCA))
          have HF2d : Hid (Fr [] w' w2.drew) := HF2.out.drew
          have hS2 := HCELL.out _ HF2d.out
          clear s6 s5 s9
          go_region_held3 (fun W => W.cell? ⟨p, 6, none⟩ = some (.int .i64 st) ∧ W.cell? ⟨p, 5, none⟩ = some (.int .i64 cc.view) ∧ W.cell? ⟨p, 9, none⟩ = some (.pointer (some ⟨b.pt, 0, none⟩))) (with_reducible assumption)
            (first
              | (go_at_call 51; refine (HAA.out _ HF2d.out).mono ?_; rintro e w3 ⟨rfl, hf3⟩
                 have hS3 := HCELL.out _ (HF2d.out.trans hf3 (by simp))
                 have HF3 := Lib.hid (HF2d.out.trans hf3 (by simp))
                 clear hf3 HAA))
          all_goals (obtain ⟨s6, s5, s9⟩ := hS3)
          all_goals (clear hS2)
          all_goals
            by_cases hgt : cc.view < ah
            · have HN : Hid (cc.next known = (cc.enter ah, true)) := by
                show _ = _
                unfold Co.next
                rw [if_neg (by have := HOV.out; omega), if_neg (by rw [HBA.out]; simp), if_neg HS0.out, HAH.out, if_pos hgt]
              have bgt : decide (cc.view < ah) = true := decide_eq_true hgt
              have HGT := Lib.hid hgt
              clear hgt
              have HEN := Lib.hid (c_enter (HIN.out.fr HF3.out) (fun k hk => Nat.lt_of_lt_of_le (HX1.out k hk) (HFC.out.trans (FrX.of0 HF3.out)).size) HOC.out (by have := HLC.out; omega) ah)
              go_wp2_with (go_at_call 30; refine HEN.out.mono ?_; rintro e w4 ⟨rfl, h4, hf4⟩; have H4 := Lib.hid h4; have HF4 := Lib.hid (HFC.out.trans ((FrX.of0 HF3.out).trans hf4)); clear h4 hf4 HEN)
              go_step3
              obtain ⟨b4, H4⟩ := H4.out
              have HMU : (cc.enter ah).mu < cc.mu := by
                have h1 := Co.next_mu HOC.out (known := known) (by rw [HN.out])
                rw [HN.out] at h1
                exact h1
              have HOE : (cc.enter ah).Ok := by have h1 := HOC.out.next known; rw [HN.out] at h1; exact h1
              have HWE : (cc.enter ah).Wf := HWC.out.enter ah
              have HLE : (cc.enter ah).out.length + (cc.enter ah).mu ≤ 11014018 := by have h1 := Co.enter_out cc ah; have h2 := HLC.out; omega
              refine ⟨rfl, (cc.enter ah).mu, HMU, ?_⟩
              rw [HJ.out]
              exact ⟨cc.enter ah, b4, rfl, ex_frame _ rfl, H4, HOE, HWE, HF4.out, fun d hd => HSC.out d (.go HN.out hd), HLE⟩
            · have bgt : decide (cc.view < ah) = false := decide_eq_false hgt
              have HGT := Lib.hid hgt
              clear hgt
              obtain ⟨mr, hmr⟩ : ∃ r, mostR cc.st cc.m 4 cc.view = r := ⟨_, rfl⟩
              have hwv : wf64 cc.view := wfI (by have := HOC.out.view; omega) (by have := HOC.out.view; omega)
              have HMO : Hid (∀ W, Fr [] w' W → Calls Tryz.prog 52 #[.pointer (some ⟨b.pt, 0, none⟩), .int .i64 4, .int .i64 cc.view] W fun e w'' => e = .returned (.tuple #[.int .i64 mr.1, .bool mr.2]) ∧ Fr [] W w'') := fun W hW => by
                have := zMost ((HIN.out.fr hW).tz HOC.out.st HML.out) 4 cc.view (by decide) hwv
                rw [hmr] at this
                exact this
              have HMR := Lib.hid hmr
              clear hmr hwv
              obtain ⟨pm, bm⟩ := mr
              simp only at HMO
              go_upto_region 12 with (fail)
              have HF3d : Hid (Fr [] w' w3.drew) := HF3.out.drew
              have hS3 := HCELL.out _ HF3d.out
              clear s6 s5 s9
              go_region_held3 (fun W => W.cell? ⟨p, 6, none⟩ = some (.int .i64 st) ∧ W.cell? ⟨p, 5, none⟩ = some (.int .i64 cc.view) ∧ W.cell? ⟨p, 9, none⟩ = some (.pointer (some ⟨b.pt, 0, none⟩))) (with_reducible assumption)
                (first
                  | (go_at_call 52; refine (HMO.out _ HF3d.out).mono ?_; rintro e w8 ⟨rfl, hf8⟩
                     have hS8 := HCELL.out _ (HF3d.out.trans hf8 (by simp))
                     have HF8 := Lib.hid (HF3d.out.trans hf8 (by simp))
                     clear hf8 HMO))
              all_goals (obtain ⟨s6, s5, s9⟩ := hS8)
              all_goals clear bgt
              all_goals have HST3 := Lib.hid HOC.out.step
              all_goals have hml9 : cc.m.length < 999999 := Nat.lt_of_le_of_lt (HOC.out.votes.len HOC.out.st.2.1) (by omega)
              all_goals have HML9 := Lib.hid hml9
              all_goals clear hml9
              all_goals
                have HSTOP2 : Hid (∀ W d b', cc.next known = (d, false) → CoIn X1 W p d b' → FrX X1 W1 W → R (.returned (.tuple #[])) W) := fun W d b' hn hi hf => by
                  obtain ⟨e1, e2⟩ := HEND.out _ d ⟨b', hi⟩ hf
                  exact hR.out _ _ ⟨rfl, d, HSC.out d (.stop hn), e1, e2⟩
                have HJUMP : Hid (∀ W d b' a'', cc.next known = (d, true) → CoIn X1 W p d b' → FrX X1 W1 W → (∃ (u : Nat → Value), a'' = { tmps := #[.pointer (some ⟨p, 0, none⟩), .slice A nk dn, u 2, .pointer (some ⟨bx, 0, none⟩), .func (.func 48) #[] #[.pointer (some ⟨bx, 0, none⟩)], u 5, u 6, u 7, u 8, u 9, u 10, u 11, u 12, u 13, u 14, u 15, u 16, u 17, u 18, u 19, u 20, u 21, u 22, u 23, u 24, u 25, u 26, u 27, u 28, u 29, u 30, u 31, u 32, u 33, u 34, u 35, u 36, u 37, u 38, u 39, u 40, u 41, u 42, u 43, u 44, u 45, u 46, u 47, u 48, u 49, u 50, u 51, u 52, u 53, u 54, u 55, u 56, u 57, u 58, u 59, u 60, u 61, u 62, u 63, u 64, u 65, u 66, u 67, u 68, u 69, u 70, u 71, u 72, u 73, u 74, u 75, u 76, u 77, u 78, u 79, u 80, u 81, u 82, u 83, u 84, u 85, u 86, u 87, u 88, u 89, u 90, u 91, u 92, u 93, u 94, u 95, u 96, u 97, u 98, u 99, u 100, u 101, u 102, u 103, u 104, u 105, u 106, u 107, u 108, u 109, u 110, u 111, u 112, u 113, u 114, u 115, u 116, u 117, u 118, u 119, u 120, u 121, u 122, u 123, u 124, u 125, u 126, u 127, u 128, u 129, u 130, u 131, u 132, u 133, u 134, u 135, u 136, u 137, u 138, u 139, u 140, u 141, u 142, u 143, u 144, u 145, u 146, u 147, u 148, u 149, u 150, u 151, u 152, u 153, u 154, u 155, u 156, u 157, u 158, u 159, u 160, u 161, u 162, u 163, u 164, u 165, u 166, u 167, u 168, u 169, u 170, u 171, u 172, u 173, u 174, u 175, u 176, u 177, u 178, u 179, u 180, u 181, u 182, u 183, u 184, u 185, u 186, u 187, u 188, u 189, u 190, u 191, u 192, u 193, u 194, u 195, u 196, u 197], defers := [] }) → ∃ m, m < cc.mu ∧ J m a'' W) := fun W d b' a'' hn hi hf ha => by
                  have hm := Co.next_mu HOC.out (known := known) (by rw [hn])
                  rw [hn] at hm
                  have h1 := HOC.out.next known
                  rw [hn] at h1
                  have h2 := HWC.out.next HOC.out known
                  rw [hn] at h2
                  have h3 := Co.next_out cc known
                  rw [hn] at h3
                  refine ⟨d.mu, hm, ?_⟩
                  rw [HJ.out]
                  refine ⟨d, b', rfl, ha, hi, h1, h2, hf, fun e he => HSC.out e (.go hn he), ?_⟩
                  have h4 := HLC.out
                  have h5 : d.mu < cc.mu := hm
                  have h6 : d.out.length ≤ cc.out.length + 1 := h3
                  omega
                have HIN8 := Lib.hid (HIN.out.fr HF8.out)
                have HFX8 := Lib.hid (HFC.out.trans (FrX.of0 HF8.out))
                by_cases h1 : st = 1
                · subst h1
                  clear b0
                  obtain ⟨x1, hx1⟩ : ∃ x, ((alook cc.props cc.view).getD (0, 0)).1 = x := ⟨_, rfl⟩
                  obtain ⟨x2, hx2⟩ : ∃ x, ((alook cc.props cc.view).getD (0, 0)).2 = x := ⟨_, rfl⟩
                  obtain ⟨B, hB⟩ : ∃ B, (alook cc.props cc.view).isSome = B := ⟨_, rfl⟩
                  have HNX : Hid (cc.next known = match alook cc.props cc.view with
                      | none => (cc, false)
                      | some q => if knowsB known q.1 = false ∨ (cc.judge q).2 = false then (cc, false) else ((cc.cast 4 (cc.judge q).1).toS 2, true)) := by
                    show _ = _
                    conv => lhs; unfold Co.next
                    rw [if_neg (by have := HOV.out; omega), if_neg (by rw [HBA.out]; simp), if_neg HS0.out, if_neg (by rw [HAH.out]; have := HGT.out; omega), if_pos HST.out]
                    rfl
                  have HN0 : Hid (B = false → cc.next known = (cc, false)) := fun e => by
                    rw [HNX.out]
                    rw [e] at hB
                    cases ha : alook cc.props cc.view with
                    | none => rfl
                    | some q => rw [ha] at hB; cases hB
                  have HN1 : Hid (B = true → alook cc.props cc.view = some (x1, x2)) := fun e => by
                    rw [e] at hB
                    cases ha : alook cc.props cc.view with
                    | none => rw [ha] at hB; cases hB
                    | some q => rw [ha] at hx1 hx2; rw [← hx1, ← hx2]; rfl
                  have hF0 : Fr [] w' w8.drew := HF8.out.drew
                  have HCL : Hid (∀ W, Fr [] w' W → W.cell? ⟨p, 10, none⟩ = some (.map (some b.bp)) ∧ W.cell? ⟨p, 5, none⟩ = some (.int .i64 cc.view)) := fun W hW => ⟨(HIN.out.fr hW).cells 10, (HIN.out.fr hW).cells 5⟩
                  have hS0 := HCL.out _ hF0
                  have hl0 : (Instr.lookup 71 (.map (some b.bp)) (.int .i64 cc.view) true).run Tryz.prog w8.drew = .ok (.tuple #[.agg #[.int .i64 x1, .int .i64 x2], .bool B]) w8.drew := by
                    have := (HIN.out.fr hF0).look cc.view true
                    rw [hx1, hx2, hB] at this
                    exact this
                  have hF1 : Fr [] w' (World.drew (World.alloc w8 (.cells #[.int .i64 0, .int .i64 0] 74))) := (HF8.out.alloc _).drew
                  have hl1 : (Instr.lookup 71 (.map (some b.bp)) (.int .i64 cc.view) true).run Tryz.prog (World.drew (World.alloc w8 (.cells #[.int .i64 0, .int .i64 0] 74))) = .ok (.tuple #[.agg #[.int .i64 x1, .int .i64 x2], .bool B]) (World.drew (World.alloc w8 (.cells #[.int .i64 0, .int .i64 0] 74))) := by
                    have := (HIN.out.fr hF1).look cc.view true
                    rw [hx1, hx2, hB] at this
                    exact this
                  have HZ := Lib.hid (heap_alloc_new w8 (.cells #[.int .i64 0, .int .i64 0] 74))
                  have z0' : (World.drew (World.alloc w8 (.cells #[.int .i64 0, .int .i64 0] 74))).cell? ⟨w8.heap.size, 0, none⟩ = some (.int .i64 0) := cell_of HZ.out 0
                  have z1' : (World.drew (World.alloc w8 (.cells #[.int .i64 0, .int .i64 0] 74))).cell? ⟨w8.heap.size, 1, none⟩ = some (.int .i64 0) := cell_of HZ.out 1
                  have y0' : (World.drew (World.alloc w8 (.cells #[.int .i64 0, .int .i64 0] 74))).frozen? ⟨w8.heap.size, 0, none⟩ = false := froz_of HZ.out 0
                  have y1' : (World.drew (World.alloc w8 (.cells #[.int .i64 0, .int .i64 0] 74))).frozen? ⟨w8.heap.size, 1, none⟩ = false := froz_of HZ.out 1
                  have hge2 : w'.heap.size ≤ w8.heap.size := HF8.out.size
                  clear hx1 hx2 hB
                  go_upto_region 15 with (fail)
                  clear s6 s5 s9
                  go_region_held3 (fun W => W.cell? ⟨p, 10, none⟩ = some (.map (some b.bp)) ∧ W.cell? ⟨p, 5, none⟩ = some (.int .i64 cc.view)) (first | (with_reducible assumption) | (refine HCL.out _ ?_; (try with_reducible refine Fr.drew ?_); (repeat with_reducible refine fr_sc ?_ hge2); with_reducible first | exact Fr.alloc HF8.out _ | exact HF8.out | exact hF1 | exact hF0)) (fail)
                  all_goals
                    obtain ⟨V, hV⟩ : ∃ V, V = (w8.alloc (.cells #[.int .i64 x1, .int .i64 x2] 74)).drew := ⟨_, rfl⟩
                    obtain ⟨gc, hgc⟩ : ∃ gc, gc = w8.heap.size := ⟨_, rfl⟩
                    have hFV : Fr [] w8 V := by rw [hV]; exact ((Fr.refl _ _).alloc _).drew
                    have hbc : V.heap[gc]? = some (.cells #[.int .i64 x1, .int .i64 x2] 74 (0, 0)) := by rw [hV, hgc]; exact heap_alloc_new w8 _
                    have HFV : Hid (Fr [] w' V) := HF8.out.trans hFV (by simp)
                    have HFXV := Lib.hid (HFC.out.trans (FrX.of0 HFV.out))
                    have c0 : V.cell? ⟨gc, 0, none⟩ = some (.int .i64 x1) := cell_of hbc 0
                    have c1 : V.cell? ⟨gc, 1, none⟩ = some (.int .i64 x2) := cell_of hbc 1
                    rw [← hV, ← hgc]
                    clear hV hgc hFV hbc z0' z1' y0' y1' hS0 hF0 hF1 hl0 hl1 hge2
                    cases B with
                    | false =>
                      go_wp2
                      simp only [Exit.jump]
                      go_end0
                      exact HSTOP2.out _ cc b (HN0.out (by simp)) (HIN.out.fr HFV.out) HFXV.out
                    | true =>
                      obtain ⟨K, hK⟩ : ∃ K, knowsB known x1 = K := ⟨_, rfl⟩
                      have HKV : Hid (Calls Tryz.prog 48 #[.int .i64 x1, .pointer (some ⟨bx, 0, none⟩)] V fun e w' => e = .returned (.bool K) ∧ w' = V) := by
                        have := HKN.out V x1 HFXV.out
                        rw [hK] at this
                        exact this
                      have HKK := Lib.hid hK
                      clear hK
                      cases K with
                      | false =>
                        have HN : Hid (cc.next known = (cc, false)) := by
                          show _ = _
                          rw [HNX.out, HN1.out rfl]
                          show (if _ then _ else _) = _
                          rw [if_pos (.inl HKK.out)]
                        go_wp2_with (go_at_call 48; refine HKV.out.mono ?_; rintro e w9 ⟨rfl, rfl⟩; clear HKV)
                        simp only [Exit.jump]
                        go_end0
                        exact HSTOP2.out _ cc b HN.out (HIN.out.fr HFV.out) HFXV.out
                      | true =>
                        obtain ⟨jv, hjv⟩ : ∃ r, (cc.judge (x1, x2)).1 = r := ⟨_, rfl⟩
                        obtain ⟨jb, hjb⟩ : ∃ r, (cc.judge (x1, x2)).2 = r := ⟨_, rfl⟩
                        have HJU : Hid (Calls Tryz.prog 53 #[.pointer (some ⟨p, 0, none⟩), .agg #[.int .i64 x1, .int .i64 x2]] V fun e w' => e = .returned (.tuple #[.int .i64 jv, .bool jb]) ∧ Fr [] V w') := by
                          have := c_judge (HIN.out.fr HFV.out) HOC.out.st HML.out x1 x2 (HWC.out.props _ (alook_mem (HN1.out rfl)))
                          rw [hjv, hjb] at this
                          exact this
                        have HJV := Lib.hid hjv
                        have HJB := Lib.hid hjb
                        clear hjv hjb
                        cases jb with
                        | false =>
                          have HN : Hid (cc.next known = (cc, false)) := by
                            show _ = _
                            rw [HNX.out, HN1.out rfl]
                            show (if _ then _ else _) = _
                            rw [if_pos (.inr HJB.out)]
                          go_wp2_with (first
                            | (go_at_call 48; refine HKV.out.mono ?_; rintro e w9 ⟨rfl, rfl⟩; clear HKV)
                            | (go_at_call 53; refine HJU.out.mono ?_; rintro e w10 ⟨rfl, hf10⟩; have HF10 := Lib.hid (HFV.out.trans hf10 (by simp)); clear hf10 HJU))
                          simp only [Exit.jump]
                          go_end0
                          exact HSTOP2.out _ cc b HN.out (HIN.out.fr HF10.out) (HFC.out.trans (FrX.of0 HF10.out))
                        | true =>
                          have HN : Hid (cc.next known = ((cc.cast 4 jv).toS 2, true)) := by
                            show _ = _
                            rw [HNX.out, HN1.out rfl]
                            show (if _ then _ else _) = _
                            rw [if_neg (by rw [HKK.out, HJB.out]; simp), HJV.out]
                          go_wp2_with (first
                            | (go_at_call 48; refine HKV.out.mono ?_; rintro e w9 ⟨rfl, rfl⟩; clear HKV)
                            | (go_at_call 53; refine HJU.out.mono ?_; rintro e w10 ⟨rfl, hf10⟩; have HF10 := Lib.hid (HFV.out.trans hf10 (by simp)); clear hf10 HJU
                               have HCC := Lib.hid (c_cast (HIN.out.fr HF10.out) (fun k hk => Nat.lt_of_lt_of_le (HX1.out k hk) (HFC.out.trans (FrX.of0 HF10.out)).size) HOC.out HML9.out (by have := HLC.out; omega) 4 jv (.inl rfl)))
                            | (go_at_call 47; refine HCC.out.mono ?_; rintro e w11 ⟨rfl, ⟨ov, h11⟩, hf11⟩; have HF11 := Lib.hid (HFC.out.trans ((FrX.of0 HF10.out).trans hf11)); have HTO := Lib.hid (c_to h11 2); clear h11 hf11 HCC)
                            | (go_at_call 39; refine HTO.out.mono ?_; rintro e w12 ⟨rfl, r, h12, hf12⟩; have H12 := Lib.hid h12; have HF12 := Lib.hid (HF11.out.trans hf12); clear h12 hf12 HTO))
                          go_step3
                          exact ⟨rfl, HJUMP.out _ _ _ _ HN.out H12.out HF12.out (ex_frame _ rfl)⟩
                · have b1 : (st == 1) = false := by simpa using h1
                  have HST1 := Lib.hid h1
                  clear h1
                  by_cases h2 : st = 2
                  · subst h2
                    clear b0 b1
                    have HNX : Hid (cc.next known = if bm = false ∨ (pm ≠ -1 ∧ knowsB known pm = false) then (cc, false) else (((if pm = -1 then cc else { cc with lock := (pm, cc.view), valid := (pm, cc.view) }).cast 5 pm).toS 3, true)) := by
                      show _ = _
                      conv => lhs; unfold Co.next
                      rw [if_neg (by have := HOV.out; omega), if_neg (by rw [HBA.out]; simp), if_neg HS0.out, if_neg (by rw [HAH.out]; have := HGT.out; omega), if_neg (by rw [HST.out]; decide), HMR.out, if_pos HST.out]
                    cases bm with
                    | false =>
                      have HN : Hid (cc.next known = (cc, false)) := by show _ = _; rw [HNX.out, if_pos (.inl rfl)]
                      go_wp2
                      simp only [Exit.jump]
                      go_end0
                      exact HSTOP2.out _ cc b HN.out HIN8.out HFX8.out
                    | true =>
                      by_cases hp : pm = -1
                      · subst hp
                        have HN : Hid (cc.next known = ((cc.cast 5 (-1)).toS 3, true)) := by show _ = _; rw [HNX.out, if_neg (by simp), if_pos rfl]
                        have HCC := Lib.hid (c_cast HIN8.out (fun k hk => Nat.lt_of_lt_of_le (HX1.out k hk) HFX8.out.size) HOC.out HML9.out (by have := HLC.out; omega) 5 (-1) (.inr rfl))
                        go_wp2_with (first
                          | (go_at_call 47; refine HCC.out.mono ?_; rintro e w11 ⟨rfl, ⟨ov, h11⟩, hf11⟩; have HF11 := Lib.hid (HFX8.out.trans hf11); have HTO := Lib.hid (c_to h11 3); clear h11 hf11 HCC)
                          | (go_at_call 39; refine HTO.out.mono ?_; rintro e w12 ⟨rfl, r, h12, hf12⟩; have H12 := Lib.hid h12; have HF12 := Lib.hid (HF11.out.trans hf12); clear h12 hf12 HTO))
                        go_step3
                        exact ⟨rfl, HJUMP.out _ _ _ _ HN.out H12.out HF12.out (ex_frame _ rfl)⟩
                      · have b2 : (pm != -1) = true := by simpa using hp
                        have HP := Lib.hid hp
                        clear hp
                        obtain ⟨K, hK⟩ : ∃ K, knowsB known pm = K := ⟨_, rfl⟩
                        have HKV : Hid (Calls Tryz.prog 48 #[.int .i64 pm, .pointer (some ⟨bx, 0, none⟩)] w8 fun e w' => e = .returned (.bool K) ∧ w' = w8) := by
                          have := HKN.out w8 pm HFX8.out
                          rw [hK] at this
                          exact this
                        have HKK := Lib.hid hK
                        clear hK
                        cases K with
                        | false =>
                          have HN : Hid (cc.next known = (cc, false)) := by show _ = _; rw [HNX.out, if_pos (.inr ⟨HP.out, HKK.out⟩)]
                          go_wp2_with (go_at_call 48; refine HKV.out.mono ?_; rintro e w9 ⟨rfl, rfl⟩; clear HKV)
                          simp only [Exit.jump]
                          go_end0
                          exact HSTOP2.out _ cc b HN.out HIN8.out HFX8.out
                        | true =>
                          obtain ⟨d1, hd1⟩ : ∃ d1 : Co, d1 = { cc with lock := (pm, cc.view), valid := (pm, cc.view) } := ⟨_, rfl⟩
                          have HN : Hid (cc.next known = ((d1.cast 5 pm).toS 3, true)) := by show _ = _; rw [HNX.out, if_neg (by rw [HKK.out]; simp), if_neg HP.out, hd1]
                          have HOD : Hid (d1.Ok ∧ d1.m = cc.m ∧ d1.out = cc.out) := by have := HOC.out; rw [hd1]; exact ⟨⟨this.st, this.me, this.view, this.step, this.votes⟩, rfl, rfl⟩
                          obtain ⟨l1, hl1⟩ : ∃ l, cc.lock.1 = l := ⟨_, rfl⟩
                          obtain ⟨l2, hl2⟩ : ∃ l, cc.lock.2 = l := ⟨_, rfl⟩
                          obtain ⟨v1, hv1⟩ : ∃ l, cc.valid.1 = l := ⟨_, rfl⟩
                          obtain ⟨v2, hv2⟩ : ∃ l, cc.valid.2 = l := ⟨_, rfl⟩
                          have k12 : w8.cell? ⟨p, 12, none⟩ = some (.int .i64 l1) := by rw [← hl1]; exact HIN8.out.cells 12
                          have k13 : w8.cell? ⟨p, 13, none⟩ = some (.int .i64 l2) := by rw [← hl2]; exact HIN8.out.cells 13
                          have y12 := froz_of HIN8.out.box 12
                          have y13 := froz_of HIN8.out.box 13
                          have HSET : Hid (∀ W, CoIn X1 W p cc b → CoIn X1 ((W.setCell ⟨p, 12, none⟩ (.int .i64 pm)).setCell ⟨p, 13, none⟩ (.int .i64 cc.view)) p { cc with lock := (pm, cc.view) } b ∧ FrX X1 W ((W.setCell ⟨p, 12, none⟩ (.int .i64 pm)).setCell ⟨p, 13, none⟩ (.int .i64 cc.view))) := fun W hW => by
                            have e1 := hW.set (c' := { cc with lock := (pm, cc.lock.2) }) (a' := b) 12 (.int .i64 pm) rfl rfl rfl rfl rfl rfl rfl
                            have e2 := e1.set (c' := { cc with lock := (pm, cc.view) }) (a' := b) 13 (.int .i64 cc.view) rfl rfl rfl rfl rfl rfl rfl
                            exact ⟨e2, (hW.setX 12 _).trans (e1.setX 13 _)⟩
                          have HSET2 : Hid (∀ W, CoIn X1 W p { cc with lock := (pm, cc.view) } b → CoIn X1 ((W.setCell ⟨p, 14, none⟩ (.int .i64 pm)).setCell ⟨p, 15, none⟩ (.int .i64 cc.view)) p d1 b ∧ FrX X1 W ((W.setCell ⟨p, 14, none⟩ (.int .i64 pm)).setCell ⟨p, 15, none⟩ (.int .i64 cc.view))) := fun W hW => by
                            have e1 := hW.set (c' := { cc with lock := (pm, cc.view), valid := (pm, cc.valid.2) }) (a' := b) 14 (.int .i64 pm) rfl rfl rfl rfl rfl rfl rfl
                            have e2 := e1.set (c' := { cc with lock := (pm, cc.view), valid := (pm, cc.view) }) (a' := b) 15 (.int .i64 cc.view) rfl rfl rfl rfl rfl rfl rfl
                            exact ⟨by rw [hd1]; exact e2, (hW.setX 14 _).trans (e1.setX 15 _)⟩
                          clear hl1 hl2 hd1
                          go_upto_region 25 with (go_at_call 48; refine HKV.out.mono ?_; rintro e w9 ⟨rfl, rfl⟩; clear HKV)
                          obtain ⟨V, hV⟩ : ∃ V, V = (w9.setCell ⟨p, 12, none⟩ (.int .i64 pm)).setCell ⟨p, 13, none⟩ (.int .i64 cc.view) := ⟨_, rfl⟩
                          have H24 := Lib.hid (HSET.out _ HIN8.out)
                          rw [← hV] at H24
                          rw [← hV]
                          clear hV k12 k13 y12 y13 s6 s5 s9
                          have k12 : V.cell? ⟨p, 12, none⟩ = some (.int .i64 pm) := H24.out.1.cells 12
                          have k13 : V.cell? ⟨p, 13, none⟩ = some (.int .i64 cc.view) := H24.out.1.cells 13
                          have k14 : V.cell? ⟨p, 14, none⟩ = some (.int .i64 v1) := by rw [← hv1]; exact H24.out.1.cells 14
                          have k15 : V.cell? ⟨p, 15, none⟩ = some (.int .i64 v2) := by rw [← hv2]; exact H24.out.1.cells 15
                          have y14 := froz_of H24.out.1.box 14
                          have y15 := froz_of H24.out.1.box 15
                          clear hv1 hv2
                          go_upto_region 26 with (fail)
                          obtain ⟨V2, hV2⟩ : ∃ V2, V2 = (V.setCell ⟨p, 14, none⟩ (.int .i64 pm)).setCell ⟨p, 15, none⟩ (.int .i64 cc.view) := ⟨_, rfl⟩
                          have H25 := Lib.hid (HSET2.out _ H24.out.1)
                          rw [← hV2] at H25
                          rw [← hV2]
                          clear hV2 k12 k13 k14 k15 y14 y15
                          have HFX25 := Lib.hid (HFX8.out.trans (H24.out.2.trans H25.out.2))
                          have HCC := Lib.hid (c_cast H25.out.1 (fun k hk => Nat.lt_of_lt_of_le (HX1.out k hk) HFX25.out.size) HOD.out.1 (by rw [HOD.out.2.1]; exact HML9.out) (by rw [HOD.out.2.2]; have := HLC.out; omega) 5 pm (.inr rfl))
                          go_wp2_with (first
                            | (go_at_call 47; refine HCC.out.mono ?_; rintro e w11 ⟨rfl, ⟨ov, h11⟩, hf11⟩; have HF11 := Lib.hid (HFX25.out.trans hf11); have HTO := Lib.hid (c_to h11 3); clear h11 hf11 HCC)
                            | (go_at_call 39; refine HTO.out.mono ?_; rintro e w12 ⟨rfl, r, h12, hf12⟩; have H12 := Lib.hid h12; have HF12 := Lib.hid (HF11.out.trans hf12); clear h12 hf12 HTO))
                          go_step3
                          exact ⟨rfl, HJUMP.out _ _ _ _ HN.out H12.out HF12.out (ex_frame _ rfl)⟩
                  · have h3 : st = 3 := by have h4 := HST3.out; have h5 := HST.out; have h6 := HS0.out; have h7 := HST1.out; omega
                    subst h3
                    clear b0 b1 h2
                    have HNX : Hid (cc.next known = if bm = false ∨ (pm ≠ -1 ∧ knowsB known pm = false) then (cc, false) else if pm ≠ -1 ∧ cc.valid.2 < cc.view then ({ cc with valid := (pm, cc.view) }, false) else (cc, false)) := by
                      show _ = _
                      conv => lhs; unfold Co.next
                      rw [if_neg (by have := HOV.out; omega), if_neg (by rw [HBA.out]; simp), if_neg HS0.out, if_neg (by rw [HAH.out]; have := HGT.out; omega), if_neg (by rw [HST.out]; decide), HMR.out, if_neg (show ¬ cc.step = 2 by rw [HST.out]; decide)]
                    cases bm with
                    | false =>
                      have HN : Hid (cc.next known = (cc, false)) := by show _ = _; rw [HNX.out, if_pos (.inl rfl)]
                      go_upto_region 29 with (fail)
                      go_quiet (fail)
                      go_wp2
                      simp only [Exit.jump]
                      go_end0
                      exact HSTOP2.out _ cc b HN.out (HIN8.out.fr ((Fr.refl _ _).drewN _)) (HFX8.out.trans (FrX.of0 ((Fr.refl _ _).drewN _)))
                    | true =>
                      by_cases hp : pm = -1
                      · subst hp
                        have HN : Hid (cc.next known = (cc, false)) := by show _ = _; rw [HNX.out, if_neg (by simp), if_neg (by simp)]
                        go_upto_region 29 with (fail)
                        go_quiet (fail)
                        go_wp2
                        simp only [Exit.jump]
                        go_end0
                        exact HSTOP2.out _ cc b HN.out (HIN8.out.fr ((Fr.refl _ _).drewN _)) (HFX8.out.trans (FrX.of0 ((Fr.refl _ _).drewN _)))
                      · have b2 : (pm != -1) = true := by simpa using hp
                        have HP := Lib.hid hp
                        clear hp
                        obtain ⟨K, hK⟩ : ∃ K, knowsB known pm = K := ⟨_, rfl⟩
                        have HKV : Hid (∀ n, Calls Tryz.prog 48 #[.int .i64 pm, .pointer (some ⟨bx, 0, none⟩)] (w8.drewN n) fun e w' => e = .returned (.bool K) ∧ w' = w8.drewN n) := fun n => by
                          have := HKN.out (w8.drewN n) pm (HFX8.out.trans (FrX.of0 ((Fr.refl _ _).drewN _)))
                          rw [hK] at this
                          exact this
                        have HKK := Lib.hid hK
                        clear hK
                        cases K with
                        | false =>
                          have HN : Hid (cc.next known = (cc, false)) := by show _ = _; rw [HNX.out, if_pos (.inr ⟨HP.out, HKK.out⟩)]
                          go_upto_region 29 with (fail)
                          go_quiet (first | (go_at_call 48; exact Calls.quiet_of_same (HKV.out _)))
                          go_wp2
                          simp only [Exit.jump]
                          go_end0
                          exact HSTOP2.out _ cc b HN.out (HIN8.out.fr ((Fr.refl _ _).drewN _)) (HFX8.out.trans (FrX.of0 ((Fr.refl _ _).drewN _)))
                        | true =>
                          obtain ⟨v1, hv1⟩ : ∃ l, cc.valid.1 = l := ⟨_, rfl⟩
                          obtain ⟨v2, hv2⟩ : ∃ l, cc.valid.2 = l := ⟨_, rfl⟩
                          have k15 : w8.cell? ⟨p, 15, none⟩ = some (.int .i64 v2) := by rw [← hv2]; exact HIN8.out.cells 15
                          have HSET2 : Hid (∀ W, CoIn X1 W p cc b → CoIn X1 ((W.setCell ⟨p, 14, none⟩ (.int .i64 pm)).setCell ⟨p, 15, none⟩ (.int .i64 cc.view)) p { cc with valid := (pm, cc.view) } b ∧ FrX X1 W ((W.setCell ⟨p, 14, none⟩ (.int .i64 pm)).setCell ⟨p, 15, none⟩ (.int .i64 cc.view))) := fun W hW => by
                            have e1 := hW.set (c' := { cc with valid := (pm, cc.valid.2) }) (a' := b) 14 (.int .i64 pm) rfl rfl rfl rfl rfl rfl rfl
                            have e2 := e1.set (c' := { cc with valid := (pm, cc.view) }) (a' := b) 15 (.int .i64 cc.view) rfl rfl rfl rfl rfl rfl rfl
                            exact ⟨e2, (hW.setX 14 _).trans (e1.setX 15 _)⟩
                          by_cases hlt : v2 < cc.view
                          · have b3 : decide (v2 < cc.view) = true := decide_eq_true hlt
                            have HN : Hid (cc.next known = ({ cc with valid := (pm, cc.view) }, false)) := by show _ = _; rw [HNX.out, if_neg (by rw [HKK.out]; simp), if_pos ⟨HP.out, by rw [hv2]; exact hlt⟩]
                            clear hlt
                            have HV1 := Lib.hid hv1
                            have HV2 := Lib.hid hv2
                            clear hv1 hv2
                            go_upto_region 29 with (fail)
                            go_quiet (first | (go_at_call 48; exact Calls.quiet_of_same (HKV.out _)))
                            go_upto_region 30 with (fail)
                            obtain ⟨V, hV⟩ : ∃ V, V = w8.drewN nq := ⟨_, rfl⟩
                            have H29 : Hid (CoIn X1 V p cc b ∧ FrX X1 w8 V) := by show _ ∧ _; rw [hV]; exact ⟨HIN8.out.fr ((Fr.refl _ _).drewN _), FrX.of0 ((Fr.refl _ _).drewN _)⟩
                            rw [← hV]
                            clear hV k15 s6 s5 s9
                            have s5 : V.cell? ⟨p, 5, none⟩ = some (.int .i64 cc.view) := H29.out.1.cells 5
                            have k14 : V.cell? ⟨p, 14, none⟩ = some (.int .i64 v1) := by rw [← HV1.out]; exact H29.out.1.cells 14
                            have k15 : V.cell? ⟨p, 15, none⟩ = some (.int .i64 v2) := by rw [← HV2.out]; exact H29.out.1.cells 15
                            have y14 := froz_of H29.out.1.box 14
                            have y15 := froz_of H29.out.1.box 15
                            have H30 := Lib.hid (HSET2.out _ H29.out.1)
                            go_wp2
                            simp only [Exit.jump]
                            go_end0
                            exact HSTOP2.out _ _ b HN.out H30.out.1 (HFX8.out.trans (H29.out.2.trans H30.out.2))
                          · have b3 : decide (v2 < cc.view) = false := decide_eq_false hlt
                            have HN : Hid (cc.next known = (cc, false)) := by show _ = _; rw [HNX.out, if_neg (by rw [HKK.out]; simp), if_neg (by rw [hv2]; exact fun h => hlt h.2)]
                            clear hlt hv1 hv2
                            go_upto_region 29 with (fail)
                            go_quiet (first | (go_at_call 48; exact Calls.quiet_of_same (HKV.out _)))
                            go_wp2
                            simp only [Exit.jump]
                            go_end0
                            exact HSTOP2.out _ cc b HN.out (HIN8.out.fr ((Fr.refl _ _).drewN _)) (HFX8.out.trans (FrX.of0 ((Fr.refl _ _).drewN _)))
  · intro HB
    replace HB := Lib.hid HB
    go_wp2
    go_step3
    rename_i Qx Kx hKx
    show Kx _ _
    refine hKx _ _ ?_
    refine HB.out c.mu _ _ ?_
    rw [HJ.out]
    exact ⟨c, a, rfl, ex_frame _ rfl, H1.out, HOK.out, HWF.out, FrX.of0 (Fr.refl _ _), fun d hd => hd, HO.out⟩
end
end Go.Np.Tryz
