/- A text that the row of LedgerTells needs. (Pruned by tools/prune2.py.) -/
import Derived.Test.YtlllhpnpgcphcaaGreatQLedgerTellsLeds
import Derived.Test.YtlllhpnpgcphcaaGreatQLedgerTellsTreeRj
section
set_option linter.unusedVariables false
set_option linter.unusedSimpArgs false
namespace Go.Np.Tryz
open Go.RowKit Go.Proofs Go.Proofs.YtlllhpnpgcphcaaGreat.PX Go.Proofs.YtlllhpnpgcphcaaGreatW.PrintWords
structure RCh (P : Nat → Prop) (w : World) (C : Ch) (A0 : Option Addr) (c0 : Nat) (A1 : Option Addr) (c1 : Nat) (Ad : Option Addr) (cd : Nat) : Prop where
  good : C.t.Good
  rng : C.t.Rng
  okd : OkDr C.dr
  ks : VB w P (.slice A0 C.t.ks.length c0) C.t.ks
  wait : VB w P (.slice A1 C.t.wait.length c1) C.t.wait
  dr : (Kd.int .i64).C w Ad C.dr.length C.dr
  dc : C.dr.length ≤ cd
theorem RCh.fr {P : Nat → Prop} {w w' : World} {C : Ch} {A0 A1 Ad : Option Addr} {c0 c1 cd : Nat} (h : RCh P w C A0 c0 A1 c1 Ad cd) (hF : Fr [] w w') : RCh P w' C A0 c0 A1 c1 Ad cd :=
  ⟨h.good, h.rng, h.okd, h.ks.fr hF, h.wait.fr hF, Kd.C_below h.dr hF.below, h.dc⟩
section
variable {C : Ch}
theorem rtxs_l1 (P : List Int) (N j : Int) (F : List S67) (hF : F.length ≤ 3) (K W : List Blk) (dr : List Int) (dp sl : Int) : ∀ (m i : Nat) (acc : List Int) (k : Nat), i + m = F.length → acc.length + m ≤ 100000 →
    neaptideref11_Txs.l1 (k + m + 1) acc P N j F (F.length : Int) (i : Int) K W dr dp sl = neaptideref11_Txs.l0 k (acc ++ (F.drop i).map (·.f0)) P N (wrap64 (j + 1)) K W dr dp sl
  | 0, i, acc, k, hi, _ => by
    simp only [neaptideref11_Txs.l1, Nat.add_zero]
    rw [if_neg (by omega), List.drop_eq_nil_of_le (by omega)]
    simp
  | m + 1, i, acc, k, hi, ha => by
    have hlt : i < F.length := by omega
    have hd : F.drop i = rd_T67 F (i : Int) :: F.drop (i + 1) := by
      rw [List.drop_eq_getElem_cons hlt]; simp [rd_T67, List.getD_eq_getElem?_getD, List.getElem?_eq_getElem hlt]
    rw [show k + (m + 1) + 1 = (k + m + 1) + 1 by omega, neaptideref11_Txs.l1]
    rw [if_pos (by omega), if_pos (by omega), if_pos (by omega), if_pos (by omega), wr_step i (by omega), rtxs_l1 P N j F hF K W dr dp sl m (i + 1) _ k (by omega) (by simp; omega), hd]
    simp
theorem rtxs_l0 (hG : C.t.Good) (hR : C.t.Rng) (P : List Int) (hP : P.length ≤ 400) : ∀ (m j : Nat) (acc : List Int) (k : Nat), j + m = P.length → acc.length + 3 * m ≤ 1200 → 5 * m + 500 ≤ k →
    neaptideref11_Txs.l0 k acc P (P.length : Int) (j : Int) C.t.ks C.t.wait C.dr C.deep C.slot = some (acc ++ (P.drop j).flatMap C.ids)
  | 0, j, acc, k, hj, _, hk => by
    obtain ⟨k, rfl⟩ : ∃ i, k = i + 1 := ⟨k - 1, by omega⟩
    simp only [neaptideref11_Txs.l0]
    rw [if_neg (by omega), List.drop_eq_nil_of_le (by omega)]
    simp
  | m + 1, j, acc, k, hj, ha, hk => by
    have hlt : j < P.length := by omega
    have hf := get3 hG.ok P[j]
    obtain ⟨k, rfl⟩ : ∃ i, k = i + (C.t.get P[j]).f4.length + 1 + 1 := ⟨k - (C.t.get P[j]).f4.length - 2, by omega⟩
    have hd : P.drop j = P[j] :: P.drop (j + 1) := List.drop_eq_getElem_cons hlt
    rw [neaptideref11_Txs.l0]
    rw [if_pos (by omega), if_pos (by omega), if_pos (by omega), rdI P j hlt, rget_ev hG hR C.t.wait P[j] _ (by omega)]
    simp only [Option.bind_some]
    have h1 := rtxs_l1 P (P.length : Int) (j : Int) (C.t.get P[j]).f4 hf C.t.ks C.t.wait C.dr C.deep C.slot (C.t.get P[j]).f4.length 0 acc k (by omega) (by omega)
    rw [show ((0 : Nat) : Int) = 0 from rfl] at h1
    rw [h1, List.drop_zero, wr_step j (by omega), rtxs_l0 hG hR P hP m (j + 1) _ k (by omega) (by simp; omega) (by omega), hd, List.flatMap_cons, List.append_assoc]
    rfl
theorem rtxs_f (hG : C.t.Good) (hR : C.t.Rng) (n : Int) (k : Nat) (hk : 4000 ≤ k) : neaptideref11_Txs.f k C.t.ks C.t.wait C.dr C.deep C.slot n = some (C.txs n) := by
  have h4 := hG.path400 n
  unfold neaptideref11_Txs.f
  rw [rpath_f hG hR C.t.wait n k (by omega)]
  simp only [Option.bind_some]
  have h := rtxs_l0 hG hR (C.t.path n) h4 (C.t.path n).length 0 [] k (by omega) (by simp; omega) (by omega)
  rw [show ((0 : Nat) : Int) = 0 from rfl] at h
  rw [h]
  rfl
end
section
variable {P : Nat → Prop} {w : World} {C : Ch} {A0 A1 Ad : Option Addr} {c0 c1 cd : Nat}
theorem rtxs_calls (h : RCh P w C A0 c0 A1 c1 Ad cd) (n : Int) :
    Calls Tryz.prog 25 #[.agg #[.slice A0 C.t.ks.length c0, .slice A1 C.t.wait.length c1, .slice Ad C.dr.length cd, .int .i64 C.deep, .int .i64 C.slot], .int .i64 n] w fun e w' => ∃ v, e = .returned v ∧ OwnI w.heap.size w' v (C.txs n) ∧ Fr [] w w' := by
  refine (neaptideref11_Txs.calls 4000 A0 c0 C.t.ks A1 c1 C.t.wait Ad cd C.dr C.deep C.slot n _ w h.ks.C.2.2 h.ks.C.2.1 h.wait.C.2.2 h.wait.C.2.1 h.dr h.dc (rtxs_f h.good h.rng n 4000 (by omega))).mono ?_
  rintro e w' ⟨v, rfl, hv, hB⟩
  exact ⟨v, rfl, N_own (Kd.R_N hv), Fr.of_below [] hB⟩
set_option maxHeartbeats 4000000 in
set_option maxRecDepth 100000 in
theorem rconf_calls (h : RCh P w C A0 c0 A1 c1 Ad cd) :
    Calls Tryz.prog 23 #[.agg #[.slice A0 C.t.ks.length c0, .slice A1 C.t.wait.length c1, .slice Ad C.dr.length cd, .int .i64 C.deep, .int .i64 C.slot]] w fun e w' => e = .returned (.int .i64 C.conf) ∧ Fr [] w w' := by
  have HTI : Hid (∀ W, Fr [] w W → Calls Tryz.prog 18 #[.agg #[.slice A0 C.t.ks.length c0, .slice A1 C.t.wait.length c1]] W fun e w' => e = .returned (.int .i64 C.t.tip) ∧ Fr [] W w') := fun W hW => rtip_calls (h.fr hW).good (h.fr hW).rng (h.fr hW).ks (h.fr hW).wait
  have HBA : Hid (∀ W, Fr [] w W → Calls Tryz.prog 57 #[.agg #[.slice A0 C.t.ks.length c0, .slice A1 C.t.wait.length c1], .int .i64 C.t.tip, .int .i64 C.deep] W fun e w' => e = .returned (.int .i64 C.conf) ∧ Fr [] W w') := fun W hW => rback_calls (h.fr hW).good (h.fr hW).rng (h.fr hW).ks (h.fr hW).wait _ _
  obtain ⟨W1, hW1⟩ : ∃ W1, W1 = w.alloc (.cells #[.slice A0 C.t.ks.length c0, .slice A1 C.t.wait.length c1, .slice Ad C.dr.length cd, .int .i64 C.deep, .int .i64 C.slot] 32) := ⟨_, rfl⟩
  obtain ⟨g2, hg2⟩ : ∃ g2, g2 = w.heap.size := ⟨_, rfl⟩
  have hF1 : Fr [] w W1 := by rw [hW1]; exact (Fr.refl _ _).alloc _
  have hB1 : RChIn W1 g2 (.slice A0 C.t.ks.length c0) (.slice A1 C.t.wait.length c1) (.slice Ad C.dr.length cd) C.deep C.slot := by rw [hW1, hg2]; exact heap_alloc_new w _
  have HSF : Hid (∀ W, Fr [] W1 W → W.cell? ⟨g2, 0, none⟩ = some (.slice A0 C.t.ks.length c0) ∧ W.cell? ⟨g2, 1, none⟩ = some (.slice A1 C.t.wait.length c1) ∧ W.cell? ⟨g2, 2, none⟩ = some (.slice Ad C.dr.length cd) ∧ W.cell? ⟨g2, 3, none⟩ = some (.int .i64 C.deep) ∧ W.cell? ⟨g2, 4, none⟩ = some (.int .i64 C.slot)) := fun W hW => (hB1.fr hW).conj
  have HF1 := Lib.hid hF1
  have HF2 : Hid (Fr [] W1 W1.drew) := (Fr.refl _ _).drew
  have hS2 := HSF.out _ HF2.out
  refine calls_k fun R hR => ?_
  clear h hF1 hB1
  go_enter Tryz.func23, Tryz.ntmps23
  go_upto_region 1 with (fail)
  rw [← hW1, ← hg2]
  clear hW1 hg2
  go_region_held3 (fun W => W.cell? ⟨g2, 0, none⟩ = some (.slice A0 C.t.ks.length c0) ∧ W.cell? ⟨g2, 1, none⟩ = some (.slice A1 C.t.wait.length c1) ∧ W.cell? ⟨g2, 2, none⟩ = some (.slice Ad C.dr.length cd) ∧ W.cell? ⟨g2, 3, none⟩ = some (.int .i64 C.deep) ∧ W.cell? ⟨g2, 4, none⟩ = some (.int .i64 C.slot)) (with_reducible assumption)
    (first
      | (go_at_call 18; refine (HTI.out _ (HF1.out.trans HF2.out (by simp))).mono ?_; rintro e x3 ⟨rfl, hG⟩; have HF3 := Lib.hid (HF2.out.trans hG (by simp)); have hS3 := HSF.out _ HF3.out; clear hG)
      | (go_at_call 57; refine (HBA.out _ (HF1.out.trans HF3.out (by simp))).mono ?_; rintro e x4 ⟨rfl, hG⟩; have HF4 := Lib.hid (HF3.out.trans hG (by simp)); have hS4 := HSF.out _ HF4.out; clear hG))
  all_goals
    go_wp2
    exact hR.out _ _ ⟨rfl, HF1.out.trans HF4.out (by simp)⟩
theorem alloc_keptZ {w w' : World} {cs : Array Value} {t : TypeId} (h : Fr [] (w.alloc (.cells cs t)) w') : w'.heap[w.heap.size]? = some (.cells cs t (0, 0)) :=
  (h.block w.heap.size (by simp) (by simp)).trans (heap_alloc_new w _)
theorem alloc_keptZ' {w w' : World} {cs : Array Value} {t : TypeId} (h : Fr [] (w.alloc (.cells cs t)).drew w') : w'.heap[w.heap.size]? = some (.cells cs t (0, 0)) :=
  (h.block w.heap.size (by show _ < (w.alloc _).heap.size; simp) (by simp)).trans (heap_alloc_new w _)
set_option maxHeartbeats 8000000 in
set_option maxRecDepth 100000 in
theorem rsettled_calls (h : RCh P w C A0 c0 A1 c1 Ad cd) {A : Option Addr} {c : Nat} {l : List Int} (hC : (Kd.int .i64).C w A l.length l) (hc : l.length ≤ c) (hl : l.length ≤ 1000) :
    Calls Tryz.prog 29 #[.agg #[.slice A0 C.t.ks.length c0, .slice A1 C.t.wait.length c1, .slice Ad C.dr.length cd, .int .i64 C.deep, .int .i64 C.slot], .slice A l.length c] w fun e w' => e = .returned (.int .i64 (settledN C l)) ∧ Fr [] w w' := by
  have HH := Lib.hid h
  have HL := Lib.hid (fun k hk => int_at hC k hk)
  obtain ⟨N, hN⟩ : ∃ N, l.length = N := ⟨_, rfl⟩
  rw [hN] at hl
  rw [hN]
  have HN := Lib.hid hN
  obtain ⟨W1, hW1⟩ : ∃ W1, W1 = w.alloc (.cells #[.slice A0 C.t.ks.length c0, .slice A1 C.t.wait.length c1, .slice Ad C.dr.length cd, .int .i64 C.deep, .int .i64 C.slot] 32) := ⟨_, rfl⟩
  obtain ⟨g2, hg2⟩ : ∃ g2, g2 = w.heap.size := ⟨_, rfl⟩
  have hF1 : Fr [] w W1 := by rw [hW1]; exact (Fr.refl _ _).alloc _
  have hB1 : RChIn W1 g2 (.slice A0 C.t.ks.length c0) (.slice A1 C.t.wait.length c1) (.slice Ad C.dr.length cd) C.deep C.slot := by rw [hW1, hg2]; exact heap_alloc_new w _
  have HF1 := Lib.hid hF1
  have HB1 := Lib.hid hB1
  refine calls_k fun R hR => ?_
  clear h hC hc hN hF1 hB1
  go_enter Tryz.func29, Tryz.ntmps29
  go_upto_region 2 with (fail)
  rw [← hW1, ← hg2]
  clear hW1 hg2
  go_loopg [5] N (fun gn i wr => ∃ (m k : Nat), m = gn ∧ i = .int .i64 k ∧ m + k = N ∧ Hid (∀ i, i < k → okD C (l.getD i 0) = true) ∧ Hid (RChIn wr g2 (.slice A0 C.t.ks.length c0) (.slice A1 C.t.wait.length c1) (.slice Ad C.dr.length cd) C.deep C.slot) ∧ Hid (Fr [] w wr))
  case atStart => exact ⟨_, 0, rfl, rfl, rfl, fun i hi => absurd hi (Nat.not_lt_zero _), HB1, HF1⟩
  case round =>
    obtain ⟨m, k, rfl, rfl, hk, HP, HB, HF⟩ := hrel
    obtain ⟨wO, rfl⟩ : ∃ wO, wO = wr := ⟨_, rfl⟩
    clear HB1 HF1
    by_cases hlt : k < N
    · obtain ⟨m', rfl⟩ : ∃ m', m = m' + 1 := ⟨m - 1, by omega⟩
      obtain ⟨ad, hA, hcell⟩ := HL.out k (by rw [HN.out]; exact hlt)
      subst hA
      obtain ⟨x, hx⟩ : ∃ x, l.getD k 0 = x := ⟨_, rfl⟩
      rw [hx] at hcell
      have HCE := Lib.hid hcell
      have HX := Lib.hid hx
      obtain ⟨ok, hok⟩ : ∃ ok, C.t.has x = ok := ⟨_, rfl⟩
      have hokd : okD C x = (decide (x = 0) || ok) := by unfold okD; rw [hok]
      have HOKD := Lib.hid hokd
      have HGT : Hid (∀ W, Fr [] wO W → Calls Tryz.prog 60 #[.agg #[.slice A0 C.t.ks.length c0, .slice A1 C.t.wait.length c1], .int .i64 x] W fun e w' => ∃ A7 d7, e = .returned (.tuple #[.agg #[.int .i64 (C.t.get x).f0, .int .i64 (C.t.get x).f1, .int .i64 (C.t.get x).f2, .int .i64 (C.t.get x).f3, .slice A7 (C.t.get x).f4.length d7], .bool ok]) ∧ Fr [] W w') := fun W hW => by
        have hR := HH.out.fr (HF.out.trans hW (by simp))
        refine (rget_calls hR.good hR.rng hR.ks hR.wait x).mono ?_
        rintro e w' ⟨A7, d7, rfl, _, _, hF⟩
        rw [hok]
        exact ⟨A7, d7, rfl, hF⟩
      obtain ⟨gb, hgb⟩ : ∃ gb, C.t.get x = gb := ⟨_, rfl⟩
      rw [hgb] at HGT
      have HSF : Hid (∀ W, Fr [] wO W → W.cell? ⟨g2, 0, none⟩ = some (.slice A0 C.t.ks.length c0) ∧ W.cell? ⟨g2, 1, none⟩ = some (.slice A1 C.t.wait.length c1) ∧ W.cell? ⟨g2, 2, none⟩ = some (.slice Ad C.dr.length cd) ∧ W.cell? ⟨g2, 3, none⟩ = some (.int .i64 C.deep) ∧ W.cell? ⟨g2, 4, none⟩ = some (.int .i64 C.slot) ∧ W.cell? (ad.add k) = some (.int .i64 x)) := fun W hW => by
        obtain ⟨e0, e1, e2, e3, e4⟩ := (HB.out.fr hW).conj
        exact ⟨e0, e1, e2, e3, e4, ((HF.out.trans hW (by simp)).cell (lt_cell HCE.out) (by simp)).trans HCE.out⟩
      have hm0 : Fr [] wO wO.drew := (Fr.refl _ _).drew
      have hm0s : wO.heap.size ≤ wO.drew.heap.size := Nat.le_refl _
      have hk0 : (0 : Int) ≤ (k : Int) := by omega
      have hkN : (k : Int) < (N : Int) := by omega
      clear hx hok hokd hgb hcell
      go_upto_region 3 with (fail)
      go_region_held3 (fun W => W.cell? ⟨g2, 0, none⟩ = some (.slice A0 C.t.ks.length c0) ∧ W.cell? ⟨g2, 1, none⟩ = some (.slice A1 C.t.wait.length c1) ∧ W.cell? ⟨g2, 2, none⟩ = some (.slice Ad C.dr.length cd) ∧ W.cell? ⟨g2, 3, none⟩ = some (.int .i64 C.deep) ∧ W.cell? ⟨g2, 4, none⟩ = some (.int .i64 C.slot) ∧ W.cell? (ad.add k) = some (.int .i64 x))
        (exact HSF.out _ (by repeat (first | assumption | apply Fr.drew | apply Fr.alloc | exact Fr.refl _ _ | refine Fr.setCell ?_ (.inr (by first | assumption | exact Nat.le_refl _)) _)))
        (first
          | (go_at_call 60; refine (HGT.out _ (by repeat (first | assumption | apply Fr.drew | apply Fr.alloc | exact Fr.refl _ _ | refine Fr.setCell ?_ (.inr (by first | assumption | exact Nat.le_refl _)) _))).mono ?_; rintro e x2 ⟨A7, d7, rfl, hG⟩; have hm2 : Fr [] wO x2 := Fr.trans (by repeat (first | assumption | apply Fr.drew | apply Fr.alloc | exact Fr.refl _ _ | refine Fr.setCell ?_ (.inr (by first | assumption | exact Nat.le_refl _)) _)) hG (by simp); (first | (have HZ : Hid (x2.heap[wO.heap.size]? = some (.cells #[.int .i64 0, .int .i64 0, .int .i64 0, .int .i64 0, .slice none 0 0] 35 (0, 0))) := (alloc_keptZ hG); obtain ⟨z0, z1, z2, z3, z4, u0, u1, u2, u3, u4⟩ := five_cells HZ.out) | (have HZ : Hid (x2.heap[wO.heap.size]? = some (.cells #[.int .i64 0, .int .i64 0, .int .i64 0, .int .i64 0, .slice none 0 0] 35 (0, 0))) := (alloc_keptZ' hG); obtain ⟨z0, z1, z2, z3, z4, u0, u1, u2, u3, u4⟩ := five_cells HZ.out) | skip); (try clear hG)))
      all_goals
        first
          | (obtain ⟨Wf, hWf⟩ : ∃ Wf, Wf = x2.alloc (.cells #[.int .i64 gb.f0, .int .i64 gb.f1, .int .i64 gb.f2, .int .i64 gb.f3, .slice A7 gb.f4.length d7] 35) := ⟨_, rfl⟩
             rw [← hWf]
             have HFf : Hid (Fr [] wO Wf) := by show Fr _ _ _; rw [hWf]; exact hm2.alloc _
             clear hWf)
          | (obtain ⟨Wf, hWf⟩ : ∃ Wf, Wf = put5 x2 wO.heap.size (.int .i64 gb.f0) (.int .i64 gb.f1) (.int .i64 gb.f2) (.int .i64 gb.f3) (.slice A7 gb.f4.length d7) := ⟨_, rfl⟩
             have hWf2 := hWf
             unfold put5 at hWf2
             rw [← hWf2]
             have HFf : Hid (Fr [] wO Wf) := by show Fr _ _ _; rw [hWf]; exact put5_fr hm2 (.inr (Nat.le_refl _)) _ _ _ _ _
             clear hWf hWf2)
        (try clear z0 z1 z2 z3 z4 u0 u1 u2 u3 u4)
        clear hm0 hm0s hm2
        obtain ⟨_, _, _, _, _, e5⟩ := HSF.out _ HFf.out
        have HFw := Lib.hid (HF.out.trans HFf.out (by simp))
        have HBw := Lib.hid (HB.out.fr HFf.out)
        by_cases h0 : x = 0
        · have HP' : Hid (∀ i, i < k + 1 → okD C (l.getD i 0) = true) := by
            show ∀ i, i < k + 1 → okD C (l.getD i 0) = true
            intro i hi
            by_cases e : i = k
            · rw [e, HX.out, HOKD.out]; simp [h0]
            · exact HP.out i (by omega)
          subst h0
          go_wp2
          go_roundg m'
          case rel => exact ⟨m', k + 1, rfl, by go_num, by omega, HP', HBw, HFw⟩
          case measure => omega
        · have hb1 : (x == 0) = false := by simpa using h0
          have hb2 : (x != 0) = true := by simpa using h0
          cases ok with
          | true =>
            have HP' : Hid (∀ i, i < k + 1 → okD C (l.getD i 0) = true) := by
              show ∀ i, i < k + 1 → okD C (l.getD i 0) = true
              intro i hi
              by_cases e : i = k
              · rw [e, HX.out, HOKD.out]; simp
              · exact HP.out i (by omega)
            go_wp2
            go_roundg m'
            case rel => exact ⟨m', k + 1, rfl, by go_num, by omega, HP', HBw, HFw⟩
            case measure => omega
          | false =>
            have hse : settledN C l = k := takeWhile_len HP.out (by rw [HN.out]; omega) (.inr (by rw [HX.out, HOKD.out]; simp [h0]))
            rw [hse] at hR
            clear hse
            go_wp2
            exact hR.out _ _ ⟨rfl, HFw.out⟩
    · obtain rfl : k = N := by omega
      have hse : settledN C l = k := takeWhile_len HP.out (by rw [HN.out]; exact Nat.le_refl _) (.inl HN.out.symm)
      rw [hse] at hR
      clear hse
      go_wp2
      exact hR.out _ _ ⟨rfl, HF.out⟩
end
end Go.Np.Tryz
end
section
set_option linter.unusedVariables false
set_option linter.unusedSimpArgs false
namespace Go.Np
open Go.RowKit
section
variable {P : Program} {ops : Array Oper} {rest : List Oper} {o : Oper} {a : Act} {Q : Exit → Act → World → Prop}
theorem op_appendS {w : World} {K : Act → World → Prop} (s x : Operand) (t e : TypeId)
    (ho : o.op = .call { callee := .builtin .append, args := #[s, x], argTypes := #[t, t] })
    (ht : P.underlying t = some (.slice e)) {z : Value} {size bytes : Nat} (hinfo : (P.info? e).map (fun i => (i.zero, i.size, i.bytes)) = some (some z, size, bytes)) (hz : z.cells.size = size) (hs0 : 0 < size)
    {v : Value} {n : Nat} {xs : List Value} (hown : w.ownsRow 0 e size v n xs) (hs : a.eval s = v) (ad : Addr) (m c : Nat) (news : List Value) (hx : a.eval x = .slice (some ad) m c) (hl : news.length = m * size) (hnews : ∀ j u, news[j]? = some u → w.cell? (ad.add j) = some u) (h1 : ∀ u ∈ news, u.oneCell' = true)
    (h63 : n + m ≤ maxLen) (hbytes : (n + m) * bytes ≤ 140737488355328)
    (h : ∀ A' c' w', w'.ownsRow 0 e size (.slice A' (n + m) c') (n + m) (xs ++ news) → Fr v.ownBlock.toList w w' → Fresh v.ownBlock.toList (Value.slice A' (n + m) c').ownBlock.toList w → K (a.put o.dst (.slice A' (n + m) c')) w') :
    Oper.wp P o a w K Q := by
  obtain ⟨A', c', w', hr, h2, h3, h4⟩ := run_appendS (P := P) w t o.type e ht hinfo hz hs0 hown ad m c news hl hnews h1 h63 hbytes
  unfold Oper.wp execOp
  simp only [ho, resolve, invoke, builtin, Sem.run_bind, Sem.run_pure, Result.andThen_ok, List.map_toArray, List.map_cons, List.map_nil, hs, hx, hr]
  exact h A' c' w' h2 h3 h4
end
end Go.Np
namespace Go.Np.Tryz
open Go.RowKit Go.Proofs Go.Proofs.YtlllhpnpgcphcaaGreat.PX Go.Proofs.YtlllhpnpgcphcaaGreatW.PrintWords
theorem RowL.none (w : World) : RowL w.heap.size (w.alloc (.cells #[] 22)) (.slice (some ⟨w.heap.size, 0, Option.none⟩) ([] : List LV).length 0) [] :=
  ⟨⟨rfl, .inr ⟨w.heap.size, 0, #[], rfl, Nat.zero_le _, heap_alloc_new _ _, Nat.le_refl _, Nat.zero_le _, by simp, by simp⟩⟩, fun k hk => by simp [Value.ownBlock] at hk; omega, by simp⟩
section
variable {P : Nat → Prop} {w : World} {C : Ch} {A0 A1 Ad : Option Addr} {c0 c1 cd : Nat}
set_option maxHeartbeats 8000000 in
set_option maxRecDepth 100000 in
theorem rfinal_calls (h : RCh P w C A0 c0 A1 c1 Ad cd) {A : Option Addr} {c : Nat} {l : List Int} (hC : (Kd.int .i64).C w A l.length l) (hc : l.length ≤ c) (hl : l.length ≤ 40) :
    Calls Tryz.prog 31 #[.agg #[.slice A0 C.t.ks.length c0, .slice A1 C.t.wait.length c1, .slice Ad C.dr.length cd, .int .i64 C.deep, .int .i64 C.slot], .slice A l.length c] w fun e w' => ∃ A' c', e = .returned (.slice A' (finalL C l).length c') ∧ SlI w' (.slice A' (finalL C l).length c') (finalL C l) ∧ Fr [] w w' := by
  have HH := Lib.hid h
  have HLE := Lib.hid hc
  have HCC := Lib.hid hC
  have HGD := Lib.hid h.good
  have HL := Lib.hid (fun k hk => int_at hC k hk)
  obtain ⟨K, hK⟩ : ∃ K, settledN C l = K := ⟨_, rfl⟩
  have hKl := settled_le C l
  rw [hK] at hKl
  have hfin : finalL C l = cleanL [] ((l.take K).map C.txs).flatten := by unfold finalL; rw [hK]
  rw [hfin]
  have HSE : Hid (∀ W, Fr [] w W → Calls Tryz.prog 29 #[.agg #[.slice A0 C.t.ks.length c0, .slice A1 C.t.wait.length c1, .slice Ad C.dr.length cd, .int .i64 C.deep, .int .i64 C.slot], .slice A l.length c] W fun e w' => e = .returned (.int .i64 K) ∧ Fr [] W w') := fun W hW => by
    have h1 := rsettled_calls (HH.out.fr hW) (Kd.C_below HCC.out hW.below) HLE.out (by omega)
    rw [hK] at h1; exact h1
  have HTXA : Hid (∀ W, Fr [] w W → ∀ n : Int, Calls Tryz.prog 25 #[.agg #[.slice A0 C.t.ks.length c0, .slice A1 C.t.wait.length c1, .slice Ad C.dr.length cd, .int .i64 C.deep, .int .i64 C.slot], .int .i64 n] W fun e w' => ∃ v, e = .returned v ∧ OwnI W.heap.size w' v (C.txs n) ∧ Fr [] W w') := fun W hW n => rtxs_calls (HH.out.fr hW) n
  obtain ⟨v0, hv0⟩ : ∃ v0 : Value, .slice A0 C.t.ks.length c0 = v0 := ⟨_, rfl⟩
  obtain ⟨v1, hv1⟩ : ∃ v1 : Value, .slice A1 C.t.wait.length c1 = v1 := ⟨_, rfl⟩
  obtain ⟨vd, hvd⟩ : ∃ vd : Value, .slice Ad C.dr.length cd = vd := ⟨_, rfl⟩
  obtain ⟨dp, hdp⟩ : ∃ dp, C.deep = dp := ⟨_, rfl⟩
  obtain ⟨sl, hsl⟩ : ∃ sl, C.slot = sl := ⟨_, rfl⟩
  obtain ⟨N, hN⟩ : ∃ N, l.length = N := ⟨_, rfl⟩
  rw [hv0, hv1, hvd, hdp, hsl] at HSE HTXA
  rw [hN] at HSE hKl hl
  rw [hv0, hv1, hvd, hdp, hsl, hN]
  have HN := Lib.hid hN
  obtain ⟨W1, hW1⟩ : ∃ W1, W1 = w.alloc (.cells #[v0, v1, vd, .int .i64 dp, .int .i64 sl] 32) := ⟨_, rfl⟩
  obtain ⟨W2, hW2⟩ : ∃ W2, W2 = W1.alloc (.cells #[] 22) := ⟨_, rfl⟩
  obtain ⟨g2, hg2⟩ : ∃ g2, g2 = w.heap.size := ⟨_, rfl⟩
  obtain ⟨g3, hg3⟩ : ∃ g3, g3 = w.heap.size + 1 := ⟨_, rfl⟩
  have hs1 : W1.heap.size = w.heap.size + 1 := by rw [hW1]; simp
  have hF1 : Fr [] w W1 := by rw [hW1]; exact (Fr.refl _ _).alloc _
  have hF12 : Fr [] W1 W2 := by rw [hW2]; exact (Fr.refl _ _).alloc _
  have hB1 : RChIn W1 g2 v0 v1 vd dp sl := by rw [hW1, hg2]; exact heap_alloc_new w _
  have HF2 := Lib.hid (hF1.trans hF12 (by simp))
  have HB2 := Lib.hid (hB1.fr hF12)
  have HR2 : Hid (RowL w.heap.size W2 (.slice (some ⟨g3, 0, none⟩) ([] : List LV).length 0) []) := by
    have h1 := RowL.none W1
    rw [← hW2, hs1, ← hg3] at h1
    exact ⟨h1.1, fun k hk => by have := h1.2.1 k hk; omega, by simp⟩
  refine calls_k fun R hR => ?_
  clear h hC hc hK hfin hv0 hv1 hvd hdp hsl hN hF1 hF12 hB1
  go_enter Tryz.func31, Tryz.ntmps31
  go_upto_region 3 with (fail)
  rw [← hW1, ← hW2, ← hg3, ← hg2]
  clear hW1 hW2 hg2 hg3 hs1
  go_loopg [5, 6] K (fun gn o i wr => ∃ (m j : Nat) (qs : List LV) (B : Option Addr) (d : Nat), m = gn ∧ o = .slice B qs.length d ∧ i = .int .i64 j ∧ m + j = K ∧ Hid (qs.length = j) ∧ Hid (qs.map (·.l) = (l.take j).map C.txs) ∧ Hid (RowL w.heap.size wr (.slice B qs.length d) qs) ∧ Hid (RChIn wr g2 v0 v1 vd dp sl) ∧ Hid (Fr [] w wr))
  case atStart => exact ⟨_, 0, [], some ⟨g3, 0, none⟩, 0, rfl, rfl, rfl, rfl, rfl, rfl, HR2, HB2, HF2⟩
  case round =>
    obtain ⟨m, j, qs, B, d, rfl, rfl, rfl, hj, HQ, HM, HR, HB, HF⟩ := hrel
    clear HR2 HB2 HF2
    obtain ⟨a0, a1, a2, a3, a4, _, _, _, _, _⟩ := five_cells HB.out
    by_cases hlt : j < K
    · obtain ⟨m', rfl⟩ : ∃ m', m = m' + 1 := ⟨m - 1, by omega⟩
      obtain ⟨ad, hA, hcell0⟩ := HL.out j (by rw [HN.out]; omega)
      subst hA
      obtain ⟨x, hx⟩ : ∃ x, l.getD j 0 = x := ⟨_, rfl⟩
      rw [hx] at hcell0
      have HCE := Lib.hid hcell0
      have HT := Lib.hid (take_snocI (show j < l.length by rw [HN.out]; omega) hx)
      obtain ⟨T, hT⟩ : ∃ T, C.txs x = T := ⟨_, rfl⟩
      have HTX : Hid (∀ W, Fr [] w W → Calls Tryz.prog 25 #[.agg #[v0, v1, vd, .int .i64 dp, .int .i64 sl], .int .i64 x] W fun e w' => ∃ v, e = .returned v ∧ OwnI W.heap.size w' v T ∧ Fr [] W w') := fun W hW => by
        have h1 := HTXA.out W hW x
        rw [hT] at h1; exact h1
      have HTT := Lib.hid hT
      have hj40 : j ≤ 40 := by omega
      have hj0 : (0 : Int) ≤ (j : Int) := by omega
      have hjN : (j : Int) < (N : Int) := by omega
      have HSF : Hid (∀ W, Fr [] w W → RChIn W g2 v0 v1 vd dp sl → Fr [] w W ∧ W.cell? ⟨g2, 0, none⟩ = some v0 ∧ W.cell? ⟨g2, 1, none⟩ = some v1 ∧ W.cell? ⟨g2, 2, none⟩ = some vd ∧ W.cell? ⟨g2, 3, none⟩ = some (.int .i64 dp) ∧ W.cell? ⟨g2, 4, none⟩ = some (.int .i64 sl) ∧ W.cell? (ad.add j) = some (.int .i64 x)) := fun W hW hB => by
        obtain ⟨e0, e1, e2, e3, e4⟩ := hB.conj
        exact ⟨hW, e0, e1, e2, e3, e4, (hW.cell (lt_cell HCE.out) (by simp)).trans HCE.out⟩
      clear hx hT hcell0
      go_upto_region 5 with (go_at_call 29; refine (HSE.out _ HF.out).mono ?_; rintro e w1 ⟨rfl, hF1⟩
                             have HB1 := Lib.hid (HB.out.fr hF1)
                             have HR1 := Lib.hid (HR.out.fr hF1)
                             have HF1 := Lib.hid (HF.out.trans hF1 (by simp))
                             clear hF1 a0 a1 a2 a3 a4)
      refine wp_region_held_drew (S := fun W => Fr [] w W ∧ W.cell? ⟨g2, 0, none⟩ = some v0 ∧ W.cell? ⟨g2, 1, none⟩ = some v1 ∧ W.cell? ⟨g2, 2, none⟩ = some vd ∧ W.cell? ⟨g2, 3, none⟩ = some (.int .i64 dp) ∧ W.cell? ⟨g2, 4, none⟩ = some (.int .i64 sl) ∧ W.cell? (ad.add j) = some (.int .i64 x)) (by kernel_rfl) (HSF.out _ HF1.out.drew HB1.out.drew) (fun hHeld => ?_)
      refine held_take (i := 0) (v := ?_) rfl (by kernel_rfl) (by kernel_rfl) (by kernel_rfl) (fun _ _ _ h => h) (Or.inl ⟨by rfl, ?_⟩) (by assumption) ?_
      rotate_left
      · intro w hSw; obtain ⟨sF, s0, s1, s2, s3, s4, s5⟩ := hSw; (try go_simp); first | done | with_reducible rfl | assumption | skip
      try simp only [Act.put, List.setIfInBounds_toArray, List.set_cons_zero, List.set_cons_succ]
      refine held_take (i := 1) (v := ?_) rfl (by kernel_rfl) (by kernel_rfl) (by kernel_rfl) (fun _ _ _ h => h) (Or.inl ⟨by rfl, ?_⟩) (by assumption) ?_
      rotate_left
      · intro w hSw; obtain ⟨sF, s0, s1, s2, s3, s4, s5⟩ := hSw; (try go_simp); first | done | with_reducible rfl | assumption | skip
      try simp only [Act.put, List.setIfInBounds_toArray, List.set_cons_zero, List.set_cons_succ]
      refine held_take (i := 2) (v := ?_) rfl (by kernel_rfl) (by kernel_rfl) (by kernel_rfl) (fun _ _ _ h => h) (Or.inl ⟨by rfl, ?_⟩) (by assumption) ?_
      rotate_left
      · intro w hSw; obtain ⟨sF, s0, s1, s2, s3, s4, s5⟩ := hSw; (try go_simp); first | done | with_reducible rfl | assumption | skip
      try simp only [Act.put, List.setIfInBounds_toArray, List.set_cons_zero, List.set_cons_succ]
      refine held_take (i := 3) (v := ?_) rfl (by kernel_rfl) (by kernel_rfl) (by kernel_rfl) (fun _ _ _ h => h) (Or.inl ⟨by rfl, ?_⟩) (by assumption) ?_
      rotate_left
      · intro w hSw; obtain ⟨sF, s0, s1, s2, s3, s4, s5⟩ := hSw; (try go_simp); first | done | with_reducible rfl | assumption | skip
      try simp only [Act.put, List.setIfInBounds_toArray, List.set_cons_zero, List.set_cons_succ]
      refine held_take (i := 4) (v := ?_) rfl (by kernel_rfl) (by kernel_rfl) (by kernel_rfl) (fun _ _ _ h => h) (Or.inl ⟨by rfl, ?_⟩) (by assumption) ?_
      rotate_left
      · intro w hSw; obtain ⟨sF, s0, s1, s2, s3, s4, s5⟩ := hSw; (try go_simp); first | done | with_reducible rfl | assumption | skip
      try simp only [Act.put, List.setIfInBounds_toArray, List.set_cons_zero, List.set_cons_succ]
      refine held_take (i := 5) (v := ?_) rfl (by kernel_rfl) (by kernel_rfl) (by kernel_rfl) (fun _ _ _ h => h) (Or.inl ⟨by rfl, ?_⟩) (by assumption) ?_
      rotate_left
      · intro w hSw; obtain ⟨sF, s0, s1, s2, s3, s4, s5⟩ := hSw; (try go_simp); first | done | with_reducible rfl | assumption | skip
      try simp only [Act.put, List.setIfInBounds_toArray, List.set_cons_zero, List.set_cons_succ]
      refine held_one (i := 6) rfl (by kernel_rfl) (by rfl) (fun K2 hK2 => ?_)
      go_simp
      refine (HTX.out _ HF1.out.drew).mono ?_
      rintro e w2 ⟨v2, rfl, hO2, hF2⟩
      obtain ⟨A2, c2, rfl⟩ := hO2.form
      have HO2 := Lib.hid (hO2.mono HF1.out.drew.size)
      have HB2 := Lib.hid (HB1.out.drew.fr hF2)
      have HR2 := Lib.hid ((HR1.out.fr (Fr.refl [] w1).drew).fr hF2)
      have HF2 := Lib.hid (HF1.out.drew.trans hF2 (by simp))
      refine hK2.out _ _ (HSF.out _ HF2.out HB2.out) (fun hHeld2 => ?_)
      try simp only [Act.put, List.setIfInBounds_toArray, List.set_cons_zero, List.set_cons_succ]
      clear hK2 K2 hO2 hF2
      refine held_one (i := 7) rfl (by kernel_rfl) (by rfl) (fun K3 hK3 => ?_)
      go_simp
      have HFA : Hid (Fr [] w2 (w2.alloc (.cells #[.slice A2 T.length c2] 22))) := (Fr.refl _ _).alloc _
      have HB3 := Lib.hid (HB2.out.fr HFA.out)
      have HR3 := Lib.hid (HR2.out.fr HFA.out)
      have HF3 := Lib.hid (HF2.out.trans HFA.out (by simp))
      refine hK3.out _ _ (HSF.out _ HF3.out HB3.out) (fun hHeld3 => ?_)
      try simp only [Act.put, List.setIfInBounds_toArray, List.set_cons_zero, List.set_cons_succ]
      clear hK3 K3
      have HNEWS : Hid (∀ (k : Nat) (u : Value), [Value.slice A2 T.length c2][k]? = some u → (w2.alloc (.cells #[.slice A2 T.length c2] 22)).cell? ((⟨w2.heap.size, 0, none⟩ : Addr).add k) = some u) := by
        intro k u hu
        rw [addr_add _ _ rfl, cell_of (heap_alloc_new w2 _)]
        simpa using hu
      refine held_one (i := 8) rfl (by kernel_rfl) (by rfl) (fun K4 hK4 => ?_)
      refine op_appendS _ _ 97 22 rfl Tryz.underlying97 infoL rfl (by decide) HR3.out.1 (by rfl) ⟨w2.heap.size, 0, none⟩ 1 1 [.slice A2 T.length c2] (by rfl) rfl HNEWS.out (by simp [Value.oneCell']) (by rw [HQ.out]; unfold maxLen; omega) (by rw [HQ.out]; omega) ?_
      intro A3 c3 w3 h1 h2 h3
      have HR4 := Lib.hid (HR3.out.more (q := ⟨A2, c2, T⟩) HF3.out.size (HO2.out.fr HFA.out (by simp)) h1 h2 h3)
      have HB4 : Hid (RChIn w3 g2 v0 v1 vd dp sl) := (h2.block g2 HB3.out.lt (row_ne_obj HR3.out.1 HB3.out (by decide))).trans HB3.out
      have HF4 := Lib.hid (HF3.out.trans h2 (fun k hk => .inr (HR3.out.2.1 k hk)))
      refine hK4.out _ _ (HSF.out _ HF4.out HB4.out) (fun hHeld4 => ?_)
      try simp only [Act.put, List.setIfInBounds_toArray, List.set_cons_zero, List.set_cons_succ]
      clear hK4 K4 h1 h2 h3
      refine held_take (i := 9) (v := ?_) rfl (by kernel_rfl) (by kernel_rfl) (by kernel_rfl) (fun _ _ _ h => h) (Or.inl ⟨by rfl, ?_⟩) (by assumption) ?_
      rotate_left
      · intro w hSw; obtain ⟨sF, s0, s1, s2, s3, s4, s5⟩ := hSw; (try go_simp); first | done | with_reducible rfl | assumption | skip
      try simp only [Act.put, List.setIfInBounds_toArray, List.set_cons_zero, List.set_cons_succ]
      refine wpAnyH_done (by kernel_rfl) ?_ _
      go_wp2
      go_roundg m'
      case rel =>
        refine ⟨m', j + 1, qs ++ [⟨A2, c2, T⟩], A3, c3, rfl, by rw [List.length_append]; rfl, by go_num, by omega, ?_, ?_, ?_, HB4, HF4⟩
        · show _ = _
          rw [List.length_append, HQ.out]; rfl
        · show _ = _
          rw [HT.out, List.map_append, List.map_append, HM.out, ← HTT.out]; rfl
        · show RowL _ _ _ _
          rw [List.length_append]; exact HR4.out
      case measure => omega
    · obtain rfl : j = K := by omega
      have HLI := Lib.hid HR.out.lists
      have hfl : ((l.take j).map C.txs).flatten.length ≤ 100000 := by
        have h2 := flat_txs HGD.out (l.take j)
        have h3 : (l.take j).length ≤ j := List.length_take_le _ _
        omega
      have HRC : Hid (∀ W, Fr [] wr W → Calls Tryz.prog 63 #[.slice B qs.length d] W fun e w' => ∃ A' c', e = .returned (.slice A' (cleanL [] ((l.take j).map C.txs).flatten).length c') ∧ SlI w' (.slice A' (cleanL [] ((l.take j).map C.txs).flatten).length c') (cleanL [] ((l.take j).map C.txs).flatten) ∧ Fr [] W w') := fun W hW => by
        have h1 := rclean_calls (c := d) (HLI.out.fr hW) (by rw [List.length_map, HQ.out]; omega) (by rw [HM.out]; exact hfl)
        rw [List.length_map, HM.out] at h1; exact h1
      obtain ⟨F, hFF⟩ : ∃ F, cleanL [] ((l.take j).map C.txs).flatten = F := ⟨_, rfl⟩
      rw [hFF] at HRC hR
      clear hFF hfl
      go_wp2_with (first
        | (go_at_call 29; refine (HSE.out _ HF.out).mono ?_; rintro e w1 ⟨rfl, hF1⟩
           have HF1 := Lib.hid hF1
           clear hF1 a0 a1 a2 a3 a4)
        | (go_at_call 63; refine (HRC.out _ HF1.out).mono ?_; rintro e w2 ⟨A2, c2, rfl, hS2, hF2⟩
           have HS2 := Lib.hid hS2
           have HF2 := Lib.hid ((HF.out.trans HF1.out (by simp)).trans hF2 (by simp))
           clear hS2 hF2))
      exact hR.out _ _ ⟨_, _, rfl, HS2.out, HF2.out⟩
theorem rclean2_calls {W : World} {A1 A2 : Option Addr} {c1 c2 : Nat} {l1 l2 : List Int} (h1 : SlI W (.slice A1 l1.length c1) l1) (h2 : SlI W (.slice A2 l2.length c2) l2) (hl : l1.length + l2.length ≤ 100000) :
    Calls Tryz.prog 63 #[.slice (some ⟨W.heap.size, 0, none⟩) 2 2] (W.alloc (.cells #[.slice A1 l1.length c1, .slice A2 l2.length c2] 22)) fun e w' => ∃ A c, e = .returned (.slice A (cleanL [] (l1 ++ l2)).length c) ∧ SlI w' (.slice A (cleanL [] (l1 ++ l2)).length c) (cleanL [] (l1 ++ l2)) ∧ Fr [] W w' := by
  have hF : Fr [] W (W.alloc (.cells #[.slice A1 l1.length c1, .slice A2 l2.length c2] 22)) := (Fr.refl _ _).alloc _
  have h := rclean_calls (c := 2) (lists2 h1 h2) (by simp) (by simp; omega)
  simp only [List.flatten_cons, List.flatten_nil, List.append_nil, List.length_cons, List.length_nil] at h
  refine h.mono ?_
  rintro e w' ⟨A, c, rfl, h4, h6⟩
  exact ⟨A, c, rfl, h4, hF.trans h6 (by simp)⟩
set_option maxHeartbeats 8000000 in
set_option maxRecDepth 100000 in
theorem ravail_calls (h : RCh P w C A0 c0 A1 c1 Ad cd) {A : Option Addr} {c : Nat} {l : List Int} (hC : (Kd.int .i64).C w A l.length l) (hc : l.length ≤ c) (hl : l.length ≤ 40) :
    Calls Tryz.prog 33 #[.agg #[.slice A0 C.t.ks.length c0, .slice A1 C.t.wait.length c1, .slice Ad C.dr.length cd, .int .i64 C.deep, .int .i64 C.slot], .slice A l.length c] w fun e w' => ∃ A' c', e = .returned (.slice A' (availL C l).length c') ∧ SlI w' (.slice A' (availL C l).length c') (availL C l) ∧ Fr [] w w' := by
  have HH := Lib.hid h
  have HLE := Lib.hid hc
  have HCC := Lib.hid hC
  have HFI : Hid (∀ W, Fr [] w W → Calls Tryz.prog 31 #[.agg #[.slice A0 C.t.ks.length c0, .slice A1 C.t.wait.length c1, .slice Ad C.dr.length cd, .int .i64 C.deep, .int .i64 C.slot], .slice A l.length c] W fun e w' => ∃ A' c', e = .returned (.slice A' (finalL C l).length c') ∧ SlI w' (.slice A' (finalL C l).length c') (finalL C l) ∧ Fr [] W w') := fun W hW => rfinal_calls (HH.out.fr hW) (Kd.C_below HCC.out hW.below) HLE.out hl
  have HCF : Hid (∀ W, Fr [] w W → Calls Tryz.prog 23 #[.agg #[.slice A0 C.t.ks.length c0, .slice A1 C.t.wait.length c1, .slice Ad C.dr.length cd, .int .i64 C.deep, .int .i64 C.slot]] W fun e w' => e = .returned (.int .i64 C.conf) ∧ Fr [] W w') := fun W hW => rconf_calls (HH.out.fr hW)
  have HTX : Hid (∀ W, Fr [] w W → Calls Tryz.prog 25 #[.agg #[.slice A0 C.t.ks.length c0, .slice A1 C.t.wait.length c1, .slice Ad C.dr.length cd, .int .i64 C.deep, .int .i64 C.slot], .int .i64 C.conf] W fun e w' => ∃ v, e = .returned v ∧ OwnI W.heap.size w' v (C.txs C.conf) ∧ Fr [] W w') := fun W hW => rtxs_calls (HH.out.fr hW) C.conf
  obtain ⟨F, hF⟩ : ∃ F, finalL C l = F := ⟨_, rfl⟩
  obtain ⟨T, hT⟩ : ∃ T, C.txs C.conf = T := ⟨_, rfl⟩
  obtain ⟨cf, hcf⟩ : ∃ cf, C.conf = cf := ⟨_, rfl⟩
  have hfl : F.length ≤ 48000 := by rw [← hF]; exact final_len h.good hl
  have htl : T.length ≤ 1200 := by rw [← hT]; exact txs_len h.good _
  have hav : availL C l = cleanL [] (F ++ T) := by unfold availL; rw [hF, hT]
  rw [hF] at HFI
  rw [hT, hcf] at HTX
  rw [hcf] at HCF
  rw [hav]
  have HSUM := Lib.hid (show F.length + T.length ≤ 100000 by omega)
  obtain ⟨v0, hv0⟩ : ∃ v0 : Value, .slice A0 C.t.ks.length c0 = v0 := ⟨_, rfl⟩
  obtain ⟨v1, hv1⟩ : ∃ v1 : Value, .slice A1 C.t.wait.length c1 = v1 := ⟨_, rfl⟩
  obtain ⟨vd, hvd⟩ : ∃ vd : Value, .slice Ad C.dr.length cd = vd := ⟨_, rfl⟩
  obtain ⟨dp, hdp⟩ : ∃ dp, C.deep = dp := ⟨_, rfl⟩
  obtain ⟨sl, hsl⟩ : ∃ sl, C.slot = sl := ⟨_, rfl⟩
  obtain ⟨N, hN⟩ : ∃ N, l.length = N := ⟨_, rfl⟩
  rw [hv0, hv1, hvd, hdp, hsl] at HFI HCF HTX
  rw [hN] at HFI
  rw [hv0, hv1, hvd, hdp, hsl, hN]
  obtain ⟨W1, hW1⟩ : ∃ W1, W1 = w.alloc (.cells #[v0, v1, vd, .int .i64 dp, .int .i64 sl] 32) := ⟨_, rfl⟩
  obtain ⟨g2, hg2⟩ : ∃ g2, g2 = w.heap.size := ⟨_, rfl⟩
  have hF1 : Fr [] w W1 := by rw [hW1]; exact (Fr.refl _ _).alloc _
  have hB1 : RChIn W1 g2 v0 v1 vd dp sl := by rw [hW1, hg2]; exact heap_alloc_new w _
  have HF1 := Lib.hid hF1
  have HB1 := Lib.hid hB1
  have HSF : Hid (∀ W, Fr [] w W → RChIn W g2 v0 v1 vd dp sl → Fr [] w W ∧ W.cell? ⟨g2, 0, none⟩ = some v0 ∧ W.cell? ⟨g2, 1, none⟩ = some v1 ∧ W.cell? ⟨g2, 2, none⟩ = some vd ∧ W.cell? ⟨g2, 3, none⟩ = some (.int .i64 dp) ∧ W.cell? ⟨g2, 4, none⟩ = some (.int .i64 sl)) := fun W hW hB => ⟨hW, hB.conj⟩
  refine calls_k fun R hR => ?_
  clear h hC hc hv0 hv1 hvd hdp hsl hN hF1 hB1 hF hT hcf hav hfl htl hl
  go_enter Tryz.func33, Tryz.ntmps33
  go_upto_region 1 with (fail)
  rw [← hW1, ← hg2]
  clear hW1 hg2
  refine wp_region_held_drew (S := fun W => Fr [] w W ∧ W.cell? ⟨g2, 0, none⟩ = some v0 ∧ W.cell? ⟨g2, 1, none⟩ = some v1 ∧ W.cell? ⟨g2, 2, none⟩ = some vd ∧ W.cell? ⟨g2, 3, none⟩ = some (.int .i64 dp) ∧ W.cell? ⟨g2, 4, none⟩ = some (.int .i64 sl)) (by kernel_rfl) (HSF.out _ HF1.out.drew HB1.out.drew) (fun hHeld => ?_)
  refine held_take (i := 0) (v := ?_) rfl (by kernel_rfl) (by kernel_rfl) (by kernel_rfl) (fun _ _ _ h => h) (Or.inl ⟨by rfl, ?_⟩) (by assumption) ?_
  rotate_left
  · intro w hSw; obtain ⟨sF, s0, s1, s2, s3, s4⟩ := hSw; (try go_simp); first | done | with_reducible rfl | assumption | skip
  try simp only [Act.put, List.setIfInBounds_toArray, List.set_cons_zero, List.set_cons_succ]
  refine held_take (i := 1) (v := ?_) rfl (by kernel_rfl) (by kernel_rfl) (by kernel_rfl) (fun _ _ _ h => h) (Or.inl ⟨by rfl, ?_⟩) (by assumption) ?_
  rotate_left
  · intro w hSw; obtain ⟨sF, s0, s1, s2, s3, s4⟩ := hSw; (try go_simp); first | done | with_reducible rfl | assumption | skip
  try simp only [Act.put, List.setIfInBounds_toArray, List.set_cons_zero, List.set_cons_succ]
  refine held_take (i := 3) (v := ?_) rfl (by kernel_rfl) (by kernel_rfl) (by kernel_rfl) (fun _ _ _ h => h) (Or.inl ⟨by rfl, ?_⟩) (by assumption) ?_
  rotate_left
  · intro w hSw; obtain ⟨sF, s0, s1, s2, s3, s4⟩ := hSw; (try go_simp); first | done | with_reducible rfl | assumption | skip
  try simp only [Act.put, List.setIfInBounds_toArray, List.set_cons_zero, List.set_cons_succ]
  refine held_take (i := 4) (v := ?_) rfl (by kernel_rfl) (by kernel_rfl) (by kernel_rfl) (fun _ _ _ h => h) (Or.inl ⟨by rfl, ?_⟩) (by assumption) ?_
  rotate_left
  · intro w hSw; obtain ⟨sF, s0, s1, s2, s3, s4⟩ := hSw; (try go_simp); first | done | with_reducible rfl | assumption | skip
  try simp only [Act.put, List.setIfInBounds_toArray, List.set_cons_zero, List.set_cons_succ]
  refine held_one (i := 2) rfl (by kernel_rfl) (by rfl) (fun K2 hK2 => ?_)
  go_simp
  refine (HFI.out _ HF1.out.drew).mono ?_
  rintro e w2 ⟨A2, c2, rfl, hS2, hF2⟩
  have HS2 := Lib.hid hS2
  have HBx2 := Lib.hid (HB1.out.drew.fr hF2)
  have HFx2 := Lib.hid (HF1.out.drew.trans hF2 (by simp))
  clear hS2 hF2
  refine hK2.out _ _ (HSF.out _ HFx2.out HBx2.out) (fun hHeld2 => ?_)
  try simp only [Act.put, List.setIfInBounds_toArray, List.set_cons_zero, List.set_cons_succ]
  clear hK2 K2
  refine held_one (i := 5) rfl (by kernel_rfl) (by rfl) (fun K5 hK5 => ?_)
  go_simp
  refine (HCF.out _ HFx2.out).mono ?_
  rintro e w5 ⟨rfl, hF5⟩
  have HS5 := Lib.hid (HS2.out.fr hF5)
  have HBx5 := Lib.hid (HBx2.out.fr hF5)
  have HFx5 := Lib.hid (HFx2.out.trans hF5 (by simp))
  clear hF5
  refine hK5.out _ _ (HSF.out _ HFx5.out HBx5.out) (fun hHeld5 => ?_)
  try simp only [Act.put, List.setIfInBounds_toArray, List.set_cons_zero, List.set_cons_succ]
  clear hK5 K5
  refine held_one (i := 6) rfl (by kernel_rfl) (by rfl) (fun K6 hK6 => ?_)
  go_simp
  refine (HTX.out _ HFx5.out).mono ?_
  rintro e w6 ⟨v6, rfl, hO6, hF6⟩
  obtain ⟨A6, c6, rfl⟩ := hO6.form
  have HS6 := Lib.hid (HS5.out.fr hF6)
  have HT6 := Lib.hid hO6.sl
  have HBx6 := Lib.hid (HBx5.out.fr hF6)
  have HFx6 := Lib.hid (HFx5.out.trans hF6 (by simp))
  clear hO6 hF6
  refine hK6.out _ _ (HSF.out _ HFx6.out HBx6.out) (fun hHeld6 => ?_)
  try simp only [Act.put, List.setIfInBounds_toArray, List.set_cons_zero, List.set_cons_succ]
  clear hK6 K6
  refine held_one (i := 7) rfl (by kernel_rfl) (by rfl) (fun K7 hK7 => ?_)
  go_simp
  have HFA : Hid (Fr [] w6 (w6.alloc (.cells #[.slice A2 F.length c2, .slice A6 T.length c6] 22))) := (Fr.refl _ _).alloc _
  have HBx7 := Lib.hid (HBx6.out.fr HFA.out)
  have HFx7 := Lib.hid (HFx6.out.trans HFA.out (by simp))
  refine hK7.out _ _ (HSF.out _ HFx7.out HBx7.out) (fun hHeld7 => ?_)
  try simp only [Act.put, List.setIfInBounds_toArray, List.set_cons_zero, List.set_cons_succ]
  clear hK7 K7
  have HCL := Lib.hid (rclean2_calls HS6.out HT6.out HSUM.out)
  refine held_one (i := 8) rfl (by kernel_rfl) (by rfl) (fun K8 hK8 => ?_)
  go_simp
  refine (HCL.out).mono ?_
  rintro e w8 ⟨A8, c8, rfl, hS8, hF8⟩
  have HS8 := Lib.hid hS8
  have HBx8 := Lib.hid (HBx6.out.fr hF8)
  have HFx8 := Lib.hid (HFx6.out.trans hF8 (by simp))
  clear hS8 hF8
  refine hK8.out _ _ (HSF.out _ HFx8.out HBx8.out) (fun hHeld8 => ?_)
  try simp only [Act.put, List.setIfInBounds_toArray, List.set_cons_zero, List.set_cons_succ]
  clear hK8 K8
  refine held_take (i := 9) (v := ?_) rfl (by kernel_rfl) (by kernel_rfl) (by kernel_rfl) (fun _ _ _ h => h) (Or.inl ⟨by rfl, ?_⟩) (by assumption) ?_
  rotate_left
  · intro w hSw; obtain ⟨sF, s0, s1, s2, s3, s4⟩ := hSw; (try go_simp); first | done | with_reducible rfl | assumption | skip
  try simp only [Act.put, List.setIfInBounds_toArray, List.set_cons_zero, List.set_cons_succ]
  refine wpAnyH_done (by kernel_rfl) ?_ _
  go_wp2
  exact hR.out _ _ ⟨_, _, rfl, HS8.out, HFx8.out⟩
end
end Go.Np.Tryz
end
section
set_option linter.unusedVariables false
set_option linter.unusedSimpArgs false
namespace Go.Np.Tryz
open Go.RowKit Go.Proofs Go.Proofs.YtlllhpnpgcphcaaGreat.PX Go.Proofs.YtlllhpnpgcphcaaGreatW.PrintWords
set_option maxHeartbeats 16000000 in
set_option maxRecDepth 100000 in
theorem LedgerTells_walk (w : World) (A0 : Option Addr) (c0 : Nat) (dr : List Int) (hdr : (Kd.int .i64).C w A0 dr.length dr) (_m0 : dr.length ≤ maxLen) (_s0 : dr.length * 8 ≤ 140737488351232) (_w0 : ∀ n ∈ dr, (Lit.int .i64 n).wf = true) (hdc : dr.length ≤ c0)
    (vb : Value) (bl : List Blk) (hvb : BlocksR w vb bl)
    (A2 : Option Addr) (c2 : Nat) (ds : List Int) (hds : (Kd.int .i64).C w A2 ds.length ds) (_m2 : ds.length ≤ maxLen) (_s2 : ds.length * 8 ≤ 140737488351232) (_w2 : ∀ n ∈ ds, (Lit.int .i64 n).wf = true) (hdsc : ds.length ≤ c2) :
    Calls Tryz.prog 4 #[.slice A0 dr.length c0, vb, .slice A2 ds.length c2] w fun e w' => e = .returned (.bool true) ∧ Fr [] w w' := by
  obtain ⟨⟨Ab, cb, rfl, hbC, hbS⟩, hbR⟩ := hvb
  have HAL := Lib.hid (lalive_calls (w := w))
  have hnm : bl.length = bl.length := rfl
  obtain ⟨nd, hnd⟩ : ∃ nd, dr.length = nd := ⟨_, rfl⟩
  obtain ⟨nb, hnb⟩ : ∃ nb, bl.length = nb := ⟨_, rfl⟩
  obtain ⟨ns, hns⟩ : ∃ ns, ds.length = ns := ⟨_, rfl⟩
  obtain ⟨r, hr1, hck⟩ := check_ok dr
  have HCK : Hid (∀ W, Fr [] w W → Calls Tryz.prog 7 #[.slice A0 nd c0] W fun e w' => e = .returned (.int .i64 r) ∧ Fr [] W w') := fun W hW => by
    have h := hck W A0 c0 (Kd.C_below hdr hW.below) hdc
    rw [hnd] at h; exact h
  have HDR := Lib.hid hdr
  have HDS := Lib.hid hds
  have HBC := Lib.hid hbC
  have HBS := Lib.hid hbS
  have HBR := Lib.hid hbR
  have HND := Lib.hid hnd
  have HNB := Lib.hid hnb
  have HNS := Lib.hid hns
  have HDC := Lib.hid hdc
  have HDSC := Lib.hid hdsc
  rw [hnd, hnb, hns]
  refine calls_k fun R hR => ?_
  clear hdr hds hbC hbS hbR hck _m0 _s0 _w0 _m2 _s2 _w2 hdc hdsc hnm hnd hnb hns
  by_cases hr0 : r = 0
  case neg =>
    have hb1 : (r == 0) = false := by simpa using hr0
    have hb2 : (r != 0) = true := by simpa using hr0
    clear hr1
    go_enter Tryz.func4, Tryz.ntmps4
    go_wp2_with (first
      | (go_at_call 26; refine HAL.out.mono ?_; rintro e w2 ⟨rfl, hF2⟩; have HF2 := Lib.hid hF2; clear hF2 HAL)
      | (go_at_call 7; refine (HCK.out _ HF2.out).mono ?_; rintro e w3 ⟨rfl, hF3⟩; have HF3 := Lib.hid (HF2.out.trans hF3 (by simp)); clear hF3 HCK))
    exact hR.out _ _ ⟨rfl, HF3.out⟩
  subst hr0
  by_cases h40 : 40 < nb
  · have g1 : decide (40 < (nb : Int)) = true := decide_eq_true (by omega)
    have g1' : decide (40 < nb) = true := decide_eq_true h40
    clear hr1
    go_enter Tryz.func4, Tryz.ntmps4
    go_wp2_with (first
      | (go_at_call 26; refine HAL.out.mono ?_; rintro e w2 ⟨rfl, hF2⟩; have HF2 := Lib.hid hF2; clear hF2 HAL)
      | (go_at_call 7; refine (HCK.out _ HF2.out).mono ?_; rintro e w3 ⟨rfl, hF3⟩; have HF3 := Lib.hid (HF2.out.trans hF3 (by simp)); clear hF3 HCK))
    exact hR.out _ _ ⟨rfl, HF3.out⟩
  have g1 : decide (40 < (nb : Int)) = false := decide_eq_false (by omega)
  have g1' : decide (40 < nb) = false := decide_eq_false h40
  by_cases h20 : 20 < ns
  · have g2 : decide (20 < (ns : Int)) = true := decide_eq_true (by omega)
    have g2' : decide (20 < ns) = true := decide_eq_true h20
    clear hr1
    go_enter Tryz.func4, Tryz.ntmps4
    go_wp2_with (first
      | (go_at_call 26; refine HAL.out.mono ?_; rintro e w2 ⟨rfl, hF2⟩; have HF2 := Lib.hid hF2; clear hF2 HAL)
      | (go_at_call 7; refine (HCK.out _ HF2.out).mono ?_; rintro e w3 ⟨rfl, hF3⟩; have HF3 := Lib.hid (HF2.out.trans hF3 (by simp)); clear hF3 HCK))
    exact hR.out _ _ ⟨rfl, HF3.out⟩
  have g2 : decide (20 < (ns : Int)) = false := decide_eq_false (by omega)
  have g2' : decide (20 < ns) = false := decide_eq_false h20
  have hns20 : ns ≤ 20 := by omega
  obtain ⟨hd200, hok⟩ := hr1 rfl
  have HGR : Hid (∀ W, Fr [] w W → Calls Tryz.prog 27 #[.slice A0 nd c0, .int .i64 1, .slice Ab nb cb] W fun e w' => GrownCh W A0 c0 (grownC dr 1 bl) e w') := fun W hW => by
    have h := grownch_calls (c := cb) (cd := c0) (Kd.C_below HDR.out hW.below) hd200 hok 1 (Kd.C_below HBC.out hW.below) rfl HBS.out HBR.out
    rw [HND.out, HNB.out] at h; exact h
  have hgood := grownC_all dr 1 (l := bl) HBR.out
  obtain ⟨C, hC⟩ : ∃ C, grownC dr 1 bl = C := ⟨_, rfl⟩
  rw [hC] at HGR hgood
  have HG := Lib.hid hgood
  have HOKD := Lib.hid hok
  clear hr1 hd200 hok hgood hC h40 h20
  go_enter Tryz.func4, Tryz.ntmps4
  go_upto_region 6 with (first
    | (go_at_call 26; refine HAL.out.mono ?_; rintro e w2 ⟨rfl, hF2⟩; have HF2 := Lib.hid hF2; clear hF2 HAL)
    | (go_at_call 7; refine (HCK.out _ HF2.out).mono ?_; rintro e w3 ⟨rfl, hF3⟩; have HF3 := Lib.hid (HF2.out.trans hF3 (by simp)); clear hF3 HCK)
    | (go_at_call 27; refine (HGR.out _ HF3.out).mono ?_; rintro e w5 ⟨c, B0, d0, B1, d1, rfl, hch5, hk5, hw5, hF5⟩
       have HF5 := Lib.hid (HF3.out.trans hF5 (by simp))
       have HC5 := Lib.hid hch5
       have HK5 := Lib.hid hk5
       have HW5 := Lib.hid hw5
       clear hch5 hk5 hw5 hF5 HGR))
  clear g1 g1' g2 g2'
  obtain ⟨W6, hW6⟩ : ∃ W6, W6 = w5.alloc (.cells #[.slice B0 C.t.ks.length d0, .slice B1 C.t.wait.length d1, .slice A0 C.dr.length c0, .int .i64 C.deep, .int .i64 200] 32) := ⟨_, rfl⟩
  obtain ⟨g8, hg8⟩ : ∃ g8, g8 = w5.heap.size := ⟨_, rfl⟩
  have hF56 : Fr [] w5 W6 := by rw [hW6]; exact (Fr.refl _ _).alloc _
  have hB6 : RChIn W6 g8 (.slice B0 C.t.ks.length d0) (.slice B1 C.t.wait.length d1) (.slice A0 C.dr.length c0) C.deep 200 := by rw [hW6, hg8]; exact heap_alloc_new w5 _
  have HF6 := Lib.hid (HF5.out.trans hF56 (by simp))
  have HF56 := Lib.hid hF56
  have HB6 := Lib.hid hB6
  rw [← hW6, ← hg8]
  clear hW6 hg8 hF56 hB6
  have hm1000 : ds.length ≤ 1000 := by rw [HNS.out]; omega
  have HCD6 : Hid ((Kd.int .i64).C W6 A2 ds.length ds) := Kd.C_below HDS.out HF6.out.below
  rw [← HNS.out]
  go_upto_region 7 with (at_builtin; refine wp_copyI rfl _ _ rfl rfl rfl HCD6.out hm1000 ?_; intro A9 c9 w7 hc9 hC9 hF7
                         have HOW := Lib.hid (SlI.of_C hC9 hc9)
                         have HF67 := Lib.hid hF7
                         clear hc9 hC9 hF7)
  have HF7 := Lib.hid (HF6.out.trans HF67.out (by simp))
  have HF57 := Lib.hid (HF56.out.trans HF67.out (by simp))
  have HDE : Hid (SlI w7 (.slice A2 ds.length c2) ds) := SlI.of_C (Kd.C_below HDS.out HF7.out.below) HDSC.out
  have HC7 := Lib.hid (HC5.out.fr HF57.out)
  have hrc : RCh (fun _ => True) w7 C B0 d0 B1 d1 A0 c0 := ⟨HG.out.1, HG.out.2.1, by rw [HG.out.2.2.1]; exact HOKD.out, HK5.out.fr HF57.out, HW5.out.fr HF57.out, by rw [HG.out.2.2.1]; exact Kd.C_below HDR.out HF7.out.below, by rw [HG.out.2.2.1]; exact HDC.out⟩
  have HRC := Lib.hid hrc
  have hds20 : ds.length ≤ 40 := by rw [HNS.out]; omega
  have HD20 := Lib.hid hds20
  obtain ⟨ks, hks⟩ : ∃ ks, settledN C ds = ks := ⟨_, rfl⟩
  obtain ⟨FI, hFI⟩ : ∃ FI, finalL C ds = FI := ⟨_, rfl⟩
  obtain ⟨AD, hAD⟩ : ∃ AD, availL C ds = AD := ⟨_, rfl⟩
  have HS1 : Hid (∀ W, Fr [] w7 W → Calls Tryz.prog 28 #[.pointer (some ⟨c, 0, none⟩), .slice A9 ds.length c9] W fun e w' => e = .returned (.int .i64 ks) ∧ Fr [] W w') := fun W hW => by
    have h := settled_calls (cp := c9) (HC7.out.fr hW) (HOW.out.fr hW).C.2.2
    rw [hks] at h; exact h
  have HS2 : Hid (∀ W, Fr [] w7 W → Calls Tryz.prog 29 #[.agg #[.slice B0 C.t.ks.length d0, .slice B1 C.t.wait.length d1, .slice A0 C.dr.length c0, .int .i64 C.deep, .int .i64 C.slot], .slice A2 ds.length c2] W fun e w' => e = .returned (.int .i64 ks) ∧ Fr [] W w') := fun W hW => by
    have h := rsettled_calls (HRC.out.fr hW) (HDE.out.fr hW).C.2.2 (HDE.out.fr hW).C.2.1 (Nat.le_trans HD20.out (by omega))
    rw [hks] at h; exact h
  have HF1c : Hid (∀ W, Fr [] w7 W → Calls Tryz.prog 30 #[.pointer (some ⟨c, 0, none⟩), .slice A9 ds.length c9] W fun e w' => ∃ v, e = .returned v ∧ SlI w' v FI ∧ Fr [] W w') := fun W hW => by
    have h := final_calls (cp := c9) (HC7.out.fr hW) HG.out.1 (HOW.out.fr hW).C.2.2 (HOW.out.fr hW).C.2.1 HD20.out
    rw [hFI] at h; exact h
  have HF2c : Hid (∀ W, Fr [] w7 W → Calls Tryz.prog 31 #[.agg #[.slice B0 C.t.ks.length d0, .slice B1 C.t.wait.length d1, .slice A0 C.dr.length c0, .int .i64 C.deep, .int .i64 C.slot], .slice A2 ds.length c2] W fun e w' => ∃ A' c', e = .returned (.slice A' FI.length c') ∧ SlI w' (.slice A' FI.length c') FI ∧ Fr [] W w') := fun W hW => by
    have h := rfinal_calls (HRC.out.fr hW) (HDE.out.fr hW).C.2.2 (HDE.out.fr hW).C.2.1 HD20.out
    rw [hFI] at h; exact h
  have HA1 : Hid (∀ W, Fr [] w7 W → Calls Tryz.prog 32 #[.pointer (some ⟨c, 0, none⟩), .slice A9 ds.length c9] W fun e w' => ∃ A' c', e = .returned (.slice A' AD.length c') ∧ SlI w' (.slice A' AD.length c') AD ∧ Fr [] W w') := fun W hW => by
    have h := avail_calls (cp := c9) (HC7.out.fr hW) HG.out.1 (HOW.out.fr hW).C.2.2 (HOW.out.fr hW).C.2.1 HD20.out
    rw [hAD] at h; exact h
  have HA2 : Hid (∀ W, Fr [] w7 W → Calls Tryz.prog 33 #[.agg #[.slice B0 C.t.ks.length d0, .slice B1 C.t.wait.length d1, .slice A0 C.dr.length c0, .int .i64 C.deep, .int .i64 C.slot], .slice A2 ds.length c2] W fun e w' => ∃ A' c', e = .returned (.slice A' AD.length c') ∧ SlI w' (.slice A' AD.length c') AD ∧ Fr [] W w') := fun W hW => by
    have h := ravail_calls (HRC.out.fr hW) (HDE.out.fr hW).C.2.2 (HDE.out.fr hW).C.2.1 HD20.out
    rw [hAD] at h; exact h
  have hsl : C.slot = 200 := HG.out.2.2.2.2
  have hB7 := HB6.out.fr HF67.out
  obtain ⟨v0, hv0⟩ : ∃ v0 : Value, .slice B0 C.t.ks.length d0 = v0 := ⟨_, rfl⟩
  obtain ⟨v1, hv1⟩ : ∃ v1 : Value, .slice B1 C.t.wait.length d1 = v1 := ⟨_, rfl⟩
  obtain ⟨vd, hvd⟩ : ∃ vd : Value, .slice A0 C.dr.length c0 = vd := ⟨_, rfl⟩
  obtain ⟨dp, hdp⟩ : ∃ dp, C.deep = dp := ⟨_, rfl⟩
  rw [hv0, hv1, hvd, hdp, hsl] at HS2 HF2c HA2
  rw [hv0, hv1, hvd, hdp] at hB7
  have HSF : Hid (∀ W, Fr [] w7 W → Fr [] w7 W ∧ W.cell? ⟨g8, 0, none⟩ = some v0 ∧ W.cell? ⟨g8, 1, none⟩ = some v1 ∧ W.cell? ⟨g8, 2, none⟩ = some vd ∧ W.cell? ⟨g8, 3, none⟩ = some (.int .i64 dp) ∧ W.cell? ⟨g8, 4, none⟩ = some (.int .i64 200)) := fun W hW => ⟨hW, (hB7.fr hW).conj⟩
  have HFa0 : Hid (Fr [] w7 w7.drew) := (Fr.refl _ _).drew
  have hS0a := HSF.out _ HFa0.out
  have tok1 := Lib.hid True.intro
  clear hrc hds20 hks hFI hAD hsl hB7 hv0 hv1 hvd hdp hm1000 HF57
  go_region_held3 (fun W => Fr [] w7 W ∧ W.cell? ⟨g8, 0, none⟩ = some v0 ∧ W.cell? ⟨g8, 1, none⟩ = some v1 ∧ W.cell? ⟨g8, 2, none⟩ = some vd ∧ W.cell? ⟨g8, 3, none⟩ = some (.int .i64 dp) ∧ W.cell? ⟨g8, 4, none⟩ = some (.int .i64 200)) (with_reducible assumption)
    (first
      | (go_at_call 28; have _t := tok1; refine (HS1.out _ HFa0.out).mono ?_; rintro e x1 ⟨rfl, hG⟩; have HFa1 := Lib.hid (HFa0.out.trans hG (by simp)); have hS1a := HSF.out _ HFa1.out; have tok2 := Lib.hid True.intro; clear hG tok1)
      | (go_at_call 29; have _t := tok2; refine (HS2.out _ HFa1.out).mono ?_; rintro e x2 ⟨rfl, hG⟩; have HFa2 := Lib.hid (HFa1.out.trans hG (by simp)); have hS2a := HSF.out _ HFa2.out; have tok3 := Lib.hid True.intro; clear hG tok2)
      | (go_at_call 30; have _t := tok3; refine (HF1c.out _ HFa2.out).mono ?_; rintro e x3 ⟨v3, rfl, hS3, hG⟩; obtain ⟨A3, c3, rfl, _, _⟩ := id hS3; have HV3 := Lib.hid hS3; clear hS3; have HFa3 := Lib.hid (HFa2.out.trans hG (by simp)); have hS3a := HSF.out _ HFa3.out; have tok4 := Lib.hid True.intro; clear hG tok3)
      | (go_at_call 31; have _t := tok4; refine (HF2c.out _ HFa3.out).mono ?_; rintro e x4 ⟨A4, c4, rfl, hS4, hG⟩; have HM4 := Lib.hid (same_sl (HV3.out.fr hG) hS4); simp only [decide_true] at HM4; clear hS4; have HFa4 := Lib.hid (HFa3.out.trans hG (by simp)); have hS4a := HSF.out _ HFa4.out; have tok5 := Lib.hid True.intro; clear hG tok4)
      | (go_at_call 17; have _t := tok5; refine (HM4.out).mono ?_; rintro e x5 ⟨rfl, hG⟩; have HFa5 := Lib.hid (HFa4.out.trans hG (by simp)); have hS5a := HSF.out _ HFa5.out; have tok6 := Lib.hid True.intro; clear hG tok5)
      | (go_at_call 32; have _t := tok6; refine (HA1.out _ HFa5.out).mono ?_; rintro e x6 ⟨A6, c6, rfl, hS6, hG⟩; have HV6 := Lib.hid hS6; clear hS6; have HFa6 := Lib.hid (HFa5.out.trans hG (by simp)); have hS6a := HSF.out _ HFa6.out; have tok7 := Lib.hid True.intro; clear hG tok6)
      | (go_at_call 33; have _t := tok7; refine (HA2.out _ HFa6.out).mono ?_; rintro e x7 ⟨A7, c7, rfl, hS7, hG⟩; have HM7 := Lib.hid (same_sl (HV6.out.fr hG) hS7); simp only [decide_true] at HM7; clear hS7; have HFa7 := Lib.hid (HFa6.out.trans hG (by simp)); have hS7a := HSF.out _ HFa7.out; have tok8 := Lib.hid True.intro; clear hG tok7)
      | (go_at_call 17; have _t := tok8; refine (HM7.out).mono ?_; rintro e x8 ⟨rfl, hG⟩; have HM8 := Lib.hid (same_sl (SlI.fr HOW.out (HFa7.out.trans hG (by simp))) (SlI.fr HDE.out (HFa7.out.trans hG (by simp)))); simp only [decide_true] at HM8; have HFa8 := Lib.hid (HFa7.out.trans hG (by simp)); have hS8a := HSF.out _ HFa8.out; have tok9 := Lib.hid True.intro; clear hG tok8)
      | (go_at_call 17; have _t := tok9; refine (HM8.out).mono ?_; rintro e x9 ⟨rfl, hG⟩; have HFa9 := Lib.hid (HFa8.out.trans hG (by simp)); have hS9a := HSF.out _ HFa9.out; have tok10 := Lib.hid True.intro; clear hG tok9)
      )
  all_goals
    go_wp2
    exact hR.out _ _ ⟨rfl, HF7.out.trans HFa9.out (by simp)⟩
end Go.Np.Tryz
end
