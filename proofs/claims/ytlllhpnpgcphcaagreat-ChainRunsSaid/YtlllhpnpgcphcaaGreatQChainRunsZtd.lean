/- What ChainRuns needs. -/
import Derived.Test.YtlllhpnpgcphcaaGreatQChainRunsLeds
import Derived.Test.YtlllhpnpgcphcaaGreatQChainRunsTreeRj
section
set_option linter.unusedVariables false
set_option linter.unusedSimpArgs false
namespace Go.Np.Tryz
open Go.RowKit Go.Proofs Go.Proofs.YtlllhpnpgcphcaaGreat.PX Go.Proofs.YtlllhpnpgcphcaaGreatW.PrintWords
structure RCh (P : Nat → Prop) (w : World) (C : Ch) (A0 : Option Addr) (c0 : Nat) (A1 : Option Addr) (c1 : Nat) (Ad : Option Addr) (cd : Nat) : Prop where
  good : C.t.Good
  rng : C.t.Rng
  okd : OkDr C.dr
  ks : VB w P (.slice A0 C.t.ks.length c0) C.t.ks
  wait : VB w P (.slice A1 C.t.wait.length c1) C.t.wait
  dr : (Kd.int .i64).C w Ad C.dr.length C.dr
  dc : C.dr.length ≤ cd
theorem RCh.fr {P : Nat → Prop} {w w' : World} {C : Ch} {A0 A1 Ad : Option Addr} {c0 c1 cd : Nat} (h : RCh P w C A0 c0 A1 c1 Ad cd) (hF : Fr [] w w') : RCh P w' C A0 c0 A1 c1 Ad cd :=
  ⟨h.good, h.rng, h.okd, h.ks.fr hF, h.wait.fr hF, Kd.C_below h.dr hF.below, h.dc⟩
section
variable {C : Ch}
theorem rtxs_l1 (P : List Int) (N j : Int) (F : List S67) (hF : F.length ≤ 3) (K W : List Blk) (dr : List Int) (dp sl : Int) : ∀ (m i : Nat) (acc : List Int) (k : Nat), i + m = F.length → acc.length + m ≤ 100000 →
    neaptideref11_Txs.l1 (k + m + 1) acc P N j F (F.length : Int) (i : Int) K W dr dp sl = neaptideref11_Txs.l0 k (acc ++ (F.drop i).map (·.f0)) P N (wrap64 (j + 1)) K W dr dp sl
  | 0, i, acc, k, hi, _ => by
    simp only [neaptideref11_Txs.l1, Nat.add_zero]
    rw [if_neg (by omega), List.drop_eq_nil_of_le (by omega)]
    simp
  | m + 1, i, acc, k, hi, ha => by
    have hlt : i < F.length := by omega
    have hd : F.drop i = rd_T67 F (i : Int) :: F.drop (i + 1) := by
      rw [List.drop_eq_getElem_cons hlt]; simp [rd_T67, List.getD_eq_getElem?_getD, List.getElem?_eq_getElem hlt]
    rw [show k + (m + 1) + 1 = (k + m + 1) + 1 by omega, neaptideref11_Txs.l1]
    rw [if_pos (by omega), if_pos (by omega), if_pos (by omega), if_pos (by omega), wr_step i (by omega), rtxs_l1 P N j F hF K W dr dp sl m (i + 1) _ k (by omega) (by simp; omega), hd]
    simp
theorem rtxs_l0 (hG : C.t.Good) (hR : C.t.Rng) (P : List Int) (hP : P.length ≤ 400) : ∀ (m j : Nat) (acc : List Int) (k : Nat), j + m = P.length → acc.length + 3 * m ≤ 1200 → 5 * m + 500 ≤ k →
    neaptideref11_Txs.l0 k acc P (P.length : Int) (j : Int) C.t.ks C.t.wait C.dr C.deep C.slot = some (acc ++ (P.drop j).flatMap C.ids)
  | 0, j, acc, k, hj, _, hk => by
    obtain ⟨k, rfl⟩ : ∃ i, k = i + 1 := ⟨k - 1, by omega⟩
    simp only [neaptideref11_Txs.l0]
    rw [if_neg (by omega), List.drop_eq_nil_of_le (by omega)]
    simp
  | m + 1, j, acc, k, hj, ha, hk => by
    have hlt : j < P.length := by omega
    have hf := get3 hG.ok P[j]
    obtain ⟨k, rfl⟩ : ∃ i, k = i + (C.t.get P[j]).f4.length + 1 + 1 := ⟨k - (C.t.get P[j]).f4.length - 2, by omega⟩
    have hd : P.drop j = P[j] :: P.drop (j + 1) := List.drop_eq_getElem_cons hlt
    rw [neaptideref11_Txs.l0]
    rw [if_pos (by omega), if_pos (by omega), if_pos (by omega), rdI P j hlt, rget_ev hG hR C.t.wait P[j] _ (by omega)]
    simp only [Option.bind_some]
    have h1 := rtxs_l1 P (P.length : Int) (j : Int) (C.t.get P[j]).f4 hf C.t.ks C.t.wait C.dr C.deep C.slot (C.t.get P[j]).f4.length 0 acc k (by omega) (by omega)
    rw [show ((0 : Nat) : Int) = 0 from rfl] at h1
    rw [h1, List.drop_zero, wr_step j (by omega), rtxs_l0 hG hR P hP m (j + 1) _ k (by omega) (by simp; omega) (by omega), hd, List.flatMap_cons, List.append_assoc]
    rfl
theorem rtxs_f (hG : C.t.Good) (hR : C.t.Rng) (n : Int) (k : Nat) (hk : 4000 ≤ k) : neaptideref11_Txs.f k C.t.ks C.t.wait C.dr C.deep C.slot n = some (C.txs n) := by
  have h4 := hG.path400 n
  unfold neaptideref11_Txs.f
  rw [rpath_f hG hR C.t.wait n k (by omega)]
  simp only [Option.bind_some]
  have h := rtxs_l0 hG hR (C.t.path n) h4 (C.t.path n).length 0 [] k (by omega) (by simp; omega) (by omega)
  rw [show ((0 : Nat) : Int) = 0 from rfl] at h
  rw [h]
  rfl
end
section
variable {P : Nat → Prop} {w : World} {C : Ch} {A0 A1 Ad : Option Addr} {c0 c1 cd : Nat}
theorem rtxs_calls (h : RCh P w C A0 c0 A1 c1 Ad cd) (n : Int) :
    Calls Tryz.prog 25 #[.agg #[.slice A0 C.t.ks.length c0, .slice A1 C.t.wait.length c1, .slice Ad C.dr.length cd, .int .i64 C.deep, .int .i64 C.slot], .int .i64 n] w fun e w' => ∃ v, e = .returned v ∧ OwnI w.heap.size w' v (C.txs n) ∧ Fr [] w w' := by
  refine (neaptideref11_Txs.calls 4000 A0 c0 C.t.ks A1 c1 C.t.wait Ad cd C.dr C.deep C.slot n _ w h.ks.C.2.2 h.ks.C.2.1 h.wait.C.2.2 h.wait.C.2.1 h.dr h.dc (rtxs_f h.good h.rng n 4000 (by omega))).mono ?_
  rintro e w' ⟨v, rfl, hv, hB⟩
  exact ⟨v, rfl, N_own (Kd.R_N hv), Fr.of_below [] hB⟩
set_option maxHeartbeats 4000000 in
set_option maxRecDepth 100000 in
theorem rconf_calls (h : RCh P w C A0 c0 A1 c1 Ad cd) :
    Calls Tryz.prog 23 #[.agg #[.slice A0 C.t.ks.length c0, .slice A1 C.t.wait.length c1, .slice Ad C.dr.length cd, .int .i64 C.deep, .int .i64 C.slot]] w fun e w' => e = .returned (.int .i64 C.conf) ∧ Fr [] w w' := by
  have HTI : Hid (∀ W, Fr [] w W → Calls Tryz.prog 18 #[.agg #[.slice A0 C.t.ks.length c0, .slice A1 C.t.wait.length c1]] W fun e w' => e = .returned (.int .i64 C.t.tip) ∧ Fr [] W w') := fun W hW => rtip_calls (h.fr hW).good (h.fr hW).rng (h.fr hW).ks (h.fr hW).wait
  have HBA : Hid (∀ W, Fr [] w W → Calls Tryz.prog 57 #[.agg #[.slice A0 C.t.ks.length c0, .slice A1 C.t.wait.length c1], .int .i64 C.t.tip, .int .i64 C.deep] W fun e w' => e = .returned (.int .i64 C.conf) ∧ Fr [] W w') := fun W hW => rback_calls (h.fr hW).good (h.fr hW).rng (h.fr hW).ks (h.fr hW).wait _ _
  obtain ⟨W1, hW1⟩ : ∃ W1, W1 = w.alloc (.cells #[.slice A0 C.t.ks.length c0, .slice A1 C.t.wait.length c1, .slice Ad C.dr.length cd, .int .i64 C.deep, .int .i64 C.slot] 32) := ⟨_, rfl⟩
  obtain ⟨g2, hg2⟩ : ∃ g2, g2 = w.heap.size := ⟨_, rfl⟩
  have hF1 : Fr [] w W1 := by rw [hW1]; exact (Fr.refl _ _).alloc _
  have hB1 : RChIn W1 g2 (.slice A0 C.t.ks.length c0) (.slice A1 C.t.wait.length c1) (.slice Ad C.dr.length cd) C.deep C.slot := by rw [hW1, hg2]; exact heap_alloc_new w _
  have HSF : Hid (∀ W, Fr [] W1 W → W.cell? ⟨g2, 0, none⟩ = some (.slice A0 C.t.ks.length c0) ∧ W.cell? ⟨g2, 1, none⟩ = some (.slice A1 C.t.wait.length c1) ∧ W.cell? ⟨g2, 2, none⟩ = some (.slice Ad C.dr.length cd) ∧ W.cell? ⟨g2, 3, none⟩ = some (.int .i64 C.deep) ∧ W.cell? ⟨g2, 4, none⟩ = some (.int .i64 C.slot)) := fun W hW => (hB1.fr hW).conj
  have HF1 := Lib.hid hF1
  have HF2 : Hid (Fr [] W1 W1.drew) := (Fr.refl _ _).drew
  have hS2 := HSF.out _ HF2.out
  refine calls_k fun R hR => ?_
  clear h hF1 hB1
  go_enter Tryz.func23, Tryz.ntmps23
  go_upto_region 1 with (fail)
  rw [← hW1, ← hg2]
  clear hW1 hg2
  go_region_held3 (fun W => W.cell? ⟨g2, 0, none⟩ = some (.slice A0 C.t.ks.length c0) ∧ W.cell? ⟨g2, 1, none⟩ = some (.slice A1 C.t.wait.length c1) ∧ W.cell? ⟨g2, 2, none⟩ = some (.slice Ad C.dr.length cd) ∧ W.cell? ⟨g2, 3, none⟩ = some (.int .i64 C.deep) ∧ W.cell? ⟨g2, 4, none⟩ = some (.int .i64 C.slot)) (with_reducible assumption)
    (first
      | (go_at_call 18; refine (HTI.out _ (HF1.out.trans HF2.out (by simp))).mono ?_; rintro e x3 ⟨rfl, hG⟩; have HF3 := Lib.hid (HF2.out.trans hG (by simp)); have hS3 := HSF.out _ HF3.out; clear hG)
      | (go_at_call 57; refine (HBA.out _ (HF1.out.trans HF3.out (by simp))).mono ?_; rintro e x4 ⟨rfl, hG⟩; have HF4 := Lib.hid (HF3.out.trans hG (by simp)); have hS4 := HSF.out _ HF4.out; clear hG))
  all_goals
    go_wp2
    exact hR.out _ _ ⟨rfl, HF1.out.trans HF4.out (by simp)⟩
theorem alloc_keptZ {w w' : World} {cs : Array Value} {t : TypeId} (h : Fr [] (w.alloc (.cells cs t)) w') : w'.heap[w.heap.size]? = some (.cells cs t (0, 0)) :=
  (h.block w.heap.size (by simp) (by simp)).trans (heap_alloc_new w _)
end
end Go.Np.Tryz
end
section
set_option linter.unusedVariables false
set_option linter.unusedSimpArgs false
namespace Go.Np.Tryz
open Go.RowKit Go.Proofs Go.Proofs.YtlllhpnpgcphcaaGreat.PX Go.Proofs.YtlllhpnpgcphcaaGreatW.PrintWords
def Tr.Ext (t s : Tr) : Prop := ∀ n e, t.find n = some e → s.find n = some e
theorem Tr.Ext.known {t s : Tr} (h : s.known = t.known) : t.Ext s := fun n e he => by rw [Tr.find_known h]; exact he
end Go.Np.Tryz
end
