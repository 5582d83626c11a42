/- A text that the row of LedgerCleans needs. (Pruned by tools/prune.py.) -/
import Derived.Test.YtlllhpnpgcphcaaQLedgerCleansLedi
set_option linter.unusedVariables false
set_option linter.unusedSimpArgs false
namespace Go.Np.Try
open Go.RowKit Go.Proofs Go.Proofs.Ytlllhpnpgcphcaa.PX Go.Proofs.YtlllhpnpgcphcaaW.PrintWords
structure LV where
  A : Option Addr
  c : Nat
  l : List Int
def LV.v (q : LV) : Value := .slice q.A q.l.length q.c
def RowL (base : Nat) (W : World) (v : Value) (qs : List LV) : Prop := W.ownsRow 0 39 1 v qs.length (qs.map LV.v) ∧ (∀ k ∈ v.ownBlock.toList, base ≤ k) ∧ ∀ q ∈ qs, OwnI base W q.v q.l
theorem RowL.nil (base : Nat) (W : World) : RowL base W (.slice none 0 0) [] := ⟨World.ownsRow_nil _ _ _ _, by simp [Value.ownBlock], by simp⟩
theorem RowL.fr {base : Nat} {W W' : World} {v : Value} {qs : List LV} (h : RowL base W v qs) (hF : Fr [] W W') : RowL base W' v qs := ⟨row_fr h.1 hF (by simp), h.2.1, fun q hq => (h.2.2 q hq).fr hF (by simp)⟩
theorem RowL.lists {base : Nat} {W : World} {A : Option Addr} {c : Nat} {qs : List LV} (h : RowL base W (.slice A qs.length c) qs) : ListsC W A (qs.map (·.l)) := by
  intro k hk
  rw [List.length_map] at hk
  have hg : (qs.map LV.v)[k]? = some (qs[k]).v := by simp [hk]
  have hl : (qs.map (·.l)).getD k [] = (qs[k]).l := by simp [List.getD_eq_getElem?_getD, hk]
  obtain ⟨g, e, hc⟩ := row_at h.1 k _ hg
  obtain ⟨A', c', e', hle, hC⟩ := (h.2.2 _ (List.getElem_mem hk)).sl
  unfold LV.v at e' hc
  injection e' with e1 _ e3
  refine ⟨_, e, qs[k].A, qs[k].c, ?_⟩
  rw [hl]
  refine ⟨?_, by rw [e3]; exact hle, by rw [e1]; exact hC⟩
  rw [addr_add _ _ rfl]
  simpa using hc
theorem RowL.more {base : Nat} {W W' : World} {v : Value} {A' : Option Addr} {c' : Nat} {qs : List LV} {q : LV} (h : RowL base W v qs) (hb : base ≤ W.heap.size) (hq : OwnI base W q.v q.l) (hr : W'.ownsRow 0 39 1 (.slice A' (qs.length + 1) c') (qs.length + 1) (qs.map LV.v ++ [q.v])) (hF : Fr v.ownBlock.toList W W') (hfr : Fresh v.ownBlock.toList (Value.slice A' (qs.length + 1) c').ownBlock.toList W) : RowL base W' (.slice A' (qs.length + 1) c') (qs ++ [q]) := by
  refine ⟨by simpa using hr, fun k hk => ?_, fun r hr' => ?_⟩
  · rcases hfr k hk with h1 | h1
    · exact h.2.1 k h1
    · omega
  · have hro : OwnI base W r.v r.l := by
      rcases List.mem_append.1 hr' with h1 | h1
      · exact h.2.2 r h1
      · rw [List.mem_singleton.1 h1]; exact hq
    exact hro.fr hF (own_ne hro.1 h.1 (by decide))
theorem infoL : (Try.prog.info? 39).map (fun i => (i.zero, i.size, i.bytes)) = some (some (.slice none 0 0), 1, 24) := by kernel_rfl
theorem OwnI.mono {base base' : Nat} {W : World} {v : Value} {l : List Int} (h : OwnI base W v l) (hb : base' ≤ base) : OwnI base' W v l := ⟨h.1, fun k hk => Nat.le_trans hb (h.2 k hk)⟩
def finalL (C : Ch) (l : List Int) : List Int := cleanL [] ((l.take (settledN C l)).map C.txs).flatten
theorem settled_le (C : Ch) (l : List Int) : settledN C l ≤ l.length := by
  unfold settledN
  exact (List.takeWhile_sublist _).length_le
theorem flat_txs {C : Ch} (hG : C.t.Good) : ∀ l : List Int, (l.map C.txs).flatten.length ≤ 1200 * l.length
  | [] => by simp
  | d :: l => by
    have := flat_txs hG l
    have := txs_len hG d
    simp only [List.map_cons, List.flatten_cons, List.length_append, List.length_cons]
    omega
set_option maxHeartbeats 4000000 in
set_option maxRecDepth 100000 in
theorem final_calls {X : Nat → Prop} {w : World} {c : Nat} {C : Ch} {A : Option Addr} {cp : Nat} {l : List Int} (h : ChAt X w c C) (hG : C.t.Good) (hC : (Kd.int .i64).C w A l.length l) (hle : l.length ≤ cp) (hl : l.length ≤ 40) :
    Calls Try.prog 59 #[.pointer (some ⟨c, 0, none⟩), .slice A l.length cp] w fun e w' => ∃ v, e = .returned v ∧ SlI w' v (finalL C l) ∧ Fr [] w w' := by
  have HS := Lib.hid (settled_calls (cp := cp) h hC)
  have HH := Lib.hid h
  have HG := Lib.hid hG
  have HL := Lib.hid (fun k hk => int_at hC k hk)
  obtain ⟨K, hK⟩ : ∃ K, settledN C l = K := ⟨_, rfl⟩
  have hKl := settled_le C l
  rw [hK] at hKl
  have hfin : finalL C l = cleanL [] ((l.take K).map C.txs).flatten := by unfold finalL; rw [hK]
  rw [hK] at HS
  obtain ⟨N, hN⟩ : ∃ N, l.length = N := ⟨_, rfl⟩
  rw [hN] at hle hl hKl
  rw [hN] at HS
  rw [hN, hfin]
  have HN := Lib.hid hN
  have hK0 : (0 : Int) ≤ (K : Int) := by omega
  have hKc : K ≤ cp := by omega
  have hKci : (K : Int) ≤ (cp : Int) := by omega
  refine calls_k fun R hR => ?_
  clear h hG hC hK hfin hN
  go_enter Try.func59, Try.ntmps59
  go_upto_region 3 with (first
    | (go_at_call 61; refine HS.out.mono ?_; rintro e w1 ⟨rfl, hF1⟩; have HF1 := Lib.hid hF1; clear hF1 HS))
  go_loopg [5, 14] K (fun gn o i wr => ∃ (m j : Nat) (qs : List LV) (B : Option Addr) (d : Nat), m = gn ∧ o = .slice B qs.length d ∧ i = .int .i64 j ∧ m + j = K ∧ Hid (qs.length = j) ∧ Hid (qs.map (·.l) = (l.take j).map C.txs) ∧ Hid (RowL w.heap.size wr (.slice B qs.length d) qs) ∧ Hid (Fr [] w wr))
  case atStart => exact ⟨_, 0, [], none, 0, rfl, rfl, rfl, rfl, rfl, rfl, RowL.nil _ _, HF1⟩
  case round =>
    obtain ⟨m, j, qs, B, d, rfl, rfl, rfl, hj, HQ, HM, HR, HF⟩ := hrel
    by_cases hlt : j < K
    · obtain ⟨m', rfl⟩ : ∃ m', m = m' + 1 := ⟨m - 1, by omega⟩
      obtain ⟨ad, hA, hcell⟩ := HL.out j (by rw [HN.out]; omega)
      subst hA
      have hcell := (HF.out.cell (lt_cell hcell) (by simp)).trans hcell
      obtain ⟨x, hx⟩ : ∃ x, l.getD j 0 = x := ⟨_, rfl⟩
      rw [hx] at hcell
      have HT := Lib.hid (take_snocI (show j < l.length by rw [HN.out]; omega) hx)
      have HTX := Lib.hid (ch_txs (HH.out.fr HF.out) HG.out x)
      obtain ⟨T, hT⟩ : ∃ T, C.txs x = T := ⟨_, rfl⟩
      rw [hT] at HTX
      have HTT := Lib.hid hT
      have hj40 : j ≤ 40 := by omega
      clear hx hT
      go_wp2_with (first
        | (go_at_call 48; refine HTX.out.mono ?_; rintro e w2 ⟨v2, rfl, hO2, hF2⟩
           obtain ⟨A2, c2, rfl⟩ := hO2.form
           have HO2 := Lib.hid (hO2.mono HF.out.size)
           have HR2 := Lib.hid (HR.out.fr hF2)
           have HF2 := Lib.hid (HF.out.trans hF2 (by simp))
           clear hO2 hF2 HTX)
        | (at_builtin; refine wp_append1 rfl _ _ 81 39 rfl Try.underlying81 infoL rfl (by decide) HR2.out.1 rfl [.slice A2 T.length c2] rfl rfl (by simp [Value.oneCell']) (by rw [HQ.out]; unfold maxLen; omega) (by rw [HQ.out]; omega) ?_
           intro A3 c3 w3 h1 h2 h3
           have HR3 := Lib.hid (HR2.out.more (q := ⟨A2, c2, T⟩) HF2.out.size HO2.out h1 h2 h3)
           have HF3 := Lib.hid (HF2.out.trans h2 (fun k hk => .inr (HR2.out.2.1 k hk)))
           clear h1 h2 h3))
      go_roundg m'
      case rel =>
        refine ⟨m', j + 1, qs ++ [⟨A2, c2, T⟩], A3, c3, rfl, by rw [List.length_append]; rfl, by go_num, by omega, ?_, ?_, ?_, HF3⟩
        · show _ = _
          rw [List.length_append, HQ.out]; rfl
        · show _ = _
          rw [HT.out, List.map_append, List.map_append, HM.out, ← HTT.out]; rfl
        · show RowL _ _ _ _
          rw [List.length_append]; exact HR3.out
      case measure => omega
    · obtain rfl : j = K := by omega
      have h1 := clean_calls (c := d) HR.out.lists (by rw [List.length_map, HQ.out]; omega) (by
        rw [HM.out]
        have h2 := flat_txs HG.out (l.take j)
        have h3 : (l.take j).length ≤ j := List.length_take_le _ _
        omega)
      rw [List.length_map, HM.out] at h1
      obtain ⟨F, hFF⟩ : ∃ F, ((l.take j).map C.txs).flatten = F := ⟨_, rfl⟩
      rw [hFF] at h1 hR
      have HC := Lib.hid h1
      clear h1 hFF
      go_wp2_with (go_at_call 58; refine HC.out.mono ?_; rintro e w2 ⟨v, rfl, h1, h2⟩
                   obtain ⟨A2, c2, rfl, h4, h5⟩ := h1
                   have HS2 := Lib.hid (show SlI w2 (.slice A2 (cleanL [] F).length c2) (cleanL [] F) from ⟨A2, c2, rfl, h4, h5⟩)
                   have HF2 := Lib.hid (HF.out.trans h2 (by simp))
                   clear h2 h4 h5 HC)
      exact hR.out _ _ ⟨_, rfl, HS2.out, HF2.out⟩
end Go.Np.Try
