/- A text that the row of LedgerCleans needs. (Pruned by tools/prune.py.) -/
import Derived.Test.YtlllhpnpgcphcaaQLedgerCleansChb
set_option linter.unusedVariables false
set_option linter.unusedSimpArgs false
namespace Go.Np.Try
open Go.RowKit Go.Proofs Go.Proofs.Ytlllhpnpgcphcaa.PX Go.Proofs.YtlllhpnpgcphcaaW.PrintWords
theorem get3 {t : Tr} (hO : t.Ok) (n : Int) : (t.get n).f4.length ≤ 3 := by
  unfold Tr.get
  cases hf : t.find n with
  | none => exact Nat.zero_le _
  | some e =>
    obtain ⟨h1, h2⟩ := Tr.find_some hf
    obtain ⟨h3, h4, _⟩ := hO.known e h1
    exact txs_few (b := e.blk) (by rw [← h3]; exact h4)
theorem own_ne {w : World} {e1 e2 : TypeId} {s1 s2 n1 n2 : Nat} {v1 v2 : Value} {x1 x2 : List Value} (h1 : w.ownsRow 0 e1 s1 v1 n1 x1) (h2 : w.ownsRow 0 e2 s2 v2 n2 x2) (hne : e1 ≠ e2) : ∀ k ∈ v1.ownBlock.toList, k ∉ v2.ownBlock.toList := by
  intro k hk
  rcases h1.2 with ⟨h3, _⟩ | ⟨g, cap, cur, h3, _, h4, _⟩
  · rw [h3] at hk; simp [Value.ownBlock] at hk
  · rw [h3] at hk
    simp [Value.ownBlock] at hk
    subst hk
    exact row_ne_obj h2 h4 (Ne.symm hne)
theorem own_tx2 {w : World} {A : Option Addr} {n c : Nat} {l : List S52} (h : w.ownsRow 0 52 2 (.slice A n c) n (flatT l)) (j : Nat) (q : S52) (hq : l[j]? = some q) : ∃ g, A = some ⟨g, 0, none⟩ ∧ w.cell? ⟨g, j * 2, none⟩ = some (.int .i64 q.f0) ∧ w.cell? ⟨g, j * 2 + 1, none⟩ = some (.int .i64 q.f1) := by
  have hj := (List.getElem?_eq_some_iff.1 hq).1
  have h1 := h.1
  rw [flatT_len] at h1
  rcases h.2 with ⟨h2, h3⟩ | ⟨g, cap, cur, h2, _, h4, _, _, _, h5⟩
  · omega
  · injection h2 with h2 _ _
    refine ⟨g, h2, ?_, ?_⟩
    · have hu : (flatT l)[j * 2]? = some (.int .i64 q.f0) := by
        rw [flatT_get, show (j * 2) / 2 = j by omega, show (j * 2) % 2 = 0 by omega, hq]; rfl
      rw [cell_of h4, ← Array.getElem?_toList]
      rw [← h5, List.getElem?_take] at hu
      split at hu
      · exact hu
      · cases hu
    · have hu : (flatT l)[j * 2 + 1]? = some (.int .i64 q.f1) := by
        rw [flatT_get, show (j * 2 + 1) / 2 = j by omega, show (j * 2 + 1) % 2 = 1 by omega, hq]; rfl
      rw [cell_of h4, ← Array.getElem?_toList]
      rw [← h5, List.getElem?_take] at hu
      split at hu
      · exact hu
      · cases hu
def Ch.ids (C : Ch) (m : Int) : List Int := (C.t.get m).f4.map (·.f0)
theorem ids_len {C : Ch} (hG : C.t.Good) : ∀ (l : List Int), (l.flatMap C.ids).length ≤ 3 * l.length
  | [] => by simp
  | x :: l => by
    have h1 := ids_len hG l
    have h2 : (C.ids x).length ≤ 3 := by unfold Ch.ids; rw [List.length_map]; exact get3 hG.ok x
    simp only [List.flatMap_cons, List.length_append, List.length_cons]
    omega
theorem txs_len {C : Ch} (hG : C.t.Good) (n : Int) : (C.txs n).length ≤ 1200 := by
  have h1 := ids_len hG (C.t.path n)
  have h2 := hG.path400 n
  show ((C.t.path n).flatMap C.ids).length ≤ 1200
  omega
set_option maxHeartbeats 4000000 in
set_option maxRecDepth 100000 in
theorem ch_txs {X : Nat → Prop} {w : World} {c : Nat} {C : Ch} (h : ChAt X w c C) (hG : C.t.Good) (n : Int) : Calls Try.prog 48 #[.pointer (some ⟨c, 0, none⟩), .int .i64 n] w fun e w' => ∃ v, e = .returned v ∧ OwnI w.heap.size w' v (C.txs n) ∧ Fr [] w w' := by
  obtain ⟨p, v, D, h⟩ := h
  have H := Lib.hid h
  have HG := Lib.hid hG
  obtain ⟨c0, c1, c2, c3, _⟩ := h.cells
  have HPA := Lib.hid (path_calls h.tr hG n)
  have h400 := hG.path400 n
  refine calls_k fun R hR => ?_
  clear h hG
  obtain ⟨P, hP⟩ : ∃ P, P = C.t.path n := ⟨_, rfl⟩
  have htx : C.txs n = P.flatMap C.ids := by rw [hP]; rfl
  rw [← hP] at HPA h400
  obtain ⟨N, hN⟩ : ∃ N, P.length = N := ⟨_, rfl⟩
  rw [hN] at h400
  have HN := Lib.hid hN
  have HTX := Lib.hid htx
  clear hP htx hN
  go_enter Try.func48, Try.ntmps48
  go_upto_region 3 with (first
    | (go_at_call 20; refine HPA.out.mono ?_; rintro e w1 ⟨v1, rfl, hO1, hF1⟩
       obtain ⟨A1, d1, rfl⟩ := hO1.formN HN.out
       have HO1 := Lib.hid hO1
       have HGPX : Hid (∀ k ∈ (Value.slice A1 N d1).ownBlock.toList, k < w1.heap.size) := fun k hk => hO1.lt k hk
       have HF1 := Lib.hid hF1
       clear hO1 hF1 HPA))
  clear c0 c1 c2 c3
  have hst : OwnI w1.heap.size w1 (.slice none ([] : List Int).length 0) [] := OwnI.nil _ _
  have HST := Lib.hid hst
  clear hst
  go_loopg [5, 19] N (fun gn o i wr => ∃ (m j : Nat) (l : List Int) (B : Option Addr) (cp : Nat), m = gn ∧ o = .slice B l.length cp ∧ i = .int .i64 j ∧ m + j = N ∧ Hid (l = (P.take j).flatMap C.ids) ∧ Hid (OwnI w1.heap.size wr (.slice B l.length cp) l) ∧ Hid (OwnI w.heap.size wr (.slice A1 N d1) P) ∧ Hid (Fr [] w wr ∧ w1.heap.size ≤ wr.heap.size))
  case atStart => exact ⟨_, 0, [], none, 0, rfl, rfl, rfl, rfl, by show _ = _; simp, HST, HO1, HF1.out, Nat.le_refl _⟩
  case round =>
    obtain ⟨m, j, l, B, cp, rfl, rfl, rfl, hj, HL, HOU, HOP, HFR⟩ := hrel
    obtain ⟨wO, rfl⟩ : ∃ wO, wO = wr := ⟨_, rfl⟩
    clear HST HO1
    have hlen : l.length ≤ 1200 := by
      have h1 := ids_len HG.out (P.take j)
      have h2 : (P.take j).length ≤ N := by rw [List.length_take, HN.out]; omega
      rw [HL.out]; omega
    by_cases hlt : j < N
    · obtain ⟨gp, hA1, hcj⟩ := OwnI.at (A := A1) (c := d1) (l := P) (by rw [HN.out]; exact HOP.out) j (by rw [HN.out]; exact hlt)
      subst hA1
      have HGP : Hid (gp < w1.heap.size) := HGPX.out gp (by simp [Value.ownBlock])
      have hnx : (P.take (j + 1)).flatMap C.ids = l ++ C.ids (P.getD j 0) := by
        rw [List.take_succ_eq_append_getElem (show j < P.length by rw [HN.out]; exact hlt), List.flatMap_append, HL.out]
        simp [List.getD_eq_getElem?_getD, show j < P.length by rw [HN.out]; exact hlt]
      have HNX := Lib.hid hnx
      obtain ⟨y, hy⟩ : ∃ y, y = P.getD j 0 := ⟨_, rfl⟩
      rw [← hy] at hcj HNX
      clear hy hnx
      have hHO := H.out.fr HFR.out.1
      obtain ⟨c0, c1, c2, c3, _⟩ := hHO.cells
      have HGT := Lib.hid (get_calls hHO.tr HG.out.ok y)
      simp only [blkV] at HGT
      have hf3 := get3 HG.out.ok y
      obtain ⟨gb, hgb⟩ : ∃ gb, C.t.get y = gb := ⟨_, rfl⟩
      rw [hgb] at HGT hf3
      have HID : Hid (C.ids y = gb.f4.map (·.f0)) := by show _ = _; unfold Ch.ids; rw [hgb]
      clear hHO hgb
      go_upto_region 6 with (first
        | (go_at_call 36; refine HGT.out.mono ?_; rintro e w2 ⟨A2, d2, rfl, hr2, hn2, hF2⟩
           have HR2 := Lib.hid hr2
           have HF2 := Lib.hid hF2
           clear hr2 hn2 hF2 HGT c0 c1 c2 c3 hcj))
      obtain ⟨W3, hW3⟩ : ∃ W3, W3 = w2.alloc (.cells #[.int .i64 gb.f0, .int .i64 gb.f1, .int .i64 gb.f2, .int .i64 gb.f3, .slice A2 gb.f4.length d2] 32) := ⟨_, rfl⟩
      obtain ⟨g8, hg8⟩ : ∃ g, g = w2.heap.size := ⟨_, rfl⟩
      have hF3 : Fr [] w2 W3 := by rw [hW3]; exact (Fr.refl _ _).alloc _
      have hB3 : BlkIn W3 g8 ⟨gb, A2, d2⟩ := by rw [hg8]; exact BlkIn.made hW3
      have hFO3 := HF2.out.trans hF3 (by simp)
      have HR3 := Lib.hid (row_fr HR2.out hF3 (by simp))
      have HOU3 := Lib.hid (HOU.out.fr hFO3 (by simp))
      have HOP3 := Lib.hid (HOP.out.fr hFO3 (by simp))
      have HFR3 : Hid (Fr [] w W3 ∧ w1.heap.size ≤ W3.heap.size) := ⟨HFR.out.1.trans hFO3 (by simp), Nat.le_trans HFR.out.2 hFO3.size⟩
      rw [← hW3, ← hg8]
      clear hW3 hg8 hF3 hFO3 HR2 HOU HOP HF2
      obtain ⟨e0, e1, e2, e3, e4⟩ := hB3.cells
      clear hB3
      obtain ⟨n2, hn2⟩ : ∃ n2, gb.f4.length = n2 := ⟨_, rfl⟩
      have HN2 := Lib.hid hn2
      rw [hn2] at HR3 hf3
      simp only [hn2] at e4 ⊢
      clear hn2
      go_upto_region 7 with (fail)
      clear e0 e1 e2 e3 e4
      go_loopg [5, 35] n2 (fun gn o i wr => ∃ (m2 k : Nat) (l2 : List Int) (B2 : Option Addr) (cp2 : Nat), m2 = gn ∧ o = .slice B2 l2.length cp2 ∧ i = .int .i64 k ∧ m2 + k = n2 ∧ Hid (l2 = l ++ (gb.f4.take k).map (·.f0)) ∧ Hid (OwnI w1.heap.size wr (.slice B2 l2.length cp2) l2) ∧ Hid (OwnI w.heap.size wr (.slice (some ⟨gp, 0, none⟩) N d1) P) ∧ Hid (wr.ownsRow 0 52 2 (.slice A2 n2 d2) n2 (flatT gb.f4)) ∧ Hid (Fr [] w wr ∧ w1.heap.size ≤ wr.heap.size))
      case atStart => exact ⟨_, 0, l, B, cp, rfl, rfl, rfl, rfl, by show _ = _; simp, HOU3, HOP3, HR3, HFR3⟩
      case round =>
        obtain ⟨m2, k, l2, B2, cp2, rfl, rfl, rfl, hk, HL2, HOX, HPX, HRX, HFX⟩ := hrel
        obtain ⟨wx, rfl⟩ : ∃ wx, wx = wr := ⟨_, rfl⟩
        clear HOU3 HOP3 HR3 HFR3
        have hlen2 : l2.length ≤ 1210 := by
          have h2 : (gb.f4.take k).length ≤ 3 := by rw [List.length_take, HN2.out]; omega
          rw [HL2.out]; simp at h2 ⊢; omega
        by_cases hlt2 : k < n2
        · obtain ⟨q, hq⟩ : ∃ q, gb.f4[k]? = some q := ⟨_, List.getElem?_eq_getElem (by rw [HN2.out]; exact hlt2)⟩
          obtain ⟨gr, hA2, x0, x1⟩ := own_tx2 HRX.out k q hq
          subst hA2
          have HLN : Hid (l2 ++ [q.f0] = l ++ (gb.f4.take (k + 1)).map (·.f0)) := by
            obtain ⟨hkl, hqe⟩ := List.getElem?_eq_some_iff.1 hq
            show _ = _
            rw [List.take_succ_eq_append_getElem hkl, hqe, List.map_append, HL2.out]
            simp
          clear hq
          go_upto_region 9 with (fail)
          obtain ⟨W4, hW4⟩ : ∃ W4, W4 = wx.alloc (.cells #[.int .i64 q.f0, .int .i64 q.f1] 52) := ⟨_, rfl⟩
          obtain ⟨g4, hg4⟩ : ∃ g, g = wx.heap.size := ⟨_, rfl⟩
          have hF4 : Fr [] wx W4 := by rw [hW4]; exact (Fr.refl _ _).alloc _
          have hB4 : W4.heap[g4]? = some (.cells #[.int .i64 q.f0, .int .i64 q.f1] 52 (0, 0)) := by rw [hW4, hg4]; exact heap_alloc_new _ _
          have u0 := cell_of hB4 0
          simp at u0
          have HOY := Lib.hid (HOX.out.fr hF4 (by simp))
          have HPY := Lib.hid (HPX.out.fr hF4 (by simp))
          have HRY := Lib.hid (row_fr HRX.out hF4 (by simp))
          have HFY : Hid (Fr [] w W4 ∧ w1.heap.size ≤ W4.heap.size) := ⟨HFX.out.1.trans hF4 (by simp), Nat.le_trans HFX.out.2 hF4.size⟩
          have hrow := HOY.out.1
          rw [← hW4, ← hg4]
          have hb63 : l2.length < maxLen := by unfold maxLen; omega
          have hb8 : (l2.length + 1) * 8 ≤ 140737488355328 := by omega
          clear hW4 hg4 hF4 hB4 x0 x1 HOX HPX HRX HFX
          go_wp2_with (first
            | (at_builtin; refine wp_append1 rfl _ _ 39 3 rfl Try.underlying39 infoI rfl (by decide) hrow rfl [.int .i64 q.f0] rfl rfl (by simp [Value.oneCell']) hb63 hb8 ?_; intro A5 c5 w5 hr5 hF5 hN5
               have HOZ : Hid (OwnI w1.heap.size w5 (.slice A5 (l2.length + 1) c5) (l2 ++ [q.f0])) := by
                 refine ⟨by simpa using hr5, fun k hk => ?_⟩
                 rcases hN5 k hk with h1 | h1
                 · exact HOY.out.2 k h1
                 · exact Nat.le_trans HFY.out.2 h1
               have HPZ : Hid (OwnI w.heap.size w5 (.slice (some ⟨gp, 0, none⟩) N d1) P) := HPY.out.fr hF5 (fun k hk hm => by
                 have h1 := HOY.out.2 k hm
                 have h2 : k = gp := by simpa [Value.ownBlock, eq_comm] using hk
                 have h3 := HGP.out
                 omega)
               have HRZ : Hid (w5.ownsRow 0 52 2 (.slice (some ⟨gr, 0, none⟩) n2 d2) n2 (flatT gb.f4)) := row_fr HRY.out hF5 (own_ne HRY.out HOY.out.1 (by decide))
               have HFZ : Hid (Fr [] w w5 ∧ w1.heap.size ≤ w5.heap.size) := ⟨HFY.out.1.trans hF5 (fun k hk => .inr (Nat.le_trans HF1.out.size (HOY.out.2 k hk))), Nat.le_trans HFY.out.2 hF5.size⟩
               clear hr5 hF5 hN5 hrow u0))
          have hl1 : (l2 ++ [q.f0]).length = l2.length + 1 := by simp
          obtain ⟨m3, rfl⟩ : ∃ m3, m2 = m3 + 1 := ⟨m2 - 1, by omega⟩
          go_roundg m3
          case rel => exact ⟨m3, k + 1, l2 ++ [q.f0], A5, c5, rfl, by rw [hl1], by go_num, by omega, HLN, by rw [hl1]; exact HOZ, HPZ, HRZ, HFZ⟩
          case measure => omega
        · have HLZ : Hid (l2 = (P.take (j + 1)).flatMap C.ids) := by
            show _ = _
            rw [HNX.out, HID.out, HL2.out, List.take_of_length_le (by rw [HN2.out]; omega)]
          go_wp2
          obtain ⟨m', rfl⟩ : ∃ m', m = m' + 1 := ⟨m - 1, by omega⟩
          go_roundg m'
          case rel => exact ⟨m', j + 1, l2, B2, cp2, rfl, rfl, by go_num, by omega, HLZ, HOX, HPX, HFX⟩
          case measure => omega
    · obtain rfl : j = N := by omega
      go_wp2
      refine hR.out _ _ ⟨_, rfl, ?_, HFR.out.1⟩
      rw [HTX.out, ← List.take_length (l := P), HN.out, ← HL.out]
      exact ⟨HOU.out.1, fun k hk => Nat.le_trans HF1.out.size (HOU.out.2 k hk)⟩
end Go.Np.Try
