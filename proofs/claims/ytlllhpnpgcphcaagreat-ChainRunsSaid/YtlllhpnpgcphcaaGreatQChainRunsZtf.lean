/- What ChainRuns needs. -/
import Derived.Test.YtlllhpnpgcphcaaGreatQChainRunsZtd
set_option linter.unusedVariables false
set_option linter.unusedSimpArgs false
namespace Go.Np.Tryz
open Go.RowKit Go.Proofs Go.Proofs.YtlllhpnpgcphcaaGreat.PX Go.Proofs.YtlllhpnpgcphcaaGreatW.PrintWords
theorem way_le {t : Tr} (hO : t.Ok) : ∀ (m : Nat) (n : Int), (t.path n).length = m → ∀ x ∈ t.path n, 0 < x ∧ x ≤ n ∧ n ≤ 268435455 := by
  intro m
  induction m using Nat.strongRecOn with
  | _ m ih =>
    intro n hm x hx
    cases hf : t.find n with
    | none =>
      unfold Tr.path at hx
      rw [hf] at hx
      cases hx
    | some e =>
      obtain ⟨hmem, hname⟩ := Tr.find_some hf
      obtain ⟨k1, k2, k3, _⟩ := hO.known e hmem
      have hne : nameB e.blk ≠ 0 := by rw [← k1]; exact k2
      have hpos := nameB_pos hne
      have hpl := parent_lt hne
      have hp := hO.path_has hf
      rw [hp] at hx hm
      have hn : n = nameB e.blk := by rw [← hname]; exact k1
      rcases List.mem_append.1 hx with h1 | h1
      · have h2 := ih (t.path e.blk.f3).length (by rw [← hm, List.length_append]; simp) _ rfl x h1
        rcases hpl with h3 | h3
        · rw [h3, hO.path_zero] at h1; cases h1
        · exact ⟨h2.1, by omega, by omega⟩
      · simp at h1
        subst h1
        exact ⟨by omega, Int.le_refl _, by omega⟩
theorem tip_cases {t : Tr} (hO : t.Ok) : (t.tip = 0 ∧ t.path t.tip = []) ∨ (t.tip ∈ t.path t.tip ∧ slotN t.tip = t.tip / 65536) := by
  by_cases hn : t.names = []
  · have h0 := Tr.tip_empty hn
    exact .inl ⟨h0, by rw [h0]; exact hO.path_zero⟩
  · right
    have hh := Tr.tip_has hn
    unfold Tr.has at hh
    obtain ⟨e, he⟩ := Option.isSome_iff_exists.1 hh
    obtain ⟨hmem, hname⟩ := Tr.find_some he
    obtain ⟨k1, k2, _⟩ := hO.known e hmem
    have hne : nameB e.blk ≠ 0 := by rw [← k1]; exact k2
    refine ⟨by rw [hO.path_has he]; simp, ?_⟩
    unfold slotN
    rw [if_pos (by rw [← hname, k1]; exact (name_parts hne).2.2)]
theorem make_late' {C : Ch} (hO : C.t.Ok) (me : Int) (txs : List S67) {x : Int} (hx : x ∈ C.t.path C.t.tip) (hl : C.slot ≤ x / 65536) : C.make me txs = (z35, false) := by
  unfold Ch.make
  rw [if_neg]
  rintro ⟨_, h2, _⟩
  rcases tip_cases hO with ⟨_, h3⟩ | ⟨_, h3⟩
  · rw [h3] at hx; cases hx
  · have := way_le hO _ _ rfl x hx
    rw [h3] at h2
    omega
theorem make_lost' {C : Ch} (me : Int) (txs : List S67) (hw : winsB C.dr C.slot me = false) : C.make me txs = (z35, false) := by
  unfold Ch.make
  rw [if_neg]
  rintro ⟨h1, _⟩
  rw [hw] at h1; cases h1
theorem wins_slot {dr : List Int} {s m : Int} (h : winsB dr s m = true) : 1 ≤ s := by
  unfold winsB at h
  simp only [Bool.and_eq_true, decide_eq_true_eq] at h
  omega
theorem make_right {C : Ch} (hO : C.t.Ok) (me : Int) (txs : List S67) (hl : ∀ x ∈ C.t.path C.t.tip, ¬ C.slot ≤ x / 65536) (hw : winsB C.dr C.slot me = true) : C.make me txs = if rightB (C.blk me txs) = true then (C.blk me txs, true) else (z35, false) := by
  unfold Ch.make
  have h2 : slotN C.t.tip < C.slot := by
    rcases tip_cases hO with ⟨h0, _⟩ | ⟨h1, h3⟩
    · rw [h0]
      have h0s : slotN 0 = 0 := by unfold slotN; simp
      have := wins_slot hw
      omega
    · have := hl _ h1
      rw [h3]; omega
  by_cases hr : rightB (C.blk me txs) = true
  · rw [if_pos ⟨hw, h2, hr⟩, if_pos hr]
  · rw [if_neg (fun h => hr h.2.2), if_neg hr]
theorem tip_rng {C : Ch} (hO : C.t.Ok) (me : Int) (txs : List S67) : rng (C.blk me txs) := by
  unfold rng Ch.blk
  rcases tip_cases hO with ⟨h0, _⟩ | ⟨h1, _⟩
  · rw [h0]; exact ⟨by show (-9223372036854775808 : Int) ≤ 0; decide, by show (0 : Int) ≤ 9223372036854775807; decide⟩
  · have := way_le hO _ _ rfl _ h1
    exact ⟨by show _ ≤ C.t.tip; omega, by show C.t.tip ≤ _; omega⟩
theorem pick_nextZ (old : List Int) {txs : List S67} {j : Nat} {q : S67} (hq : txs[j]? = some q) : (txs.take (j + 1)).foldl (pickT old) [] = pickT old ((txs.take j).foldl (pickT old) []) q := by
  obtain ⟨hj, rfl⟩ := List.getElem?_eq_some_iff.1 hq
  rw [List.take_succ_eq_append_getElem hj, List.foldl_append]; rfl
theorem pick_yesZ {old : List Int} {acc : List S67} {t : S67} (h : acc.length < 3) (h2 : t.f0 ∉ old) : pickT old acc t = acc ++ [t] := by
  unfold pickT; rw [if_pos ⟨h, h2⟩]
theorem pick_inZ {old : List Int} {t : S67} (acc : List S67) (h2 : t.f0 ∈ old) : pickT old acc t = acc := by
  unfold pickT; rw [if_neg (fun h => h.2 h2)]
theorem pick_fullZ {old : List Int} {acc : List S67} {t : S67} (h : ¬ acc.length < 3) : pickT old acc t = acc := by
  unfold pickT; rw [if_neg (fun h2 => h h2.1)]
theorem txs_own {w : World} {A : Option Addr} {c : Nat} {l : List S67} (h : w.ownsRow 0 67 2 (.slice A l.length c) l.length (flatT l)) : Kd.F k67 w (fun k => k ∈ (Value.slice A l.length c).ownBlock.toList) A l.length l := fun W' hW => by
  have h' : W'.ownsRow 0 67 2 (.slice A l.length c) l.length (flatT l) := by
    obtain ⟨h1, h2⟩ := h
    refine ⟨h1, h2.imp id ?_⟩
    rintro ⟨g, cap, cs, hv, hb, hh, rest⟩
    exact ⟨g, cap, cs, hv, hb, (hW g (by rw [hv]; simp [Value.ownBlock]) (Array.getElem?_eq_some_iff.1 hh).1).trans hh, rest⟩
  obtain ⟨B, d, hv, _, hC⟩ := flatT_C h'
  injection hv with e1 _ _
  rw [e1]; exact hC
def RMakeRes (w : World) (b : Blk) (ok : Bool) (e : Ending) (w' : World) : Prop :=
  ∃ A' c', e = .returned (.tuple #[.agg #[.int .i64 b.f0, .int .i64 b.f1, .int .i64 b.f2, .int .i64 b.f3, .slice A' b.f4.length c'], .bool ok]) ∧ b.f4.length ≤ c' ∧ k67.C w' A' b.f4.length b.f4 ∧ Kd.F k67 w' (fun k => w.heap.size ≤ k) A' b.f4.length b.f4 ∧ Fr [] w w'
section
variable {P : Nat → Prop} {w : World} {C : Ch} {A0 A1 Ad : Option Addr} {c0 c1 cd : Nat}
set_option maxHeartbeats 16000000 in
set_option maxRecDepth 100000 in
theorem rmake_calls (h : RCh P w C A0 c0 A1 c1 Ad cd) (me : Int) {At : Option Addr} {ct : Nat} {txs : List S67} (hT : k67.C w At txs.length txs) (hct : txs.length ≤ ct) :
    Calls Tryz.prog 12 #[.agg #[.slice A0 C.t.ks.length c0, .slice A1 C.t.wait.length c1, .slice Ad C.dr.length cd, .int .i64 C.deep, .int .i64 C.slot], .int .i64 me, .slice At txs.length ct] w fun e w' => RMakeRes w (C.make me txs).1 (C.make me txs).2 e w' := by
  have HH := Lib.hid h
  have hO := h.good.ok
  have HO := Lib.hid hO
  have HTT := Lib.hid hT
  have HTI : Hid (∀ W, Fr [] w W → Calls Tryz.prog 18 #[.agg #[.slice A0 C.t.ks.length c0, .slice A1 C.t.wait.length c1]] W fun e w' => e = .returned (.int .i64 C.t.tip) ∧ Fr [] W w') := fun W hW => rtip_calls (HH.out.fr hW).good (HH.out.fr hW).rng (HH.out.fr hW).ks (HH.out.fr hW).wait
  have HPA : Hid (∀ W, Fr [] w W → Calls Tryz.prog 41 #[.agg #[.slice A0 C.t.ks.length c0, .slice A1 C.t.wait.length c1], .int .i64 C.t.tip] W fun e w' => ∃ v, e = .returned v ∧ SlI w' v (C.t.path C.t.tip) ∧ Fr [] W w') := fun W hW => rpath_calls (HH.out.fr hW).good (HH.out.fr hW).rng (HH.out.fr hW).ks (HH.out.fr hW).wait _
  have HWI : Hid (∀ W, Fr [] w W → Calls Tryz.prog 42 #[.slice Ad C.dr.length cd, .int .i64 C.slot, .int .i64 me] W fun e w' => e = .returned (.bool (winsB C.dr C.slot me)) ∧ Fr [] W w') := fun W hW => rwins_calls (HH.out.fr hW).dr (HH.out.fr hW).okd _ _
  have HTX : Hid (∀ W, Fr [] w W → Calls Tryz.prog 25 #[.agg #[.slice A0 C.t.ks.length c0, .slice A1 C.t.wait.length c1, .slice Ad C.dr.length cd, .int .i64 C.deep, .int .i64 C.slot], .int .i64 C.t.tip] W fun e w' => ∃ v, e = .returned v ∧ OwnI W.heap.size w' v (C.txs C.t.tip) ∧ Fr [] W w') := fun W hW => rtxs_calls (HH.out.fr hW) _
  have HWAY := Lib.hid (way_le hO _ C.t.tip rfl)
  have h400 := h.good.path400 C.t.tip
  obtain ⟨PT, hPT⟩ : ∃ PT, C.t.path C.t.tip = PT := ⟨_, rfl⟩
  rw [hPT] at HPA HWAY h400
  have HPT := Lib.hid hPT
  obtain ⟨NP, hNP⟩ : ∃ NP, PT.length = NP := ⟨_, rfl⟩
  have HNP := Lib.hid hNP
  rw [hNP] at h400
  obtain ⟨NT, hNT⟩ : ∃ NT, txs.length = NT := ⟨_, rfl⟩
  have HNT := Lib.hid hNT
  have hNTm : NT ≤ 9223372036854775807 := by rw [← hNT]; exact hT.2.1
  rw [hNT]
  obtain ⟨W1, hW1⟩ : ∃ W1, W1 = w.alloc (.cells #[.slice A0 C.t.ks.length c0, .slice A1 C.t.wait.length c1, .slice Ad C.dr.length cd, .int .i64 C.deep, .int .i64 C.slot] 32) := ⟨_, rfl⟩
  obtain ⟨W2, hW2⟩ : ∃ W2, W2 = W1.alloc (.cells #[.int .i64 0, .int .i64 0, .int .i64 0, .int .i64 0, .slice none 0 0] 35) := ⟨_, rfl⟩
  obtain ⟨g3, hg3⟩ : ∃ g3, g3 = w.heap.size := ⟨_, rfl⟩
  obtain ⟨g6, hg6⟩ : ∃ g6, g6 = w.heap.size + 1 := ⟨_, rfl⟩
  have hs1 : W1.heap.size = w.heap.size + 1 := by rw [hW1]; simp
  have hF1 : Fr [] w W1 := by rw [hW1]; exact (Fr.refl _ _).alloc _
  have hF12 : Fr [] W1 W2 := by rw [hW2]; exact (Fr.refl _ _).alloc _
  have hB3 : RChIn W1 g3 (.slice A0 C.t.ks.length c0) (.slice A1 C.t.wait.length c1) (.slice Ad C.dr.length cd) C.deep C.slot := by rw [hW1, hg3]; exact heap_alloc_new w _
  have hB6 : W2.heap[g6]? = some (.cells #[.int .i64 0, .int .i64 0, .int .i64 0, .int .i64 0, .slice none 0 0] 35 (0, 0)) := by
    have h1 := heap_alloc_new W1 (.cells #[.int .i64 0, .int .i64 0, .int .i64 0, .int .i64 0, .slice none 0 0] 35)
    rw [← hW2, hs1, ← hg6] at h1
    exact h1
  have HF2 := Lib.hid (hF1.trans hF12 (by simp))
  have HB2 : Hid (∀ W, Fr [] W2 W → RChIn W g3 (.slice A0 C.t.ks.length c0) (.slice A1 C.t.wait.length c1) (.slice Ad C.dr.length cd) C.deep C.slot ∧ W.heap[g6]? = some (.cells #[.int .i64 0, .int .i64 0, .int .i64 0, .int .i64 0, .slice none 0 0] 35 (0, 0))) := fun W hW => ⟨(hB3.fr hF12).fr hW, (hW.block g6 (Array.getElem?_eq_some_iff.1 hB6).1 (by simp)).trans hB6⟩
  have HG6 : Hid (w.heap.size ≤ g6) := by show _ ≤ _; omega
  refine calls_k fun R hR => ?_
  unfold RMakeRes at hR
  clear h hT hO hPT hNP hNT hF1 hF12 hB3 hB6
  go_enter Tryz.func12, Tryz.ntmps12
  go_upto_region 1 with (fail)
  rw [← hW1, ← hW2, ← hg6, ← hg3]
  clear hW1 hW2 hs1 hg3 hg6
  obtain ⟨a0, a1, a2, a3, a4, _, _, _, _, _⟩ := fvc (HB2.out _ (Fr.refl _ _)).1
  go_upto_region 3 with (first
    | (go_at_call 18; refine (HTI.out _ HF2.out).mono ?_; rintro e w3 ⟨rfl, hG⟩
       clear a0 a1 a2 a3 a4
       obtain ⟨a0, a1, a2, a3, a4, _, _, _, _, _⟩ := fvc (HB2.out _ hG).1
       have HF3 := Lib.hid hG
       clear hG HTI)
    | (go_at_call 41; refine (HPA.out _ (HF2.out.trans HF3.out (by simp))).mono ?_; rintro e w4 ⟨v, rfl, ⟨AP, cP, rfl, hcP, hCP⟩, hG⟩
       rw [HNP.out]
       clear a0 a1 a2 a3 a4
       have HF4 := Lib.hid (HF3.out.trans hG (by simp))
       have HPC := Lib.hid (fun k hk => int_at hCP k hk)
       obtain ⟨a0, a1, a2, a3, a4, _, _, _, _, _⟩ := fvc (HB2.out _ HF4.out).1
       clear hG HPA hcP hCP))
  have HFw := Lib.hid (HF2.out.trans HF4.out (by simp))
  go_loopg [26] NP (fun gn i wr => ∃ (m j : Nat), m = gn ∧ i = .int .i64 j ∧ m + j = NP ∧ Hid (∀ i, i < j → ¬ C.slot ≤ PT.getD i 0 / 65536) ∧ w4 = wr)
  case atStart => exact ⟨_, 0, rfl, rfl, rfl, fun i hi => absurd hi (Nat.not_lt_zero _), rfl⟩
  case round =>
    obtain ⟨m, j, rfl, rfl, hj, HPJ, rfl⟩ := hrel
    by_cases hlt : j < NP
    · obtain ⟨m', rfl⟩ : ∃ m', m = m' + 1 := ⟨m - 1, by omega⟩
      have hjl : j < PT.length := by rw [HNP.out]; exact hlt
      obtain ⟨ad, hA, hcell⟩ := HPC.out j hjl
      subst hA
      obtain ⟨x, hx⟩ : ∃ x, PT.getD j 0 = x := ⟨_, rfl⟩
      rw [hx] at hcell
      have hmem : x ∈ PT := by rw [← hx, List.getD_eq_getElem?_getD, List.getElem?_eq_getElem hjl]; exact List.getElem_mem _
      have hway := HWAY.out x hmem
      have hx0 : 0 ≤ x := by omega
      have hx1 : x ≤ 268435455 := by omega
      have HX := Lib.hid hx
      by_cases hl : C.slot ≤ x / 65536
      · have hmk := make_late' HO.out me txs (by rw [HPT.out]; exact hmem) hl
        rw [hmk] at hR
        have hb1 : decide (C.slot ≤ x / 65536) = true := decide_eq_true hl
        clear hx hmem hway hmk hl hjl
        obtain ⟨y0, y1, y2, y3, y4, z0, z1, z2, z3, z4⟩ := fvc (HB2.out _ HF4.out).2
        go_wp2
        have hp := put5_heap (HB2.out _ HF4.out).2 (.int .i64 0) (.int .i64 0) (.int .i64 0) (.int .i64 0) (.slice none 0 0)
        have hfr := put5_fr (b := g6) HFw.out (.inr HG6.out) (.int .i64 0) (.int .i64 0) (.int .i64 0) (.int .i64 0) (.slice none 0 0)
        unfold put5 at hp hfr
        refine bodyPost_ret (results_ct rfl _ _ g6 35 _ (0, 0) _ rfl hp Tryz.underlying35 rfl (by kernel_rfl)) rfl ?_
        exact hR.out _ _ ⟨none, 0, rfl, Nat.le_refl _, C_none _, fun _ _ => C_none _, hfr⟩
      · have hb1 : decide (C.slot ≤ x / 65536) = false := decide_eq_false hl
        have HPJ' : Hid (∀ i, i < j + 1 → ¬ C.slot ≤ PT.getD i 0 / 65536) := by
          show ∀ i, i < j + 1 → _
          intro i hi
          by_cases e : i = j
          · rw [e, HX.out]; exact hl
          · exact HPJ.out i (by omega)
        clear hx hmem hway hl hjl
        go_wp2
        go_roundg m'
        case rel => exact ⟨m', j + 1, rfl, by go_num, by omega, HPJ', rfl⟩
        case measure => omega
    · obtain rfl : j = NP := by omega
      have HNL : Hid (∀ x ∈ C.t.path C.t.tip, ¬ C.slot ≤ x / 65536) := by
        show ∀ x ∈ C.t.path C.t.tip, _
        rw [HPT.out]
        intro x hx
        obtain ⟨i, hi, rfl⟩ := List.mem_iff_getElem.1 hx
        have h1 := HPJ.out i (by rw [← HNP.out]; exact hi)
        rw [List.getD_eq_getElem?_getD, List.getElem?_eq_getElem hi] at h1
        exact h1
      cases hwn : winsB C.dr C.slot me with
      | false =>
        rw [hwn] at HWI
        rw [make_lost' me txs hwn] at hR
        clear hwn
        go_upto_region 9 with (go_at_call 42; refine (HWI.out _ HFw.out).mono ?_; rintro e w5 ⟨rfl, hG⟩
                               have HF5 := Lib.hid (HF4.out.trans hG (by simp))
                               clear a0 a1 a2 a3 a4 hG HWI)
        obtain ⟨y0, y1, y2, y3, y4, z0, z1, z2, z3, z4⟩ := fvc (HB2.out _ HF5.out).2
        go_wp2
        have hp := put5_heap (HB2.out _ HF5.out).2 (.int .i64 0) (.int .i64 0) (.int .i64 0) (.int .i64 0) (.slice none 0 0)
        have hfr := put5_fr (b := g6) (HF2.out.trans HF5.out (by simp)) (.inr HG6.out) (.int .i64 0) (.int .i64 0) (.int .i64 0) (.int .i64 0) (.slice none 0 0)
        unfold put5 at hp hfr
        refine bodyPost_ret (results_ct rfl _ _ g6 35 _ (0, 0) _ rfl hp Tryz.underlying35 rfl (by kernel_rfl)) rfl ?_
        exact hR.out _ _ ⟨none, 0, rfl, Nat.le_refl _, C_none _, fun _ _ => C_none _, hfr⟩
      | true =>
        rw [hwn] at HWI
        have hmk := make_right HO.out me txs HNL.out hwn
        rw [hmk] at hR
        clear hwn hmk
        obtain ⟨old, hold⟩ : ∃ old, C.txs C.t.tip = old := ⟨_, rfl⟩
        rw [hold] at HTX
        have hblk : C.blk me txs = ⟨C.slot, me, 0, C.t.tip, txs.foldl (pickT old) []⟩ := by unfold Ch.blk; rw [hold]
        rw [hblk] at hR
        have hrg := tip_rng HO.out me txs
        rw [hblk] at hrg
        have HRG := Lib.hid hrg
        have hol : old.length ≤ 1200 := by rw [← hold]; exact txs_len HH.out.good _
        clear hold hblk hrg
        go_upto_region 10 with (go_at_call 42; refine (HWI.out _ HFw.out).mono ?_; rintro e w5 ⟨rfl, hG⟩
                                have HF5 := Lib.hid (HF4.out.trans hG (by simp))
                                clear a0 a1 a2 a3 a4 hG HWI)
        obtain ⟨W6, hW6⟩ : ∃ W6, W6 = w5.alloc (.cells #[] 67) := ⟨_, rfl⟩
        obtain ⟨g11, hg11⟩ : ∃ g, g = w5.heap.size := ⟨_, rfl⟩
        have HF56 : Hid (Fr [] w5 W6) := by show Fr _ _ _; rw [hW6]; exact (Fr.refl _ _).alloc _
        have HR6 : Hid (W6.ownsRow 0 67 2 (.slice (some ⟨g11, 0, none⟩) ([] : List S67).length 0) ([] : List S67).length (flatT [])) := by show World.ownsRow _ _ _ _ _ _ _; rw [hW6, hg11]; exact World.ownsRow_made w5 #[] 0 (Nat.zero_le _) (by unfold maxLen; omega) rfl
        have HK6 : Hid (∀ k ∈ (Value.slice (some ⟨g11, 0, none⟩) ([] : List S67).length 0).ownBlock.toList, w5.heap.size ≤ k) := fun k hk => by simp [Value.ownBlock] at hk; omega
        have HW25 := Lib.hid HF5.out
        go_upto_region 12 with (fail)
        rw [← hW6, ← hg11]
        clear hW6 hg11 HF4 HF3 HFw
        go_loopg [11, 48] NT (fun gn o i wr => ∃ (m j : Nat) (acc : List S67) (B : Option Addr) (d : Nat), m = gn ∧ o = .slice B acc.length d ∧ i = .int .i64 j ∧ m + j = NT ∧ Hid (acc = (txs.take j).foldl (pickT old) []) ∧ Hid (wr.ownsRow 0 67 2 (.slice B acc.length d) acc.length (flatT acc)) ∧ Hid (∀ k ∈ (Value.slice B acc.length d).ownBlock.toList, w5.heap.size ≤ k) ∧ Hid (Fr [] w5 wr))
        case atStart => exact ⟨_, 0, [], some ⟨g11, 0, none⟩, 0, rfl, rfl, rfl, rfl, rfl, HR6, HK6, HF56⟩
        case round =>
          obtain ⟨m, jj, acc, B, d, rfl, rfl, rfl, hjj, HACC, HROW, HOWN, HFR⟩ := hrel
          obtain ⟨wO, rfl⟩ : ∃ wO, wO = wr := ⟨_, rfl⟩
          clear HR6 HK6 HF56
          have HF2r := Lib.hid (HF5.out.trans HFR.out (by simp))
          have HFwr := Lib.hid (HF2.out.trans HF2r.out (by simp))
          obtain ⟨a0, a1, a2, a3, a4, _, _, _, _, _⟩ := fvc (HB2.out _ HF2r.out).1
          have hacc3 : acc.length ≤ 3 := by rw [HACC.out]; exact pick_len old _ _ (Nat.zero_le _)
          by_cases hlt2 : jj < NT
          · obtain ⟨m', rfl⟩ : ∃ m', m = m' + 1 := ⟨m - 1, by omega⟩
            obtain ⟨q, hq⟩ : ∃ q, txs[jj]? = some q := ⟨_, List.getElem?_eq_getElem (by rw [HNT.out]; exact hlt2)⟩
            obtain ⟨ad2, hA2, u0, u1⟩ := tx_at (Kd.C_below HTT.out HFwr.out.below) jj q hq (by rw [HNT.out]; exact hlt2)
            subst hA2
            have HNX := Lib.hid (pick_nextZ old hq)
            clear hq
            go_upto_region 15 with (fail)
            obtain ⟨W7, hW7⟩ : ∃ W7, W7 = wO.alloc (.cells #[.int .i64 q.f0, .int .i64 q.f1] 67) := ⟨_, rfl⟩
            obtain ⟨g13, hg13⟩ : ∃ g, g = wO.heap.size := ⟨_, rfl⟩
            have hF7 : Fr [] wO W7 := by rw [hW7]; exact (Fr.refl _ _).alloc _
            have hB13 : W7.heap[g13]? = some (.cells #[.int .i64 q.f0, .int .i64 q.f1] 67 (0, 0)) := by rw [hW7, hg13]; exact heap_alloc_new _ _
            have HB13 := Lib.hid hB13
            have HF7 := Lib.hid hF7
            rw [← hW7, ← hg13]
            clear hW7 hg13 hF7 hB13 u0 u1 a0 a1 a2 a3 a4
            obtain ⟨a0, a1, a2, a3, a4, _, _, _, _, _⟩ := fvc (HB2.out _ (HF2r.out.trans HF7.out (by simp))).1
            go_upto_region 16 with (go_at_call 25; refine (HTX.out _ (HFwr.out.trans HF7.out (by simp))).mono ?_; rintro e w8 ⟨v8, rfl, hO8, hG⟩
                                    obtain ⟨A8, c8, rfl⟩ := hO8.form
                                    have HOC := Lib.hid (fun k hk => int_at hO8.sl.C.2.2 k hk)
                                    have HF8 := Lib.hid (HF7.out.trans hG (by simp))
                                    have HB8 := Lib.hid ((hG.block g13 (Array.getElem?_eq_some_iff.1 HB13.out).1 (by simp)).trans HB13.out)
                                    clear hO8 hG a0 a1 a2 a3 a4)
            obtain ⟨NO, hNO⟩ : ∃ NO, old.length = NO := ⟨_, rfl⟩
            have hNO12 : NO ≤ 1200 := by omega
            rw [hNO]
            have HNO := Lib.hid hNO
            clear hNO HB13 HF7
            have t0 := cell_of HB8.out 0
            have t1 := cell_of HB8.out 1
            simp at t0 t1
            go_loopg [14, 56] NO (fun gn inn i wr => ∃ (m3 p : Nat) (b : Bool), m3 = gn ∧ inn = .bool b ∧ i = .int .i64 p ∧ m3 + p = NO ∧ Hid (decide (q.f0 ∈ old.take p) = b) ∧ w8 = wr)
            case atStart => exact ⟨_, 0, false, rfl, rfl, rfl, rfl, (by show _ = _; simp), rfl⟩
            case round =>
              obtain ⟨m3, p, b, rfl, rfl, rfl, hp, HQ, rfl⟩ := hrel
              by_cases hlt3 : p < NO
              · obtain ⟨m3', rfl⟩ : ∃ m3', m3 = m3' + 1 := ⟨m3 - 1, by omega⟩
                have hpl : p < old.length := by rw [HNO.out]; exact hlt3
                obtain ⟨ad3, hA3, hcell3⟩ := HOC.out p hpl
                subst hA3
                obtain ⟨y, hy⟩ : ∃ y, old.getD p 0 = y := ⟨_, rfl⟩
                rw [hy] at hcell3
                have hmn := mem_next hpl q.f0
                rw [HQ.out, hy, show (q.f0 == y) = (y == q.f0) by rw [Bool.eq_iff_iff, beq_iff_eq, beq_iff_eq]; exact ⟨Eq.symm, Eq.symm⟩] at hmn
                have HMN := Lib.hid hmn
                clear hmn hy hpl
                cases b with
                | true =>
                  go_wp2
                  go_roundg m3'
                  case rel => exact ⟨m3', p + 1, true, rfl, rfl, by go_num, by omega, (by show _ = _; rw [HMN.out]; rfl), rfl⟩
                  case measure => omega
                | false =>
                  obtain ⟨r, hr⟩ : ∃ r, (y == q.f0) = r := ⟨_, rfl⟩
                  rw [hr] at HMN
                  cases r with
                  | true =>
                    go_wp2
                    go_roundg m3'
                    case rel => exact ⟨m3', p + 1, true, rfl, rfl, by go_num, by omega, (by show _ = _; rw [HMN.out]; rfl), rfl⟩
                    case measure => omega
                  | false =>
                    go_wp2
                    go_roundg m3'
                    case rel => exact ⟨m3', p + 1, false, rfl, rfl, by go_num, by omega, (by show _ = _; rw [HMN.out]; rfl), rfl⟩
                    case measure => omega
              · obtain rfl : p = NO := by omega
                have hq := HQ.out
                rw [← HNO.out, List.take_length] at hq
                have HROW8 : Hid (w8.ownsRow 0 67 2 (.slice B acc.length d) acc.length (flatT acc)) := row_fr HROW.out HF8.out (by simp)
                have HFR8 := Lib.hid (HFR.out.trans HF8.out (by simp))
                cases b with
                | true =>
                  have HP := Lib.hid (pick_inZ (old := old) (t := q) acc (of_decide_eq_true hq))
                  clear hq
                  go_wp2
                  go_roundg m'
                  case rel =>
                    refine ⟨m', jj + 1, acc, B, d, rfl, rfl, by go_num, by omega, ?_, HROW8, HOWN, HFR8⟩
                    show _ = _
                    rw [HNX.out, ← HACC.out, HP.out]
                  case measure => omega
                | false =>
                  have hnin := of_decide_eq_false hq
                  by_cases h3 : acc.length < 3
                  · have HP := Lib.hid (pick_yesZ (old := old) (t := q) h3 hnin)
                    have hb1 : decide (acc.length < 3) = true := decide_eq_true h3
                    have hb2 : decide ((acc.length : Int) < 3) = true := decide_eq_true (by omega)
                    have hb63 : acc.length < maxLen := by unfold maxLen; omega
                    have hb16 : (acc.length + 1) * 16 ≤ 140737488355328 := by omega
                    have hrow := HROW8.out
                    clear hq hnin h3
                    go_wp2_with (at_builtin; refine wp_append1 rfl _ _ 33 67 rfl Tryz.underlying33 info67 rfl (by decide) hrow rfl [.int .i64 q.f0, .int .i64 q.f1] rfl rfl (by simp [Value.oneCell']) hb63 hb16 ?_; intro A10 c10 w10 hr10 hF10 hU10
                                 have HRW : Hid (w10.ownsRow 0 67 2 (.slice A10 (acc ++ [q]).length c10) (acc ++ [q]).length (flatT (acc ++ [q]))) := by
                                   have h1 := hr10
                                   rw [← flatT_snoc acc q] at h1
                                   show World.ownsRow _ _ _ _ _ _ _
                                   rw [List.length_append]
                                   exact h1
                                 have HOW : Hid (∀ k ∈ (Value.slice A10 (acc ++ [q]).length c10).ownBlock.toList, w5.heap.size ≤ k) := fun k hk => by
                                   rw [List.length_append] at hk
                                   rcases hU10 k hk with h1 | h1
                                   · exact HOWN.out k h1
                                   · exact Nat.le_trans HFR8.out.size h1
                                 have HF10 : Hid (Fr [] w5 w10) := HFR8.out.trans hF10 (fun k hk => .inr (HOWN.out k hk))
                                 clear hr10 hF10 hU10 hrow)
                    go_roundg m'
                    case rel =>
                      refine ⟨m', jj + 1, acc ++ [q], A10, c10, rfl, by rw [List.length_append]; rfl, by go_num, by omega, ?_, HRW, HOW, HF10⟩
                      show _ = _
                      rw [HNX.out, ← HACC.out, HP.out]
                    case measure => omega
                  · have HP := Lib.hid (pick_fullZ (old := old) (t := q) h3)
                    have hb1 : decide (acc.length < 3) = false := decide_eq_false h3
                    have hb2 : decide ((acc.length : Int) < 3) = false := decide_eq_false (by omega)
                    clear hq hnin h3
                    go_wp2
                    go_roundg m'
                    case rel =>
                      refine ⟨m', jj + 1, acc, B, d, rfl, rfl, by go_num, by omega, ?_, HROW8, HOWN, HFR8⟩
                      show _ = _
                      rw [HNX.out, ← HACC.out, HP.out]
                    case measure => omega
          · obtain rfl : jj = NT := by omega
            have hae := HACC.out
            rw [← HNT.out, List.take_length] at hae
            rw [← hae] at hR HRG
            obtain ⟨A9, c9, hv9, hc9, hC9⟩ := flatT_C HROW.out
            injection hv9 with e1 _ e3
            subst e1 e3
            obtain ⟨na, hna⟩ : ∃ na, acc.length = na := ⟨_, rfl⟩
            obtain ⟨W9, hW9⟩ : ∃ W9, W9 = wO.alloc (.cells #[.int .i64 C.slot, .int .i64 me, .int .i64 0, .int .i64 C.t.tip, .slice B acc.length d] 35) := ⟨_, rfl⟩
            obtain ⟨g17, hg17⟩ : ∃ g, g = wO.heap.size := ⟨_, rfl⟩
            have hF9 : Fr [] wO W9 := by rw [hW9]; exact (Fr.refl _ _).alloc _
            have hB17 : W9.heap[g17]? = some (.cells #[.int .i64 C.slot, .int .i64 me, .int .i64 0, .int .i64 C.t.tip, .slice B acc.length d] 35 (0, 0)) := by rw [hW9, hg17]; exact heap_alloc_new _ _
            have HRI : Hid (∀ W, Fr [] wO W → Calls Tryz.prog 43 #[.agg #[.int .i64 C.slot, .int .i64 me, .int .i64 0, .int .i64 C.t.tip, .slice B acc.length d]] W fun e w' => e = .returned (.bool (rightB ⟨C.slot, me, 0, C.t.tip, acc⟩)) ∧ Fr [] W w') := fun W hW => rright_calls ⟨C.slot, me, 0, C.t.tip, acc⟩ B d (Kd.C_below hC9 hW.below) hc9 HRG.out
            have HFC : Hid (∀ W, Fr [] wO W → k67.C W B acc.length acc) := fun W hW => Kd.C_below hC9 hW.below
            have HC9 := Lib.hid hc9
            have HB17 : Hid (∀ W, Fr [] W9 W → W.heap[g17]? = some (.cells #[.int .i64 C.slot, .int .i64 me, .int .i64 0, .int .i64 C.t.tip, .slice B acc.length d] 35 (0, 0))) := fun W hW => (hW.block g17 (Array.getElem?_eq_some_iff.1 hB17).1 (by simp)).trans hB17
            have HF9 := Lib.hid hF9
            clear hC9 hc9 hna hF9 hB17 hae
            go_upto_region 24 with (fail)
            rw [← hW9, ← hg17]
            clear hW9 hg17 a0 a1 a2 a3 a4
            obtain ⟨b0, b1, b2, b3, b4, _, _, _, _, _⟩ := fvc (HB17.out _ (Fr.refl _ _))
            cases hrb : rightB ⟨C.slot, me, 0, C.t.tip, acc⟩ with
            | false =>
              rw [hrb] at HRI hR
              clear hrb
              go_upto_region 25 with (go_at_call 43; refine (HRI.out _ HF9.out).mono ?_; rintro e w11 ⟨rfl, hG⟩
                                      have HF11 := Lib.hid (HF2r.out.trans (HF9.out.trans hG (by simp)) (by simp))
                                      clear hG HRI b0 b1 b2 b3 b4)
              obtain ⟨y0, y1, y2, y3, y4, z0, z1, z2, z3, z4⟩ := fvc (HB2.out _ HF11.out).2
              go_wp2
              have hp := put5_heap (HB2.out _ HF11.out).2 (.int .i64 0) (.int .i64 0) (.int .i64 0) (.int .i64 0) (.slice none 0 0)
              have hfr := put5_fr (b := g6) (HF2.out.trans HF11.out (by simp)) (.inr HG6.out) (.int .i64 0) (.int .i64 0) (.int .i64 0) (.int .i64 0) (.slice none 0 0)
              unfold put5 at hp hfr
              refine bodyPost_ret (results_ct rfl _ _ g6 35 _ (0, 0) _ rfl hp Tryz.underlying35 rfl (by kernel_rfl)) rfl ?_
              exact hR.out _ _ ⟨none, 0, rfl, Nat.le_refl _, C_none _, fun _ _ => C_none _, hfr⟩
            | true =>
              rw [hrb] at HRI hR
              clear hrb
              go_upto_region 26 with (go_at_call 43; refine (HRI.out _ HF9.out).mono ?_; rintro e w11 ⟨rfl, hG⟩
                                      have HF11 := Lib.hid (HF2r.out.trans (HF9.out.trans hG (by simp)) (by simp))
                                      have HFO11 := Lib.hid (HF9.out.trans hG (by simp))
                                      have HB11 := Lib.hid (HB17.out _ hG)
                                      clear hG HRI b0 b1 b2 b3 b4)
              obtain ⟨b0, b1, b2, b3, b4, _, _, _, _, _⟩ := fvc HB11.out
              obtain ⟨y0, y1, y2, y3, y4, z0, z1, z2, z3, z4⟩ := fvc (HB2.out _ HF11.out).2
              go_wp2
              have hp := put5_heap (HB2.out _ HF11.out).2 (.int .i64 C.slot) (.int .i64 me) (.int .i64 0) (.int .i64 C.t.tip) (.slice B acc.length d)
              have hfr := put5_fr (b := g6) (HF2.out.trans HF11.out (by simp)) (.inr HG6.out) (.int .i64 C.slot) (.int .i64 me) (.int .i64 0) (.int .i64 C.t.tip) (.slice B acc.length d)
              have hrow11 := row_fr HROW.out HFO11.out (by simp)
              have hfr6 := put5_fr (b := g6) (Fr.refl [g6] w11) (.inl (by simp)) (.int .i64 C.slot) (.int .i64 me) (.int .i64 0) (.int .i64 C.t.tip) (.slice B acc.length d)
              have hrowf := row_fr hrow11 hfr6 (fun k hk hm => by
                have h1 := HOWN.out k hk
                have h2 := (Array.getElem?_eq_some_iff.1 (HB2.out _ HF5.out).2).1
                simp at hm
                omega)
              have hF12 := Kd.F_mono (txs_own hrowf) (ok' := fun k => w.heap.size ≤ k) (fun k hk => by
                have h1 := HOWN.out k hk
                have h2 := (Array.getElem?_eq_some_iff.1 (HB2.out _ HF5.out).2).1
                have h3 := HG6.out
                omega)
              obtain ⟨A12, c12, hv12, hc12, hC12⟩ := flatT_C hrowf
              injection hv12 with e1 _ e3
              subst e1 e3
              unfold put5 at hp hfr hC12 hF12
              refine bodyPost_ret (results_ct rfl _ _ g6 35 _ (0, 0) _ rfl hp Tryz.underlying35 rfl (by kernel_rfl)) rfl ?_
              exact hR.out _ _ ⟨B, d, rfl, hc12, hC12, hF12, hfr⟩
end
end Go.Np.Tryz
