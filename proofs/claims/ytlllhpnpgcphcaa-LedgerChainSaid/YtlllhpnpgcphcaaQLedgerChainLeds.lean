/- A text that the row of LedgerChain needs. (Pruned by tools/prune.py.) -/
import Derived.Test.YtlllhpnpgcphcaaQLedgerChainLedr
set_option linter.unusedVariables false
set_option linter.unusedSimpArgs false
namespace Go.Np.Try
open Go.RowKit Go.Proofs Go.Proofs.Ytlllhpnpgcphcaa.PX Go.Proofs.YtlllhpnpgcphcaaW.PrintWords
theorem chk_l2 (L : List Int) (hL : L.length ≤ 1000000) : ∀ (m j : Nat), j + m = L.length → ∃ r, neaptideref10_Check.l0 (m + 1) L (L.length : Int) (j : Int) = some r ∧ (r = 0 → ∀ i, j ≤ i → i < L.length → 0 ≤ L.getD i 0 ∧ L.getD i 0 ≤ 127)
  | 0, j, hj => by
    simp only [neaptideref10_Check.l0]
    rw [if_neg (by omega)]
    exact ⟨_, rfl, fun _ i h1 h2 => by omega⟩
  | m + 1, j, hj => by
    have hlt : j < L.length := by omega
    obtain ⟨r, hr, hr2⟩ := chk_l2 L hL m (j + 1) (by omega)
    have hrd : rd L (j : Int) = L.getD j 0 := by simp [rd]
    rw [neaptideref10_Check.l0]
    rw [if_pos (by omega), if_pos (by omega), if_pos (by omega), wr_step j (by omega), hr, hrd]
    split
    · exact ⟨_, rfl, fun h => by cases h⟩
    · split
      · exact ⟨_, rfl, fun h => by cases h⟩
      · refine ⟨_, rfl, fun h i h1 h2 => ?_⟩
        by_cases e : i = j
        · subst e; omega
        · exact hr2 h i (by omega) h2
theorem check_ok (dr : List Int) : ∃ r : Int, (r = 0 → dr.length ≤ 200 ∧ OkDr dr) ∧ ∀ (w : World) (A : Option Addr) (c : Nat), (Kd.int .i64).C w A dr.length dr → dr.length ≤ c →
    Calls Try.prog 46 #[.slice A dr.length c] w fun e w' => e = .returned (.int .i64 r) ∧ Fr [] w w' := by
  have hev : ∃ r, neaptideref10_Check.f (dr.length + 1) dr = some r ∧ (r = 0 → dr.length ≤ 200 ∧ OkDr dr) := by
    unfold neaptideref10_Check.f
    by_cases h : (dr.length : Int) > 200
    · rw [if_pos h]
      exact ⟨101, rfl, fun h => by cases h⟩
    · rw [if_neg h]
      obtain ⟨r, hr, hr2⟩ := chk_l2 dr (by omega) dr.length 0 (by omega)
      refine ⟨r, hr, fun h0 => ⟨by omega, fun d hd => ?_⟩⟩
      obtain ⟨i, hi, rfl⟩ := List.mem_iff_getElem.1 hd
      have := hr2 h0 i (Nat.zero_le _) hi
      rw [List.getD_eq_getElem?_getD, List.getElem?_eq_getElem hi] at this
      exact this
  obtain ⟨r, hr, h2⟩ := hev
  refine ⟨r, h2, fun w A c hC hc => (neaptideref10_Check.calls _ A c dr r w hC hc hr).mono ?_⟩
  rintro e w' ⟨h1, ⟨n, rfl⟩⟩
  exact ⟨h1, (Fr.refl _ _).drewN n⟩
def twiceL (l : List Int) : List Int := l.flatMap fun d => [d, d]
theorem twice_len (l : List Int) : (twiceL l).length = 2 * l.length := by
  induction l with
  | nil => rfl
  | cons x l ih => unfold twiceL at ih ⊢; simp only [List.flatMap_cons, List.length_append, ih, List.length_cons, List.length_nil]; omega
theorem twice_next {l : List Int} {j : Nat} (hj : j < l.length) {x : Int} (hx : l.getD j 0 = x) : twiceL (l.take (j + 1)) = twiceL (l.take j) ++ [x, x] := by
  rw [take_snocI hj hx]; unfold twiceL; simp
theorem twice_while (p : Int → Bool) : ∀ l : List Int, (twiceL l).takeWhile p = twiceL (l.takeWhile p)
  | [] => rfl
  | x :: l => by
    have ih := twice_while p l
    unfold twiceL at ih ⊢
    by_cases h : p x = true
    · simp [List.takeWhile_cons, h, ih]
    · simp [List.takeWhile_cons, h]
theorem take_while (p : Int → Bool) : ∀ l : List Int, l.take (l.takeWhile p).length = l.takeWhile p
  | [] => rfl
  | x :: l => by
    by_cases h : p x = true
    · simp [List.takeWhile_cons, h, take_while p l]
    · simp [List.takeWhile_cons, h]
theorem clean_met : ∀ (l met : List Int), (∀ x ∈ l, x ∈ met) → cleanL met l = []
  | [], _, _ => rfl
  | x :: l, met, h => by
    simp only [cleanL]
    rw [if_pos (h x (by simp))]
    exact clean_met l met (fun y hy => h y (by simp [hy]))
theorem clean_twice (f : Int → List Int) : ∀ (m met : List Int), cleanL met ((twiceL m).map f).flatten = cleanL met (m.map f).flatten
  | [], met => rfl
  | d :: m, met => by
    have e : ((twiceL (d :: m)).map f).flatten = f d ++ (f d ++ ((twiceL m).map f).flatten) := by unfold twiceL; simp
    rw [e, cleanL_append, cleanL_append, clean_met (f d) (met ++ f d) (fun x hx => by simp [hx]), List.nil_append, List.map_cons, List.flatten_cons, cleanL_append]
    congr 1
    rw [clean_twice f m]
    exact cleanL_cong _ _ _ (fun x => by simp only [List.mem_append]; exact ⟨fun h => h.elim id .inr, .inl⟩)
theorem final_eq (C : Ch) (l : List Int) : finalL C l = cleanL [] ((l.takeWhile (okD C)).map C.txs).flatten := by
  unfold finalL settledN
  rw [take_while]
theorem final_twice (C : Ch) (l : List Int) : finalL C (twiceL l) = finalL C l := by
  rw [final_eq, final_eq, twice_while, clean_twice]
theorem avail_twice (C : Ch) (l : List Int) : availL C (twiceL l) = availL C l := by unfold availL; rw [final_twice]
theorem avail_nil (C : Ch) : availL C [] = cleanL [] (C.txs C.conf) := by unfold availL finalL; simp [cleanL]
set_option maxHeartbeats 16000000 in
set_option maxRecDepth 100000 in
theorem LedgerChain_walk (w : World) (A0 : Option Addr) (c0 : Nat) (dr : List Int) (hdr : (Kd.int .i64).C w A0 dr.length dr) (_m0 : dr.length ≤ maxLen) (_s0 : dr.length * 8 ≤ 140737488351232) (_w0 : ∀ n ∈ dr, (Lit.int .i64 n).wf = true) (hdc : dr.length ≤ c0)
    (vb : Value) (bl : List Blk) (hvb : BlocksR w vb bl)
    (A2 : Option Addr) (c2 : Nat) (ds : List Int) (hds : (Kd.int .i64).C w A2 ds.length ds) (_m2 : ds.length ≤ maxLen) (_s2 : ds.length * 8 ≤ 140737488351232) (_w2 : ∀ n ∈ ds, (Lit.int .i64 n).wf = true) (hdsc : ds.length ≤ c2) :
    Calls Try.prog 12 #[.slice A0 dr.length c0, vb, .slice A2 ds.length c2] w fun e w' => e = .returned (.bool true) ∧ Fr [] w w' := by
  obtain ⟨⟨Ab, cb, rfl, hbC, hbS⟩, hbR⟩ := hvb
  have HAL := Lib.hid (lalive_calls (w := w))
  have hnm : bl.length = bl.length := rfl
  obtain ⟨nd, hnd⟩ : ∃ nd, dr.length = nd := ⟨_, rfl⟩
  obtain ⟨nb, hnb⟩ : ∃ nb, bl.length = nb := ⟨_, rfl⟩
  obtain ⟨ns, hns⟩ : ∃ ns, ds.length = ns := ⟨_, rfl⟩
  obtain ⟨r, hr1, hck⟩ := check_ok dr
  have HCK : Hid (∀ W, Fr [] w W → Calls Try.prog 46 #[.slice A0 nd c0] W fun e w' => e = .returned (.int .i64 r) ∧ Fr [] W w') := fun W hW => by
    have h := hck W A0 c0 (Kd.C_below hdr hW.below) hdc
    rw [hnd] at h; exact h
  have HDR := Lib.hid hdr
  have HDS := Lib.hid hds
  have HBC := Lib.hid hbC
  have HBS := Lib.hid hbS
  have HBR := Lib.hid hbR
  have HND := Lib.hid hnd
  have HNB := Lib.hid hnb
  have HNS := Lib.hid hns
  have HDC := Lib.hid hdc
  have HDSC := Lib.hid hdsc
  rw [hnd, hnb, hns]
  refine calls_k fun R hR => ?_
  clear hdr hds hbC hbS hbR hck _m0 _s0 _w0 _m2 _s2 _w2 hdc hdsc hnm hnd hnb hns
  by_cases hr0 : r = 0
  case neg =>
    have hb1 : (r == 0) = false := by simpa using hr0
    have hb2 : (r != 0) = true := by simpa using hr0
    clear hr1
    go_enter Try.func12, Try.ntmps12
    go_wp2_with (first
      | (go_at_call 57; refine HAL.out.mono ?_; rintro e w2 ⟨rfl, hF2⟩; have HF2 := Lib.hid hF2; clear hF2 HAL)
      | (go_at_call 46; refine (HCK.out _ HF2.out).mono ?_; rintro e w3 ⟨rfl, hF3⟩; have HF3 := Lib.hid (HF2.out.trans hF3 (by simp)); clear hF3 HCK))
    exact hR.out _ _ ⟨rfl, HF3.out⟩
  subst hr0
  by_cases h40 : 40 < nb
  · have g1 : decide (40 < (nb : Int)) = true := decide_eq_true (by omega)
    have g1' : decide (40 < nb) = true := decide_eq_true h40
    clear hr1
    go_enter Try.func12, Try.ntmps12
    go_wp2_with (first
      | (go_at_call 57; refine HAL.out.mono ?_; rintro e w2 ⟨rfl, hF2⟩; have HF2 := Lib.hid hF2; clear hF2 HAL)
      | (go_at_call 46; refine (HCK.out _ HF2.out).mono ?_; rintro e w3 ⟨rfl, hF3⟩; have HF3 := Lib.hid (HF2.out.trans hF3 (by simp)); clear hF3 HCK))
    exact hR.out _ _ ⟨rfl, HF3.out⟩
  have g1 : decide (40 < (nb : Int)) = false := decide_eq_false (by omega)
  have g1' : decide (40 < nb) = false := decide_eq_false h40
  by_cases h20 : 20 < ns
  · have g2 : decide (20 < (ns : Int)) = true := decide_eq_true (by omega)
    have g2' : decide (20 < ns) = true := decide_eq_true h20
    clear hr1
    go_enter Try.func12, Try.ntmps12
    go_wp2_with (first
      | (go_at_call 57; refine HAL.out.mono ?_; rintro e w2 ⟨rfl, hF2⟩; have HF2 := Lib.hid hF2; clear hF2 HAL)
      | (go_at_call 46; refine (HCK.out _ HF2.out).mono ?_; rintro e w3 ⟨rfl, hF3⟩; have HF3 := Lib.hid (HF2.out.trans hF3 (by simp)); clear hF3 HCK))
    exact hR.out _ _ ⟨rfl, HF3.out⟩
  have g2 : decide (20 < (ns : Int)) = false := decide_eq_false (by omega)
  have g2' : decide (20 < ns) = false := decide_eq_false h20
  have hns20 : ns ≤ 20 := by omega
  obtain ⟨hd200, hok⟩ := hr1 rfl
  have HGR : Hid (∀ W, Fr [] w W → Calls Try.prog 64 #[.slice A0 nd c0, .int .i64 1, .slice Ab nb cb] W fun e w' => GrownCh W A0 c0 (grownC dr 1 bl) e w') := fun W hW => by
    have h := grownch_calls (c := cb) (cd := c0) (Kd.C_below HDR.out hW.below) hd200 hok 1 (Kd.C_below HBC.out hW.below) rfl HBS.out HBR.out
    rw [HND.out, HNB.out] at h; exact h
  have hgood := (grownC_all dr 1 (l := bl) HBR.out).1
  obtain ⟨C, hC⟩ : ∃ C, grownC dr 1 bl = C := ⟨_, rfl⟩
  rw [hC] at HGR hgood
  have HG := Lib.hid hgood
  clear hr1 hd200 hok hgood hC h40 h20
  go_enter Try.func12, Try.ntmps12
  go_upto_region 6 with (first
    | (go_at_call 57; refine HAL.out.mono ?_; rintro e w2 ⟨rfl, hF2⟩; have HF2 := Lib.hid hF2; clear hF2 HAL)
    | (go_at_call 46; refine (HCK.out _ HF2.out).mono ?_; rintro e w3 ⟨rfl, hF3⟩; have HF3 := Lib.hid (HF2.out.trans hF3 (by simp)); clear hF3 HCK)
    | (go_at_call 64; refine (HGR.out _ HF3.out).mono ?_; rintro e w5 ⟨c, B0, d0, B1, d1, rfl, hch5, _, _, hF5⟩
       have HF5 := Lib.hid (HF3.out.trans hF5 (by simp))
       have HC5 := Lib.hid hch5
       clear hch5 hF5 HGR))
  clear g1 g1' g2 g2'
  obtain ⟨W6, hW6⟩ : ∃ W6, W6 = w5.alloc (.cells #[.slice B0 C.t.ks.length d0, .slice B1 C.t.wait.length d1, .slice A0 C.dr.length c0, .int .i64 C.deep, .int .i64 200] 85) := ⟨_, rfl⟩
  have hF56 : Fr [] w5 W6 := by rw [hW6]; exact (Fr.refl _ _).alloc _
  have HC6 := Lib.hid (HC5.out.fr hF56)
  have HF6 := Lib.hid (HF5.out.trans hF56 (by simp))
  rw [← hW6]
  clear hW6 hF56 HC5 HF5
  obtain ⟨AV, hAV⟩ : ∃ AV, availL C [] = AV := ⟨_, rfl⟩
  obtain ⟨T, hT⟩ : ∃ T, C.txs C.conf = T := ⟨_, rfl⟩
  have hTl : T.length ≤ 1200 := by rw [← hT]; exact txs_len HG.out _
  have hAVT : cleanL [] T = AV := by rw [← hAV, ← hT]; exact (avail_nil C).symm
  have hav := avail_calls (cp := 0) HC6.out HG.out (l := []) (nil_C W6) (by simp) (by simp)
  rw [hAV] at hav
  simp only [List.length_nil] at hav
  have HAV := Lib.hid hav
  have HT := Lib.hid hT
  have HAVT := Lib.hid hAVT
  have HTL := Lib.hid (show T.length ≤ 1000000 by omega)
  clear hav hT hAV hAVT hTl
  go_upto_region 8 with (first
    | (go_at_call 60; refine HAV.out.mono ?_; rintro e w7 ⟨A7, c7, rfl, hS7, hF7⟩
       have HS7 := Lib.hid hS7
       have HC7 := Lib.hid (HC6.out.fr hF7)
       have HF7 := Lib.hid (HF6.out.trans hF7 (by simp))
       have HCO := Lib.hid (ch_conf HC7.out HG.out)
       clear hS7 hF7 HAV)
    | (go_at_call 44; refine HCO.out.mono ?_; rintro e w8 ⟨rfl, hF8⟩
       have HS8 := Lib.hid (HS7.out.fr hF8)
       have HC8 := Lib.hid (HC7.out.fr hF8)
       have HF8 := Lib.hid (HF7.out.trans hF8 (by simp))
       have HTX := Lib.hid (ch_txs HC8.out HG.out C.conf)
       rw [HT.out] at HTX
       clear hF8 HCO)
    | (go_at_call 48; refine HTX.out.mono ?_; rintro e w9 ⟨v9, rfl, hO9, hF9⟩
       obtain ⟨A9, c9, rfl⟩ := hO9.form
       have HS9 := Lib.hid (HS8.out.fr hF9)
       have HC9 := Lib.hid (HC8.out.fr hF9)
       have HF9 := Lib.hid (HF8.out.trans hF9 (by simp))
       have HCL := Lib.hid (clean1_calls hO9.sl HTL.out)
       rw [HAVT.out] at HCL
       clear hO9 hF9 HTX)
    | (go_at_call 58; refine HCL.out.mono ?_; rintro e w10 ⟨A10, c10, rfl, hS10, hF10⟩
       have HSM := Lib.hid (same_sl (HS9.out.fr hF10) hS10)
       simp only [decide_true] at HSM
       have HC10 := Lib.hid (HC9.out.fr hF10)
       have HF10 := Lib.hid (HF9.out.trans hF10 (by simp))
       clear hS10 hF10 HCL)
    | (go_at_call 19; refine HSM.out.mono ?_; rintro e w11 ⟨rfl, hF11⟩
       have HC11 := Lib.hid (HC10.out.fr hF11)
       have HF11 := Lib.hid (HF10.out.trans hF11 (by simp))
       have hfi := final_calls (cp := 0) HC11.out HG.out (l := []) (nil_C w11) (by simp) (by simp)
       simp only [List.length_nil] at hfi
       have HFI := Lib.hid hfi
       clear hF11 HSM hfi)
    | (go_at_call 59; refine HFI.out.mono ?_; rintro e w12 ⟨v12, rfl, ⟨A12, c12, rfl, _, _⟩, hF12⟩
       rw [show (finalL C []).length = 0 from rfl]
       have HC12 := Lib.hid (HC11.out.fr hF12)
       have HF12 := Lib.hid (HF11.out.trans hF12 (by simp))
       clear hF12 HFI))
  clear HS7 HC7 HF7 HS8 HC8 HF8 HS9 HC9 HF9 HC10 HF10 HC11 HF11 HC6 HF6
  obtain ⟨W13, hW13⟩ : ∃ W13, W13 = w12.alloc (.cells #[] 3) := ⟨_, rfl⟩
  obtain ⟨g13, hg13⟩ : ∃ g13, g13 = w12.heap.size := ⟨_, rfl⟩
  have HFa : Hid (Fr [] w12 W13) := by show Fr _ _ _; rw [hW13]; exact (Fr.refl _ _).alloc _
  have HO13 : Hid (OwnI w12.heap.size W13 (.slice (some ⟨g13, 0, none⟩) ([] : List Int).length 0) []) := by show OwnI _ _ _ _; rw [hW13, hg13]; exact OwnI.empty w12
  go_upto_region 10 with (fail)
  rw [← hW13, ← hg13]
  clear hW13 hg13
  go_loopg [9, 52] ns (fun gn tw i wr => ∃ (m j : Nat) (T : List Int) (B : Option Addr) (d : Nat), m = gn ∧ tw = .slice B T.length d ∧ i = .int .i64 j ∧ m + j = ns ∧ Hid (T = twiceL (ds.take j)) ∧ Hid (OwnI w12.heap.size wr (.slice B T.length d) T) ∧ Hid (Fr [] w12 wr))
  case atStart => exact ⟨_, 0, [], some ⟨g13, 0, none⟩, 0, rfl, rfl, rfl, rfl, rfl, HO13, HFa⟩
  case round =>
    obtain ⟨m, j, T2, B, d, rfl, rfl, rfl, hj, HTE, HO, HFr⟩ := hrel
    clear HO13 HFa
    by_cases hlt : j < ns
    · obtain ⟨m', rfl⟩ : ∃ m', m = m' + 1 := ⟨m - 1, by omega⟩
      have hjl : j < ds.length := by rw [HNS.out]; exact hlt
      obtain ⟨ad, hA, hcell⟩ := int_at HDS.out j hjl
      subst hA
      have hcell := ((HF12.out.trans HFr.out (by simp)).cell (lt_cell hcell) (by simp)).trans hcell
      obtain ⟨x, hx⟩ : ∃ x, ds.getD j 0 = x := ⟨_, rfl⟩
      rw [hx] at hcell
      have HNXT := Lib.hid (twice_next hjl hx)
      have hT2 : T2.length = 2 * j := by rw [HTE.out, twice_len, List.length_take]; omega
      obtain ⟨nt, hnt⟩ : ∃ nt, T2.length = nt := ⟨_, rfl⟩
      have hntb : nt ≤ 100 := by omega
      have HNT := Lib.hid hnt
      rw [hnt] at HO
      rw [hnt]
      have hFa : Fr [] wr (wr.alloc (.cells #[.int .i64 x, .int .i64 x] 3)) := (Fr.refl _ _).alloc _
      have HOA : Hid ((wr.alloc (.cells #[.int .i64 x, .int .i64 x] 3)).ownsRow 0 3 1 (.slice B nt d) nt (T2.map (Value.int .i64))) := by
        have h := (HO.out.fr hFa (by simp)).1
        rw [hnt] at h; exact h
      have HNEWS : Hid (∀ (k : Nat) (u : Value), [Value.int .i64 x, .int .i64 x][k]? = some u → (wr.alloc (.cells #[.int .i64 x, .int .i64 x] 3)).cell? ((⟨wr.heap.size, 0, none⟩ : Addr).add k) = some u) := by
        intro k u hu
        rw [addr_add _ _ rfl, cell_of (heap_alloc_new wr _)]
        simpa using hu
      have HFA := Lib.hid hFa
      clear hx hjl hT2 hnt hFa
      go_wp2_with (at_builtin; refine wp_appendS rfl _ _ 39 3 rfl Try.underlying39 infoI rfl (by decide) HOA.out rfl ⟨wr.heap.size, 0, none⟩ 2 2 [.int .i64 x, .int .i64 x] rfl rfl HNEWS.out (by simp [Value.oneCell']) (by unfold maxLen; omega) (by omega) ?_
                   intro A3 c3 w3' h1 h2 h3
                   have HO3 : Hid (OwnI w12.heap.size w3' (.slice A3 (nt + 2) c3) (T2 ++ [x, x])) := by
                     refine ⟨by rw [List.length_append, HNT.out]; simpa using h1, fun k hk => ?_⟩
                     rcases h3 k hk with h4 | h4
                     · exact HO.out.2 k h4
                     · exact Nat.le_trans (HFr.out.trans HFA.out (by simp)).size h4
                   have HF3' : Hid (Fr [] w12 w3') := (HFr.out.trans HFA.out (by simp)).trans h2 (fun k hk => .inr (HO.out.2 k hk))
                   clear h1 h2 h3)
      go_roundg m'
      case rel =>
        refine ⟨m', j + 1, T2 ++ [x, x], A3, c3, rfl, by rw [List.length_append, HNT.out]; rfl, by go_num, by omega, ?_, ?_, HF3'⟩
        · show _ = _
          rw [HNXT.out, HTE.out]
        · show OwnI _ _ _ _
          rw [List.length_append, HNT.out]; exact HO3.out
      case measure => omega
    · obtain rfl : j = ns := by omega
      have hT2 := HTE.out
      rw [← HNS.out, List.take_length] at hT2
      subst hT2
      have hF := HF12.out.trans HFr.out (by simp)
      have hsl := HO.out.sl.C
      have htl : (twiceL ds).length ≤ 40 := by rw [twice_len, HNS.out]; omega
      obtain ⟨FI, hFI⟩ : ∃ FI, finalL C ds = FI := ⟨_, rfl⟩
      obtain ⟨AD, hAD⟩ : ∃ AD, availL C ds = AD := ⟨_, rfl⟩
      have HF1 : Hid (∀ W, Fr [] wr W → Calls Try.prog 59 #[.pointer (some ⟨c, 0, none⟩), .slice B (twiceL ds).length d] W fun e w' => ∃ v, e = .returned v ∧ SlI w' v FI ∧ Fr [] W w') := fun W hW => by
        have h := final_calls (cp := d) ((HC12.out.fr HFr.out).fr hW) HG.out (Kd.C_below hsl.2.2 hW.below) hsl.2.1 htl
        rw [final_twice, hFI] at h; exact h
      have HF2' : Hid (∀ W, Fr [] wr W → Calls Try.prog 59 #[.pointer (some ⟨c, 0, none⟩), .slice A2 j c2] W fun e w' => ∃ v, e = .returned v ∧ SlI w' v FI ∧ Fr [] W w') := fun W hW => by
        have h := final_calls (cp := c2) ((HC12.out.fr HFr.out).fr hW) HG.out (Kd.C_below HDS.out (hF.trans hW (by simp)).below) HDSC.out (by rw [HNS.out]; omega)
        rw [hFI, HNS.out] at h; exact h
      have HA1 : Hid (∀ W, Fr [] wr W → Calls Try.prog 60 #[.pointer (some ⟨c, 0, none⟩), .slice B (twiceL ds).length d] W fun e w' => ∃ A' c', e = .returned (.slice A' AD.length c') ∧ SlI w' (.slice A' AD.length c') AD ∧ Fr [] W w') := fun W hW => by
        have h := avail_calls (cp := d) ((HC12.out.fr HFr.out).fr hW) HG.out (Kd.C_below hsl.2.2 hW.below) hsl.2.1 htl
        rw [avail_twice, hAD] at h; exact h
      have HA2 : Hid (∀ W, Fr [] wr W → Calls Try.prog 60 #[.pointer (some ⟨c, 0, none⟩), .slice A2 j c2] W fun e w' => ∃ A' c', e = .returned (.slice A' AD.length c') ∧ SlI w' (.slice A' AD.length c') AD ∧ Fr [] W w') := fun W hW => by
        have h := avail_calls (cp := c2) ((HC12.out.fr HFr.out).fr hW) HG.out (Kd.C_below HDS.out (hF.trans hW (by simp)).below) HDSC.out (by rw [HNS.out]; omega)
        rw [hAD, HNS.out] at h; exact h
      obtain ⟨nt, hnt⟩ : ∃ nt, (twiceL ds).length = nt := ⟨_, rfl⟩
      rw [hnt] at HF1 HA1
      rw [hnt]
      have HFW := Lib.hid hF
      clear hF hsl htl hFI hAD hnt HO HTE
      have tok1 := Lib.hid True.intro
      go_wp2_with (first
        | (go_at_call 59; have _t := tok1; refine (HF1.out _ (Fr.refl _ _)).mono ?_; rintro e x1 ⟨v1, rfl, hS1, hG1⟩
           obtain ⟨A1, c1, rfl, _, _⟩ := id hS1
           have HS1 := Lib.hid hS1
           have HG1 := Lib.hid hG1
           clear hS1 hG1 HF1 tok1)
        | (go_at_call 59; refine (HF2'.out _ HG1.out).mono ?_; rintro e x2 ⟨v2, rfl, hS2, hG2⟩
           obtain ⟨A22, c22, rfl, _, _⟩ := id hS2
           have HM1 := Lib.hid (same_sl (HS1.out.fr hG2) hS2)
           simp only [decide_true] at HM1
           have HG2 := Lib.hid (HG1.out.trans hG2 (by simp))
           have tok2 := Lib.hid True.intro
           clear hS2 hG2 HF2')
        | (go_at_call 19; have _t := tok2; refine HM1.out.mono ?_; rintro e x3 ⟨rfl, hG3⟩
           have HG3 := Lib.hid (HG2.out.trans hG3 (by simp))
           have tok3 := Lib.hid True.intro
           clear hG3 tok2)
        | (go_at_call 60; have _t := tok3; refine (HA1.out _ HG3.out).mono ?_; rintro e x4 ⟨A4, c4, rfl, hS4, hG4⟩
           have HS4 := Lib.hid hS4
           have HG4 := Lib.hid (HG3.out.trans hG4 (by simp))
           clear hS4 hG4 HA1 tok3)
        | (go_at_call 60; refine (HA2.out _ HG4.out).mono ?_; rintro e x5 ⟨A5, c5, rfl, hS5, hG5⟩
           have HM2 := Lib.hid (same_sl (HS4.out.fr hG5) hS5)
           simp only [decide_true] at HM2
           have HG5 := Lib.hid (HG4.out.trans hG5 (by simp))
           clear hS5 hG5 HA2)
        | (go_at_call 19; refine HM2.out.mono ?_; rintro e x6 ⟨rfl, hG6⟩
           have HG6 := Lib.hid (HG5.out.trans hG6 (by simp))
           clear hG6))
      exact hR.out _ _ ⟨rfl, HFW.out.trans HG6.out (by simp)⟩
end Go.Np.Try
