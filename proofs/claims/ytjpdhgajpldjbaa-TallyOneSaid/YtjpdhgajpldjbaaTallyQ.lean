/- counted: a tally of votes, and the document's. -/
import Derived.Test.YtjpdhgajpldjbaaTallyN
import Derived.RegionTactic
set_option linter.unusedVariables false
set_option linter.unusedSimpArgs false
namespace Go.Np.Try
open Go.RowKit Go.Proofs Go.Proofs.Ytjpdhgajpldjbaa.PX Go.Proofs.YtjpdhgajpldjbaaW.PrintWords
theorem ints_cells {w : World} {ad : Addr} {l : List Int} (h : (Kd.int .i64).C w (some ad) l.length l) : ∀ j u, (l.map (Value.int .i64))[j]? = some u → w.cell? (ad.add j) = some u := by
  intro j u hu
  rw [List.getElem?_map] at hu
  cases hq : l[j]? with
  | none => rw [hq] at hu; cases hu
  | some q =>
    rw [hq] at hu
    obtain rfl : Value.int .i64 q = u := by simpa using hu
    have hlt := (List.getElem?_eq_some_iff.1 hq).1
    obtain ⟨ad', e, hc⟩ := at_int_nat h j hlt
    injection e with e
    subst e
    rw [hc, List.getD_eq_getElem?_getD, hq]; rfl
theorem foldR_succ (n : Nat) (l : List S41) (k : Nat) (hk : k < l.length) : foldR n (l.take (k + 1)) = stepR n (foldR n (l.take k)) (l.getD k z41) := by
  unfold foldR
  rw [List.take_succ_eq_append_getElem hk, List.foldl_append, List.getD_eq_getElem?_getD, List.getElem?_eq_getElem hk]; rfl
theorem stepR_len (n : Nat) (m : List S41) (q : S41) : (stepR n m q).length ≤ m.length + 1 := by unfold stepR; split <;> simp
theorem foldR_len (n : Nat) (l : List S41) : (foldR n l).length ≤ l.length := by
  have : ∀ (l m : List S41), (l.foldl (stepR n) m).length ≤ m.length + l.length := by
    intro l
    induction l with
    | nil => intro m; simp
    | cons q l ih => intro m; have h1 := ih (stepR n m q); have h2 := stepR_len n m q; simp only [List.foldl_cons, List.length_cons] at h1 ⊢; omega
  simpa [foldR] using this l []
theorem results_tct {P : Program} {fn : Func} {p u v : Tmp} {ty : TypeId} (h : fn.results = #[.tmp u, .cell p ty, .tmp v]) (tmps : Array Value) (w : World) (g : Nat) (t : TypeId) (cs : Array Value) (fr : Nat × Nat) (d : TypeDesc)
    (hp : tmps.getD p undef = .pointer (some ⟨g, 0, none⟩)) (hg : w.heap[g]? = some (.cells cs t fr))
    (hu : P.underlying ty = some d) (hd : (match d with | .struct _ | .array _ _ => true | _ => false) = true) (hi : (P.info? ty).map (·.size) = some cs.size) :
    (results fn tmps).run P w = .ok (.tuple #[tmps.getD u undef, .agg cs, tmps.getD v undef]) w := by
  have hp' : tmps[p]?.getD undef = .pointer (some ⟨g, 0, none⟩) := by simpa using hp
  simp [results, h, hp', asAddr, run_loadVar_row w g t ty cs fr d hg hu hd hi]
theorem cellS {S : List Nat} {w w' : World} (hF : Fr S w w') {a : Addr} {v : Value} (h : w.cell? a = some v) (hn : a.block ∉ S) : w'.cell? a = some v := (hF.cell (lt_cell h) hn).trans h
set_option maxHeartbeats 8000000 in
set_option maxRecDepth 100000 in
theorem counted_calls {w : World} {A0 : Option Addr} {c0 : Nat} {st : List Int} {Av : Option Addr} {cv : Nat} {l : List S41} (hst : okS st) (h0 : (Kd.int .i64).C w A0 st.length st) (hc0 : st.length ≤ c0) (hv : k41.C w Av l.length l)
    (hwf : ∀ q ∈ l, wf64 q.f0 ∧ wf64 q.f1 ∧ wf64 q.f2) (hlen : l.length ≤ 80) :
    Calls Try.prog 29 #[.slice A0 st.length c0, .slice Av l.length cv] w fun e w' => ∃ p b B d, e = .returned (.tuple #[.pointer (some ⟨p, 0, none⟩), .agg #[.slice A0 st.length c0, .slice B (foldR st.length l).length d], .bool true]) ∧
      RefT w' A0 c0 st B d (foldR st.length l) ∧ Tz w w' p b st (foldR st.length l) ∧ Fr [] w w' := by
  have hne : st ≠ [] := by intro h; have := hst.1; rw [h] at this; simp at this
  obtain ⟨ad0, rfl⟩ := some_of_C h0 hne
  have hst7 := hst.2.1
  have hu44 := Try.underlying44
  have hu41 := Try.underlying41
  have HC0 := Lib.hid (fun w' (hF : Fr [] w w') => ints_cells (Kd.C_below h0 hF.below))
  have H0 := Lib.hid h0
  have HV := Lib.hid hv
  have HWF := Lib.hid hwf
  have HST := Lib.hid hst
  have HONE : Hid (∀ u ∈ st.map (Value.int .i64), u.oneCell' = true) := fun u hu => by obtain ⟨q, _, rfl⟩ := List.mem_map.1 hu; rfl
  have hb1 : 0 + st.length ≤ maxLen := by unfold maxLen; omega
  have hb2 : (0 + st.length) * 8 ≤ 140737488355328 := by omega
  clear h0 hv hwf hst hne
  obtain ⟨W1, hW1⟩ : ∃ W1, W1 = w.alloc (.cells #[.slice none 0 0, .slice none 0 0] 44) := ⟨_, rfl⟩
  have hFW1 : Fr [] w W1 := by rw [hW1]; exact (Fr.refl _ _).alloc _
  have hsW1 : W1.heap.size = w.heap.size + 1 := by rw [hW1]; simp
  have hbW1 : W1.heap[w.heap.size]? = some (.cells #[.slice none 0 0, .slice none 0 0] 44 (0, 0)) := by rw [hW1]; exact heap_alloc_new _ _
  have HW1 := Lib.hid hW1
  have HFW1 := Lib.hid hFW1
  have HSW1 := Lib.hid hsW1
  have HBW1 := Lib.hid hbW1
  clear hW1 hFW1 hsW1 hbW1
  refine calls_k fun R hR => ?_
  go_enter Try.func29, Try.ntmps29
  go_upto_region 1 with (fail)
  rw [← HW1.out]
  go_upto_region 2 with (first
    | (at_builtin; refine wp_appendS rfl _ _ 24 3 rfl Try.underlying24 infoZ rfl (by decide) (World.ownsRow_made _ #[] 0 (Nat.zero_le _) (by unfold maxLen; omega) rfl) rfl ad0 st.length c0 (st.map (Value.int .i64)) rfl (by simp) (HC0.out _ (HFW1.out.alloc _)) HONE.out hb1 hb2 ?_; intro A5 c5 W3 hr5 hF5 hN5; simp only [Nat.zero_add, List.nil_append] at hr5 hN5 ⊢; obtain ⟨A4, c4, he4, h6, h7⟩ := Kd.R_reads (Kd.R_of_own (ok := fun _ => True) hr5 (fun _ _ => trivial)); injection he4 with e1 e2 e3; subst e1 e3; have HNEW := Lib.hid (zNew (c0 := c5) h7 HST.out); have HF5 := Lib.hid hF5; clear hr5 hF5 hN5 h6 h7)
    | (go_at_call 22; refine HNEW.out.mono ?_; rintro e w4 ⟨p, b, rfl, hz⟩))
  have hsW1 := HSW1.out
  have hFw3 : Fr [] w W3 := (HFW1.out.alloc _).trans HF5.out (fun k hk => .inr (by simp [Value.ownBlock] at hk; omega))
  have hs3 : w.heap.size + 1 + 1 ≤ W3.heap.size := by have := HF5.out.size; simp at this; omega
  have hFw4 : Fr [] w w4 := hFw3.trans hz.fr (by simp)
  have hs4 : W3.heap.size ≤ w4.heap.size := hz.fr.size
  have hb5 : w4.heap[w.heap.size]? = some (.cells #[.slice none 0 0, .slice none 0 0] 44 (0, 0)) := by
    have h1 : (W1.alloc (.cells #[] 3)).heap[w.heap.size]? = some (.cells #[.slice none 0 0, .slice none 0 0] 44 (0, 0)) := (((Fr.refl [] _).alloc _).block _ (by omega) (by simp)).trans HBW1.out
    have h2 := (HF5.out.block w.heap.size (by simp; omega) (by simp [Value.ownBlock]; omega)).trans h1
    exact (hz.fr.block _ (by omega) (by simp)).trans h2
  obtain ⟨W5, hW5⟩ : ∃ W5, W5 = w4.alloc (.cells #[.slice (some ad0) st.length c0, .slice none 0 0] 44) := ⟨_, rfl⟩
  have hF45 : Fr [] w4 W5 := by rw [hW5]; exact (Fr.refl _ _).alloc _
  have hb8 : W5.heap[w4.heap.size]? = some (.cells #[.slice (some ad0) st.length c0, .slice none 0 0] 44 (0, 0)) := by rw [hW5]; exact heap_alloc_new _ _
  have hz5 := hz.step hF45
  have hFw5 : Fr [] w W5 := hFw4.trans hF45 (by simp)
  have hb5' := (hF45.block _ (by omega) (by simp)).trans hb5
  have hsz5 : W5.heap.size = w4.heap.size + 1 := by rw [hW5]; simp
  have hblt : b < w4.heap.size := by obtain ⟨m, A, c, h1, h2, h3⟩ := hz; obtain ⟨es, cl, g, _⟩ := h2.map; exact (Array.getElem?_eq_some_iff.1 g).1
  have hR5 : RefT W5 (some ad0) c0 st none 0 [] := ⟨Kd.C_below H0.out hFw5.below, hc0, ⟨rfl, Nat.zero_le _, fun h => absurd h (Nat.lt_irrefl 0)⟩, Nat.le_refl _⟩
  obtain ⟨b8, hb8e⟩ : ∃ b8, b8 = w4.heap.size := ⟨_, rfl⟩
  rw [← hb8e] at hb8 hblt hsz5
  have HB8 := Lib.hid hb8
  have HB5 := Lib.hid hb5'
  have HZ5 := Lib.hid hz5
  have HF5' := Lib.hid hFw5
  have HR5 := Lib.hid hR5
  have hb0 : W3.heap.size ≤ b := hz.b0
  have hw8 : w.heap.size + 1 + 1 ≤ b8 := by omega
  have HLO : Hid (W3.heap.size ≤ b8) := by show _ ≤ _; omega
  have HE8 := Lib.hid hb8e
  have HW5 := Lib.hid hW5
  have HFW3 := Lib.hid hFw3
  clear hb8 hb5' hz5 hFw5 hR5 hb5 hz hF45 hW5 hFw4 hs4 hFw3 hb8e
  clear hsW1
  go_upto_region 5 with (fail)
  rw [← HW5.out, ← HE8.out]
  have hlmx : l.length ≤ 9223372036854775807 := by omega
  have hb8b : b8 ≠ b := by omega
  go_loopw [23, 9] (fun i s wr => ∃ (k : Nat) (B : Option Addr) (d : Nat), k ≤ l.length ∧ i = .int .i64 k ∧ s = .bool true ∧ Hid (Tz W3 wr p b st (foldR st.length (l.take k))) ∧ Hid (RefT wr (some ad0) c0 st B d (foldR st.length (l.take k))) ∧ Hid (wr.heap[b8]? = some (.cells #[.slice (some ad0) st.length c0, .slice B (foldR st.length (l.take k)).length d] 44 (0, 0))) ∧ Hid (wr.heap[w.heap.size]? = some (.cells #[.slice none 0 0, .slice none 0 0] 44 (0, 0))) ∧ Hid (Fr [] w wr))
    (fun i _ _ => l.length - (RowKit.intOf i).toNat)
  case atStart => exact ⟨0, none, 0, Nat.zero_le _, rfl, rfl, HZ5, HR5, HB8, HB5, HF5'⟩
  case round =>
    obtain ⟨k, B, d, hk, rfl, rfl, HZ, HR, HBB, HBA, HF⟩ := hrel
    by_cases hlt : k < l.length
    · obtain ⟨ad, hav, hq0, hq1, hq2, hq3⟩ := at_T41 (Kd.C_below HV.out HF.out.below) (k : Int) (by omega) (by omega)
      subst hav
      have hqm : l.getD k z41 ∈ l := by rw [List.getD_eq_getElem?_getD, List.getElem?_eq_getElem hlt]; exact List.getElem_mem _
      have hqe : rd_T41 l (k : Int) = l.getD k z41 := by simp [rd_T41]
      rw [hqe] at hq0 hq1 hq2 hq3
      have hwq := HWF.out _ hqm
      have hfs := foldR_succ st.length l k hlt
      obtain ⟨mS, hmS⟩ : ∃ mS, mS = foldR st.length (l.take k) := ⟨_, rfl⟩
      have hml : mS.length ≤ 80 := by rw [hmS]; have := foldR_len st.length (l.take k); rw [List.length_take] at this; omega
      rw [← hmS] at HZ HR HBB hfs
      generalize l.getD k z41 = qq at hq0 hq1 hq2 hq3 hwq hfs
      obtain ⟨K, V, F, x⟩ := qq
      simp only [Int.toNat_natCast] at hq0 hq1 hq2 hq3 hwq
      obtain ⟨W6, hW6⟩ : ∃ W6, W6 = wr.alloc (.cells #[.int .i64 K, .int .i64 V, .int .i64 F, .int .i64 x] 41) := ⟨_, rfl⟩
      obtain ⟨b11, hb11⟩ : ∃ b11, b11 = wr.heap.size := ⟨_, rfl⟩
      have hF6 : Fr [] wr W6 := by rw [hW6]; exact (Fr.refl _ _).alloc _
      have hblk : W6.heap[b11]? = some (.cells #[.int .i64 K, .int .i64 V, .int .i64 F, .int .i64 x] 41 (0, 0)) := by rw [hW6, hb11]; exact heap_alloc_new _ _
      have hb11b : b11 ≠ b := by
        have : b < wr.heap.size := by obtain ⟨m, A, c, h1, h2, h3⟩ := HZ.out; obtain ⟨es, cl, g, _⟩ := h2.map; exact (Array.getElem?_eq_some_iff.1 g).1
        omega
      have hc0' : W6.cell? ⟨b11, 0, none⟩ = some (.int .i64 K) := cell_of hblk 0
      have hc1' : W6.cell? ⟨b11, 1, none⟩ = some (.int .i64 V) := cell_of hblk 1
      have hc2' : W6.cell? ⟨b11, 2, none⟩ = some (.int .i64 F) := cell_of hblk 2
      have hc3' : W6.cell? ⟨b11, 3, none⟩ = some (.int .i64 x) := cell_of hblk 3
      have HADD := Lib.hid (zAdd (HZ.out.step hF6) (by omega) K V F x hwq)
      obtain ⟨ab, hab⟩ : ∃ ab, ab = addR st.length mS ⟨K, V, F, x⟩ := ⟨_, rfl⟩
      have HRA : Hid (∀ W, RefT W (some ad0) c0 st B d mS → Calls Try.prog 55 #[.agg #[.slice (some ad0) st.length c0, .slice B mS.length d], .agg #[.int .i64 K, .int .i64 V, .int .i64 F, .int .i64 x]] W fun e w' => ∃ B' d', e = .returned (.tuple #[.agg #[.slice (some ad0) st.length c0, .slice B' (stepR st.length mS ⟨K, V, F, x⟩).length d'], .bool ab]) ∧ RefT w' (some ad0) c0 st B' d' (stepR st.length mS ⟨K, V, F, x⟩) ∧ Fr [] W w') := by
        intro W hR'
        rw [hab]
        exact radd_calls hR' (by omega) K V F x
      rw [← hab] at HADD
      obtain ⟨mT, hmT⟩ : ∃ mT, mT = stepR st.length mS ⟨K, V, F, x⟩ := ⟨_, rfl⟩
      rw [← hmT] at HADD HRA hfs
      have HFS := Lib.hid hfs
      have HF6 := Lib.hid hF6
      have HBL := Lib.hid hblk
      have HB86 : Hid (W6.heap[b8]? = some (.cells #[.slice (some ad0) st.length c0, .slice B mS.length d] 44 (0, 0))) := (HF6.out.block _ (Array.getElem?_eq_some_iff.1 HBB.out).1 (by simp)).trans HBB.out
      have HBA6 : Hid (W6.heap[w.heap.size]? = some (.cells #[.slice none 0 0, .slice none 0 0] 44 (0, 0))) := (HF6.out.block _ (Array.getElem?_eq_some_iff.1 HBA.out).1 (by simp)).trans HBA.out
      have HNI : Hid (NoInt W6 b) := (HZ.out.step HF6.out).noInt
      have hwb : w.heap.size ≠ b := by omega
      clear hmS hmT hab hfs hF6 hblk hqm hqe hwq
      go_upto_region 7 with (fail)
      rw [← hW6, ← hb11]
      clear hW6 hq0 hq1 hq2 hq3 hb11
      go_wp2_with (first
        | (go_at_call 38; refine HADD.out.mono ?_; rintro e w7 ⟨rfl, hz7, hF7⟩; have hc70 := cellS hF7 hc0' (by simpa using hb11b); have hc71 := cellS hF7 hc1' (by simpa using hb11b); have hc72 := cellS hF7 hc2' (by simpa using hb11b); have hc73 := cellS hF7 hc3' (by simpa using hb11b); have hb87 := (hF7.block b8 (Array.getElem?_eq_some_iff.1 HB86.out).1 (by simpa using hb8b)).trans HB86.out; have hba7 := (hF7.block w.heap.size (Array.getElem?_eq_some_iff.1 HBA6.out).1 (by simpa using hwb)).trans HBA6.out; have n80 := cell_of hb87 0; have n81 := cell_of hb87 1; simp only [List.getElem?_toArray, List.getElem?_cons_succ, List.getElem?_cons_zero] at n80 n81; have HR7 := Lib.hid ((HR.out.fr HF6.out).keep hF7 (fun s hs => by simp at hs; subst hs; exact HNI.out)); have HZ7 := Lib.hid hz7; have HB87 := Lib.hid hb87; have HBA7 := Lib.hid hba7; clear hz7 hF7 hb87 hba7 hc0' hc1' hc2' hc3')
        | (go_at_call 55; refine (HRA.out _ HR7.out).mono ?_; rintro e w8 ⟨B2, d2, rfl, hR8, hF8⟩; have hb88 := (hF8.block b8 (Array.getElem?_eq_some_iff.1 HB87.out).1 (by simp)).trans HB87.out; have hba8 := (hF8.block w.heap.size (Array.getElem?_eq_some_iff.1 HBA7.out).1 (by simp)).trans HBA7.out; have hal : ∀ o, (w8.alloc o).heap[b8]? = some (.cells #[.slice (some ad0) st.length c0, .slice B mS.length d] 44 (0, 0)) := fun o => (((Fr.refl [] w8).alloc o).block b8 (Array.getElem?_eq_some_iff.1 hb88).1 (by simp)).trans hb88; have m80 := fun o => cell_of (hal o) 0; have m81 := fun o => cell_of (hal o) 1; have z80 := fun o => froz_of (hal o) 0; have z81 := fun o => froz_of (hal o) 1; simp only [List.getElem?_toArray, List.getElem?_cons_succ, List.getElem?_cons_zero] at m80 m81; have HAL := Lib.hid hal; clear hal; have HR8 := Lib.hid hR8; have HF8 := Lib.hid hF8; have HB88 := Lib.hid hb88; have HBA8 := Lib.hid hba8; clear hR8 hF8 hb88 hba8 n80 n81 hc70 hc71 hc72 hc73))
      go_roundw
      case rel =>
        have hX := HAL.out (.cells #[.slice (some ad0) st.length c0, .slice B2 mT.length d2] 44)
        have hF89 : Fr [] w8 (w8.alloc (.cells #[.slice (some ad0) st.length c0, .slice B2 mT.length d2] 44)) := (Fr.refl _ _).alloc _
        have hS : ∀ u v, Fr [b8] (w8.alloc (.cells #[.slice (some ad0) st.length c0, .slice B2 mT.length d2] 44)) (((w8.alloc (.cells #[.slice (some ad0) st.length c0, .slice B2 mT.length d2] 44)).setCell ⟨b8, 0, none⟩ u).setCell ⟨b8, 1, none⟩ v) := fun u v => ((Fr.refl _ _).setCell (.inl (by simp)) _).setCell (.inl (by simp)) _
        have hZ9 := (HZ7.out.step HF8.out).step hF89
        have hW3 : ∀ u v, Fr [] W3 (((w8.alloc (.cells #[.slice (some ad0) st.length c0, .slice B2 mT.length d2] 44)).setCell ⟨b8, 0, none⟩ u).setCell ⟨b8, 1, none⟩ v) := fun u v => (hZ9.fr).trans (hS u v) (fun y hy => .inr (by simp at hy; have := HLO.out; omega))
        have hww : ∀ u v, Fr [] w (((w8.alloc (.cells #[.slice (some ad0) st.length c0, .slice B2 mT.length d2] 44)).setCell ⟨b8, 0, none⟩ u).setCell ⟨b8, 1, none⟩ v) := fun u v => HFW3.out.trans (hW3 u v) (by simp)
        refine ⟨k + 1, B2, d2, by omega, by go_num, rfl, ?_, ?_, ?_, ?_, hww _ _⟩
        · rw [HFS.out]
          refine hZ9.keep (hS _ _) (fun s hs => ?_) (hW3 _ _)
          simp at hs; subst hs
          exact ⟨_, _, _, _, _, _, hX⟩
        · rw [HFS.out]
          refine (HR8.out.fr hF89).keep (hS _ _) (fun s hs => ?_)
          simp at hs; subst hs
          exact noInt_two hX
        · rw [HFS.out]; exact two_put hX _ _
        · have h1 := (hF89.block w.heap.size (Array.getElem?_eq_some_iff.1 HBA8.out).1 (by simp)).trans HBA8.out
          exact ((hS _ _).block _ (Array.getElem?_eq_some_iff.1 h1).1 (by simp; omega)).trans h1
      case measure => simp [RowKit.intOf]; omega
    · obtain rfl : k = l.length := by omega
      rw [List.take_length] at HZ HR HBB
      obtain ⟨mS, hmS⟩ : ∃ mS, mS = foldR st.length l := ⟨_, rfl⟩
      rw [← hmS] at HZ HR HBB hR
      clear hmS
      have m80 := cell_of HBB.out 0
      have m81 := cell_of HBB.out 1
      have n50 := cell_of HBA.out 0
      have n51 := cell_of HBA.out 1
      have z50 := froz_of HBA.out 0
      have z51 := froz_of HBA.out 1
      simp only [List.getElem?_toArray, List.getElem?_cons_succ, List.getElem?_cons_zero] at m80 m81 n50 n51
      go_upto_region 12 with (fail)
      have hS : Hid (∀ u v, Fr [w.heap.size] wr ((wr.setCell ⟨w.heap.size, 0, none⟩ u).setCell ⟨w.heap.size, 1, none⟩ v)) := fun u v => ((Fr.refl _ _).setCell (.inl (by simp)) _).setCell (.inl (by simp)) _
      have hW : Hid (∀ u v, Fr [] w ((wr.setCell ⟨w.heap.size, 0, none⟩ u).setCell ⟨w.heap.size, 1, none⟩ v)) := fun u v => HF.out.trans (hS.out u v) (fun y hy => .inr (by simp at hy; omega))
      go_region
      all_goals go_wp2
      all_goals refine bodyPost_ret (results_tct rfl _ _ w.heap.size 44 #[.slice (some ad0) st.length c0, .slice B mS.length d] (0, 0) _ rfl (two_put HBA.out _ _) Try.underlying44 rfl (by kernel_rfl)) rfl ?_
      all_goals refine hR.out _ _ ⟨p, b, B, d, rfl, ?_⟩
      all_goals refine ⟨(HR.out.keep (hS.out _ _) (fun s hs => ?_)).fr (Fr.refl _ _).drew, ((HZ.out.base HFW3.out).keep (hS.out _ _) (fun s hs => ?_) (hW.out _ _)).step (Fr.refl _ _).drew, (hW.out _ _).drew⟩
      · simp at hs; subst hs; exact noInt_two HBA.out
      · simp at hs; subst hs; exact ⟨_, _, _, _, _, _, HBA.out⟩
end Go.Np.Try
