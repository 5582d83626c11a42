/- A text that the row of ChainTxs needs. (Pruned by tools/prune.py.) -/
import Derived.Test.YtlllhpnpgcphcaaQChainTxsChRf
set_option linter.unusedVariables false
set_option linter.unusedSimpArgs false
namespace Go.Np.Try
open Go.RowKit Go.Proofs Go.ChangeShapes Go.WideShapes Go.Proofs.Ytlllhpnpgcphcaa.PX Go.Proofs.YtlllhpnpgcphcaaW.PrintWords
attribute [local go_sem high] eqA52
def TxsR (W : World) (v : Value) (l : List S52) : Prop := ∃ A c, v = .slice A l.length c ∧ l.length ≤ c ∧ k52.C W A l.length l
set_option maxRecDepth 100000 in
theorem open_txsR {H : Type} {enc : TypeId × Value → H} {W : World} {base b0 : Nat} {sp : Nat → Bool} {held : Bool} {v : Value} {d : DataW H} {ps : List MemPlace}
    (hv : Value.okWide Try.prog W .any b0 30 v) (h : DataW.Trod enc Try.prog W base sp held 30 v d ps) : ∃ l : List S52, TxsR W v l := by
  obtain ⟨a, n, c, rfl⟩ := okWide_slice Try.underlying30 hv
  obtain ⟨fuel, hf⟩ := h
  obtain ⟨A, c', l, e, h1, h2, _⟩ := open_txs (v := .slice a n c) hf
  exact ⟨l, A, c', e, h1, h2⟩
section
variable {ops : Array Oper} {rest : List Oper} {o : Oper} {a : Act} {Q : Exit → Act → World → Prop}
theorem wp_copyT {w : World} (hgd : o.guard = none) (s x : Operand)
    (ho : o.op = .call { callee := .builtin .append, args := #[s, x], argTypes := #[30, 30] })
    {l : List S52} {A : Option Addr} {c : Nat} (hs : a.eval s = .slice (some ⟨w.heap.size, 0, none⟩) 0 0) (hx : a.eval x = .slice A l.length c) (HR : k52.C w A l.length l) (hl : l.length ≤ 1000)
    (h : ∀ A1 c1 w1, l.length ≤ c1 → k52.C w1 A1 l.length l → Fr [] w w1 → wpList Try.prog ops Q rest (a.put o.dst (.slice A1 l.length c1)) w1) :
    wpList Try.prog ops Q (o :: rest) a (w.alloc (.cells #[] 52)) := by
  have hA : Fr [] w (w.alloc (.cells #[] 52)) := (Fr.refl _ _).alloc _
  have hs1 : (w.alloc (.cells #[] 52)).heap.size = w.heap.size + 1 := by simp
  have HN : Kd.N k52 52 (w.alloc (.cells #[] 52)) 0 (fun _ => True) (.slice (some ⟨w.heap.size, 0, none⟩) 0 0) [] :=
    Kd.R_N ⟨fun k hk => trivial, [], ⟨rfl, .inr ⟨w.heap.size, 0, #[], rfl, Nat.zero_le _, heap_alloc_new _ _, Nat.le_refl _, Nat.zero_le _, by simp, by simp⟩⟩, Reps.none _ _⟩
  refine Kd.N_append_rows k52 (w0 := w.alloc (.cells #[] 52)) 0 hgd s x 30 52 _ 16 ho Try.underlying30 info52 rfl (by decide) (by omega) _ [] l A l.length c (fun _ => True) (fun k => k < w.heap.size) hs hx HN (Kd.F_below (txs_F HR) hA.below)
    (fun k hk => ⟨trivial, fun he => by have h2 : k = w.heap.size := (by simpa [Value.ownBlock] using he); omega⟩) (fun _ _ => trivial) (Below.refl _ _) (Nat.zero_le _) (by simp; omega) ?_
  intro v1 w1 h1 _ h3 h4
  rw [List.nil_append] at h1
  obtain ⟨A1, c1, rfl⟩ := Kd.N_slice h1
  obtain ⟨_, h5, h6⟩ := Kd.N_reads' h1
  exact h A1 c1 w1 h5 h6 (hA.trans (Fr.grown (S := [w.heap.size]) h3 (fun k hk => .inl (by simp [Value.ownBlock] at hk; simp [hk]))) (fun k hk => .inr (by simp at hk; omega)))
end
theorem pick_ext (old : List Int) : ∀ (l acc : List S52), ∃ r, l.foldl (pickT old) acc = acc ++ r
  | [], acc => ⟨[], by simp⟩
  | t :: l, acc => by
    obtain ⟨r, hr⟩ := pick_ext old l (pickT old acc t)
    rw [List.foldl_cons, hr]
    unfold pickT
    split
    · exact ⟨[t] ++ r, by simp⟩
    · exact ⟨r, rfl⟩
theorem pick_yes {old : List Int} {acc : List S52} {t : S52} (h : acc.length < 3) (h2 : t.f0 ∉ old) : pickT old acc t = acc ++ [t] := by
  unfold pickT; rw [if_pos ⟨h, h2⟩]
theorem pick_in {old : List Int} {t : S52} (acc : List S52) (h2 : t.f0 ∈ old) : pickT old acc t = acc := by
  unfold pickT; rw [if_neg (fun h => h.2 h2)]
theorem pick_full {old : List Int} {acc : List S52} {t : S52} (h : ¬ acc.length < 3) : pickT old acc t = acc := by
  unfold pickT; rw [if_neg (fun h2 => h h2.1)]
theorem mem_take_next {old : List Int} {x : Int} {i : Nat} {b : Bool} (hi : i < old.length) (hb : decide (x ∈ old.take i) = b) : decide (x ∈ old.take (i + 1)) = (b || (old.getD i 0 == x)) := by
  rw [List.take_succ_eq_append_getElem hi, ← hb, Bool.eq_iff_iff]
  have e : old.getD i 0 = old[i] := by simp [List.getD_eq_getElem?_getD, hi]
  rw [e]
  simp only [decide_eq_true_eq, Bool.or_eq_true, beq_iff_eq, List.mem_append, List.mem_singleton]
  exact or_congr_right eq_comm
theorem pick_next {old : List Int} {txs : List S52} {j : Nat} {t : S52} (ht : txs[j]? = some t) :
    (txs.take (j + 1)).foldl (pickT old) [] = pickT old ((txs.take j).foldl (pickT old) []) t ∧
    (((txs.take j).foldl (pickT old) []).length < 3 → t.f0 ∉ old → (txs.foldl (pickT old) [])[((txs.take j).foldl (pickT old) []).length]? = some t) := by
  obtain ⟨hj, rfl⟩ := List.getElem?_eq_some_iff.1 ht
  have h1 : (txs.take (j + 1)).foldl (pickT old) [] = pickT old ((txs.take j).foldl (pickT old) []) txs[j] := by
    rw [List.take_succ_eq_append_getElem hj, List.foldl_append]; rfl
  refine ⟨h1, fun h2 h3 => ?_⟩
  have h4 : txs.foldl (pickT old) [] = (txs.drop (j + 1)).foldl (pickT old) ((txs.take (j + 1)).foldl (pickT old) []) := by
    rw [← List.foldl_append, List.take_append_drop]
  obtain ⟨r, hr⟩ := pick_ext old (txs.drop (j + 1)) ((txs.take (j + 1)).foldl (pickT old) [])
  rw [h4, hr, h1]
  unfold pickT
  rw [if_pos ⟨h2, h3⟩]
  simp
theorem take_dr (C : Ch) (b : Blk) : (C.take b).1.dr = C.dr := by
  unfold Ch.take
  split <;> rfl
theorem make_cases (C : Ch) (me : Int) (txs : List S52) : (C.make me txs).2 = false ∨ (C.make me txs = (C.blk me txs, true) ∧ winsB C.dr C.slot me = true) := by
  unfold Ch.make
  split
  · rename_i h; exact .inr ⟨rfl, h.1⟩
  · exact .inl rfl
set_option maxHeartbeats 8000000 in
set_option maxRecDepth 100000 in
theorem ChainTxs_walk (w : World) (Ad : Option Addr) (cd : Nat) (dr : List Int) (hd : (Kd.int .i64).C w Ad dr.length dr) (_m : dr.length ≤ maxLen) (_s : dr.length * 8 ≤ 140737488351232) (_w : ∀ n ∈ dr, (Lit.int .i64 n).wf = true) (hdc : dr.length ≤ cd) (v : Value) (l : List Ac) (hv : ActsR w v l) (v3 : Value) (tx : List S52) (hv3 : TxsR w v3 tx) :
    Calls Try.prog 6 #[.slice Ad dr.length cd, v, v3] w fun e w' => e = .returned (.bool true) ∧ Fr [] w w' := by
  obtain ⟨Av, cv, rfl, hmx, hAL⟩ := hv
  obtain ⟨At, ct, rfl, htc, hTX⟩ := hv3
  have HAL := Lib.hid hAL
  have HTX := Lib.hid (txs_F hTX)
  obtain ⟨r, hr200, hCK⟩ := check_at hd hdc
  have HDR := Lib.hid (ints_F hd)
  obtain ⟨M, hM⟩ : ∃ M, dr.length = M := ⟨_, rfl⟩
  obtain ⟨N, hN⟩ : ∃ N, l.length = N := ⟨_, rfl⟩
  obtain ⟨K, hK⟩ : ∃ K, tx.length = K := ⟨_, rfl⟩
  rw [hM] at hr200 hdc HDR
  simp only [hM] at hCK
  rw [hM, hN, hK]
  rw [hK] at HTX htc
  rw [hN] at hmx
  unfold maxLen at hmx
  have HM := Lib.hid hM
  have HN := Lib.hid hN
  have HK := Lib.hid hK
  have hKm : K ≤ 9223372036854775807 := by rw [← hK]; exact hTX.2.1
  have HCK := Lib.hid hCK
  have HAV := Lib.hid (calive_calls (w := w))
  have HWI : Hid (∀ W, Fr [] w W → ∀ s m : Int, Calls Try.prog 51 #[.slice Ad M cd, .int .i64 s, .int .i64 m] W fun e w' => e = .returned (.bool (winsB dr s m)) ∧ Fr [] W w') := fun W hW s m => by
    have h1 := wins_calls (w := W) (A := Ad) (c := cd) (dr := dr) (P := fun k => k < w.heap.size) (Kd.V_mk (by rw [HM.out]; exact hdc) (by rw [HM.out]; exact Kd.F_below HDR.out hW.below)) s m
    rw [HM.out] at h1; exact h1
  refine calls_k fun R hR => ?_
  clear hAL hd hM hN hK hCK _w _s _m hTX
  by_cases hr0 : r = 0
  case neg =>
    have hb1 : (r == 0) = false := by simpa using hr0
    go_enter Try.func6, Try.ntmps6
    go_wp2_with (first
      | (go_at_call 43; refine HAV.out.mono ?_; rintro e w1 ⟨rfl, hF1⟩; have HF1 := Lib.hid hF1; clear hF1 HAV)
      | (go_at_call 46; refine (HCK.out _ HF1.out).mono ?_; rintro e w2 ⟨rfl, hF2⟩; have HF2 := Lib.hid (HF1.out.trans hF2 (by simp)); clear hF2 HCK))
    exact hR.out _ _ ⟨rfl, HF2.out⟩
  subst hr0
  have hM200 := hr200 rfl
  clear hr200
  by_cases hbig : (40 : Int) < (N : Int)
  · have hbb : decide ((40 : Int) < (N : Int)) = true := decide_eq_true hbig
    go_enter Try.func6, Try.ntmps6
    go_wp2_with (first
      | (go_at_call 43; refine HAV.out.mono ?_; rintro e w1 ⟨rfl, hF1⟩; have HF1 := Lib.hid hF1; clear hF1 HAV)
      | (go_at_call 46; refine (HCK.out _ HF1.out).mono ?_; rintro e w2 ⟨rfl, hF2⟩; have HF2 := Lib.hid (HF1.out.trans hF2 (by simp)); clear hF2 HCK))
    exact hR.out _ _ ⟨rfl, HF2.out⟩
  have hbb : decide ((40 : Int) < (N : Int)) = false := decide_eq_false hbig
  by_cases hbig2 : (30 : Int) < (K : Int)
  · have hbb2 : decide ((30 : Int) < (K : Int)) = true := decide_eq_true hbig2
    go_enter Try.func6, Try.ntmps6
    go_wp2_with (first
      | (go_at_call 43; refine HAV.out.mono ?_; rintro e w1 ⟨rfl, hF1⟩; have HF1 := Lib.hid hF1; clear hF1 HAV)
      | (go_at_call 46; refine (HCK.out _ HF1.out).mono ?_; rintro e w2 ⟨rfl, hF2⟩; have HF2 := Lib.hid (HF1.out.trans hF2 (by simp)); clear hF2 HCK))
    exact hR.out _ _ ⟨rfl, HF2.out⟩
  have hm1000 : dr.length ≤ 1000 := by rw [HM.out]; omega
  go_enter Try.func6, Try.ntmps6
  go_upto_region 5 with (first
    | (go_at_call 43; refine HAV.out.mono ?_; rintro e w1 ⟨rfl, hF1⟩; have HF1 := Lib.hid hF1; clear hF1 HAV)
    | (go_at_call 46; refine (HCK.out _ HF1.out).mono ?_; rintro e w2 ⟨rfl, hF2⟩; have HF2 := Lib.hid (HF1.out.trans hF2 (by simp)); clear hF2 HCK))
  have HCD : Hid ((Kd.int .i64).C w2 Ad dr.length dr) := by rw [HM.out]; exact Kd.F_now (Kd.F_below HDR.out HF2.out.below)
  rw [← HM.out] at *
  clear hbb
  go_upto_region 7 with (first
    | (at_builtin; refine wp_copyI rfl _ _ rfl rfl rfl HCD.out hm1000 ?_; intro A3 c3 w3 hc3 hC3 hF3
       have HF3 := Lib.hid (HF2.out.trans hF3 (by simp))
       have HNEW := Lib.hid (ch_new (c := c3) hC3 (by omega) 0)
       clear hc3 hC3 hF3)
    | (go_at_call 41; refine HNEW.out.mono ?_; rintro e w4 ⟨c, rfl, hc4, hF4⟩
       have HF4 := Lib.hid (HF3.out.trans hF4 (by simp))
       have hX4 : ChAt (fun k => k < w.heap.size) w4 c ⟨⟨[], []⟩, dr, 0, 0⟩ := hc4.less (fun k hk => Nat.lt_of_lt_of_le hk HF3.out.size)
       have HC4 := Lib.hid hX4
       clear hc4 hX4 hF4 HNEW))
  clear HCD
  go_loopg [41] N (fun gn i wr => ∃ (m j : Nat) (C : Ch), m = gn ∧ i = .int .i64 j ∧ m + j = N ∧ Hid C.t.Good ∧ Hid (C.dr = dr) ∧ Hid (ChAt (fun k => k < w.heap.size) wr c C) ∧ Hid (Fr [] w wr))
  case atStart => exact ⟨_, 0, ⟨⟨[], []⟩, dr, 0, 0⟩, rfl, rfl, rfl, Tr.empty_good, rfl, HC4, HF4⟩
  case round =>
    obtain ⟨m, j, C, rfl, rfl, hj, HG, HDC, HC, HF⟩ := hrel
    obtain ⟨wO, rfl⟩ : ∃ wO, wO = wr := ⟨_, rfl⟩
    clear HC4 HF4 HF3 HF2
    by_cases hlt : j < N
    · obtain ⟨a, ha⟩ : ∃ a, l[j]? = some a := ⟨_, List.getElem?_eq_getElem (by rw [HN.out]; exact hlt)⟩
      obtain ⟨hfine, hsz, ad, hAv, c0, c1, c2, c3, c4, c5, c6, c7⟩ := act_cells HAL.out j a ha HF.out
      subst hAv
      have HFI := Lib.hid hfine
      clear ha hfine
      obtain ⟨W8, hW8⟩ : ∃ W8, W8 = wO.alloc (.cells #[.int .i64 a.kind, .int .i64 a.n, .int .i64 a.blk.f0, .int .i64 a.blk.f1, .int .i64 a.blk.f2, .int .i64 a.blk.f3, .slice a.A4 a.blk.f4.length a.c4, .slice a.At a.txs.length a.ct] 69) := ⟨_, rfl⟩
      obtain ⟨g8, hg8⟩ : ∃ g, g = wO.heap.size := ⟨_, rfl⟩
      have hF8 : Fr [] wO W8 := by rw [hW8]; exact (Fr.refl _ _).alloc _
      have hB8 : ActIn W8 g8 a := by rw [hW8, hg8]; exact heap_alloc_new _ _
      have hs8 : W8.heap.size = g8 + 1 := by rw [hW8, hg8]; simp
      have hwO : wO.heap.size ≤ g8 := by omega
      have HF8 := Lib.hid hF8
      have HB8 := Lib.hid hB8
      go_upto_region 9 with (fail)
      rw [← hW8, ← hg8]
      clear hW8 hg8 hF8 hB8 hs8 c0 c1 c2 c3 c4 c5 c6 c7
      obtain ⟨m', rfl⟩ : ∃ m', m = m' + 1 := ⟨m - 1, by omega⟩
      obtain ⟨e0, e1, e2, e3, e4, e5, e6⟩ := HB8.out.cells
      by_cases hk : a.kind = 0
      · have hkb : (a.kind == 0) = true := by simpa using hk
        have hkc : (a.kind == 1) = false := by rw [hk]; rfl
        clear hk
        obtain ⟨C', L, E, hyes⟩ : ∃ C' L E, C.take a.blk = (C', L, E) := ⟨_, _, _, rfl⟩
        have hG' := Ch.take_good HG.out a.blk
        have hdr' := take_dr C a.blk
        rw [hyes] at hG' hdr'
        have HYES := Lib.hid hyes
        have HG' := Lib.hid hG'
        have HD' := Lib.hid (hdr'.trans HDC.out)
        have HCP := Lib.hid (copy_C ⟨a.blk, a.A4, a.c4⟩ (Kd.C_below HFI.out.C4 HF8.out.below) hsz)
        clear hyes hG' hdr'
        go_upto_region 11 with (first
          | (go_at_call 27; refine HCP.out.mono ?_; rintro e w14 ⟨A14, d14, rfl, hd14, hC14, hFn⟩
             have hF14 := HF8.out.trans hFn (by simp)
             have HF14 := Lib.hid hF14
             have HX14 : Hid (∀ k, (k < w.heap.size ∨ (wO.heap.size ≤ k ∧ k < w14.heap.size)) → k < w14.heap.size) := fun k hk => by
               have h1 := HF.out.size
               have h2 := HF14.out.size
               rcases hk with hk | hk <;> omega
             have HTK := Lib.hid (ch_takeC (HC.out.later hF14 (by simp)) HG.out HX14.out a.blk hC14 hd14 HYES.out)
             have HB14 := Lib.hid (HB8.out.fr hFn)
             clear hFn hF14 hd14 hC14 HCP e0 e1 e2 e3 e4 e5 e6)
          | (go_at_call 42; refine HTK.out.mono ?_; rintro e w15 ⟨D15, d15, rfl, hO15, hc15, hX15⟩
             have HC15 := Lib.hid hc15
             have HF15 := Lib.hid (hX15.keep (fun k hk => .inl hk) (HF.out.trans HF14.out (by simp)))
             have hg14 := (Array.getElem?_eq_some_iff.1 HB14.out).1
             have HB15 := Lib.hid (HB14.out.frX hX15 (.inr ⟨hwO, hg14⟩))
             clear hO15 hc15 hX15 HTK hg14))
        obtain ⟨e0, e1, e2, e3, e4, e5, e6⟩ := HB15.out.cells
        go_wp2
        go_roundg m'
        case rel => exact ⟨m', j + 1, C', rfl, by go_num, by omega, HG', HD', HC15.out.less (fun k hk => .inl hk), HF15⟩
        case measure => omega
      · have hkb : (a.kind == 0) = false := by simpa using hk
        by_cases hk1 : a.kind = 1
        · have hkc : (a.kind == 1) = true := by simpa using hk1
          clear hk hk1
          have HNX := Lib.hid (ch_next (HC.out.fr HF8.out) a.n)
          go_wp2_with (first
            | (go_at_call 47; refine HNX.out.mono ?_; rintro e w10 ⟨rfl, hc10, hX10⟩
               have HC10 := Lib.hid hc10
               have HF10 := Lib.hid (hX10.keep (fun k hk => hk) (HF.out.trans HF8.out (by simp)))
               clear hc10 hX10 HNX e0 e1 e2 e3 e4 e5 e6))
          go_roundg m'
          case rel => exact ⟨m', j + 1, C.next a.n, rfl, by go_num, by omega, HG, HDC, HC10, HF10⟩
          case measure => omega
        · have hkc : (a.kind == 1) = false := by simpa using hk1
          clear hk hk1
          go_wp2
          go_roundg m'
          case rel => exact ⟨m', j + 1, C, rfl, by go_num, by omega, HG, HDC, HC.out.fr HF8.out, HF.out.trans HF8.out (by simp)⟩
          case measure => omega
    · obtain rfl : j = N := by omega
      obtain ⟨p, v0, D, hI⟩ := HC.out
      have HI := Lib.hid hI
      clear hI
      have HTR := Lib.hid (ch_tree HI.out)
      go_upto_region 16 with (first
        | (go_at_call 49; refine HTR.out.mono ?_; rintro e w5 ⟨rfl, hFn⟩
           have HF5 := Lib.hid hFn
           have HTI := Lib.hid (tip_calls (HI.out.fr hFn).tr HG.out.ok)
           clear hFn HTR)
        | (go_at_call 34; refine HTI.out.mono ?_; rintro e w6 ⟨rfl, hFn⟩
           have HF6 := Lib.hid (HF5.out.trans hFn (by simp))
           have HTX6 := Lib.hid (ch_txs (HC.out.fr HF6.out) HG.out C.t.tip)
           clear hFn HTI)
        | (go_at_call 48; refine HTX6.out.mono ?_; rintro e w7 ⟨v7, rfl, hO7, hFn⟩
           obtain ⟨A7, d7, rfl⟩ := hO7.form
           have HO7 := Lib.hid hO7
           have HF7 := Lib.hid (HF6.out.trans hFn (by simp))
           clear hFn hO7 HTX6))
      obtain ⟨old, hold⟩ : ∃ old, old = C.txs C.t.tip := ⟨_, rfl⟩
      obtain ⟨B, hB⟩ : ∃ B, B = tx.foldl (pickT old) [] := ⟨_, rfl⟩
      obtain ⟨NO, hNO⟩ : ∃ NO, old.length = NO := ⟨_, rfl⟩
      obtain ⟨NB, hNB⟩ : ∃ NB, B.length = NB := ⟨_, rfl⟩
      have hNOm : NO ≤ 1200 := by rw [← hNO, hold]; exact txs_len HG.out C.t.tip
      have hNBm : NB ≤ 3 := by rw [← hNB, hB]; exact pick_len old tx [] (by simp)
      have HBK : Hid (∀ me, C.blk me tx = ⟨C.slot, me, 0, C.t.tip, B⟩) := fun me => by unfold Ch.blk; rw [← hold, ← hB]
      rw [← hold] at HO7 ⊢
      rw [hNO]
      have HNO := Lib.hid hNO
      have HNB := Lib.hid hNB
      have HBd := Lib.hid hB
      have HFw := Lib.hid (HF.out.trans HF7.out (by simp))
      have HCw := Lib.hid (HC.out.fr HF7.out)
      have hK30 : tx.length ≤ 1000 := by rw [HK.out]; omega
      clear hold hB hNO hNB HF6 HF5 HI
      go_loopg [11] 7 (fun gn me wr => ∃ (m j : Nat), m = gn ∧ me = .int .i64 j ∧ m + j = 7 ∧ Hid (Fr [] w7 wr))
      case atStart => exact ⟨_, 0, rfl, rfl, rfl, Fr.refl _ _⟩
      case round =>
        obtain ⟨m1, j, rfl, rfl, hj1, HFm⟩ := hrel
        obtain ⟨wM, rfl⟩ : ∃ wM, wM = wr := ⟨_, rfl⟩
        by_cases hlt1 : j < 7
        · obtain ⟨m1', rfl⟩ : ∃ m1', m1 = m1' + 1 := ⟨m1 - 1, by omega⟩
          have HCT : Hid (k52.C wM At tx.length tx) := by rw [HK.out]; exact Kd.F_now (Kd.F_below HTX.out (HFw.out.trans HFm.out (by simp)).below)
          rcases make_cases C (j : Int) tx with hmf | ⟨hmt, hwin⟩
          · obtain ⟨b0, hmk⟩ : ∃ b0, C.make (j : Int) tx = (b0, false) := ⟨(C.make (j : Int) tx).1, by rw [← hmf]⟩
            have HMK := Lib.hid hmk
            clear hmf hmk
            rw [← HK.out]
            go_upto_region 19 with (first
              | (at_builtin; refine wp_copyT rfl _ _ rfl rfl rfl HCT.out hK30 ?_; intro A3 c3 w3 hc3 hC3 hF3
                 have HF3 := Lib.hid (HFm.out.trans hF3 (by simp))
                 have HMA := Lib.hid (ch_makeC (ct := c3) (HCw.out.fr HF3.out) HG.out (j : Int) tx hC3 HMK.out)
                 clear hc3 hC3 hF3)
              | (go_at_call 50; refine HMA.out.mono ?_; rintro e w8 ⟨A8, d8, rfl, _, _, _, _, hF8⟩
                 have HF8 := Lib.hid ((HF3.out.trans hF8 (by simp)).alloc (.cells #[.int .i64 b0.f0, .int .i64 b0.f1, .int .i64 b0.f2, .int .i64 b0.f3, .slice A8 b0.f4.length d8] 32))
                 clear hF8 HMA))
            rw [HK.out]
            go_wp2
            go_roundg m1'
            case rel => exact ⟨m1', j + 1, rfl, by go_num, by omega, HF8⟩
            case measure => omega
          · have hmk : C.make (j : Int) tx = (⟨C.slot, (j : Int), 0, C.t.tip, B⟩, true) := by rw [hmt, HBK.out]
            have HMK := Lib.hid hmk
            have HWN := Lib.hid hwin
            clear hmt hmk hwin
            obtain ⟨tip, htip⟩ : ∃ tip, C.t.tip = tip := ⟨_, rfl⟩
            rw [htip] at HMK
            clear htip
            rw [← HK.out]
            go_upto_region 19 with (first
              | (at_builtin; refine wp_copyT rfl _ _ rfl rfl rfl HCT.out hK30 ?_; intro A3 c3 w3 hc3 hC3 hF3
                 have HF3 := Lib.hid (HFm.out.trans hF3 (by simp))
                 have HMA := Lib.hid (ch_makeC (ct := c3) (HCw.out.fr HF3.out) HG.out (j : Int) tx hC3 HMK.out)
                 dsimp only at HMA
                 clear hc3 hC3 hF3)
              | (go_at_call 50; refine HMA.out.mono ?_; rintro e w8 ⟨A8, d8, rfl, hl8, hC8, _, _, hF8⟩
                 have HF8 := Lib.hid (HF3.out.trans hF8 (by simp))
                 have HC8 := Lib.hid hC8
                 clear hF8 HMA hC8))
            rw [HK.out]
            rw [HNB.out] at HC8 hl8
            simp only [HNB.out]
            obtain ⟨W9, hW9⟩ : ∃ W9, W9 = w8.alloc (.cells #[.int .i64 C.slot, .int .i64 (j : Int), .int .i64 0, .int .i64 tip, .slice A8 NB d8] 32) := ⟨_, rfl⟩
            obtain ⟨g9, hg9⟩ : ∃ g, g = w8.heap.size := ⟨_, rfl⟩
            have hF9 : Fr [] w8 W9 := by rw [hW9]; exact (Fr.refl _ _).alloc _
            have hB9 : W9.heap[g9]? = some (.cells #[.int .i64 C.slot, .int .i64 (j : Int), .int .i64 0, .int .i64 tip, .slice A8 NB d8] 32 (0, 0)) := by rw [hW9, hg9]; exact heap_alloc_new _ _
            have HB9 := Lib.hid hB9
            have HC9 := Lib.hid (Kd.C_below HC8.out hF9.below)
            have HF9 := Lib.hid (HF8.out.trans hF9 (by simp))
            rw [← hW9, ← hg9]
            clear hW9 hg9 hF9 hB9 HC8 HF8 HF3 HCT
            have HBX : Hid (∀ W, Fr [] W9 W → W.cell? ⟨g9, 0, none⟩ = some (.int .i64 C.slot) ∧ W.cell? ⟨g9, 1, none⟩ = some (.int .i64 (j : Int)) ∧ W.cell? ⟨g9, 2, none⟩ = some (.int .i64 0) ∧ W.cell? ⟨g9, 4, none⟩ = some (.slice A8 NB d8)) := fun W hW => by
              have h := (hW.block g9 (Array.getElem?_eq_some_iff.1 HB9.out).1 (by simp)).trans HB9.out
              have e0 := cell_of h 0
              have e1 := cell_of h 1
              have e2 := cell_of h 2
              have e4 := cell_of h 4
              simp at e0 e1 e2 e4
              exact ⟨e0, e1, e2, e4⟩
            go_upto_region 22 with (fail)
            go_loopg [14, 83] K (fun gn at_ i wr => ∃ (m2 k q : Nat), m2 = gn ∧ at_ = .int .i64 q ∧ i = .int .i64 k ∧ m2 + k = K ∧ Hid (((tx.take k).foldl (pickT old) []).length = q) ∧ Hid (Fr [] W9 wr))
            case atStart => exact ⟨_, 0, 0, rfl, rfl, rfl, rfl, rfl, Fr.refl _ _⟩
            case round =>
              obtain ⟨m2, k, q, rfl, rfl, rfl, hk2, HQ, HFk⟩ := hrel
              obtain ⟨wK, rfl⟩ : ∃ wK, wK = wr := ⟨_, rfl⟩
              have hq3 : q ≤ 3 := by rw [← HQ.out]; exact pick_len old _ _ (by simp)
              by_cases hltk : k < K
              · obtain ⟨m2', rfl⟩ : ∃ m2', m2 = m2' + 1 := ⟨m2 - 1, by omega⟩
                obtain ⟨t, ht⟩ : ∃ t, tx[k]? = some t := ⟨_, List.getElem?_eq_getElem (by rw [HK.out]; exact hltk)⟩
                obtain ⟨pn1, pn2⟩ := pick_next (old := old) ht
                rw [HQ.out] at pn2
                rw [← HBd.out] at pn2
                have PN1 := Lib.hid pn1
                have PN2 := Lib.hid pn2
                have hFT := Kd.F_now (Kd.F_below HTX.out ((HFw.out.trans HF9.out (by simp)).trans HFk.out (by simp)).below)
                obtain ⟨ad, hAt, t0, t1⟩ := tx_at hFT k t ht hltk
                subst hAt
                clear ht pn1 pn2 hFT
                go_upto_region 24 with (fail)
                obtain ⟨W16, hW16⟩ : ∃ W16, W16 = wK.alloc (.cells #[.int .i64 t.f0, .int .i64 t.f1] 52) := ⟨_, rfl⟩
                obtain ⟨g16, hg16⟩ : ∃ g, g = wK.heap.size := ⟨_, rfl⟩
                have hF16 : Fr [] wK W16 := by rw [hW16]; exact (Fr.refl _ _).alloc _
                have hb16 : W16.heap[g16]? = some (.cells #[.int .i64 t.f0, .int .i64 t.f1] 52 (0, 0)) := by rw [hW16, hg16]; exact heap_alloc_new _ _
                have HT16 : Hid (∀ W, Fr [] W16 W → W.cell? ⟨g16, 0, none⟩ = some (.int .i64 t.f0) ∧ W.cell? ⟨g16, 1, none⟩ = some (.int .i64 t.f1)) := fun W hW => by
                  have h := (hW.block g16 (Array.getElem?_eq_some_iff.1 hb16).1 (by simp)).trans hb16
                  have e0 := cell_of h 0
                  have e1 := cell_of h 1
                  simp at e0 e1
                  exact ⟨e0, e1⟩
                have HF16 := Lib.hid (HFk.out.trans hF16 (by simp))
                rw [← hW16, ← hg16]
                clear hW16 hg16 hF16 hb16 t0 t1
                go_upto_region 26 with (fail)
                go_loopg [17, 89] NO (fun gn bb i wr => ∃ (m3 i3 : Nat) (b3 : Bool), m3 = gn ∧ bb = .bool b3 ∧ i = .int .i64 i3 ∧ m3 + i3 = NO ∧ Hid (decide (t.f0 ∈ old.take i3) = b3) ∧ Hid (Fr [] W16 wr))
                case atStart => exact ⟨_, 0, false, rfl, rfl, rfl, rfl, by show decide _ = _; simp, Fr.refl _ _⟩
                case round =>
                  obtain ⟨m3, i3, b3, rfl, rfl, rfl, hi3, HIN, HFi⟩ := hrel
                  obtain ⟨wI, rfl⟩ : ∃ wI, wI = wr := ⟨_, rfl⟩
                  obtain ⟨u0, u1⟩ := HT16.out _ HFi.out
                  by_cases hlti : i3 < NO
                  · obtain ⟨m3', rfl⟩ : ∃ m3', m3 = m3' + 1 := ⟨m3 - 1, by omega⟩
                    obtain ⟨go, hgo, hco⟩ := OwnI.at (A := A7) (c := d7) (l := old) (HO7.out.fr ((HF9.out.trans HF16.out (by simp)).trans HFi.out (by simp)) (by simp)) i3 (by rw [HNO.out]; exact hlti)
                    subst hgo
                    have hnx : decide (t.f0 ∈ old.take (i3 + 1)) = (b3 || (old.getD i3 0 == t.f0)) := by
                      exact mem_take_next (by rw [HNO.out]; exact hlti) HIN.out
                    have HNX := Lib.hid hnx
                    clear hnx
                    generalize old.getD i3 0 = y at *
                    cases b3 with
                    | true =>
                      go_wp2
                      go_roundg m3'
                      case rel => exact ⟨m3', i3 + 1, true, rfl, rfl, by go_num, by omega, HNX.out, HFi⟩
                      case measure => omega
                    | false =>
                      cases hyb : (y == t.f0) with
                      | true =>
                        rw [hyb] at HNX
                        go_wp2
                        go_roundg m3'
                        case rel => exact ⟨m3', i3 + 1, true, rfl, rfl, by go_num, by omega, HNX.out, HFi⟩
                        case measure => omega
                      | false =>
                        rw [hyb] at HNX
                        go_wp2
                        go_roundg m3'
                        case rel => exact ⟨m3', i3 + 1, false, rfl, rfl, by go_num, by omega, HNX.out, HFi⟩
                        case measure => omega
                  · have hfull : decide (t.f0 ∈ old) = b3 := by rw [← HIN.out, List.take_of_length_le (by rw [HNO.out]; omega)]
                    have HFL := Lib.hid (HF16.out.trans HFi.out (by simp))
                    cases b3 with
                    | true =>
                      have hmem : t.f0 ∈ old := of_decide_eq_true hfull
                      have HQN : Hid (((tx.take (k + 1)).foldl (pickT old) []).length = q) := by
                        show _ = _
                        rw [PN1.out, pick_in _ hmem]; exact HQ.out
                      clear hfull hmem
                      go_wp2
                      go_roundg m2'
                      case rel => exact ⟨m2', k + 1, q, rfl, rfl, by go_num, by omega, HQN, HFL⟩
                      case measure => omega
                    | false =>
                      have hmem : t.f0 ∉ old := of_decide_eq_false hfull
                      by_cases hq : q < 3
                      · have hat := PN2.out hq hmem
                        have hqB : q < NB := by
                          have := (List.getElem?_eq_some_iff.1 hat).1
                          rw [HNB.out] at this; exact this
                        have HQN : Hid (((tx.take (k + 1)).foldl (pickT old) []).length = q + 1) := by
                          show _ = _
                          rw [PN1.out, pick_yes (by rw [HQ.out]; exact hq) hmem]; simp [HQ.out]
                        obtain ⟨ab, hA8, b0, b1⟩ := tx_at (Kd.C_below HC9.out HFL.out.below) q t hat hqB
                        subst hA8
                        have hq3b : decide (3 ≤ (q : Int)) = false := decide_eq_false (by omega)
                        have hqBb : decide ((NB : Int) ≤ (q : Int)) = false := decide_eq_false (by omega)
                        have hqBn : decide (NB ≤ q) = false := decide_eq_false (by omega)
                        obtain ⟨x0, x1, x2, x4⟩ := HBX.out _ HFL.out
                        clear hfull hmem hat
                        go_upto_region 31 with (fail)
                        go_region_held3 (fun W => W.cell? ⟨g9, 4, none⟩ = some (.slice (some ab) NB d8) ∧ W.cell? ⟨g16, 0, none⟩ = some (.int .i64 t.f0) ∧ W.cell? ⟨g16, 1, none⟩ = some (.int .i64 t.f1) ∧ W.cell? (ab.add (q * 2)) = some (.int .i64 t.f0) ∧ W.cell? ⟨(ab.add (q * 2)).block, (ab.add (q * 2)).off + 1, none⟩ = some (.int .i64 t.f1))
                          (exact ⟨x4, u0, u1, b0, b1⟩) (fail)
                        all_goals
                          go_wp2
                          go_roundg m2'
                          case rel => exact ⟨m2', k + 1, q + 1, rfl, by go_num, by go_num, by omega, HQN, HFL.out.drew⟩
                          case measure => omega
                      · have hq3b : decide (3 ≤ (q : Int)) = true := decide_eq_true (by omega)
                        have HQN : Hid (((tx.take (k + 1)).foldl (pickT old) []).length = q) := by
                          show _ = _
                          rw [PN1.out, pick_full (by rw [HQ.out]; exact hq)]; exact HQ.out
                        clear hfull hmem
                        go_wp2
                        go_roundg m2'
                        case rel => exact ⟨m2', k + 1, q, rfl, rfl, by go_num, by omega, HQN, HFL⟩
                        case measure => omega
              · have hqNB : NB = q := by
                  rw [← HQ.out, List.take_of_length_le (by rw [HK.out]; omega), ← HBd.out, HNB.out]
                subst hqNB
                have HSW : Hid (∀ W, Fr [] wK W → Calls Try.prog 45 #[.pointer (some ⟨c, 0, none⟩)] W fun e w' => e = .returned (.int .i64 C.slot) ∧ Fr [] W w') := fun W hW => ch_slot (((HCw.out.fr HF9.out).fr HFk.out).fr hW)
                have HWW : Hid (∀ W, Fr [] wK W → Calls Try.prog 51 #[.slice Ad dr.length cd, .int .i64 C.slot, .int .i64 (j : Int)] W fun e w' => e = .returned (.bool true) ∧ Fr [] W w') := fun W hW => by
                  have h := HWI.out W (((HFw.out.trans HF9.out (by simp)).trans HFk.out (by simp)).trans hW (by simp)) C.slot (j : Int)
                  rw [← HDC.out, HWN.out] at h
                  rw [← HDC.out]
                  exact h
                have HSX : Hid (∀ W, Fr [] wK W → W.cell? ⟨g9, 0, none⟩ = some (.int .i64 C.slot) ∧ W.cell? ⟨g9, 1, none⟩ = some (.int .i64 (j : Int)) ∧ W.cell? ⟨g9, 2, none⟩ = some (.int .i64 0) ∧ W.cell? ⟨g9, 4, none⟩ = some (.slice A8 NB d8)) := fun W hW => HBX.out W (HFk.out.trans hW (by simp))
                have HD0 : Hid (Fr [] wK wK.drew) := (Fr.refl _ _).drew
                have hq0 := HSX.out _ HD0.out
                have s1 : True := trivial
                go_upto_region 35 with (fail)
                go_region_held3 (fun W => W.cell? ⟨g9, 0, none⟩ = some (.int .i64 C.slot) ∧ W.cell? ⟨g9, 1, none⟩ = some (.int .i64 (j : Int)) ∧ W.cell? ⟨g9, 2, none⟩ = some (.int .i64 0) ∧ W.cell? ⟨g9, 4, none⟩ = some (.slice A8 NB d8))
                  (assumption)
                  (first
                    | (have _t := s1; go_at_call 45; refine (HSW.out _ HD0.out).mono ?_; rintro e y1 ⟨rfl, hFn⟩; have HD1 := Lib.hid (HD0.out.trans hFn (by simp)); have hq1 := HSX.out _ HD1.out; clear hFn s1)
                    | (go_at_call 51; refine (HWW.out _ HD1.out).mono ?_; rintro e y2 ⟨rfl, hFn⟩; have HD2 := Lib.hid (HD1.out.trans hFn (by simp)); have hq2 := HSX.out _ HD2.out; clear hFn)
                    | (go_at_call 45; refine (HSW.out _ HD2.out).mono ?_; rintro e y3 ⟨rfl, hFn⟩; have HD3 := Lib.hid (HD2.out.trans hFn (by simp)); have hq3' := HSX.out _ HD3.out; clear hFn))
                all_goals
                  go_wp2
                  go_roundg m1'
                  case rel => exact ⟨m1', j + 1, rfl, by go_num, by omega, (HF9.out.trans HFk.out (by simp)).trans HD3.out (by simp)⟩
                  case measure => omega
        · go_wp2
          exact hR.out _ _ ⟨rfl, HFw.out.trans HFm.out (by simp)⟩
end Go.Np.Try
