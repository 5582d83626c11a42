/- A text that the row of LedgerOnce needs. (Pruned by tools/prune.py.) -/
import Derived.Test.YtlllhpnpgcphcaaQLedgerOnceLedl
set_option linter.unusedVariables false
set_option linter.unusedSimpArgs false
namespace Go.Np.Try
open Go.RowKit Go.Proofs Go.Proofs.Ytlllhpnpgcphcaa.PX Go.Proofs.YtlllhpnpgcphcaaW.PrintWords
theorem SlI.of_C {w : World} {A : Option Addr} {c : Nat} {l : List Int} (h : (Kd.int .i64).C w A l.length l) (hc : l.length ≤ c) : SlI w (.slice A l.length c) l := ⟨A, c, rfl, hc, h⟩
def beginsB (l m : List Int) : Bool := decide (l.length ≤ m.length) && decide (l = m.take l.length)
theorem beginsB_app (l r : List Int) : beginsB l (l ++ r) = true := by unfold beginsB; simp
set_option maxHeartbeats 1000000 in
set_option maxRecDepth 100000 in
theorem begins_calls {w : World} {A B : Option Addr} {c d : Nat} {l m : List Int} (hl : SlI w (.slice A l.length c) l) (hm : SlI w (.slice B m.length d) m) :
    Calls Try.prog 63 #[.slice A l.length c, .slice B m.length d] w fun e w' => e = .returned (.bool (beginsB l m)) ∧ Fr [] w w' := by
  have hmd := hm.C.2.1
  by_cases hle : l.length ≤ m.length
  · have ht : SlI w (.slice B (m.take l.length).length d) (m.take l.length) := .of_C (Kd.C_take hm.C.2.2 hle) (by rw [List.length_take]; omega)
    have hs := same_sl hl ht
    rw [List.length_take, Nat.min_eq_left hle] at hs
    have hb : beginsB l m = decide (l = m.take l.length) := by unfold beginsB; simp [hle]
    rw [hb]
    obtain ⟨q, hq⟩ : ∃ q, decide (l = m.take l.length) = q := ⟨_, rfl⟩
    rw [hq] at hs
    rw [hq]
    obtain ⟨n, hn⟩ : ∃ n, l.length = n := ⟨_, rfl⟩
    obtain ⟨k, hk⟩ : ∃ k, m.length = k := ⟨_, rfl⟩
    rw [hn] at hs hle
    rw [hk] at hle hmd
    rw [hn, hk]
    have HS := Lib.hid hs
    have h1 : decide ((n : Int) ≤ (k : Int)) = true := decide_eq_true (by omega)
    have h1' : decide (n ≤ k) = true := decide_eq_true hle
    have h2 : n ≤ d := by omega
    refine calls_k fun R hR => ?_
    clear hl hm ht hs hb hq hn hk
    go_enter Try.func63, Try.ntmps63
    cases q with
    | true =>
      go_wp2_with (go_at_call 19; refine HS.out.mono ?_; rintro e w1 ⟨rfl, hF1⟩; have HF1 := Lib.hid hF1; clear hF1)
      exact hR.out _ _ ⟨rfl, HF1.out⟩
    | false =>
      go_wp2_with (go_at_call 19; refine HS.out.mono ?_; rintro e w1 ⟨rfl, hF1⟩; have HF1 := Lib.hid hF1; clear hF1)
      exact hR.out _ _ ⟨rfl, HF1.out⟩
  · have hb : beginsB l m = false := by unfold beginsB; simp [hle]
    rw [hb]
    obtain ⟨n, hn⟩ : ∃ n, l.length = n := ⟨_, rfl⟩
    obtain ⟨k, hk⟩ : ∃ k, m.length = k := ⟨_, rfl⟩
    rw [hn, hk] at hle
    rw [hn, hk]
    have h1 : decide ((n : Int) ≤ (k : Int)) = false := decide_eq_false (by omega)
    have h1' : decide (n ≤ k) = false := decide_eq_false hle
    refine calls_k fun R hR => ?_
    clear hl hm hb hn hk
    go_enter Try.func63, Try.ntmps63
    go_wp2
    exact hR.out _ _ ⟨rfl, Fr.refl _ _⟩
theorem N_own {w : World} {base : Nat} {ok : Nat → Prop} {v : Value} {xs : List Int} (h : Kd.N (Kd.int .i64) 3 w base ok v xs) : OwnI base w v xs := by
  have h' := h
  obtain ⟨A, c, rfl⟩ := Kd.N_slice h
  obtain ⟨h0, rows, hlen, ⟨_, inner, ho, hr⟩, hf⟩ := h
  obtain ⟨hi, ho⟩ := ho
  rcases ho with hnone | ⟨g, cap, cells, e, hb, hh, hle, hmx, hsz, htk⟩
  · have e1 := hnone.1
    injection e1 with e1 e2 e3
    obtain rfl : xs = [] := List.eq_nil_of_length_eq_zero e2
    subst e1 e3
    exact OwnI.nil _ _
  · rcases N_block2 h' with ⟨rfl, c', e'⟩ | ⟨r, c', cs, e', hbr, hr', hs, hcm, hlc, hcs, hC⟩
    · rw [e] at e'; cases e'
    · injection e' with e1 e2 e3
      subst e1 e3
      exact ⟨(own_of_cells hr' hs hcm hlc hcs).1, fun k hk => by simp [Value.ownBlock] at hk; omega⟩
theorem N_empty (w : World) : Kd.N (Kd.int .i64) 3 (w.alloc (.cells #[] 3)) w.heap.size (fun _ => True) (.slice (some ⟨w.heap.size, 0, none⟩) 0 0) [] :=
  Kd.R_N ⟨fun k hk => trivial, [], ⟨rfl, .inr ⟨w.heap.size, 0, #[], rfl, Nat.le_refl _, heap_alloc_new _ _, Nat.le_refl _, Nat.zero_le _, by simp, by simp⟩⟩, Reps.none _ _⟩
section
variable {ops : Array Oper} {rest : List Oper} {o : Oper} {a : Act} {Q : Exit → Act → World → Prop}
theorem wp_moreI {w0 w : World} (hgd : o.guard = none) (s x : Operand)
    (ho : o.op = .call { callee := .builtin .append, args := #[s, x], argTypes := #[39, 39] })
    {xs ys : List Int} {v : Value} {A : Option Addr} {c : Nat} (hs : a.eval s = v) (hx : a.eval x = .slice A ys.length c) (HN : Kd.N (Kd.int .i64) 3 w w0.heap.size (fun _ => True) v xs) (hO : ∀ k, v.ownBlock = some k → w0.heap.size ≤ k) (HB : Below w0.heap.size w0 w) (HR : (Kd.int .i64).C w0 A ys.length ys) (hl : xs.length + ys.length ≤ 1000000)
    (h : ∀ A1 c1 w1, Kd.N (Kd.int .i64) 3 w1 w0.heap.size (fun _ => True) (.slice A1 (xs ++ ys).length c1) (xs ++ ys) → (∀ k, (Value.slice A1 (xs ++ ys).length c1).ownBlock = some k → w0.heap.size ≤ k) → Below w0.heap.size w0 w1 → wpList Try.prog ops Q rest (a.put o.dst (.slice A1 (xs ++ ys).length c1)) w1) :
    wpList Try.prog ops Q (o :: rest) a w := by
  refine Kd.N_append_rows (Kd.int .i64) (w0 := w0) w0.heap.size hgd s x 39 3 _ 8 ho Try.underlying39 infoI rfl (by decide) (by omega) v xs ys A ys.length c (fun _ => True) (fun k => k < w0.heap.size) hs hx HN (Kd.F_below (ints_F HR) HB)
    (fun k hk => ⟨trivial, fun he => by have h2 := hO k he.symm; omega⟩) (fun _ _ => trivial) HB HB.size (by omega) ?_
  intro v1 w1 h1 h2 h3 h4
  obtain ⟨A1, c1, rfl⟩ := Kd.N_slice h1
  refine h A1 c1 w1 h1 (fun k hk => ?_) h2
  rcases h4 with h4 | ⟨b, h4, h5⟩
  · exact hO k (h4.symm.trans hk)
  · rw [h4] at hk; injection hk with hk; subst hk; exact Nat.le_trans HB.size h5
end
theorem count_next {l : List Int} {j : Nat} (hj : j < l.length) (x : Int) : (l.take (j + 1)).count x = (l.take j).count x + (if l.getD j 0 = x then 1 else 0) := by
  rw [take_snocI hj rfl, List.count_append, List.count_singleton]
  simp
theorem count_one {a b : List Int} {x : Int} (hx : x ∈ a ++ b) : (cleanL [] (a ++ b)).count x = 1 := by
  have h := (cleanL_mem (a ++ b) [] x).2 ⟨hx, by simp⟩
  have h1 := List.count_pos_iff.2 h
  have h2 := List.nodup_iff_count.1 (cleanL_nodup (a ++ b) []) x
  omega
set_option maxHeartbeats 8000000 in
set_option maxRecDepth 100000 in
theorem LedgerOnce_walk (w : World) (A0 : Option Addr) (c0 : Nat) (a : List Int) (ha : (Kd.int .i64).C w A0 a.length a) (_m0 : a.length ≤ maxLen) (_s0 : a.length * 8 ≤ 140737488351232) (_w0 : ∀ n ∈ a, (Lit.int .i64 n).wf = true) (hac : a.length ≤ c0)
    (A1 : Option Addr) (c1 : Nat) (b : List Int) (hb : (Kd.int .i64).C w A1 b.length b) (_m1 : b.length ≤ maxLen) (_s1 : b.length * 8 ≤ 140737488351232) (_w1 : ∀ n ∈ b, (Lit.int .i64 n).wf = true) (hbc : b.length ≤ c1) :
    Calls Try.prog 11 #[.slice A0 a.length c0, .slice A1 b.length c1] w fun e w' => e = .returned (.bool true) ∧ Fr [] w w' := by
  have HAL := Lib.hid (lalive_calls (w := w))
  have HSA : Hid (SlI w (.slice A0 a.length c0) a) := SlI.of_C ha hac
  have HSB : Hid (SlI w (.slice A1 b.length c1) b) := SlI.of_C hb hbc
  refine calls_k fun R hR => ?_
  clear ha hb _m0 _s0 _w0 _m1 _s1 _w1 hac hbc
  obtain ⟨na, hna⟩ : ∃ na, a.length = na := ⟨_, rfl⟩
  obtain ⟨nb, hnb⟩ : ∃ nb, b.length = nb := ⟨_, rfl⟩
  rw [hna, hnb]
  by_cases h1 : 200 < na
  · have g1 : decide (200 < (na : Int)) = true := decide_eq_true (by omega)
    have g1' : decide (200 < na) = true := decide_eq_true h1
    clear hna hnb
    go_enter Try.func11, Try.ntmps11
    go_wp2_with (go_at_call 57; refine HAL.out.mono ?_; rintro e w3 ⟨rfl, hF3⟩; have HF3 := Lib.hid hF3; clear hF3 HAL)
    exact hR.out _ _ ⟨rfl, HF3.out⟩
  have g1 : decide (200 < (na : Int)) = false := decide_eq_false (by omega)
  have g1' : decide (200 < na) = false := decide_eq_false h1
  by_cases h2 : 200 < nb
  · have g2 : decide (200 < (nb : Int)) = true := decide_eq_true (by omega)
    have g2' : decide (200 < nb) = true := decide_eq_true h2
    clear hna hnb
    go_enter Try.func11, Try.ntmps11
    go_wp2_with (go_at_call 57; refine HAL.out.mono ?_; rintro e w3 ⟨rfl, hF3⟩; have HF3 := Lib.hid hF3; clear hF3 HAL)
    exact hR.out _ _ ⟨rfl, HF3.out⟩
  have g2 : decide (200 < (nb : Int)) = false := decide_eq_false (by omega)
  have g2' : decide (200 < nb) = false := decide_eq_false h2
  rw [← hna, ← hnb]
  have hsum : a.length + b.length ≤ 1000000 := by omega
  obtain ⟨all, hall⟩ : ∃ all, cleanL [] (a ++ b) = all := ⟨_, rfl⟩
  obtain ⟨ca, hca⟩ : ∃ ca, cleanL [] a = ca := ⟨_, rfl⟩
  obtain ⟨cb, hcb⟩ : ∃ cb, cleanL [] b = cb := ⟨_, rfl⟩
  have hla : all.length ≤ 400 := by have := cleanL_le (a ++ b) []; rw [hall, List.length_append] at this; omega
  have hlca : ca.length ≤ 200 := by have := cleanL_le a []; rw [hca] at this; omega
  have hlcb : cb.length ≤ 200 := by have := cleanL_le b []; rw [hcb] at this; omega
  have hab1000 : a.length ≤ 1000 := by omega
  have hbb1000 : b.length ≤ 1000 := by omega
  have hab : (a ++ b).length ≤ 400 := by rw [List.length_append]; omega
  have HT1 : Hid (cleanL [] all = all) := by show _ = _; rw [← hall]; exact cleanL_twice _
  have HT2 : Hid (cleanL [] (ca ++ cb) = all) := by show _ = _; rw [← hall, ← hca, ← hcb]; exact cleanL_parts a b
  have HT3 : Hid (beginsB ca all = true) := by show _ = _; rw [← hall, ← hca, cleanL_append]; exact beginsB_app _ _
  have HCNT : Hid (∀ x ∈ a ++ b, all.count x = 1) := by show ∀ x ∈ a ++ b, _; rw [← hall]; exact fun x hx => count_one hx
  have HALL := Lib.hid hall
  have HCA := Lib.hid hca
  have HCB := Lib.hid hcb
  have HL4 := Lib.hid (show all.length ≤ 1000000 by omega)
  have HL5 := Lib.hid (show ca.length + cb.length ≤ 1000000 by omega)
  have HL6 := Lib.hid (show a.length ≤ 1000000 by omega)
  have HL7 := Lib.hid (show b.length ≤ 1000000 by omega)
  have HSUM := Lib.hid hsum
  have g1n : decide (200 < (a.length : Int)) = false := by rw [hna]; exact g1
  have g1n' : decide (200 < a.length) = false := by rw [hna]; exact g1'
  have g2n : decide (200 < (b.length : Int)) = false := by rw [hnb]; exact g2
  have g2n' : decide (200 < b.length) = false := by rw [hnb]; exact g2'
  clear hall hca hcb hsum hlca hlcb g1 g1' g2 g2' h1 h2 hna hnb
  go_enter Try.func11, Try.ntmps11
  go_upto_region 6 with (first
    | (go_at_call 57; refine HAL.out.mono ?_; rintro e w3 ⟨rfl, hF3⟩
       have HC1 := Lib.hid (clean2_calls (HSA.out.fr hF3) (HSB.out.fr hF3) HSUM.out)
       rw [HALL.out] at HC1
       have HF3 := Lib.hid hF3
       clear hF3 HAL)
    | (go_at_call 58; refine HC1.out.mono ?_; rintro e w4 ⟨A4, c4, rfl, hS4, hF4⟩
       have HS4 := Lib.hid hS4
       have HF4 := Lib.hid (HF3.out.trans hF4 (by simp))
       have HC2 := Lib.hid (clean1_calls hS4 HL4.out)
       rw [HT1.out] at HC2
       clear hS4 hF4 HC1))
  clear g1n g1n' g2n g2n'
  have tok1 := Lib.hid True.intro
  go_upto_region 8 with (first
    | (go_at_call 58; have _t := tok1; refine HC2.out.mono ?_; rintro e w5 ⟨A5, c5, rfl, hS5, hF5⟩
       have HS5 := Lib.hid (same_sl hS5 (HS4.out.fr hF5))
       simp only [decide_true] at HS5
       have HF5 := Lib.hid (HF4.out.trans hF5 (by simp))
       have HS45 := Lib.hid (HS4.out.fr hF5)
       have tok2 := Lib.hid True.intro
       clear hS5 hF5 HC2 tok1)
    | (go_at_call 19; have _t := tok2; refine HS5.out.mono ?_; rintro e w6 ⟨rfl, hF6⟩
       have HF6 := Lib.hid (HF5.out.trans hF6 (by simp))
       have HS46 := Lib.hid (HS45.out.fr hF6)
       have HC3 := Lib.hid (clean1_calls (HSA.out.fr HF6.out) HL6.out)
       rw [HCA.out] at HC3
       have tok3 := Lib.hid True.intro
       clear hF6 tok2)
    | (go_at_call 58; have _t := tok3; refine HC3.out.mono ?_; rintro e w7 ⟨A7, c7, rfl, hS7, hF7⟩
       have HS7 := Lib.hid hS7
       have HF7 := Lib.hid (HF6.out.trans hF7 (by simp))
       have HS47 := Lib.hid (HS46.out.fr hF7)
       have HC4 := Lib.hid (clean1_calls (HSB.out.fr HF7.out) HL7.out)
       rw [HCB.out] at HC4
       have tok4 := Lib.hid True.intro
       clear hS7 hF7 tok3)
    | (go_at_call 58; have _t := tok4; refine HC4.out.mono ?_; rintro e w8 ⟨A8, c8, rfl, hS8, hF8⟩
       have HF8 := Lib.hid (HF7.out.trans hF8 (by simp))
       have HC5 := Lib.hid (clean2_calls (HS7.out.fr hF8) hS8 HL5.out)
       rw [HT2.out] at HC5
       have HS48 := Lib.hid (HS47.out.fr hF8)
       have tok5 := Lib.hid True.intro
       clear hS8 hF8 tok4)
    | (go_at_call 58; have _t := tok5; refine HC5.out.mono ?_; rintro e w9 ⟨A9, c9, rfl, hS9, hF9⟩
       have HF9 := Lib.hid (HF8.out.trans hF9 (by simp))
       have HS49 := Lib.hid (HS48.out.fr hF9)
       have HS9 := Lib.hid (same_sl hS9 HS49.out)
       simp only [decide_true] at HS9
       have tok6 := Lib.hid True.intro
       clear hS9 hF9 tok5)
    | (go_at_call 19; have _t := tok6; refine HS9.out.mono ?_; rintro e w10 ⟨rfl, hF10⟩
       have HF10 := Lib.hid (HF9.out.trans hF10 (by simp))
       have HS410 := Lib.hid (HS49.out.fr hF10)
       have HC6 := Lib.hid (clean1_calls (HSA.out.fr HF10.out) HL6.out)
       rw [HCA.out] at HC6
       have tok7 := Lib.hid True.intro
       clear hF10 tok6)
    | (go_at_call 58; have _t := tok7; refine HC6.out.mono ?_; rintro e w11 ⟨A11, c11, rfl, hS11, hF11⟩
       have HF11 := Lib.hid (HF10.out.trans hF11 (by simp))
       have HS411 := Lib.hid (HS410.out.fr hF11)
       have HBE := Lib.hid (begins_calls hS11 HS411.out)
       rw [HT3.out] at HBE
       clear hS11 hF11 tok7)
    | (go_at_call 63; refine HBE.out.mono ?_; rintro e w12 ⟨rfl, hF12⟩
       have HF12 := Lib.hid (HF11.out.trans hF12 (by simp))
       have HS412 := Lib.hid (HS411.out.fr hF12)
       clear hF12 HBE))
  have HCA0 : Hid ((Kd.int .i64).C w12 A0 a.length a) := (HSA.out.fr HF12.out).C.2.2
  have HCB0 : Hid ((Kd.int .i64).C w12 A1 b.length b) := (HSB.out.fr HF12.out).C.2.2
  have HNE := Lib.hid (N_empty w12)
  have HBE0 : Hid (Below w12.heap.size w12 (w12.alloc (.cells #[] 3))) := ((Fr.refl [] w12).alloc _).below
  have HL8 := Lib.hid (show ([] : List Int).length + a.length ≤ 1000000 by simp; omega)
  clear HF3 HF4 HF5 HF6 HF7 HF8 HF9 HF10 HF11 HS4 HS45 HS46 HS47 HS48 HS49 HS410 HS411 HS7
  obtain ⟨M, hM⟩ : ∃ M, (a ++ b).length = M := ⟨_, rfl⟩
  have HM := Lib.hid hM
  rw [hM] at hab
  clear hM
  have tok8 := Lib.hid True.intro
  have HO0 : Hid (∀ k, (Value.slice (some ⟨w12.heap.size, 0, none⟩) 0 0).ownBlock = some k → w12.heap.size ≤ k) := fun k hk => by simp [Value.ownBlock] at hk; omega
  go_upto_region 9 with (first
    | (at_builtin; have _t := tok8; refine wp_moreI (w0 := w12) rfl _ _ rfl (xs := []) (ys := a) rfl rfl HNE.out HO0.out HBE0.out HCA0.out HL8.out ?_; intro A13 c13 w13 h1 h2 h3
       simp only [List.nil_append] at h1 h2
       have HN13 := Lib.hid h1
       have HO13 := Lib.hid h2
       have HB13 := Lib.hid h3
       clear h1 h2 h3 tok8)
    | (at_builtin; refine wp_moreI (w0 := w12) rfl _ _ rfl (xs := a) (ys := b) rfl rfl HN13.out HO13.out HB13.out HCB0.out HSUM.out ?_; intro A14 c14 w14 h1 h2 h3
       rw [HM.out] at h1 h2
       rw [HM.out]
       have HN14 := Lib.hid (N_own h1)
       have HF14 := Lib.hid (HF12.out.trans (Fr.of_below [] h3) (by simp))
       have HS414 := Lib.hid (HS412.out.fr (Fr.of_below [] h3))
       clear h1 h2 h3))
  obtain ⟨L, hL⟩ : ∃ L, a ++ b = L := ⟨_, rfl⟩
  rw [hL] at HN14 HCNT HM
  have HX := Lib.hid (fun k (hk : k < L.length) => int_at (HN14.out.sl.C.2.2) k hk)
  have HY := Lib.hid (fun k (hk : k < all.length) => int_at (HS414.out.C.2.2) k hk)
  obtain ⟨NA, hNA⟩ : ∃ NA, all.length = NA := ⟨_, rfl⟩
  rw [hNA] at hla
  rw [hNA]
  have HNA := Lib.hid hNA
  clear hNA hL HN14 HS414
  go_loopg [58] M (fun gn i wr => ∃ (m k : Nat), m = gn ∧ i = .int .i64 k ∧ m + k = M ∧ w14 = wr)
  case atStart => exact ⟨_, 0, rfl, rfl, rfl, rfl⟩
  case round =>
    obtain ⟨m, k, rfl, rfl, hk, rfl⟩ := hrel
    by_cases hlt : k < M
    · obtain ⟨m', rfl⟩ : ∃ m', m = m' + 1 := ⟨m - 1, by omega⟩
      have hkL : k < L.length := by rw [HM.out]; exact hlt
      obtain ⟨ad, rfl, hcell⟩ := HX.out k hkL
      obtain ⟨x, hx⟩ : ∃ x, L.getD k 0 = x := ⟨_, rfl⟩
      have hmem : x ∈ L := by rw [← hx, List.getD_eq_getElem?_getD, List.getElem?_eq_getElem hkL]; exact List.getElem_mem _
      rw [hx] at hcell
      have HONE := Lib.hid (HCNT.out x hmem)
      clear hx hmem hkL
      go_upto_region 13 with (fail)
      clear hcell
      go_loopg [8, 64] NA (fun gn cnt j wr => ∃ (m2 k2 n : Nat), m2 = gn ∧ cnt = .int .i64 n ∧ j = .int .i64 k2 ∧ m2 + k2 = NA ∧ n ≤ k2 ∧ Hid ((all.take k2).count x = n) ∧ w14 = wr)
      case atStart => exact ⟨_, 0, 0, rfl, rfl, rfl, rfl, Nat.le_refl _, (by show _ = _; simp), rfl⟩
      case round =>
        obtain ⟨m2, k2, n, rfl, rfl, rfl, hk2, hn, HCN, rfl⟩ := hrel
        by_cases hlt2 : k2 < NA
        · obtain ⟨m2', rfl⟩ : ∃ m2', m2 = m2' + 1 := ⟨m2 - 1, by omega⟩
          have hkA : k2 < all.length := by rw [HNA.out]; exact hlt2
          obtain ⟨ad2, rfl, hcell2⟩ := HY.out k2 hkA
          obtain ⟨y, hy⟩ : ∃ y, all.getD k2 0 = y := ⟨_, rfl⟩
          rw [hy] at hcell2
          have hcn := count_next hkA x
          rw [hy, HCN.out] at hcn
          have HCN2 := Lib.hid hcn
          clear hy hcn hkA
          by_cases hxy : x = y
          · have hb : (x == y) = true := by simpa using hxy
            have HCN3 : Hid ((all.take (k2 + 1)).count x = n + 1) := by show _ = _; rw [HCN2.out, if_pos hxy.symm]
            clear hxy
            go_wp2
            go_roundg m2'
            case rel => exact ⟨m2', k2 + 1, n + 1, rfl, by go_num, by go_num, by omega, by omega, HCN3, rfl⟩
            case measure => omega
          · have hb : (x == y) = false := by simpa using hxy
            have HCN3 : Hid ((all.take (k2 + 1)).count x = n) := by show _ = _; rw [HCN2.out, if_neg (fun h => hxy h.symm)]; rfl
            clear hxy
            go_wp2
            go_roundg m2'
            case rel => exact ⟨m2', k2 + 1, n, rfl, rfl, by go_num, by omega, by omega, HCN3, rfl⟩
            case measure => omega
        · obtain rfl : k2 = NA := by omega
          obtain rfl : n = 1 := by
            have h1 := HCN.out
            rw [← HNA.out, List.take_length, HONE.out] at h1
            exact h1.symm
          go_wp2
          go_roundg m'
          case rel => exact ⟨m', k + 1, rfl, by go_num, by omega, rfl⟩
          case measure => omega
    · obtain rfl : k = M := by omega
      go_wp2
      exact hR.out _ _ ⟨rfl, HF14.out⟩
end Go.Np.Try
