/- What CheckNames needs. -/
import Derived.Test.YtgfiglcmhlbjjaaQCheckNamesCkU
set_option linter.unusedVariables false
set_option linter.unusedSimpArgs false
namespace Go.Np.Try
open Go.RowKit Go.Proofs Go.Proofs.Ytgfiglcmhlbjjaa.PX Go.Proofs.YtgfiglcmhlbjjaaW.PrintWords
section
variable {X : Nat → Prop} {w w' w1 : World} {p : Nat} {c c' : Co} {a a' : Pl}
theorem setL_rest (x0 x1 x2 x3 x4 x5 x6 x7 x8 x9 x10 x11 x12 x13 x14 x15 x16 u0 u1 u2 u3 u4 u5 u6 : Value) : setL #[x0, x1, x2, x3, x4, x5, x6, x7, x8, x9, x10, x11, x12, x13, x14, x15, x16] 9 [u0, u1, u2, u3, u4, u5, u6] = #[x0, x1, x2, x3, x4, x5, x6, x7, x8, u0, u1, u2, u3, u4, u5, u6, x16] := by
  simp only [setL, List.setIfInBounds_toArray, List.set_cons_zero, List.set_cons_succ]
theorem setL_vs (x0 x1 x2 x3 x4 x5 x6 x7 x8 x9 x10 x11 x12 x13 x14 x15 x16 u0 u1 : Value) : setL #[x0, x1, x2, x3, x4, x5, x6, x7, x8, x9, x10, x11, x12, x13, x14, x15, x16] 5 [u0, u1] = #[x0, x1, x2, x3, x4, u0, u1, x7, x8, x9, x10, x11, x12, x13, x14, x15, x16] := by
  simp only [setL, List.setIfInBounds_toArray, List.set_cons_zero, List.set_cons_succ]
theorem OwnI.slC {base : Nat} {w : World} {A : Option Addr} {d : Nat} {l : List Int} (h : OwnI base w (.slice A l.length d) l) : (Kd.int .i64).C w A l.length l := by
  obtain ⟨A', c', he, _, hC⟩ := h.sl
  injection he with he1 _ _
  rw [he1]; exact hC
set_option maxHeartbeats 4000000 in
set_option maxRecDepth 100000 in
theorem c_rest {left : Int} {sv dv ov z5 z6 z9 z10 z11 z12 z13 z14 z15 : Value} (h : CoBx X w p c left sv dv ov z5 z6 z9 z10 z11 z12 z13 z14 z15) (hX : ∀ k, X k → k < w.heap.size) (hl : c.st.length ≤ 7) :
    Calls Try.prog 11 #[.pointer (some ⟨p, 0, none⟩)] w fun e w' => e = .returned (.tuple #[]) ∧ CoAt X w' p c.rest ∧ FrX X w w' := by
  have hmm := @run_makeMap Try.prog
  obtain ⟨As, ds, rfl⟩ := h.st.form
  have hbx := h.box
  have y5 := froz_of hbx 5
  have y6 := froz_of hbx 6
  have k5 : w.cell? ⟨p, 5, none⟩ = some z5 := cell_of hbx 5
  have k6 : w.cell? ⟨p, 6, none⟩ = some z6 := cell_of hbx 6
  have H := Lib.hid h
  have HX := Lib.hid hX
  have HBX := Lib.hid hbx
  refine calls_k fun R hR => ?_
  clear h hX hbx
  go_enter Try.func11, Try.ntmps11
  go_upto_region 1 with (fail)
  obtain ⟨W1, hW1⟩ : ∃ W1, W1 = putL w p 5 [.int .i64 0, .int .i64 0] := ⟨_, rfl⟩
  have hF1 : Fr [p] w W1 := by rw [hW1]; exact putL_fr p _ w 5 (Fr.refl _ _) (.inl (by simp))
  have hb1 : W1.heap[p]? = some (.cells #[.int .i64 c.me, .slice As c.st.length ds, .int .i64 c.base, .int .i64 c.most, dv, .int .i64 0, .int .i64 0, .int .i64 left, .int .i64 c.tip, z9, z10, z11, z12, z13, z14, z15, ov] 41 (0, 0)) := by
    rw [hW1, ← setL_vs _ _ _ _ _ z5 z6]; exact putL_heap p _ w 5 _ HBX.out
  simp only [putL] at hW1
  rw [← hW1]
  clear hW1 y5 y6 k5 k6 HBX
  have k1 : W1.cell? ⟨p, 1, none⟩ = some (.slice As c.st.length ds) := cell_of hb1 1
  have hpS : Hid (∀ k ∈ (Value.slice As c.st.length ds).ownBlock.toList, k ≠ p) := fun k hk e => by
    have := H.out.nd
    simp only [List.nodup_cons, List.mem_append] at this
    exact this.1 (.inl (e ▸ hk))
  have hC1 : (Kd.int .i64).C W1 As c.st.length c.st := by
    have h1 : OwnI 0 W1 (.slice As c.st.length ds) c.st := H.out.st.fr hF1 (fun k hk => by simpa using hpS.out k hk)
    exact h1.slC
  have HTN := Lib.hid (tnew_own (c0 := ds) hC1 (by omega))
  have HN1 := Lib.hid (fun W => none_calls W)
  have HN2 := Lib.hid (fun W => none_calls W)
  have HF1 := Lib.hid hF1
  have HB1 := Lib.hid hb1
  clear hF1 hb1 hC1
  obtain ⟨NS, hNS⟩ : ∃ NS, c.st.length = NS := ⟨_, rfl⟩
  have HNS := Lib.hid hNS
  rw [hNS] at HTN k1
  clear hNS
  go_wp2_with (first
    | (go_at_call 15; refine HTN.out.mono ?_; rintro e w2 ⟨pt, bt, tv, rfl, t1, t2, t3, t4, t5, t6, t7⟩
       have HT1 := Lib.hid t1
       have HT2 := Lib.hid t2
       have HT3 := Lib.hid t3
       have HT4 := Lib.hid (show _ ∧ _ ∧ _ from ⟨t4, t5, t6⟩)
       have HF2 := Lib.hid t7
       have hptl : Hid (pt < w2.heap.size) := (Array.getElem?_eq_some_iff.1 t1).1
       clear t1 t2 t3 t4 t5 t6 t7 HTN)
    | (go_at_call 16; refine (HN1.out _).mono ?_; rintro e w3 ⟨rfl, hf3⟩
       have HF3 := Lib.hid hf3
       clear hf3 HN1)
    | (go_at_call 16; refine (HN2.out _).mono ?_; rintro e w4 ⟨rfl, hf4⟩
       have hM : Fr [] w2 ((w2.alloc (.map #[] 0)).alloc (.map #[] 0)) := ((Fr.refl _ _).alloc _).alloc _
       have hF24 : Fr [] w2 w4 := (hM.trans HF3.out (by simp)).trans hf4 (by simp)
       have hF14 : Fr [] W1 w4 := HF2.out.trans hF24 (by simp)
       have hb4 : w4.heap[p]? = some (.cells #[.int .i64 c.me, .slice As c.st.length ds, .int .i64 c.base, .int .i64 c.most, dv, .int .i64 0, .int .i64 0, .int .i64 left, .int .i64 c.tip, z9, z10, z11, z12, z13, z14, z15, ov] 41 (0, 0)) := (hF14.block p (Array.getElem?_eq_some_iff.1 HB1.out).1 (by simp)).trans HB1.out
       have m1 : MapIs keyE w4 w2.heap.size ([] : List (Int × Value)) := (((MapIs.made w2).alloc _).fr HF3.out (by simp)).fr hf4 (by simp)
       have m2 : MapIs keyE w4 (w2.heap.size + 1) ([] : List (Int × Value)) := by
         have hm := MapIs.made (κ := Int) (kE := keyE) (w2.alloc (.map #[] 0))
         rw [show (w2.alloc (.map #[] 0)).heap.size = w2.heap.size + 1 from by simp] at hm
         exact (hm.fr HF3.out (by simp)).fr hf4 (by simp)
       have HM1 := Lib.hid m1
       have HM2 := Lib.hid m2
       have HF24 := Lib.hid hF24
       have HF14 := Lib.hid hF14
       have HB4 := Lib.hid hb4
       have k9 : w4.cell? ⟨p, 9, none⟩ = some z9 := cell_of hb4 9
       have y9 := froz_of hb4 9
       have k10 : w4.cell? ⟨p, 10, none⟩ = some z10 := cell_of hb4 10
       have y10 := froz_of hb4 10
       have k11 : w4.cell? ⟨p, 11, none⟩ = some z11 := cell_of hb4 11
       have y11 := froz_of hb4 11
       have k12 : w4.cell? ⟨p, 12, none⟩ = some z12 := cell_of hb4 12
       have y12 := froz_of hb4 12
       have k13 : w4.cell? ⟨p, 13, none⟩ = some z13 := cell_of hb4 13
       have y13 := froz_of hb4 13
       have k14 : w4.cell? ⟨p, 14, none⟩ = some z14 := cell_of hb4 14
       have y14 := froz_of hb4 14
       have k15 : w4.cell? ⟨p, 15, none⟩ = some z15 := cell_of hb4 15
       have y15 := froz_of hb4 15
       clear hf4 HN2 hM hF24 hF14 hb4 m1 m2))
  obtain ⟨W5, hW5⟩ : ∃ W5, W5 = putL w4 p 9 [.pointer (some ⟨pt, 0, none⟩), .map (some w2.heap.size), .map (some (w2.heap.size + 1)), .int .i64 0, .int .i64 (-1), .int .i64 0, .int .i64 (-1)] := ⟨_, rfl⟩
  have hF5 : Fr [p] w4 W5 := by rw [hW5]; exact putL_fr p _ w4 9 (Fr.refl _ _) (.inl (by simp))
  have hb5 : W5.heap[p]? = some (.cells (coreV c.rest ⟨left, .slice As c.st.length ds, tv, dv, ov, pt, bt, w2.heap.size, w2.heap.size + 1⟩) 41 (0, 0)) := by
    have h1 := putL_heap p [.pointer (some ⟨pt, 0, none⟩), .map (some w2.heap.size), .map (some (w2.heap.size + 1)), .int .i64 0, .int .i64 (-1), .int .i64 0, .int .i64 (-1)] w4 9 _ HB4.out
    rw [setL_rest, ← hW5] at h1
    exact h1
  simp only [putL] at hW5
  go_end0
  rw [← hW5]
  have hp1 : p < W1.heap.size := (Array.getElem?_eq_some_iff.1 HB1.out).1
  obtain ⟨t4, t5, t6⟩ := HT4.out
  have hs1 := HF1.out.size
  have hne : ∀ k, W1.heap.size ≤ k → k ∉ [p] := fun k hk hm => by simp at hm; omega
  have hFp : Fr [p] w W5 := (HF1.out.trans (HF14.out.mono (T := [p]) (by simp)) (fun x hx => .inl hx)).trans hF5 (fun x hx => .inl hx)
  have hptl := hptl.out
  have hin := H.out.renew (fun k hk => HX.out k hk) hFp hb5 ((hF5.block pt (Nat.lt_of_lt_of_le hptl HF24.out.size) (hne pt (by omega))).trans ((HF24.out.block pt hptl (by simp)).trans HT1.out))
    ⟨((HT3.out.fr HF24.out (by simp)).fr hF5 (fun k hk => hne k (HT3.out.2 k hk))).1, fun k hk => Nat.le_trans hs1 (HT3.out.2 k hk)⟩ ((HT2.out.fr HF24.out (by simp)).fr hF5 (hne bt t4)) (HM1.out.fr hF5 (hne _ (by have := HF2.out.size; omega))) (HM2.out.fr hF5 (hne _ (by have := HF2.out.size; omega))) (by omega) t5 hptl (by omega) t6
  refine hR.out _ _ ⟨rfl, ⟨_, hin⟩, ⟨[p], hFp, fun k hk => ?_⟩⟩
  simp at hk
  subst hk
  exact H.out.nX k (by simp)
end
end Go.Np.Try
