/- What CheckNames needs. -/
import Derived.Test.YtgfiglcmhlbjjaaQCheckNamesCkW
set_option linter.unusedVariables false
set_option linter.unusedSimpArgs false
namespace Go.Np.Try
open Go.RowKit Go.Proofs Go.Proofs.Ytgfiglcmhlbjjaa.PX Go.Proofs.YtgfiglcmhlbjjaaW.PrintWords
section
variable {X : Nat → Prop} {w w' w1 : World} {p : Nat} {c c' : Co} {a a' : Pl}
theorem CoIn.flushed (h : CoIn X w p c a) : CoIn X (w.setCell ⟨p, 16, none⟩ (.slice none 0 0)) p c.flush { a with ov := .slice none 0 0 } := by
  have hnd := h.nd
  have hlt := h.lt
  have hm : ∀ k, k ∈ a.own p ↔ k = p ∨ k = a.pt ∨ k = a.bt ∨ k = a.bp ∨ k = a.bs ∨ k ∈ a.sv.ownBlock.toList ∨ k ∈ a.tv.ownBlock.toList ∨ k ∈ a.dv.ownBlock.toList ∨ k ∈ a.ov.ownBlock.toList := fun k => by
    unfold Pl.own; simp only [List.mem_cons, List.mem_append]
  have hk : ∀ k ∈ a.own p, k ≠ p → (w.setCell ⟨p, 16, none⟩ (.slice none 0 0)).heap[k]? = w.heap[k]? := fun k h1 h3 => set_far w h3 _
  unfold Pl.own at hnd
  simp only [List.nodup_cons, List.nodup_append, List.mem_cons, List.mem_append, not_or] at hnd
  have hb : (w.setCell ⟨p, 16, none⟩ (.slice none 0 0)).heap[p]? = some (.cells (coreV c.flush { a with ov := .slice none 0 0 }) 41 (0, 0)) := by rw [obj_set h.box 16 _]; rfl
  obtain ⟨q, hm1, hm2, hm3⟩ := h.vts
  refine ⟨hb, (hk _ ((hm _).2 (by grind)) (by grind)).trans h.tal, ?_, ?_, ?_, World.ownsRow_nil _ _ _ _, ⟨q, hm1, hm2.move (hk _ ((hm _).2 (by grind)) (by grind)), hm3⟩, h.prs.move (hk _ ((hm _).2 (by grind)) (by grind)), h.sds.move (hk _ ((hm _).2 (by grind)) (by grind)), ?_, fun k hk' => h.nX k ?_⟩
  · exact h.st.move0 (fun k h1 => hk k ((hm _).2 (by grind)) (by grind))
  · exact h.tst.move0 (fun k h1 => hk k ((hm _).2 (by grind)) (by grind))
  · exact h.dec.move0 (fun k h1 => hk k ((hm _).2 (by grind)) (by grind))
  · exact (own_ov (N := w.heap.size) h.nd h.lt (by simp [Value.ownBlock])).1
  · rcases (own_ov (N := w.heap.size + k + 1) h.nd (fun j hj => by have := h.lt j hj; omega) (by simp [Value.ownBlock])).2 k hk' with h1 | h1
    · exact h1
    · omega
set_option maxHeartbeats 2000000 in
set_option maxRecDepth 100000 in
theorem c_flush (h : CoIn X w p c a) : Calls Try.prog 23 #[.pointer (some ⟨p, 0, none⟩)] w fun e w' => e = .returned a.ov ∧ CoIn X w' p c.flush { a with ov := .slice none 0 0 } ∧ FrX X w w' ∧ w' = w.setCell ⟨p, 16, none⟩ (.slice none 0 0) := by
  have hc : w.cell? ⟨p, 16, none⟩ = some a.ov := h.cells 16
  have hz := froz_of h.box 16
  have H1 := Lib.hid h.flushed
  have H2 := Lib.hid (h.setX 16 (.slice none 0 0))
  obtain ⟨ov, hov⟩ : ∃ ov, a.ov = ov := ⟨_, rfl⟩
  obtain ⟨A, d, hf⟩ := slice_form h.out
  rw [hov] at hf
  subst hf
  rw [hov] at hc
  rw [hov]
  obtain ⟨n, hn⟩ : ∃ n, c.out.length = n := ⟨_, rfl⟩
  rw [hn] at hc
  rw [hn]
  refine calls_k fun R hR => ?_
  clear h hov hn
  go_enter Try.func23, Try.ntmps23
  go_wp2
  exact hR.out _ _ ⟨rfl, H1.out, H2.out, rfl⟩
set_option maxHeartbeats 8000000 in
set_option maxRecDepth 100000 in
theorem c_judge (h : CoIn X w p c a) (hst : okS c.st) (hm : c.m.length < 1000000) (q1 q2 : Int) (hq : wf64 q2) : Calls Try.prog 34 #[.pointer (some ⟨p, 0, none⟩), .agg #[.int .i64 q1, .int .i64 q2]] w fun e w' => e = .returned (.tuple #[.int .i64 (c.judge (q1, q2)).1, .bool (c.judge (q1, q2)).2]) ∧ Fr [] w w' := by
  obtain ⟨W, hW⟩ : ∃ W, W = w.alloc (.cells #[.int .i64 q1, .int .i64 q2] 36) := ⟨_, rfl⟩
  obtain ⟨g, hg⟩ : ∃ g, g = w.heap.size := ⟨_, rfl⟩
  have hF : Fr [] w W := by rw [hW]; exact (Fr.refl _ _).alloc _
  have hbl : W.heap[g]? = some (.cells #[.int .i64 q1, .int .i64 q2] 36 (0, 0)) := by rw [hW, hg]; exact heap_alloc_new _ _
  have hlt : g < W.heap.size := (Array.getElem?_eq_some_iff.1 hbl).1
  have HBL := Lib.hid hbl
  have H1 := Lib.hid (h.fr hF)
  obtain ⟨l1, hl1⟩ : ∃ l, c.lock.1 = l := ⟨_, rfl⟩
  obtain ⟨l2, hl2⟩ : ∃ l, c.lock.2 = l := ⟨_, rfl⟩
  obtain ⟨mr, hmr⟩ : ∃ r, mostR c.st c.m 4 q2 = r := ⟨_, rfl⟩
  have HS : Hid (∀ W', Fr [] W W' → W'.cell? ⟨p, 9, none⟩ = some (.pointer (some ⟨a.pt, 0, none⟩)) ∧ W'.cell? ⟨p, 12, none⟩ = some (.int .i64 l1) ∧ W'.cell? ⟨p, 13, none⟩ = some (.int .i64 l2) ∧ W'.cell? ⟨g, 0, none⟩ = some (.int .i64 q1) ∧ W'.cell? ⟨g, 1, none⟩ = some (.int .i64 q2)) := fun W' hW' => by
    have h2 := H1.out.fr hW'
    have h3 : W'.heap[g]? = some (.cells #[.int .i64 q1, .int .i64 q2] 36 (0, 0)) := (hW'.block g hlt (by simp)).trans HBL.out
    exact ⟨h2.cells 9, by rw [← hl1]; exact h2.cells 12, by rw [← hl2]; exact h2.cells 13, cell_of h3 0, cell_of h3 1⟩
  have HM : Hid (∀ W', Fr [] W W' → Calls Try.prog 33 #[.pointer (some ⟨a.pt, 0, none⟩), .int .i64 4, .int .i64 q2] W' fun e w' => e = .returned (.tuple #[.int .i64 mr.1, .bool mr.2]) ∧ Fr [] W' w') := fun W' hW' => by
    have := zMost ((H1.out.fr hW').tz hst hm) 4 q2 (by decide) hq
    rw [hmr] at this
    exact this
  have hJ : c.judge (q1, q2) = if q2 = -1 then (if l2 = -1 ∨ l1 = q1 then (q1, true) else (-1, true)) else if mr.2 = true ∧ mr.1 = q1 then (if l2 ≤ q2 ∨ l1 = q1 then (q1, true) else (-1, true)) else (0, false) := by
    unfold Co.judge
    simp only [hl1, hl2, hmr]
  rw [hJ]
  obtain ⟨m1, m2⟩ := mr
  simp only at HM
  simp only
  have HF := Lib.hid hF
  have hS0 := HS.out _ (Fr.refl _ _)
  obtain ⟨s0, s1, s2, s3, s4⟩ := hS0
  refine calls_k fun R hR => ?_
  clear h hF hbl hl1 hl2 hmr hJ hq hlt
  by_cases hq2 : q2 = -1
  · subst hq2
    by_cases hll : l2 = -1
    · subst hll
      go_enter Try.func34, Try.ntmps34
      go_upto_region 1 with (fail)
      rw [← hW, ← hg]
      clear hW hg
      go_upto_region 7 with (fail)
      go_quiet (fail)
      go_wp2
      refine hR.out _ _ ⟨?_, HF.out.drewN _⟩
      simp
    · have b1 : (l2 == -1) = false := by simpa using hll
      by_cases hl1 : l1 = q1
      · have b2 : (l1 == q1) = true := by simpa using hl1
        go_enter Try.func34, Try.ntmps34
        go_upto_region 1 with (fail)
        rw [← hW, ← hg]
        clear hW hg
        go_upto_region 7 with (fail)
        go_quiet (fail)
        go_wp2
        refine hR.out _ _ ⟨?_, HF.out.drewN _⟩
        simp [hl1]
      · have b2 : (l1 == q1) = false := by simpa using hl1
        go_enter Try.func34, Try.ntmps34
        go_upto_region 1 with (fail)
        rw [← hW, ← hg]
        clear hW hg
        go_upto_region 7 with (fail)
        go_quiet (fail)
        go_wp2
        refine hR.out _ _ ⟨?_, HF.out.drewN _⟩
        simp [hl1, hll]
  · have b1 : (l2 == -1) = decide (l2 = -1) := by by_cases e : l2 = -1 <;> simp [e]
    have b0 : (q2 != -1) = true := by simpa using hq2
    cases m2 with
    | false =>
      go_enter Try.func34, Try.ntmps34
      go_upto_region 1 with (fail)
      rw [← hW, ← hg]
      clear hW hg
      go_upto_region 3 with (fail)
      have HF0 : Hid (Fr [] W W.drew) := (Fr.refl _ _).drew
      have hS1 := HS.out _ HF0.out
      clear s0 s1 s2 s3 s4
      go_region_held3 (fun W => W.cell? ⟨p, 9, none⟩ = some (.pointer (some ⟨a.pt, 0, none⟩)) ∧ W.cell? ⟨p, 12, none⟩ = some (.int .i64 l1) ∧ W.cell? ⟨p, 13, none⟩ = some (.int .i64 l2) ∧ W.cell? ⟨g, 0, none⟩ = some (.int .i64 q1) ∧ W.cell? ⟨g, 1, none⟩ = some (.int .i64 q2)) (with_reducible assumption)
        (first
          | (go_at_call 33; refine (HM.out _ HF0.out).mono ?_; rintro e w3 ⟨rfl, hf3⟩
             have hS3 := HS.out _ (HF0.out.trans hf3 (by simp))
             have HF3 := Lib.hid (HF.out.trans (HF0.out.trans hf3 (by simp)) (by simp))
             clear hf3 HM))
      all_goals (obtain ⟨s0, s1, s2, s3, s4⟩ := hS3)
      all_goals (clear hS1 HS)
      all_goals
        go_wp2
        refine hR.out _ _ ⟨?_, HF3.out⟩
        simp [hq2]
    | true =>
      by_cases hm1 : m1 = q1
      · have b2 : (m1 != q1) = false := by simpa using hm1
        by_cases hle : l2 ≤ q2
        · have b3 : decide (l2 ≤ q2) = true := decide_eq_true hle
          go_enter Try.func34, Try.ntmps34
          go_upto_region 1 with (fail)
          rw [← hW, ← hg]
          clear hW hg
          go_upto_region 3 with (fail)
          have HF0 : Hid (Fr [] W W.drew) := (Fr.refl _ _).drew
          have hS1 := HS.out _ HF0.out
          clear s0 s1 s2 s3 s4
          go_region_held3 (fun W => W.cell? ⟨p, 9, none⟩ = some (.pointer (some ⟨a.pt, 0, none⟩)) ∧ W.cell? ⟨p, 12, none⟩ = some (.int .i64 l1) ∧ W.cell? ⟨p, 13, none⟩ = some (.int .i64 l2) ∧ W.cell? ⟨g, 0, none⟩ = some (.int .i64 q1) ∧ W.cell? ⟨g, 1, none⟩ = some (.int .i64 q2)) (with_reducible assumption)
            (first
              | (go_at_call 33; refine (HM.out _ HF0.out).mono ?_; rintro e w3 ⟨rfl, hf3⟩
                 have hS3 := HS.out _ (HF0.out.trans hf3 (by simp))
                 have HF3 := Lib.hid (HF.out.trans (HF0.out.trans hf3 (by simp)) (by simp))
                 clear hf3 HM))
          all_goals (obtain ⟨s0, s1, s2, s3, s4⟩ := hS3)
          all_goals (clear hS1 HS)
          all_goals
            go_upto_region 6 with (fail)
            go_quiet (fail)
            go_upto_region 7 with (fail)
            go_quiet (fail)
            go_wp2
            refine hR.out _ _ ⟨?_, by first | exact HF3.out.drewN _ | exact (HF3.out.drewN _).drewN _⟩
            simp [hq2, hm1, hle]
        · have b3 : decide (l2 ≤ q2) = false := decide_eq_false hle
          by_cases hl1 : l1 = q1
          · have b4 : (l1 == q1) = true := by simpa using hl1
            go_enter Try.func34, Try.ntmps34
            go_upto_region 1 with (fail)
            rw [← hW, ← hg]
            clear hW hg
            go_upto_region 3 with (fail)
            have HF0 : Hid (Fr [] W W.drew) := (Fr.refl _ _).drew
            have hS1 := HS.out _ HF0.out
            clear s0 s1 s2 s3 s4
            go_region_held3 (fun W => W.cell? ⟨p, 9, none⟩ = some (.pointer (some ⟨a.pt, 0, none⟩)) ∧ W.cell? ⟨p, 12, none⟩ = some (.int .i64 l1) ∧ W.cell? ⟨p, 13, none⟩ = some (.int .i64 l2) ∧ W.cell? ⟨g, 0, none⟩ = some (.int .i64 q1) ∧ W.cell? ⟨g, 1, none⟩ = some (.int .i64 q2)) (with_reducible assumption)
              (first
                | (go_at_call 33; refine (HM.out _ HF0.out).mono ?_; rintro e w3 ⟨rfl, hf3⟩
                   have hS3 := HS.out _ (HF0.out.trans hf3 (by simp))
                   have HF3 := Lib.hid (HF.out.trans (HF0.out.trans hf3 (by simp)) (by simp))
                   clear hf3 HM))
            all_goals (obtain ⟨s0, s1, s2, s3, s4⟩ := hS3)
            all_goals (clear hS1 HS)
            all_goals
              go_upto_region 6 with (fail)
              go_quiet (fail)
              go_upto_region 7 with (fail)
              go_quiet (fail)
              go_wp2
              refine hR.out _ _ ⟨?_, by first | exact HF3.out.drewN _ | exact (HF3.out.drewN _).drewN _⟩
              simp [hq2, hm1, hl1, if_neg (Int.not_le.2 hle)]
          · have b4 : (l1 == q1) = false := by simpa using hl1
            go_enter Try.func34, Try.ntmps34
            go_upto_region 1 with (fail)
            rw [← hW, ← hg]
            clear hW hg
            go_upto_region 3 with (fail)
            have HF0 : Hid (Fr [] W W.drew) := (Fr.refl _ _).drew
            have hS1 := HS.out _ HF0.out
            clear s0 s1 s2 s3 s4
            go_region_held3 (fun W => W.cell? ⟨p, 9, none⟩ = some (.pointer (some ⟨a.pt, 0, none⟩)) ∧ W.cell? ⟨p, 12, none⟩ = some (.int .i64 l1) ∧ W.cell? ⟨p, 13, none⟩ = some (.int .i64 l2) ∧ W.cell? ⟨g, 0, none⟩ = some (.int .i64 q1) ∧ W.cell? ⟨g, 1, none⟩ = some (.int .i64 q2)) (with_reducible assumption)
              (first
                | (go_at_call 33; refine (HM.out _ HF0.out).mono ?_; rintro e w3 ⟨rfl, hf3⟩
                   have hS3 := HS.out _ (HF0.out.trans hf3 (by simp))
                   have HF3 := Lib.hid (HF.out.trans (HF0.out.trans hf3 (by simp)) (by simp))
                   clear hf3 HM))
            all_goals (obtain ⟨s0, s1, s2, s3, s4⟩ := hS3)
            all_goals (clear hS1 HS)
            all_goals
              go_upto_region 6 with (fail)
              go_quiet (fail)
              go_upto_region 7 with (fail)
              go_quiet (fail)
              go_wp2
              refine hR.out _ _ ⟨?_, by first | exact HF3.out.drewN _ | exact (HF3.out.drewN _).drewN _⟩
              simp [hq2, hm1, hl1, if_neg (Int.not_le.2 hle)]
      · have b2 : (m1 != q1) = true := by simpa using hm1
        go_enter Try.func34, Try.ntmps34
        go_upto_region 1 with (fail)
        rw [← hW, ← hg]
        clear hW hg
        go_upto_region 3 with (fail)
        have HF0 : Hid (Fr [] W W.drew) := (Fr.refl _ _).drew
        have hS1 := HS.out _ HF0.out
        clear s0 s1 s2 s3 s4
        go_region_held3 (fun W => W.cell? ⟨p, 9, none⟩ = some (.pointer (some ⟨a.pt, 0, none⟩)) ∧ W.cell? ⟨p, 12, none⟩ = some (.int .i64 l1) ∧ W.cell? ⟨p, 13, none⟩ = some (.int .i64 l2) ∧ W.cell? ⟨g, 0, none⟩ = some (.int .i64 q1) ∧ W.cell? ⟨g, 1, none⟩ = some (.int .i64 q2)) (with_reducible assumption)
          (first
            | (go_at_call 33; refine (HM.out _ HF0.out).mono ?_; rintro e w3 ⟨rfl, hf3⟩
               have hS3 := HS.out _ (HF0.out.trans hf3 (by simp))
               have HF3 := Lib.hid (HF.out.trans (HF0.out.trans hf3 (by simp)) (by simp))
               clear hf3 HM))
        all_goals (obtain ⟨s0, s1, s2, s3, s4⟩ := hS3)
        all_goals (clear hS1 HS)
        all_goals
          go_wp2
          refine hR.out _ _ ⟨?_, HF3.out⟩
          simp [hq2, hm1]
end
end Go.Np.Try
