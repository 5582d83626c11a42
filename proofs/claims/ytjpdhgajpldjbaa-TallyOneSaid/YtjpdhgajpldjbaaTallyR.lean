/- The document's Add, by hand. (Printed by tools/gen_radd.py.) -/
import Derived.Test.YtjpdhgajpldjbaaTaC
set_option linter.unusedVariables false
set_option linter.unusedSimpArgs false
namespace Go.Np
theorem run_append_none {P : Program} (w : World) (t ty e : TypeId) {i : TypeInfo} (ht : P.underlying t = some (.slice e)) (hi : P.info? e = some i) (a : Addr) (n cap c : Nat) (hn : n ≤ cap) :
    (Builtin.append_ #[t, t] ty #[.slice (some a) n cap, .slice none 0 c]).run P w = .ok (.slice (some a) n cap) w := by
  unfold Builtin.append_
  have e1 : ∀ w, Sem.run P (Builtin.lenOf (Value.slice none 0 c)) w = .ok 0 w := fun w => rfl
  have e2 : ∀ s n w, Sem.run P (Builtin.firstCells s n (Value.slice none 0 c)) w = .ok #[] w := fun s n w => rfl
  have e3 : ∀ a w, Sem.run P (storeCells a []) w = .ok () w := fun a w => rfl
  simp [run_underlying ht, Result.andThen, sizeOf, typeInfo, hi]
  have e1 := e1 w
  have e2 := e2 i.size 0 w
  simp [e1, e2, e3, hn]
end Go.Np
namespace Go.Np.Try
open Go.RowKit Go.Proofs Go.Proofs.Ytjpdhgajpldjbaa.PX Go.Proofs.YtjpdhgajpldjbaaW.PrintWords
def cells4 (q : S41) : List Value := [.int .i64 q.f0, .int .i64 q.f1, .int .i64 q.f2, .int .i64 q.f3]
def flatS (l : List S41) : List Value := l.flatMap cells4
theorem flatS_len (l : List S41) : (flatS l).length = l.length * 4 := by
  induction l with
  | nil => rfl
  | cons q l ih => unfold flatS at *; rw [List.flatMap_cons, List.length_append, ih]; simp [cells4]; omega
theorem flatS_one (l : List S41) : ∀ u ∈ flatS l, u.oneCell' = true := by
  intro u hu
  obtain ⟨q, _, h⟩ := List.mem_flatMap.1 hu
  simp [cells4] at h
  rcases h with rfl | rfl | rfl | rfl <;> rfl
theorem flatS_get : ∀ (l : List S41) (j : Nat), (flatS l)[j]? = (l[j / 4]?).bind (fun q => (cells4 q)[j % 4]?) := by
  intro l
  induction l with
  | nil => intro j; rfl
  | cons q l ih =>
    intro j
    unfold flatS at *
    rw [List.flatMap_cons]
    by_cases h : j < 4
    · rw [List.getElem?_append_left (by simpa [cells4] using h), show j / 4 = 0 by omega, show j % 4 = j by omega]; rfl
    · rw [List.getElem?_append_right (by simp [cells4]; omega), show (cells4 q).length = 4 from rfl, ih, show j / 4 = (j - 4) / 4 + 1 by omega, show j % 4 = (j - 4) % 4 by omega]; rfl
theorem flatS_cells {w : World} {ad : Addr} {l : List S41} (h : k41.C w (some ad) l.length l) : ∀ j u, (flatS l)[j]? = some u → w.cell? (ad.add j) = some u := by
  intro j u hu
  rw [flatS_get] at hu
  cases hq : l[j / 4]? with
  | none => rw [hq] at hu; cases hu
  | some q =>
    rw [hq] at hu
    have hlt := (List.getElem?_eq_some_iff.1 hq).1
    obtain ⟨ad', e, hc⟩ := h.2.2 (by omega)
    injection e with e
    subst e
    obtain ⟨c, hcl, hK, hcc⟩ := hc (j / 4) q hq
    obtain rfl := k41_open hK
    have := hcc (j % 4) u hu
    rw [show j / 4 * k41.sz + j % 4 = j from by show j / 4 * 4 + j % 4 = j; omega] at this
    exact this
theorem flatS_reps (l : List S41) : Reps (fun q cs => cs = cells4 q) 4 l (flatS l) := by
  induction l with
  | nil => exact Reps.none _ _
  | cons q l ih =>
    have h1 : Reps (fun (q : S41) cs => cs = cells4 q) 4 [q] (cells4 q) := by simpa using (Reps.none (fun (q : S41) cs => cs = cells4 q) 4).snoc (p := q) rfl rfl
    have := Kd.reps_append h1 ih
    simpa [flatS] using this
theorem flatS_C {w : World} {base : Nat} {v : Value} {l : List S41} (h : w.ownsRow base 41 4 v l.length (flatS l)) : ∃ A c, v = .slice A l.length c ∧ l.length ≤ c ∧ k41.C w A l.length l := by
  obtain ⟨A, c, he, hl, hr⟩ := OwnRow.reads (R := fun q cs => cs = cells4 q) ⟨flatS l, h, flatS_reps l⟩
  exact ⟨A, c, he, hl, hr.imp_ (Below.refl _ _) (fun q cs hq => by subst hq; exact k41_mk w q)⟩
section
variable {P : Program} {ops : Array Oper} {rest : List Oper} {o : Oper} {a : Act} {Q : Exit → Act → World → Prop}
theorem wp_append_none {w : World} (hg : o.guard = none) (s x : Operand) (t e : TypeId)
    (ho : o.op = .call { callee := .builtin .append, args := #[s, x], argTypes := #[t, t] })
    (ht : P.underlying t = some (.slice e)) {i : TypeInfo} (hi : P.info? e = some i) (ad : Addr) (n cap c : Nat) (hn : n ≤ cap) (hs : a.eval s = .slice (some ad) n cap) (hx : a.eval x = .slice none 0 c)
    (h : wpList P ops Q rest (a.put o.dst (.slice (some ad) n cap)) w) :
    wpList P ops Q (o :: rest) a w := by
  refine wpList_plain hg fun K hK => ?_
  have hr := run_append_none (P := P) w t o.type e ht hi ad n cap c hn
  unfold Oper.wp execOp
  simp only [ho, resolve, invoke, builtin, Sem.run_bind, Sem.run_pure, Result.andThen_ok, List.map_toArray, List.map_cons, List.map_nil, hs, hx, hr]
  exact hK _ _ h
end
theorem some_of_C {α : Type} {d : Kd α} {w : World} {A : Option Addr} {l : List α} (h : d.C w A l.length l) (hl : l ≠ []) : ∃ ad, A = some ad := by
  cases l with
  | nil => exact absurd rfl hl
  | cons x l => obtain ⟨ad, e, _⟩ := h.2.2 (by simp); exact ⟨ad, e⟩
theorem two_put {w : World} {b : Nat} {x y : Value} {t : TypeId} (h : w.heap[b]? = some (.cells #[x, y] t (0, 0))) (u v : Value) : ((w.setCell ⟨b, 0, none⟩ u).setCell ⟨b, 1, none⟩ v).heap[b]? = some (.cells #[u, v] t (0, 0)) := by
  have h1 := obj_set h 0 u
  have h2 := obj_set h1 1 v
  simpa using h2
theorem two_sets {w w4 : World} {b : Nat} (h : Fr [] w w4) (hb : w.heap.size ≤ b) : ∀ u v, Fr [] w ((w4.setCell ⟨b, 0, none⟩ u).setCell ⟨b, 1, none⟩ v) := fun u v => (h.setCell (.inr hb) _).setCell (.inr hb) _
set_option maxHeartbeats 8000000 in
set_option maxRecDepth 100000 in
theorem radd_calls {w : World} {A0 : Option Addr} {c0 : Nat} {st : List Int} {B : Option Addr} {d : Nat} {mS : List S41} (h : RefT w A0 c0 st B d mS) (hm : mS.length < 900000) (K V F x : Int) :
    Calls Try.prog 55 #[.agg #[.slice A0 st.length c0, .slice B mS.length d], .agg #[.int .i64 K, .int .i64 V, .int .i64 F, .int .i64 x]] w fun e w' => ∃ B' d', e = .returned (.tuple #[.agg #[.slice A0 st.length c0, .slice B' (stepR st.length mS ⟨K, V, F, x⟩).length d'], .bool (addR st.length mS ⟨K, V, F, x⟩)]) ∧ RefT w' A0 c0 st B' d' (stepR st.length mS ⟨K, V, F, x⟩) ∧ Fr [] w w' := by
  obtain ⟨W1, hW1⟩ : ∃ W1, W1 = w.alloc (.cells #[.slice A0 st.length c0, .slice B mS.length d] 44) := ⟨_, rfl⟩
  obtain ⟨W2, hW2⟩ : ∃ W2, W2 = W1.alloc (.cells #[.int .i64 K, .int .i64 V, .int .i64 F, .int .i64 x] 41) := ⟨_, rfl⟩
  obtain ⟨W3, hW3⟩ : ∃ W3, W3 = W2.alloc (.cells #[.slice none 0 0, .slice none 0 0] 44) := ⟨_, rfl⟩
  have f1 : Fr [] w W1 := by rw [hW1]; exact (Fr.refl _ _).alloc _
  have f2 : Fr [] W1 W2 := by rw [hW2]; exact (Fr.refl _ _).alloc _
  have f3 : Fr [] W2 W3 := by rw [hW3]; exact (Fr.refl _ _).alloc _
  have s1 : W1.heap.size = w.heap.size + 1 := by rw [hW1]; simp
  have s2 : W2.heap.size = w.heap.size + 1 + 1 := by rw [hW2]; simp [s1]
  have s3 : W3.heap.size = w.heap.size + 1 + 1 + 1 := by rw [hW3]; simp [s2]
  have b1 : W1.heap[w.heap.size]? = some (.cells #[.slice A0 st.length c0, .slice B mS.length d] 44 (0, 0)) := by rw [hW1]; exact heap_alloc_new _ _
  have b2 : W2.heap[w.heap.size + 1]? = some (.cells #[.int .i64 K, .int .i64 V, .int .i64 F, .int .i64 x] 41 (0, 0)) := by rw [hW2, ← s1]; exact heap_alloc_new _ _
  have b3 : W3.heap[w.heap.size + 1 + 1]? = some (.cells #[.slice none 0 0, .slice none 0 0] 44 (0, 0)) := by rw [hW3, ← s2]; exact heap_alloc_new _ _
  have g1 := (f3.block _ (by omega) (by simp)).trans ((f2.block _ (by omega) (by simp)).trans b1)
  have g2 := (f3.block _ (by omega) (by simp)).trans b2
  have fA : Fr [] w W3 := (f1.trans f2 (by simp)).trans f3 (by simp)
  have HOf := Lib.hid (rOf (h.fr fA) (by omega) K V F)
  have HW : Hid (W3 = ((w.alloc (.cells #[.slice A0 st.length c0, .slice B mS.length d] 44)).alloc (.cells #[.int .i64 K, .int .i64 V, .int .i64 F, .int .i64 x] 41)).alloc (.cells #[.slice none 0 0, .slice none 0 0] 44)) := by rw [hW3, hW2, hW1]; exact rfl
  have k10 := cell_of g1 0
  have k11 := cell_of g1 1
  have k20 := cell_of g2 0
  have k21 := cell_of g2 1
  have k22 := cell_of g2 2
  have k23 := cell_of g2 3
  simp only [List.getElem?_toArray, List.getElem?_cons_succ, List.getElem?_cons_zero] at k10 k11 k20 k21 k22 k23
  have HH := Lib.hid h
  have HFA := Lib.hid fA
  have hmx0 : st.length ≤ 9223372036854775807 := h.r0.2.1
  have hmx1 : mS.length ≤ 9223372036854775807 := h.r1.2.1
  have HG1 := Lib.hid g1
  have HG2 := Lib.hid g2
  have HG3 := Lib.hid b3
  have HS3 := Lib.hid s3
  clear f1 f2 f3 s1 s2 s3 b1 b2 b3 g1 g2 fA hW1 hW2 hW3 h
  refine calls_k fun R hR => ?_
  go_enter Try.func55, Try.ntmps55
  go_upto_region 1 with (fail)
  rw [← HW.out]
  cases ho : ofR mS K V F with
  | some y =>
    go_upto_region 2 with (go_at_call 31; refine HOf.out.mono ?_; rintro e w4 ⟨rfl, hF4⟩)
    have n10 := cellF hF4 k10
    have n11 := cellF hF4 k11
    have n20 := cellF hF4 k20
    have n21 := cellF hF4 k21
    have n22 := cellF hF4 k22
    have n23 := cellF hF4 k23
    have h43 := (hF4.block _ (Array.getElem?_eq_some_iff.1 HG3.out).1 (by simp)).trans HG3.out
    have n30 := cell_of h43 0
    have n31 := cell_of h43 1
    have z30 := froz_of h43 0
    have z31 := froz_of h43 1
    have h41 := (hF4.block _ (Array.getElem?_eq_some_iff.1 HG1.out).1 (by simp)).trans HG1.out
    have z11 := froz_of h41 1
    simp only [List.getElem?_toArray, List.getElem?_cons_succ, List.getElem?_cons_zero] at n30 n31
    have H41 := Lib.hid h41
    have H43 := Lib.hid h43
    have HF4 := Lib.hid hF4
    clear k10 k11 k20 k21 k22 k23 hF4 h43 h41
    have hA : addR st.length mS ⟨K, V, F, x⟩ = false := by
      rw [← Bool.not_eq_true]
      simp only [addR, ho, Option.isNone_some, Option.isNone_none, Bool.false_eq_true, Bool.and_eq_true, Bool.or_eq_true, decide_eq_true_eq, Bool.false_and, Bool.true_and, not_false_eq_true, true_and, false_and]
      try omega
    have hS : stepR st.length mS ⟨K, V, F, x⟩ = mS := by unfold stepR; rw [hA]; rfl
    rw [hS, hA] at hR
    have h2 : Hid (∀ u v, Fr [] w ((w4.setCell ⟨w.heap.size + 1 + 1, 0, none⟩ u).setCell ⟨w.heap.size + 1 + 1, 1, none⟩ v)) := two_sets (HFA.out.trans HF4.out (by simp)) (by omega)
    clear hA hS
    go_wp2
    refine bodyPost_ret (results_ct rfl _ _ (w.heap.size + 1 + 1) 44 #[.slice A0 st.length c0, .slice B mS.length d] (0, 0) _ rfl (two_put H43.out _ _) Try.underlying44 rfl (by kernel_rfl)) rfl ?_
    exact hR.out _ _ ⟨B, d, rfl, HH.out.fr (h2.out _ _), h2.out _ _⟩
  | none =>
    go_upto_region 2 with (go_at_call 31; refine HOf.out.mono ?_; rintro e w4 ⟨rfl, hF4⟩)
    have n10 := cellF hF4 k10
    have n11 := cellF hF4 k11
    have n20 := cellF hF4 k20
    have n21 := cellF hF4 k21
    have n22 := cellF hF4 k22
    have n23 := cellF hF4 k23
    have h43 := (hF4.block _ (Array.getElem?_eq_some_iff.1 HG3.out).1 (by simp)).trans HG3.out
    have n30 := cell_of h43 0
    have n31 := cell_of h43 1
    have z30 := froz_of h43 0
    have z31 := froz_of h43 1
    have h41 := (hF4.block _ (Array.getElem?_eq_some_iff.1 HG1.out).1 (by simp)).trans HG1.out
    have z11 := froz_of h41 1
    simp only [List.getElem?_toArray, List.getElem?_cons_succ, List.getElem?_cons_zero] at n30 n31
    have H41 := Lib.hid h41
    have H43 := Lib.hid h43
    have HF4 := Lib.hid hF4
    clear k10 k11 k20 k21 k22 k23 hF4 h43 h41
    by_cases hk4 : K = 4
    · subst hk4
      by_cases q5 : V < 0
      · have hA : addR st.length mS ⟨4, V, F, x⟩ = false := by
          rw [← Bool.not_eq_true]
          simp only [addR, ho, Option.isNone_some, Option.isNone_none, Bool.false_eq_true, Bool.and_eq_true, Bool.or_eq_true, decide_eq_true_eq, Bool.false_and, Bool.true_and, not_false_eq_true, true_and, false_and]
          try omega
        have hS : stepR st.length mS ⟨4, V, F, x⟩ = mS := by unfold stepR; rw [hA]; rfl
        rw [hS, hA] at hR
        have h2 : Hid (∀ u v, Fr [] w ((w4.setCell ⟨w.heap.size + 1 + 1, 0, none⟩ u).setCell ⟨w.heap.size + 1 + 1, 1, none⟩ v)) := two_sets (HFA.out.trans HF4.out (by simp)) (by omega)
        clear hA hS
        go_wp2
        refine bodyPost_ret (results_ct rfl _ _ (w.heap.size + 1 + 1) 44 #[.slice A0 st.length c0, .slice B mS.length d] (0, 0) _ rfl (two_put H43.out _ _) Try.underlying44 rfl (by kernel_rfl)) rfl ?_
        exact hR.out _ _ ⟨B, d, rfl, HH.out.fr (h2.out _ _), h2.out _ _⟩
      · skip
        by_cases q4 : 1000 < V
        · have hA : addR st.length mS ⟨4, V, F, x⟩ = false := by
            rw [← Bool.not_eq_true]
            simp only [addR, ho, Option.isNone_some, Option.isNone_none, Bool.false_eq_true, Bool.and_eq_true, Bool.or_eq_true, decide_eq_true_eq, Bool.false_and, Bool.true_and, not_false_eq_true, true_and, false_and]
            try omega
          have hS : stepR st.length mS ⟨4, V, F, x⟩ = mS := by unfold stepR; rw [hA]; rfl
          rw [hS, hA] at hR
          have h2 : Hid (∀ u v, Fr [] w ((w4.setCell ⟨w.heap.size + 1 + 1, 0, none⟩ u).setCell ⟨w.heap.size + 1 + 1, 1, none⟩ v)) := two_sets (HFA.out.trans HF4.out (by simp)) (by omega)
          clear hA hS
          go_wp2
          refine bodyPost_ret (results_ct rfl _ _ (w.heap.size + 1 + 1) 44 #[.slice A0 st.length c0, .slice B mS.length d] (0, 0) _ rfl (two_put H43.out _ _) Try.underlying44 rfl (by kernel_rfl)) rfl ?_
          exact hR.out _ _ ⟨B, d, rfl, HH.out.fr (h2.out _ _), h2.out _ _⟩
        · skip
          by_cases q3 : F < 0
          · have hA : addR st.length mS ⟨4, V, F, x⟩ = false := by
              rw [← Bool.not_eq_true]
              simp only [addR, ho, Option.isNone_some, Option.isNone_none, Bool.false_eq_true, Bool.and_eq_true, Bool.or_eq_true, decide_eq_true_eq, Bool.false_and, Bool.true_and, not_false_eq_true, true_and, false_and]
              try omega
            have hS : stepR st.length mS ⟨4, V, F, x⟩ = mS := by unfold stepR; rw [hA]; rfl
            rw [hS, hA] at hR
            have h2 : Hid (∀ u v, Fr [] w ((w4.setCell ⟨w.heap.size + 1 + 1, 0, none⟩ u).setCell ⟨w.heap.size + 1 + 1, 1, none⟩ v)) := two_sets (HFA.out.trans HF4.out (by simp)) (by omega)
            clear hA hS
            go_wp2
            refine bodyPost_ret (results_ct rfl _ _ (w.heap.size + 1 + 1) 44 #[.slice A0 st.length c0, .slice B mS.length d] (0, 0) _ rfl (two_put H43.out _ _) Try.underlying44 rfl (by kernel_rfl)) rfl ?_
            exact hR.out _ _ ⟨B, d, rfl, HH.out.fr (h2.out _ _), h2.out _ _⟩
          · skip
            by_cases q2 : (st.length : Int) ≤ F
            · have hA : addR st.length mS ⟨4, V, F, x⟩ = false := by
                rw [← Bool.not_eq_true]
                simp only [addR, ho, Option.isNone_some, Option.isNone_none, Bool.false_eq_true, Bool.and_eq_true, Bool.or_eq_true, decide_eq_true_eq, Bool.false_and, Bool.true_and, not_false_eq_true, true_and, false_and]
                try omega
              have hS : stepR st.length mS ⟨4, V, F, x⟩ = mS := by unfold stepR; rw [hA]; rfl
              rw [hS, hA] at hR
              have h2 : Hid (∀ u v, Fr [] w ((w4.setCell ⟨w.heap.size + 1 + 1, 0, none⟩ u).setCell ⟨w.heap.size + 1 + 1, 1, none⟩ v)) := two_sets (HFA.out.trans HF4.out (by simp)) (by omega)
              clear hA hS
              go_wp2
              refine bodyPost_ret (results_ct rfl _ _ (w.heap.size + 1 + 1) 44 #[.slice A0 st.length c0, .slice B mS.length d] (0, 0) _ rfl (two_put H43.out _ _) Try.underlying44 rfl (by kernel_rfl)) rfl ?_
              exact hR.out _ _ ⟨B, d, rfl, HH.out.fr (h2.out _ _), h2.out _ _⟩
            · skip
              by_cases q1 : x < -1
              · have hA : addR st.length mS ⟨4, V, F, x⟩ = false := by
                  rw [← Bool.not_eq_true]
                  simp only [addR, ho, Option.isNone_some, Option.isNone_none, Bool.false_eq_true, Bool.and_eq_true, Bool.or_eq_true, decide_eq_true_eq, Bool.false_and, Bool.true_and, not_false_eq_true, true_and, false_and]
                  try omega
                have hS : stepR st.length mS ⟨4, V, F, x⟩ = mS := by unfold stepR; rw [hA]; rfl
                rw [hS, hA] at hR
                have h2 : Hid (∀ u v, Fr [] w ((w4.setCell ⟨w.heap.size + 1 + 1, 0, none⟩ u).setCell ⟨w.heap.size + 1 + 1, 1, none⟩ v)) := two_sets (HFA.out.trans HF4.out (by simp)) (by omega)
                clear hA hS
                go_wp2
                refine bodyPost_ret (results_ct rfl _ _ (w.heap.size + 1 + 1) 44 #[.slice A0 st.length c0, .slice B mS.length d] (0, 0) _ rfl (two_put H43.out _ _) Try.underlying44 rfl (by kernel_rfl)) rfl ?_
                exact hR.out _ _ ⟨B, d, rfl, HH.out.fr (h2.out _ _), h2.out _ _⟩
              · skip
                -- the vote counts
                have HS4 : Hid (w.heap.size + 1 + 1 + 1 ≤ w4.heap.size) := by have h0 := HS3.out; show _ ≤ _; rw [← h0]; exact HF4.out.size
                have hbv : (mS.length + 1) * 32 ≤ 140737488355328 := by omega
                have hb63 : mS.length < maxLen := by unfold maxLen; omega
                have hbA : 0 + mS.length ≤ maxLen := by unfold maxLen; omega
                have hbB : (0 + mS.length) * 32 ≤ 140737488355328 := by omega
                have FIN : Hid (∀ (A6 : Option Addr) (c6 : Nat) (w7 : World), w7.ownsRow 0 41 4 (.slice A6 (mS.length + 1) c6) (mS.length + 1) (flatS mS ++ cells4 ⟨4, V, F, x⟩) → Fr [] w4 w7 →
                    ∀ w8, Fr [w.heap.size, w.heap.size + 1 + 1] w7 w8 → RefT w8 A0 c0 st A6 c6 (mS ++ [⟨4, V, F, x⟩]) ∧ Fr [] w w8) := by
                  intro A6 c6 w7 h6 hF6 w8 h7
                  have h6' : w7.ownsRow 0 41 4 (.slice A6 (mS.length + 1) c6) (mS ++ [(⟨4, V, F, x⟩ : S41)]).length (flatS (mS ++ [⟨4, V, F, x⟩])) := by
                    have e : flatS (mS ++ [(⟨4, V, F, x⟩ : S41)]) = flatS mS ++ cells4 ⟨4, V, F, x⟩ := by simp [flatS]
                    rw [e, List.length_append]; exact h6
                  have hFw6 : Fr [] w w7 := (HFA.out.trans HF4.out (by simp)).trans hF6 (by simp)
                  have hF7 : Fr [] w w8 := hFw6.trans h7 (fun y hy => .inr (by simp at hy; omega))
                  have h8 := row_fr h6' h7 (fun k hk hk2 => by
                    simp only [List.mem_cons, List.not_mem_nil, or_false] at hk2
                    rcases hk2 with rfl | rfl
                    · exact row_ne_obj h6 ((hF6.block _ (Array.getElem?_eq_some_iff.1 H41.out).1 (by simp)).trans H41.out) (by decide) hk
                    · exact row_ne_obj h6 ((hF6.block _ (Array.getElem?_eq_some_iff.1 H43.out).1 (by simp)).trans H43.out) (by decide) hk)
                  obtain ⟨B', d', he, hl, hC⟩ := flatS_C h8
                  injection he with e1 e2 e3
                  subst e1 e3
                  exact ⟨⟨(HH.out.fr hF7).r0, HH.out.l0, hC, hl⟩, hF7⟩
                have hA : addR st.length mS ⟨4, V, F, x⟩ = true := by
                  simp only [addR, ho, Option.isNone_none, Bool.true_and, Bool.and_eq_true, Bool.or_eq_true, decide_eq_true_eq]
                  refine ⟨⟨⟨⟨⟨?_, ?_⟩, ?_⟩, ?_⟩, ?_⟩, ?_⟩ <;> first | omega | simp
                have hS : stepR st.length mS ⟨4, V, F, x⟩ = mS ++ [⟨4, V, F, x⟩] := by unfold stepR; rw [hA]; rfl
                rw [hS, hA] at hR
                clear hA hS
                have HO := Lib.hid ho
                clear ho
                obtain ⟨i0, hi, hz0, hz1, hz2⟩ := info_parts info41
                have HI0 := Lib.hid hi
                clear hi hz0 hz1 hz2
                have hown5 : (w4.alloc (.cells #[] 41)).ownsRow 0 41 4 (.slice (some ⟨w4.heap.size, 0, none⟩) 0 0) 0 [] := World.ownsRow_made w4 #[] 0 (Nat.zero_le _) (by unfold maxLen; omega) rfl
                have HO5 := Lib.hid hown5
                have STEP1 : Hid (∀ A5 c5 w6, Fr (Value.slice (some ⟨w4.heap.size, 0, none⟩) 0 0).ownBlock.toList (w4.alloc (.cells #[] 41)) w6 → Fresh (Value.slice (some ⟨w4.heap.size, 0, none⟩) 0 0).ownBlock.toList (Value.slice A5 mS.length c5).ownBlock.toList (w4.alloc (.cells #[] 41)) → Fr [] w4 w6 ∧ ∀ k ∈ (Value.slice A5 mS.length c5).ownBlock.toList, w4.heap.size ≤ k) := by
                  intro A5 c5 w6 hF6 hN6
                  refine ⟨((Fr.refl [] w4).alloc _).trans hF6 (fun k hk => .inr (by simp [Value.ownBlock] at hk; omega)), fun k hk => ?_⟩
                  rcases hN6 k hk with h | h
                  · simp [Value.ownBlock] at h; omega
                  · simp at h; omega
                clear hown5
                have l11 := cellF ((Fr.refl [] w4).alloc (.cells #[] 41)) n11
                have STEP2 : Hid (∀ (v : Value) w6 w7, Fr [] w4 w6 → (∀ k ∈ v.ownBlock.toList, w4.heap.size ≤ k) → Fr v.ownBlock.toList w6 w7 → Fr [] w4 w7) := fun v w6 w7 h1 h2 h3 => h1.trans h3 (fun k hk => .inr (h2 k hk))
                cases B with
                | none =>
                  have hmn : mS = [] := by
                    cases mS with
                    | nil => rfl
                    | cons q l => obtain ⟨ad, e, _⟩ := HH.out.r1.2.2 (by simp); cases e
                  subst hmn
                  go_wp2_with (first
                    | (at_builtin; refine wp_append_none rfl _ _ 39 41 rfl Try.underlying39 HI0.out ⟨w4.heap.size, 0, none⟩ 0 0 d (Nat.le_refl _) rfl rfl ?_; obtain ⟨hF46, hB6⟩ := STEP1.out (some ⟨w4.heap.size, 0, none⟩) 0 _ (Fr.refl _ _) (Fresh.refl _ _); have m20 := cellF hF46 n20; have m21 := cellF hF46 n21; have m22 := cellF hF46 n22; have m23 := cellF hF46 n23; have hr6 := HO5.out; clear l11 HO5; generalize w4.alloc (.cells #[] 41) = w6 at *; have m10 := cellF hF46 n10; have HB6 := Lib.hid hB6; have HF46 := Lib.hid hF46; clear hB6 hF46 HI0)
                    | (at_builtin; refine wp_append1 rfl _ _ 39 41 rfl Try.underlying39 info41 rfl (by decide) hr6 rfl [.int .i64 4, .int .i64 V, .int .i64 F, .int .i64 x] rfl rfl (by simp [Value.oneCell']) hb63 hbv ?_; intro A6 c6 w7 hr7 hF7 hN7; have hF47 := STEP2.out _ _ _ HF46.out HB6.out hF7; have p10 := cellF hF47 n10; have p11 := cellF hF47 n11; have p30 := cellF hF47 n30; have p31 := cellF hF47 n31; have q11 := froz_of ((hF47.block _ (Array.getElem?_eq_some_iff.1 H41.out).1 (by simp)).trans H41.out) 1; have q30 := froz_of ((hF47.block _ (Array.getElem?_eq_some_iff.1 H43.out).1 (by simp)).trans H43.out) 0; have q31 := froz_of ((hF47.block _ (Array.getElem?_eq_some_iff.1 H43.out).1 (by simp)).trans H43.out) 1; have H437 : Hid (∀ u, (w7.setCell ⟨w.heap.size, 1, none⟩ u).heap[w.heap.size + 1 + 1]? = some (.cells #[.slice none 0 0, .slice none 0 0] 44 (0, 0))) := fun u => (set_far w7 (a := ⟨w.heap.size, 1, none⟩) (by show w.heap.size + 1 + 1 ≠ w.heap.size; omega) u).trans ((hF47.block _ (Array.getElem?_eq_some_iff.1 H43.out).1 (by simp)).trans H43.out); have HR7 := Lib.hid hr7; have HF47 := Lib.hid hF47; clear hr7 hF47 hF7 hN7 hr6 m20 m21 m22 m23 m10 n10 n11 n20 n21 n22 n23 n30 n31 z30 z31 z11))
                  refine bodyPost_ret (results_ct rfl _ _ (w.heap.size + 1 + 1) 44 #[.slice A0 st.length c0, .slice A6 1 c6] (0, 0) _ rfl (two_put (H437.out _) _ _) Try.underlying44 rfl (by kernel_rfl)) rfl ?_
                  refine hR.out _ _ ⟨A6, c6, by simp, FIN.out A6 c6 w7 (by simpa [flatS, cells4] using HR7.out) HF47.out _ ?_⟩
                  exact (((Fr.refl _ w7).setCell (.inl (by simp)) _).setCell (.inl (by simp)) _).setCell (.inl (by simp)) _
                | some ad =>
                  have HCS := Lib.hid (flatS_cells (Kd.C_below HH.out.r1 ((((HFA.out.trans HF4.out (by simp)).alloc (.cells #[] 41))).below)))
                  go_wp2_with (first
                    | (at_builtin; refine wp_appendS rfl _ _ 39 41 rfl Try.underlying39 info41 rfl (by decide) HO5.out rfl ad mS.length d (flatS mS) rfl (flatS_len mS) HCS.out (flatS_one mS) hbA hbB ?_; intro A5 c5 w6 hr6 hF6 hN6; simp only [Nat.zero_add, List.nil_append] at hr6 hN6 ⊢; obtain ⟨hF46, hB6⟩ := STEP1.out A5 c5 w6 hF6 hN6; have m20 := cellF hF46 n20; have m21 := cellF hF46 n21; have m22 := cellF hF46 n22; have m23 := cellF hF46 n23; have m10 := cellF hF46 n10; have HB6 := Lib.hid hB6; have HF46 := Lib.hid hF46; clear hB6 hF46 HCS hF6 hN6 l11)
                    | (at_builtin; refine wp_append1 rfl _ _ 39 41 rfl Try.underlying39 info41 rfl (by decide) hr6 rfl [.int .i64 4, .int .i64 V, .int .i64 F, .int .i64 x] rfl rfl (by simp [Value.oneCell']) hb63 hbv ?_; intro A6 c6 w7 hr7 hF7 hN7; have hF47 := STEP2.out _ _ _ HF46.out HB6.out hF7; have p10 := cellF hF47 n10; have p11 := cellF hF47 n11; have p30 := cellF hF47 n30; have p31 := cellF hF47 n31; have q11 := froz_of ((hF47.block _ (Array.getElem?_eq_some_iff.1 H41.out).1 (by simp)).trans H41.out) 1; have q30 := froz_of ((hF47.block _ (Array.getElem?_eq_some_iff.1 H43.out).1 (by simp)).trans H43.out) 0; have q31 := froz_of ((hF47.block _ (Array.getElem?_eq_some_iff.1 H43.out).1 (by simp)).trans H43.out) 1; have H437 : Hid (∀ u, (w7.setCell ⟨w.heap.size, 1, none⟩ u).heap[w.heap.size + 1 + 1]? = some (.cells #[.slice none 0 0, .slice none 0 0] 44 (0, 0))) := fun u => (set_far w7 (a := ⟨w.heap.size, 1, none⟩) (by show w.heap.size + 1 + 1 ≠ w.heap.size; omega) u).trans ((hF47.block _ (Array.getElem?_eq_some_iff.1 H43.out).1 (by simp)).trans H43.out); have HR7 := Lib.hid hr7; have HF47 := Lib.hid hF47; clear hr7 hF47 hF7 hN7 hr6 m20 m21 m22 m23 m10 n10 n11 n20 n21 n22 n23 n30 n31 z30 z31 z11))
                  refine bodyPost_ret (results_ct rfl _ _ (w.heap.size + 1 + 1) 44 #[.slice A0 st.length c0, .slice A6 (mS.length + 1) c6] (0, 0) _ rfl (two_put (H437.out _) _ _) Try.underlying44 rfl (by kernel_rfl)) rfl ?_
                  refine hR.out _ _ ⟨A6, c6, by simp, FIN.out A6 c6 w7 HR7.out HF47.out _ ?_⟩
                  exact (((Fr.refl _ w7).setCell (.inl (by simp)) _).setCell (.inl (by simp)) _).setCell (.inl (by simp)) _
    · by_cases hk5 : K = 5
      · subst hk5
        by_cases q5 : V < 0
        · have hA : addR st.length mS ⟨5, V, F, x⟩ = false := by
            rw [← Bool.not_eq_true]
            simp only [addR, ho, Option.isNone_some, Option.isNone_none, Bool.false_eq_true, Bool.and_eq_true, Bool.or_eq_true, decide_eq_true_eq, Bool.false_and, Bool.true_and, not_false_eq_true, true_and, false_and]
            try omega
          have hS : stepR st.length mS ⟨5, V, F, x⟩ = mS := by unfold stepR; rw [hA]; rfl
          rw [hS, hA] at hR
          have h2 : Hid (∀ u v, Fr [] w ((w4.setCell ⟨w.heap.size + 1 + 1, 0, none⟩ u).setCell ⟨w.heap.size + 1 + 1, 1, none⟩ v)) := two_sets (HFA.out.trans HF4.out (by simp)) (by omega)
          clear hA hS
          go_wp2
          refine bodyPost_ret (results_ct rfl _ _ (w.heap.size + 1 + 1) 44 #[.slice A0 st.length c0, .slice B mS.length d] (0, 0) _ rfl (two_put H43.out _ _) Try.underlying44 rfl (by kernel_rfl)) rfl ?_
          exact hR.out _ _ ⟨B, d, rfl, HH.out.fr (h2.out _ _), h2.out _ _⟩
        · skip
          by_cases q4 : 1000 < V
          · have hA : addR st.length mS ⟨5, V, F, x⟩ = false := by
              rw [← Bool.not_eq_true]
              simp only [addR, ho, Option.isNone_some, Option.isNone_none, Bool.false_eq_true, Bool.and_eq_true, Bool.or_eq_true, decide_eq_true_eq, Bool.false_and, Bool.true_and, not_false_eq_true, true_and, false_and]
              try omega
            have hS : stepR st.length mS ⟨5, V, F, x⟩ = mS := by unfold stepR; rw [hA]; rfl
            rw [hS, hA] at hR
            have h2 : Hid (∀ u v, Fr [] w ((w4.setCell ⟨w.heap.size + 1 + 1, 0, none⟩ u).setCell ⟨w.heap.size + 1 + 1, 1, none⟩ v)) := two_sets (HFA.out.trans HF4.out (by simp)) (by omega)
            clear hA hS
            go_wp2
            refine bodyPost_ret (results_ct rfl _ _ (w.heap.size + 1 + 1) 44 #[.slice A0 st.length c0, .slice B mS.length d] (0, 0) _ rfl (two_put H43.out _ _) Try.underlying44 rfl (by kernel_rfl)) rfl ?_
            exact hR.out _ _ ⟨B, d, rfl, HH.out.fr (h2.out _ _), h2.out _ _⟩
          · skip
            by_cases q3 : F < 0
            · have hA : addR st.length mS ⟨5, V, F, x⟩ = false := by
                rw [← Bool.not_eq_true]
                simp only [addR, ho, Option.isNone_some, Option.isNone_none, Bool.false_eq_true, Bool.and_eq_true, Bool.or_eq_true, decide_eq_true_eq, Bool.false_and, Bool.true_and, not_false_eq_true, true_and, false_and]
                try omega
              have hS : stepR st.length mS ⟨5, V, F, x⟩ = mS := by unfold stepR; rw [hA]; rfl
              rw [hS, hA] at hR
              have h2 : Hid (∀ u v, Fr [] w ((w4.setCell ⟨w.heap.size + 1 + 1, 0, none⟩ u).setCell ⟨w.heap.size + 1 + 1, 1, none⟩ v)) := two_sets (HFA.out.trans HF4.out (by simp)) (by omega)
              clear hA hS
              go_wp2
              refine bodyPost_ret (results_ct rfl _ _ (w.heap.size + 1 + 1) 44 #[.slice A0 st.length c0, .slice B mS.length d] (0, 0) _ rfl (two_put H43.out _ _) Try.underlying44 rfl (by kernel_rfl)) rfl ?_
              exact hR.out _ _ ⟨B, d, rfl, HH.out.fr (h2.out _ _), h2.out _ _⟩
            · skip
              by_cases q2 : (st.length : Int) ≤ F
              · have hA : addR st.length mS ⟨5, V, F, x⟩ = false := by
                  rw [← Bool.not_eq_true]
                  simp only [addR, ho, Option.isNone_some, Option.isNone_none, Bool.false_eq_true, Bool.and_eq_true, Bool.or_eq_true, decide_eq_true_eq, Bool.false_and, Bool.true_and, not_false_eq_true, true_and, false_and]
                  try omega
                have hS : stepR st.length mS ⟨5, V, F, x⟩ = mS := by unfold stepR; rw [hA]; rfl
                rw [hS, hA] at hR
                have h2 : Hid (∀ u v, Fr [] w ((w4.setCell ⟨w.heap.size + 1 + 1, 0, none⟩ u).setCell ⟨w.heap.size + 1 + 1, 1, none⟩ v)) := two_sets (HFA.out.trans HF4.out (by simp)) (by omega)
                clear hA hS
                go_wp2
                refine bodyPost_ret (results_ct rfl _ _ (w.heap.size + 1 + 1) 44 #[.slice A0 st.length c0, .slice B mS.length d] (0, 0) _ rfl (two_put H43.out _ _) Try.underlying44 rfl (by kernel_rfl)) rfl ?_
                exact hR.out _ _ ⟨B, d, rfl, HH.out.fr (h2.out _ _), h2.out _ _⟩
              · skip
                by_cases q1 : x < -1
                · have hA : addR st.length mS ⟨5, V, F, x⟩ = false := by
                    rw [← Bool.not_eq_true]
                    simp only [addR, ho, Option.isNone_some, Option.isNone_none, Bool.false_eq_true, Bool.and_eq_true, Bool.or_eq_true, decide_eq_true_eq, Bool.false_and, Bool.true_and, not_false_eq_true, true_and, false_and]
                    try omega
                  have hS : stepR st.length mS ⟨5, V, F, x⟩ = mS := by unfold stepR; rw [hA]; rfl
                  rw [hS, hA] at hR
                  have h2 : Hid (∀ u v, Fr [] w ((w4.setCell ⟨w.heap.size + 1 + 1, 0, none⟩ u).setCell ⟨w.heap.size + 1 + 1, 1, none⟩ v)) := two_sets (HFA.out.trans HF4.out (by simp)) (by omega)
                  clear hA hS
                  go_wp2
                  refine bodyPost_ret (results_ct rfl _ _ (w.heap.size + 1 + 1) 44 #[.slice A0 st.length c0, .slice B mS.length d] (0, 0) _ rfl (two_put H43.out _ _) Try.underlying44 rfl (by kernel_rfl)) rfl ?_
                  exact hR.out _ _ ⟨B, d, rfl, HH.out.fr (h2.out _ _), h2.out _ _⟩
                · skip
                  -- the vote counts
                  have HS4 : Hid (w.heap.size + 1 + 1 + 1 ≤ w4.heap.size) := by have h0 := HS3.out; show _ ≤ _; rw [← h0]; exact HF4.out.size
                  have hbv : (mS.length + 1) * 32 ≤ 140737488355328 := by omega
                  have hb63 : mS.length < maxLen := by unfold maxLen; omega
                  have hbA : 0 + mS.length ≤ maxLen := by unfold maxLen; omega
                  have hbB : (0 + mS.length) * 32 ≤ 140737488355328 := by omega
                  have FIN : Hid (∀ (A6 : Option Addr) (c6 : Nat) (w7 : World), w7.ownsRow 0 41 4 (.slice A6 (mS.length + 1) c6) (mS.length + 1) (flatS mS ++ cells4 ⟨5, V, F, x⟩) → Fr [] w4 w7 →
                      ∀ w8, Fr [w.heap.size, w.heap.size + 1 + 1] w7 w8 → RefT w8 A0 c0 st A6 c6 (mS ++ [⟨5, V, F, x⟩]) ∧ Fr [] w w8) := by
                    intro A6 c6 w7 h6 hF6 w8 h7
                    have h6' : w7.ownsRow 0 41 4 (.slice A6 (mS.length + 1) c6) (mS ++ [(⟨5, V, F, x⟩ : S41)]).length (flatS (mS ++ [⟨5, V, F, x⟩])) := by
                      have e : flatS (mS ++ [(⟨5, V, F, x⟩ : S41)]) = flatS mS ++ cells4 ⟨5, V, F, x⟩ := by simp [flatS]
                      rw [e, List.length_append]; exact h6
                    have hFw6 : Fr [] w w7 := (HFA.out.trans HF4.out (by simp)).trans hF6 (by simp)
                    have hF7 : Fr [] w w8 := hFw6.trans h7 (fun y hy => .inr (by simp at hy; omega))
                    have h8 := row_fr h6' h7 (fun k hk hk2 => by
                      simp only [List.mem_cons, List.not_mem_nil, or_false] at hk2
                      rcases hk2 with rfl | rfl
                      · exact row_ne_obj h6 ((hF6.block _ (Array.getElem?_eq_some_iff.1 H41.out).1 (by simp)).trans H41.out) (by decide) hk
                      · exact row_ne_obj h6 ((hF6.block _ (Array.getElem?_eq_some_iff.1 H43.out).1 (by simp)).trans H43.out) (by decide) hk)
                    obtain ⟨B', d', he, hl, hC⟩ := flatS_C h8
                    injection he with e1 e2 e3
                    subst e1 e3
                    exact ⟨⟨(HH.out.fr hF7).r0, HH.out.l0, hC, hl⟩, hF7⟩
                  have hA : addR st.length mS ⟨5, V, F, x⟩ = true := by
                    simp only [addR, ho, Option.isNone_none, Bool.true_and, Bool.and_eq_true, Bool.or_eq_true, decide_eq_true_eq]
                    refine ⟨⟨⟨⟨⟨?_, ?_⟩, ?_⟩, ?_⟩, ?_⟩, ?_⟩ <;> first | omega | simp
                  have hS : stepR st.length mS ⟨5, V, F, x⟩ = mS ++ [⟨5, V, F, x⟩] := by unfold stepR; rw [hA]; rfl
                  rw [hS, hA] at hR
                  clear hA hS
                  have HO := Lib.hid ho
                  clear ho
                  obtain ⟨i0, hi, hz0, hz1, hz2⟩ := info_parts info41
                  have HI0 := Lib.hid hi
                  clear hi hz0 hz1 hz2
                  have hown5 : (w4.alloc (.cells #[] 41)).ownsRow 0 41 4 (.slice (some ⟨w4.heap.size, 0, none⟩) 0 0) 0 [] := World.ownsRow_made w4 #[] 0 (Nat.zero_le _) (by unfold maxLen; omega) rfl
                  have HO5 := Lib.hid hown5
                  have STEP1 : Hid (∀ A5 c5 w6, Fr (Value.slice (some ⟨w4.heap.size, 0, none⟩) 0 0).ownBlock.toList (w4.alloc (.cells #[] 41)) w6 → Fresh (Value.slice (some ⟨w4.heap.size, 0, none⟩) 0 0).ownBlock.toList (Value.slice A5 mS.length c5).ownBlock.toList (w4.alloc (.cells #[] 41)) → Fr [] w4 w6 ∧ ∀ k ∈ (Value.slice A5 mS.length c5).ownBlock.toList, w4.heap.size ≤ k) := by
                    intro A5 c5 w6 hF6 hN6
                    refine ⟨((Fr.refl [] w4).alloc _).trans hF6 (fun k hk => .inr (by simp [Value.ownBlock] at hk; omega)), fun k hk => ?_⟩
                    rcases hN6 k hk with h | h
                    · simp [Value.ownBlock] at h; omega
                    · simp at h; omega
                  clear hown5
                  have l11 := cellF ((Fr.refl [] w4).alloc (.cells #[] 41)) n11
                  have STEP2 : Hid (∀ (v : Value) w6 w7, Fr [] w4 w6 → (∀ k ∈ v.ownBlock.toList, w4.heap.size ≤ k) → Fr v.ownBlock.toList w6 w7 → Fr [] w4 w7) := fun v w6 w7 h1 h2 h3 => h1.trans h3 (fun k hk => .inr (h2 k hk))
                  cases B with
                  | none =>
                    have hmn : mS = [] := by
                      cases mS with
                      | nil => rfl
                      | cons q l => obtain ⟨ad, e, _⟩ := HH.out.r1.2.2 (by simp); cases e
                    subst hmn
                    go_wp2_with (first
                      | (at_builtin; refine wp_append_none rfl _ _ 39 41 rfl Try.underlying39 HI0.out ⟨w4.heap.size, 0, none⟩ 0 0 d (Nat.le_refl _) rfl rfl ?_; obtain ⟨hF46, hB6⟩ := STEP1.out (some ⟨w4.heap.size, 0, none⟩) 0 _ (Fr.refl _ _) (Fresh.refl _ _); have m20 := cellF hF46 n20; have m21 := cellF hF46 n21; have m22 := cellF hF46 n22; have m23 := cellF hF46 n23; have hr6 := HO5.out; clear l11 HO5; generalize w4.alloc (.cells #[] 41) = w6 at *; have m10 := cellF hF46 n10; have HB6 := Lib.hid hB6; have HF46 := Lib.hid hF46; clear hB6 hF46 HI0)
                      | (at_builtin; refine wp_append1 rfl _ _ 39 41 rfl Try.underlying39 info41 rfl (by decide) hr6 rfl [.int .i64 5, .int .i64 V, .int .i64 F, .int .i64 x] rfl rfl (by simp [Value.oneCell']) hb63 hbv ?_; intro A6 c6 w7 hr7 hF7 hN7; have hF47 := STEP2.out _ _ _ HF46.out HB6.out hF7; have p10 := cellF hF47 n10; have p11 := cellF hF47 n11; have p30 := cellF hF47 n30; have p31 := cellF hF47 n31; have q11 := froz_of ((hF47.block _ (Array.getElem?_eq_some_iff.1 H41.out).1 (by simp)).trans H41.out) 1; have q30 := froz_of ((hF47.block _ (Array.getElem?_eq_some_iff.1 H43.out).1 (by simp)).trans H43.out) 0; have q31 := froz_of ((hF47.block _ (Array.getElem?_eq_some_iff.1 H43.out).1 (by simp)).trans H43.out) 1; have H437 : Hid (∀ u, (w7.setCell ⟨w.heap.size, 1, none⟩ u).heap[w.heap.size + 1 + 1]? = some (.cells #[.slice none 0 0, .slice none 0 0] 44 (0, 0))) := fun u => (set_far w7 (a := ⟨w.heap.size, 1, none⟩) (by show w.heap.size + 1 + 1 ≠ w.heap.size; omega) u).trans ((hF47.block _ (Array.getElem?_eq_some_iff.1 H43.out).1 (by simp)).trans H43.out); have HR7 := Lib.hid hr7; have HF47 := Lib.hid hF47; clear hr7 hF47 hF7 hN7 hr6 m20 m21 m22 m23 m10 n10 n11 n20 n21 n22 n23 n30 n31 z30 z31 z11))
                    refine bodyPost_ret (results_ct rfl _ _ (w.heap.size + 1 + 1) 44 #[.slice A0 st.length c0, .slice A6 1 c6] (0, 0) _ rfl (two_put (H437.out _) _ _) Try.underlying44 rfl (by kernel_rfl)) rfl ?_
                    refine hR.out _ _ ⟨A6, c6, by simp, FIN.out A6 c6 w7 (by simpa [flatS, cells4] using HR7.out) HF47.out _ ?_⟩
                    exact (((Fr.refl _ w7).setCell (.inl (by simp)) _).setCell (.inl (by simp)) _).setCell (.inl (by simp)) _
                  | some ad =>
                    have HCS := Lib.hid (flatS_cells (Kd.C_below HH.out.r1 ((((HFA.out.trans HF4.out (by simp)).alloc (.cells #[] 41))).below)))
                    go_wp2_with (first
                      | (at_builtin; refine wp_appendS rfl _ _ 39 41 rfl Try.underlying39 info41 rfl (by decide) HO5.out rfl ad mS.length d (flatS mS) rfl (flatS_len mS) HCS.out (flatS_one mS) hbA hbB ?_; intro A5 c5 w6 hr6 hF6 hN6; simp only [Nat.zero_add, List.nil_append] at hr6 hN6 ⊢; obtain ⟨hF46, hB6⟩ := STEP1.out A5 c5 w6 hF6 hN6; have m20 := cellF hF46 n20; have m21 := cellF hF46 n21; have m22 := cellF hF46 n22; have m23 := cellF hF46 n23; have m10 := cellF hF46 n10; have HB6 := Lib.hid hB6; have HF46 := Lib.hid hF46; clear hB6 hF46 HCS hF6 hN6 l11)
                      | (at_builtin; refine wp_append1 rfl _ _ 39 41 rfl Try.underlying39 info41 rfl (by decide) hr6 rfl [.int .i64 5, .int .i64 V, .int .i64 F, .int .i64 x] rfl rfl (by simp [Value.oneCell']) hb63 hbv ?_; intro A6 c6 w7 hr7 hF7 hN7; have hF47 := STEP2.out _ _ _ HF46.out HB6.out hF7; have p10 := cellF hF47 n10; have p11 := cellF hF47 n11; have p30 := cellF hF47 n30; have p31 := cellF hF47 n31; have q11 := froz_of ((hF47.block _ (Array.getElem?_eq_some_iff.1 H41.out).1 (by simp)).trans H41.out) 1; have q30 := froz_of ((hF47.block _ (Array.getElem?_eq_some_iff.1 H43.out).1 (by simp)).trans H43.out) 0; have q31 := froz_of ((hF47.block _ (Array.getElem?_eq_some_iff.1 H43.out).1 (by simp)).trans H43.out) 1; have H437 : Hid (∀ u, (w7.setCell ⟨w.heap.size, 1, none⟩ u).heap[w.heap.size + 1 + 1]? = some (.cells #[.slice none 0 0, .slice none 0 0] 44 (0, 0))) := fun u => (set_far w7 (a := ⟨w.heap.size, 1, none⟩) (by show w.heap.size + 1 + 1 ≠ w.heap.size; omega) u).trans ((hF47.block _ (Array.getElem?_eq_some_iff.1 H43.out).1 (by simp)).trans H43.out); have HR7 := Lib.hid hr7; have HF47 := Lib.hid hF47; clear hr7 hF47 hF7 hN7 hr6 m20 m21 m22 m23 m10 n10 n11 n20 n21 n22 n23 n30 n31 z30 z31 z11))
                    refine bodyPost_ret (results_ct rfl _ _ (w.heap.size + 1 + 1) 44 #[.slice A0 st.length c0, .slice A6 (mS.length + 1) c6] (0, 0) _ rfl (two_put (H437.out _) _ _) Try.underlying44 rfl (by kernel_rfl)) rfl ?_
                    refine hR.out _ _ ⟨A6, c6, by simp, FIN.out A6 c6 w7 HR7.out HF47.out _ ?_⟩
                    exact (((Fr.refl _ w7).setCell (.inl (by simp)) _).setCell (.inl (by simp)) _).setCell (.inl (by simp)) _
      · have hA : addR st.length mS ⟨K, V, F, x⟩ = false := by
          rw [← Bool.not_eq_true]
          simp only [addR, ho, Option.isNone_some, Option.isNone_none, Bool.false_eq_true, Bool.and_eq_true, Bool.or_eq_true, decide_eq_true_eq, Bool.false_and, Bool.true_and, not_false_eq_true, true_and, false_and]
          try omega
        have hS : stepR st.length mS ⟨K, V, F, x⟩ = mS := by unfold stepR; rw [hA]; rfl
        rw [hS, hA] at hR
        have h2 : Hid (∀ u v, Fr [] w ((w4.setCell ⟨w.heap.size + 1 + 1, 0, none⟩ u).setCell ⟨w.heap.size + 1 + 1, 1, none⟩ v)) := two_sets (HFA.out.trans HF4.out (by simp)) (by omega)
        clear hA hS
        go_wp2
        refine bodyPost_ret (results_ct rfl _ _ (w.heap.size + 1 + 1) 44 #[.slice A0 st.length c0, .slice B mS.length d] (0, 0) _ rfl (two_put H43.out _ _) Try.underlying44 rfl (by kernel_rfl)) rfl ?_
        exact hR.out _ _ ⟨B, d, rfl, HH.out.fr (h2.out _ _), h2.out _ _⟩
end Go.Np.Try
