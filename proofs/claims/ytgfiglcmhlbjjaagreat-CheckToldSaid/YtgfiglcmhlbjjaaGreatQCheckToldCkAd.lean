/- What CheckTold needs. -/
import Derived.Test.YtgfiglcmhlbjjaaGreatQCheckToldCkAc
import Derived.Test.YtgfiglcmhlbjjaaGreatQCheckToldCkS
import Derived.Test.YtgfiglcmhlbjjaaGreatQCheckToldCkG
import Derived.Deep.Cut
import Derived.WalkMore
set_option linter.unusedVariables false
set_option linter.unusedSimpArgs false
namespace Go.Np.Tryz
open Go.RowKit Go.Proofs Go.Proofs.YtgfiglcmhlbjjaaGreat.PX Go.Proofs.YtgfiglcmhlbjjaaGreatW.PrintWords
def Am.mcells (r : Am) : List Value := [.int .i64 r.kd, .int .i64 r.fr, .int .i64 r.ix, .int .i64 r.vw, .int .i64 r.vl, .int .i64 r.pr, .int .i64 0, .int .i64 0, .int .i64 0, .int .i64 0, .int .i64 0, .int .i64 0, .slice none 0 0]
def flatM (l : List Am) : List Value := l.flatMap Am.mcells
theorem flatM_snoc (l : List Am) (m : Am) : flatM (l ++ [m]) = flatM l ++ m.mcells := by unfold flatM; rw [List.flatMap_append]; simp
theorem flatM_get : ∀ (l : List Am) (k j : Nat) (r : Am), l[k]? = some r → j < 13 → (flatM l)[k * 13 + j]? = r.mcells[j]? := by
  intro l
  induction l with
  | nil => intro k j r h _; simp at h
  | cons a l ih =>
    intro k j r h hj
    have e : flatM (a :: l) = a.mcells ++ flatM l := by unfold flatM; rw [List.flatMap_cons]
    rw [e]
    cases k with
    | zero =>
      simp at h
      subst h
      rw [Nat.zero_mul, Nat.zero_add, List.getElem?_append_left (by simp [Am.mcells]; omega)]
    | succ k =>
      rw [List.getElem?_append_right (by simp [Am.mcells]; omega)]
      have : (k + 1) * 13 + j - a.mcells.length = k * 13 + j := by simp [Am.mcells]; omega
      rw [this]
      exact ih k j r (by simpa using h) hj
theorem infoM : (Tryz.prog.info? 32).map (fun i => (i.zero, i.size, i.bytes)) = some (some (.agg #[.int .i64 0, .int .i64 0, .int .i64 0, .int .i64 0, .int .i64 0, .int .i64 0, .int .i64 0, .int .i64 0, .int .i64 0, .int .i64 0, .int .i64 0, .int .i64 0, .slice none 0 0]), 13, 120) := by kernel_rfl
def RowM (base : Nat) (w : World) (v : Value) (l : List Am) : Prop := w.ownsRow 0 32 13 v l.length (flatM l) ∧ ∀ k ∈ v.ownBlock.toList, base ≤ k
theorem RowM.fr {base : Nat} {w w' : World} {v : Value} {l : List Am} (h : RowM base w v l) (hf : Fr [] w w') : RowM base w' v l := ⟨row_fr h.1 hf (by simp), h.2⟩
theorem RowM.frX {X : Nat → Prop} {base : Nat} {w w' : World} {v : Value} {l : List Am} (h : RowM base w v l) (hf : FrX X w w') (hX : ∀ k ∈ v.ownBlock.toList, X k) : RowM base w' v l :=
  ⟨row_move h.1 (fun k e => hf.block (row_lt h.1 k (by simp [e])) (hX k (by simp [e]))), h.2⟩
section
variable {X : Nat → Prop} {w w' w1 : World} {p : Nat} {c c' : Co} {a a' : Pl}
theorem send_rd (h : CoIn X w p c a) (hX : ∀ k, X k → k < w.heap.size) (m : Am) (hm : m.too = -1) (ho : c.out.length ≤ 100000000) {l ext : List Am} (hl : c.out = l ++ ext) {A : Option Addr} (hr : RdA w A l) (hA : ∀ g, A = some ⟨g, 0, none⟩ → g ≠ p) :
    Calls Tryz.prog 45 #[.pointer (some ⟨p, 0, none⟩), m.msg] w fun e w' => e = .returned (.tuple #[]) ∧ ∃ ov, CoIn X w' p (c.send m) { a with ov := ov } ∧ FrX X w w' ∧ RdA w' A l := by
  refine (c_send2 h hX m hm ho).mono ?_
  rintro e w' ⟨rfl, ov, h1, h2, h3, h4⟩
  refine ⟨rfl, ov, h1, h2, fun j u hu => ?_⟩
  obtain ⟨g, eg, hc⟩ := hr j u hu
  by_cases hg : g ∈ a.ov.ownBlock.toList
  · obtain ⟨A', d', hf⟩ := slice_form h.out
    obtain ⟨g', e', hc'⟩ := h4 A' d' hf j u (by rw [hl, flatA_add, List.getElem?_append_left (List.getElem?_eq_some_iff.1 hu).1]; exact hu)
    rw [hf, e'] at hg
    simp [Value.ownBlock] at hg
    subst hg
    exact ⟨g, eg, hc'⟩
  · exact ⟨g, eg, (h3.cell (lt_cell hc) (by simp only [List.mem_cons, not_or]; exact ⟨hA g eg, hg⟩)).trans hc⟩
theorem votes_len (c : Co) (k : Int) : (c.votesM k).length ≤ 1 := by unfold Co.votesM; split <;> simp
theorem votes_too (c : Co) (k : Int) : ∀ m ∈ c.votesM k, m.too = -1 := by
  intro m hm
  unfold Co.votesM at hm
  split at hm
  · simp at hm; rw [hm]; rfl
  · simp at hm
set_option maxHeartbeats 16000000 in
set_option maxRecDepth 100000 in
theorem c_again (h : CoIn X w p c a) (hX : ∀ k, X k → k < w.heap.size) (hok : c.Ok) (ho : c.out.length ≤ 20000000) :
    Calls Tryz.prog 34 #[.pointer (some ⟨p, 0, none⟩)] w fun e w' => e = .returned (.tuple #[]) ∧ CoAt X w' p c.again ∧ FrX X w w' := by
  obtain ⟨x1, hx1⟩ : ∃ x, ((alook c.props c.view).getD (0, 0)).1 = x := ⟨_, rfl⟩
  obtain ⟨x2, hx2⟩ : ∃ x, ((alook c.props c.view).getD (0, 0)).2 = x := ⟨_, rfl⟩
  obtain ⟨B, hB⟩ : ∃ B, (alook c.props c.view).isSome = B := ⟨_, rfl⟩
  obtain ⟨L, hL⟩ : ∃ L, c.leads c.me c.view = L := ⟨_, rfl⟩
  obtain ⟨of, hof⟩ : ∃ of, c.offer = of := ⟨_, rfl⟩
  obtain ⟨Lk, hLk⟩ : ∃ Lk : Nat → List Am, Lk = fun k => (if B = true ∧ L = true then [of] else []) ++ (([4, 5] : List Int).take k).flatMap c.votesM := ⟨_, rfl⟩
  have HL0 : Hid (Lk 0 = if B = true ∧ L = true then [of] else []) := by show _ = _; rw [hLk]; simp
  have HLS : Hid (∀ k kd, ([4, 5] : List Int)[k]? = some kd → Lk (k + 1) = Lk k ++ c.votesM kd) := fun k kd hk => by
    rw [hLk]
    simp only [List.take_add_one, hk, List.flatMap_append, List.append_assoc]
    simp
  have HL2 : Hid (c.again = { c with out := c.out ++ (Lk 2).filter fun r => !(c.out.any fun b => Co.sameM b r) }) := by
    show _ = _
    unfold Co.again Co.again0
    rw [hLk, hB, hL, hof]
    simp
  have HLL : Hid (∀ k, (Lk k).length ≤ 3) := fun k => by
    have h1 : (if B = true ∧ L = true then [of] else []).length ≤ 1 := by split <;> simp
    have h2 := votes_len c 4
    have h3 := votes_len c 5
    rw [hLk]
    match k with
    | 0 => simp at h1 ⊢; omega
    | 1 => simp at h1 ⊢; omega
    | k + 2 => simp at h1 ⊢; omega
  have HLT : Hid (∀ k, ∀ m ∈ Lk k, m.too = -1) := fun k m hm => by
    rw [hLk] at hm
    rcases List.mem_append.1 hm with hm | hm
    · split at hm
      · simp at hm; rw [hm, ← hof]; rfl
      · simp at hm
    · obtain ⟨kd, _, hm⟩ := List.mem_flatMap.1 hm
      exact votes_too c kd m hm
  have H := Lib.hid h
  have HX := Lib.hid hX
  have HOK := Lib.hid hok
  have HO := Lib.hid ho
  have hml : c.m.length < 1000000 := Nat.lt_of_le_of_lt (hok.votes.len hok.st.2.1) (by omega)
  have HML := Lib.hid hml
  have HCL : Hid (∀ W, Fr [] w W → W.cell? ⟨p, 10, none⟩ = some (.map (some a.bp)) ∧ W.cell? ⟨p, 5, none⟩ = some (.int .i64 c.view)) := fun W hW => ⟨(h.fr hW).cells 10, (h.fr hW).cells 5⟩
  have HCM : Hid (∀ W, Fr [] w W → W.cell? ⟨p, 9, none⟩ = some (.pointer (some ⟨a.pt, 0, none⟩)) ∧ W.cell? ⟨p, 5, none⟩ = some (.int .i64 c.view) ∧ W.cell? ⟨p, 0, none⟩ = some (.int .i64 c.me)) := fun W hW => ⟨(h.fr hW).cells 9, (h.fr hW).cells 5, (h.fr hW).cells 0⟩
  have HLD : Hid (∀ W, Fr [] w W → Calls Tryz.prog 37 #[.pointer (some ⟨p, 0, none⟩), .int .i64 c.me, .int .i64 c.view] W fun e w' => e = .returned (.bool L) ∧ ∃ n, w' = W.drewN n) := fun W hW => by
    have := c_leads (h.fr hW) hok.st.2.1 c.me c.view
    rw [hL] at this
    exact this
  have HPR : Hid (∀ W, Fr [] w W → Calls Tryz.prog 46 #[.pointer (some ⟨p, 0, none⟩)] W fun e w' => e = .returned (.agg #[.int .i64 of.kd, .int .i64 of.fr, .int .i64 of.ix, .int .i64 of.vw, .int .i64 of.vl, .int .i64 of.pr, .int .i64 0, .int .i64 0, .int .i64 0, .int .i64 0, .int .i64 0, .int .i64 0, .slice none 0 0]) ∧ Fr [] W w') := fun W hW => by
    have := c_proposal (h.fr hW)
    rw [hof] at this
    exact this
  have HVW : Hid (wf64 c.view ∧ wf64 c.me) := ⟨wfI (by have := hok.view; omega) (by have := hok.view; omega), wfI (by have := hok.me; omega) (by have := hok.me; have := hok.st.2.1; omega)⟩
  have HVT : Hid (∀ W kd ov ob, Fr [] w W → (kd = 4 ∨ kd = 5) → (ofR c.m kd c.view c.me).getD 0 = ov → (ofR c.m kd c.view c.me).isSome = ob → Calls Tryz.prog 54 #[.pointer (some ⟨a.pt, 0, none⟩), .int .i64 kd, .int .i64 c.view, .int .i64 c.me] W fun e w' => e = .returned (.tuple #[.int .i64 ov, .bool ob]) ∧ Fr [] W w') := fun W kd ov ob hW hk e1 e2 => by
    have := zVote ((h.fr hW).tz hok.st hml) kd c.view c.me ⟨by rcases hk with rfl | rfl <;> decide, HVW.out.1, HVW.out.2⟩
    rw [e1, e2] at this
    exact this
  have HVO : Hid (∀ W kd x vm, Fr [] w W → c.voteM kd x = vm → Calls Tryz.prog 55 #[.pointer (some ⟨p, 0, none⟩), .int .i64 kd, .int .i64 x] W fun e w' => e = .returned (.agg #[.int .i64 vm.kd, .int .i64 vm.fr, .int .i64 vm.ix, .int .i64 vm.vw, .int .i64 vm.vl, .int .i64 vm.pr, .int .i64 0, .int .i64 0, .int .i64 0, .int .i64 0, .int .i64 0, .int .i64 0, .slice none 0 0]) ∧ Fr [] W w') := fun W kd x vm hW e => by
    have := c_vote (h.fr hW) kd x
    rw [e] at this
    exact this
  have HOV : Hid (∃ Ao do_, a.ov = .slice Ao c.out.length do_) := slice_form h.out
  obtain ⟨Ao, dq, HOV⟩ := HOV.out
  have HOV := Lib.hid HOV
  obtain ⟨NO, hNO⟩ : ∃ n, c.out.length = n := ⟨_, rfl⟩
  have HNO := Lib.hid hNO
  have HRD : Hid (RdA w Ao c.out ∧ ∀ g, Ao = some ⟨g, 0, none⟩ → g ≠ p) := by
    have h1 := h.out
    rw [HOV.out] at h1
    refine ⟨RdA.of h1, fun g e eg => ?_⟩
    exact row_ne_obj h1 h.box (by decide) (by rw [e, eg]; simp [Value.ownBlock])
  have HC16 : Hid (∀ W, Fr [] w W → W.cell? ⟨p, 16, none⟩ = some (.slice Ao NO dq)) := fun W hW => by rw [← hNO, (h.fr hW).cells 16, ← HOV.out]; rfl
  -- the first look-up
  have hF0 : Fr [] w w.drew := (Fr.refl _ _).drew
  have hS0 := HCL.out _ hF0
  have hl0 : (Instr.lookup 71 (.map (some a.bp)) (.int .i64 c.view) true).run Tryz.prog w.drew = .ok (.tuple #[.agg #[.int .i64 x1, .int .i64 x2], .bool B]) w.drew := by
    have := (h.fr hF0).look c.view true
    rw [hx1, hx2, hB] at this
    exact this
  have hF1 : Fr [] w (World.drew (World.alloc w (.cells #[.int .i64 0, .int .i64 0] 74))) := ((Fr.refl [] w).alloc _).drew
  have hl1 : (Instr.lookup 71 (.map (some a.bp)) (.int .i64 c.view) true).run Tryz.prog (World.drew (World.alloc w (.cells #[.int .i64 0, .int .i64 0] 74))) = .ok (.tuple #[.agg #[.int .i64 x1, .int .i64 x2], .bool B]) (World.drew (World.alloc w (.cells #[.int .i64 0, .int .i64 0] 74))) := by
    have := (h.fr hF1).look c.view true
    rw [hx1, hx2, hB] at this
    exact this
  have HZ := Lib.hid (heap_alloc_new w (.cells #[.int .i64 0, .int .i64 0] 74))
  have z0' : (World.drew (World.alloc w (.cells #[.int .i64 0, .int .i64 0] 74))).cell? ⟨w.heap.size, 0, none⟩ = some (.int .i64 0) := cell_of HZ.out 0
  have z1' : (World.drew (World.alloc w (.cells #[.int .i64 0, .int .i64 0] 74))).cell? ⟨w.heap.size, 1, none⟩ = some (.int .i64 0) := cell_of HZ.out 1
  have y0' : (World.drew (World.alloc w (.cells #[.int .i64 0, .int .i64 0] 74))).frozen? ⟨w.heap.size, 0, none⟩ = false := froz_of HZ.out 0
  have y1' : (World.drew (World.alloc w (.cells #[.int .i64 0, .int .i64 0] 74))).frozen? ⟨w.heap.size, 1, none⟩ = false := froz_of HZ.out 1
  have hge2 : w.heap.size ≤ w.heap.size := Nat.le_refl _
  have hFr0 : Fr [] w w := Fr.refl _ _
  refine calls_k fun R hR => ?_
  clear h hX hok ho hml hx1 hx2 hB hL hof hLk hNO
  go_enter Tryz.func34, Tryz.ntmps34
  go_upto_region 1 with (fail)
  go_cut [4] (fun v wc => v = .bool B ∧ Hid (Fr [] w wc))
  case first =>
    go_region_held3 (fun W => W.cell? ⟨p, 10, none⟩ = some (.map (some a.bp)) ∧ W.cell? ⟨p, 5, none⟩ = some (.int .i64 c.view)) (first | (with_reducible assumption) | (refine HCL.out _ ?_; (try with_reducible refine Fr.drew ?_); (repeat with_reducible refine fr_sc ?_ hge2); with_reducible first | exact Fr.alloc hFr0 _ | exact hF1 | exact hF0 | exact hFr0)) (fail)
    all_goals
      go_wp2
      go_meet
      exact ⟨rfl, ((Fr.refl _ _).alloc _).drew⟩
  case rest =>
    obtain ⟨rfl, HFV⟩ := hcut
    obtain ⟨V, rfl⟩ : ∃ V, V = wc := ⟨_, rfl⟩
    clear z0' z1' y0' y1' hS0 hF0 hF1 hl0 hl1 hge2 hFr0 HZ
    have s0 := (HCM.out _ HFV.out).2.2
    have s5 := (HCM.out _ HFV.out).2.1
    have HLQ : Hid (∀ n, Calls Tryz.prog 37 #[.pointer (some ⟨p, 0, none⟩), .int .i64 c.me, .int .i64 c.view] (V.drewN n) fun e w' => e = .returned (.bool L) ∧ ∃ k, w' = (V.drewN n).drewN k) := fun n => HLD.out _ (HFV.out.drewN n)
    go_upto_region 2 with (fail)
    go_cut [37] (fun v wc => v = .bool (B && L) ∧ Hid (Fr [] w wc))
    case first =>
      cases B with
      | false =>
        go_quiet (fail)
        go_wp2
        go_meet
        exact ⟨rfl, HFV.out.drewN _⟩
      | true =>
        go_quiet (first | (go_at_call 37; exact Calls.quiet_of (HLQ.out _)))
        go_wp2
        go_meet
        exact ⟨by simp, HFV.out.drewN _⟩
    case rest =>
      obtain ⟨rfl, HFC⟩ := hcut
      clear s0 s5 HLQ
      go_upto_if 37 with (fail)
      go_cut [2] (fun lv wc => ∃ A0 d0, lv = .slice A0 (Lk 0).length d0 ∧ Hid (RowM w.heap.size wc lv (Lk 0)) ∧ Hid (Fr [] w wc))
      case first =>
        cases hBL : (B && L) with
        | false =>
          have h0 : Lk 0 = [] := by
            rw [HL0.out, if_neg]
            intro h
            rw [h.1, h.2] at hBL
            cases hBL
          have H0 := Lib.hid h0
          clear hBL h0
          go_wp2
          go_meet
          refine ⟨none, 0, by rw [H0.out]; rfl, ?_, HFC⟩
          show RowM _ _ _ _
          rw [H0.out]
          exact ⟨World.ownsRow_nil _ _ _ _, by simp [Value.ownBlock]⟩
        | true =>
          have h0 : Lk 0 = [of] := by
            rw [HL0.out, if_pos]
            cases B with
            | false => cases hBL
            | true =>
              cases L with
              | false => cases hBL
              | true => exact ⟨rfl, rfl⟩
          have H0 := Lib.hid h0
          have HPC := Lib.hid (HPR.out _ HFC.out)
          clear hBL h0
          go_wp2_with (first
            | (go_at_call 46; refine HPC.out.mono ?_; rintro e w1 ⟨rfl, hf1⟩; have HF1 : Hid (Fr [] w w1) := HFC.out.trans hf1 (by simp); clear hf1 HPC)
            | (at_builtin; refine wp_append1 rfl _ _ 57 32 rfl Tryz.underlying57 infoM rfl (by decide) (World.ownsRow_nil w1 0 32 13) rfl [.int .i64 of.kd, .int .i64 of.fr, .int .i64 of.ix, .int .i64 of.vw, .int .i64 of.vl, .int .i64 of.pr, .int .i64 0, .int .i64 0, .int .i64 0, .int .i64 0, .int .i64 0, .int .i64 0, .slice none 0 0] rfl rfl (by simp [Value.oneCell']) (by decide) (by decide) ?_; intro A6 c6 w6 hr6 hF6 hN6))
          go_meet
          refine ⟨A6, c6, by rw [H0.out]; rfl, ?_, HF1.out.trans hF6 (by simp [Value.ownBlock])⟩
          show RowM _ _ _ _
          rw [H0.out]
          refine ⟨hr6, fun k hk => ?_⟩
          rcases hN6 k hk with h1 | h1
          · simp [Value.ownBlock] at h1
          · have := HF1.out.size; omega
      case rest =>
        obtain ⟨A0, d0, rfl, HR0, HF0⟩ := hcut
        clear HFC
        obtain ⟨W3, rfl⟩ : ∃ W3, W3 = wc := ⟨_, rfl⟩
        go_upto_region 5 with (fail)
        obtain ⟨W5, hW5⟩ : ∃ W5, W5 = W3.alloc (.cells #[.int .i64 4, .int .i64 5] 3) := ⟨_, rfl⟩
        obtain ⟨gK, hgK⟩ : ∃ g, g = W3.heap.size := ⟨_, rfl⟩
        have hF5 : Fr [] W3 W5 := by rw [hW5]; exact (Fr.refl _ _).alloc _
        have hb5 : W5.heap[gK]? = some (.cells ((([4, 5] : List Int).map (Value.int .i64)).toArray) 3 (0, 0)) := by rw [hW5, hgK]; exact heap_alloc_new _ _
        rw [← hW5, ← hgK]
        have HF5 : Hid (Fr [] w W5) := HF0.out.trans hF5 (by simp)
        have HR5 : Hid (RowM w.heap.size W5 (.slice A0 (Lk 0).length d0) (Lk 0)) := HR0.out.fr hF5
        obtain ⟨XK, hXK⟩ : ∃ XK : Nat → Prop, XK = fun k => k < w.heap.size ∨ k = gK := ⟨_, rfl⟩
        have HXK : Hid (∀ k, XK k ↔ k < w.heap.size ∨ k = gK) := fun k => by rw [hXK]
        have HKB : Hid (∀ W, FrX XK W5 W → W.heap[gK]? = some (.cells ((([4, 5] : List Int).map (Value.int .i64)).toArray) 3 (0, 0))) := fun W hW =>
          (hW.block (Array.getElem?_eq_some_iff.1 hb5).1 ((HXK.out gK).2 (.inr rfl))).trans hb5
        have HKF : Hid (∀ W, FrX XK W5 W → Fr [] w W) := fun W hW => hW.keep (fun k hk => (HXK.out k).2 (.inl hk)) HF5.out
        have HKC : Hid (∀ W k kd, FrX XK W5 W → ([4, 5] : List Int)[k]? = some kd → W.cell? ⟨gK, k, none⟩ = some (.int .i64 kd)) := fun W k kd hW hk => by
          rw [cell_of (HKB.out W hW) k]
          simp only [List.getElem?_toArray, List.getElem?_map, hk, Option.map_some]
        clear hXK
        clear hW5 hgK hF5 hb5 HR0 HF0
        go_loopg [2, 45] 2 (fun gn lv i wr => ∃ (k : Nat) (A1 : Option Addr) (d1 : Nat), gn = 2 - k ∧ i = .int .i64 (k : Int) ∧ k ≤ 2 ∧ lv = .slice A1 (Lk k).length d1 ∧ Hid (RowM w.heap.size wr (.slice A1 (Lk k).length d1) (Lk k)) ∧ Hid (FrX XK W5 wr))
        case atStart => exact ⟨0, A0, d0, rfl, rfl, by omega, rfl, HR5, FrX.of0 (Fr.refl _ _)⟩
        case round =>
          obtain ⟨k, A1, d1, rfl, rfl, hk2, rfl, HRk, HFk⟩ := hrel
          obtain ⟨wo, rfl⟩ : ∃ wo, wo = wr := ⟨_, rfl⟩
          obtain ⟨nk, hnk⟩ : ∃ n, (Lk k).length = n := ⟨_, rfl⟩
          have HNK := Lib.hid hnk
          rw [hnk] at HRk
          rw [hnk]
          clear hnk
          by_cases hlt : k < 2
          · obtain ⟨kd, hkd⟩ : ∃ kd, ([4, 5] : List Int)[k]? = some kd := ⟨_, List.getElem?_eq_getElem (by simpa using hlt)⟩
            have hk45 : kd = 4 ∨ kd = 5 := by have := List.mem_of_getElem? hkd; simpa using this
            have hck := HKC.out wo k kd HFk.out hkd
            have HLk := Lib.hid (HLS.out k kd hkd)
            have HFo : Hid (Fr [] w wo) := HKF.out _ HFk.out
            have HFd : Hid (Fr [] w wo.drew) := HFo.out.drew
            obtain ⟨ov, hov⟩ : ∃ ov, (ofR c.m kd c.view c.me).getD 0 = ov := ⟨_, rfl⟩
            obtain ⟨ob, hob⟩ : ∃ ob, (ofR c.m kd c.view c.me).isSome = ob := ⟨_, rfl⟩
            obtain ⟨vm, hvm⟩ : ∃ vm, c.voteM kd ov = vm := ⟨_, rfl⟩
            have HVM : Hid (c.votesM kd = if ob = true then [vm] else []) := by
              show _ = _
              unfold Co.votesM
              rw [← hvm, ← hov, ← hob]
              cases ofR c.m kd c.view c.me <;> simp
            have HVK := Lib.hid (HVT.out wo.drew kd ov ob HFd.out hk45 hov hob)
            have HVV := Lib.hid (fun W (hW : Fr [] w W) => HVO.out W kd ov vm hW hvm)
            clear hkd hk45 hov hob hvm
            go_upto_region 7 with (fail)
            clear hck
            have hS7 := HCM.out _ HFd.out
            go_cut [7, 8] (fun v7 v8 wc => v7 = .int .i64 ov ∧ v8 = .bool ob ∧ Hid (Fr [] wo wc))
            case first =>
              go_region_held3 (fun W => W.cell? ⟨p, 9, none⟩ = some (.pointer (some ⟨a.pt, 0, none⟩)) ∧ W.cell? ⟨p, 5, none⟩ = some (.int .i64 c.view) ∧ W.cell? ⟨p, 0, none⟩ = some (.int .i64 c.me)) (with_reducible assumption)
                (first
                  | (go_at_call 54; refine HVK.out.mono ?_; rintro e w8 ⟨rfl, hf8⟩
                     have hS8 := HCM.out _ (HFd.out.trans hf8 (by simp))
                     have HF8 : Hid (Fr [] wo w8) := ((Fr.refl [] wo).drew).trans hf8 (by simp)
                     clear hf8 HVK))
              all_goals
                go_wp2
                go_meet
                exact ⟨rfl, rfl, HF8⟩
            case rest =>
              obtain ⟨rfl, rfl, HF8⟩ := hcut
              obtain ⟨W8, rfl⟩ : ∃ W8, W8 = wc := ⟨_, rfl⟩
              clear hS7 HVK
              have HVV8 := Lib.hid (HVV.out W8 (HFo.out.trans HF8.out (by simp)))
              have HR8 : Hid (RowM w.heap.size W8 (.slice A1 nk d1) (Lk k)) := HRk.out.fr HF8.out
              have hn3 : nk ≤ 3 := by rw [← HNK.out]; exact HLL.out k
              cases ob with
              | false =>
                have hlk : Lk (k + 1) = Lk k := by rw [HLk.out, HVM.out]; simp
                have HLK1 := Lib.hid hlk
                clear hlk HVV8
                go_wp2
                go_roundg (2 - (k + 1))
                case measure => omega
                case rel =>
                  refine ⟨k + 1, A1, d1, rfl, by go_num, by omega, ?_, ?_, HFk.out.trans (FrX.of0 HF8.out)⟩
                  · rw [HLK1.out, HNK.out]
                  · show RowM _ _ _ _
                    rw [HLK1.out, HNK.out]
                    exact HR8.out
              | true =>
                have hlk : Lk (k + 1) = Lk k ++ [vm] := by rw [HLk.out, HVM.out]; simp
                have HLK1 := Lib.hid hlk
                clear hlk
                have h63 : nk < maxLen := by unfold maxLen; omega
                have hbb : (nk + 1) * 120 ≤ 140737488355328 := by omega
                go_wp2_with (first
                  | (go_at_call 55; refine HVV8.out.mono ?_; rintro e w9 ⟨rfl, hf9⟩; have HF9 : Hid (Fr [] wo w9) := HF8.out.trans hf9 (by simp); have hr9 := HR8.out.fr hf9; rw [show RowM w.heap.size w9 (.slice A1 nk d1) (Lk k) ↔ (w9.ownsRow 0 32 13 (.slice A1 nk d1) nk (flatM (Lk k)) ∧ ∀ j ∈ (Value.slice A1 nk d1).ownBlock.toList, w.heap.size ≤ j) from by unfold RowM; rw [HNK.out]] at hr9; have HR9 := Lib.hid hr9; clear hf9 hr9 HVV8)
                  | (at_builtin; refine wp_append1 rfl _ _ 57 32 rfl Tryz.underlying57 infoM rfl (by decide) HR9.out.1 rfl [.int .i64 vm.kd, .int .i64 vm.fr, .int .i64 vm.ix, .int .i64 vm.vw, .int .i64 vm.vl, .int .i64 vm.pr, .int .i64 0, .int .i64 0, .int .i64 0, .int .i64 0, .int .i64 0, .int .i64 0, .slice none 0 0] rfl rfl (by simp [Value.oneCell']) h63 hbb ?_; intro A6 c6 w6 hr6 hF6 hN6; have HR6 := Lib.hid hr6; have HFA := Lib.hid hF6; have HN6 := Lib.hid hN6; clear hr6 hF6 hN6))
                clear h63 hbb
                go_roundg (2 - (k + 1))
                case measure => omega
                case rel =>
                  have hsz9 : w.heap.size ≤ w9.heap.size := (HFo.out.trans HF9.out (by simp)).size
                  have hln : (Lk (k + 1)).length = nk + 1 := by rw [HLK1.out, List.length_append, HNK.out]; rfl
                  refine ⟨k + 1, A6, c6, rfl, by go_num, by omega, ?_, ?_, ?_⟩
                  · rw [hln]
                  · show RowM _ _ _ _
                    rw [hln]
                    refine ⟨?_, fun j hj => ?_⟩
                    · rw [hln, HLK1.out, flatM_snoc]
                      exact HR6.out
                    · rcases HN6.out j hj with h1 | h1
                      · exact HR9.out.2 j h1
                      · omega
                  · have h9 := HFk.out.trans (FrX.of0 HF9.out)
                    refine h9.trans ⟨_, HFA.out, fun j hj hx => ?_⟩
                    rcases (HXK.out j).1 hx with h1 | h1
                    · have := HR9.out.2 j hj; omega
                    · rw [h1] at hj
                      exact row_ne_obj HR9.out.1 (HKB.out _ h9) (by decide) hj
          · obtain rfl : k = 2 := by omega
            have HFo := Lib.hid (HKF.out _ HFk.out)
            obtain ⟨X2, hX2⟩ : ∃ X2 : Nat → Prop, X2 = fun q => X q ∨ q ∈ (Value.slice A1 nk d1).ownBlock.toList := ⟨_, rfl⟩
            have HX2r : Hid (∀ q ∈ (Value.slice A1 nk d1).ownBlock.toList, X2 q) := fun q hq => by rw [hX2]; exact .inr hq
            have HX2 : Hid (∀ q, X2 q → q < wo.heap.size) := fun q hq => by
              rw [hX2] at hq
              rcases hq with hq | hq
              · exact Nat.lt_of_lt_of_le (HX.out q hq) HFo.out.size
              · exact row_lt HRk.out.1 q hq
            have HIN : Hid (CoIn X2 wo p c a) := by
              have h1 := H.out.fr HFo.out
              exact ⟨h1.box, h1.tal, h1.st, h1.tst, h1.dec, h1.out, h1.vts, h1.prs, h1.sds, h1.nd, fun q hq hx => by
                rw [hX2] at hx
                rcases hx with hx | hx
                · exact H.out.nX q hq hx
                · have h2 := HRk.out.2 q hx
                  have h3 := H.out.lt q hq
                  omega⟩
            have HEND : Hid (∀ W d, CoAt X2 W p d → FrX X2 wo W → CoAt X W p d ∧ FrX X w W) := fun W d hd hf => by
              obtain ⟨b, hd⟩ := hd
              refine ⟨⟨b, hd.x (fun q _ hq => by rw [hX2]; exact .inl hq)⟩, (FrX.of0 HFo.out).trans (hf.weak (fun q hq => by rw [hX2]; exact .inl hq))⟩
            obtain ⟨cc, hcc⟩ : ∃ cc : Nat → Co, cc = fun i => { c with out := c.out ++ ((Lk 2).take i).filter fun r => !(c.out.any fun b => Co.sameM b r) } := ⟨_, rfl⟩
            have HC0 : Hid (cc 0 = c) := by show _ = _; rw [hcc]; simp
            have HCN : Hid (c.again = cc nk) := by show _ = _; rw [HL2.out, hcc, ← HNK.out]; simp only [List.take_length]
            have HCO : Hid (∀ i, (cc i).out = c.out ++ ((Lk 2).take i).filter (fun r => !(c.out.any fun b => Co.sameM b r))) := fun i => by rw [hcc]
            have HCL3 : Hid (∀ i, (cc i).out.length ≤ 20000003) := fun i => by
              rw [HCO.out i, List.length_append]
              have h1 := HO.out
              have h2 := List.length_filter_le (fun r => !(c.out.any fun b => Co.sameM b r)) ((Lk 2).take i)
              have h3 := HLL.out 2
              have h4 : ((Lk 2).take i).length ≤ (Lk 2).length := by rw [List.length_take]; omega
              omega
            have HCS : Hid (∀ i r, (Lk 2)[i]? = some r → cc (i + 1) = if c.out.any (fun b => Co.sameM b r) = true then cc i else (cc i).send r) := fun i r hr => by
              rw [hcc]
              simp only [List.take_add_one, hr, Option.toList, List.filter_append, Co.send]
              by_cases hs : c.out.any (fun b => Co.sameM b r) = true
              · rw [if_pos hs]
                simp [hs]
              · rw [if_neg hs]
                have hs' : (c.out.any fun b => Co.sameM b r) = false := by simpa using hs
                simp [hs', ← List.append_assoc]
            have c16 := HC16.out _ HFo.out
            have HRD0 : Hid (RdA wo Ao c.out) := HRD.out.1.fr HFo.out
            clear hX2 hcc hlt hk2
            go_upto_region 13 with (fail)
            clear c16
            have hnk3 : nk ≤ 3 := by rw [← HNK.out]; exact HLL.out 2
            go_loopg [82] nk (fun gn i wr => ∃ (j : Nat), gn = nk - j ∧ i = .int .i64 (j : Int) ∧ j ≤ nk ∧ Hid (∃ ov, CoIn X2 wr p (cc j) { a with ov := ov }) ∧ Hid (RdA wr Ao c.out) ∧ Hid (FrX X2 wo wr))
            case atStart => exact ⟨0, rfl, rfl, Nat.zero_le _, ⟨a.ov, by rw [HC0.out]; exact HIN.out⟩, HRD0, FrX.of0 (Fr.refl _ _)⟩
            case round =>
              obtain ⟨j, rfl, rfl, hj, HINj, HRDj, HFXj⟩ := hrel
              obtain ⟨wj, rfl⟩ : ∃ wj, wj = wr := ⟨_, rfl⟩
              by_cases hjn : j < nk
              · obtain ⟨r, hr⟩ : ∃ r, (Lk 2)[j]? = some r := ⟨_, List.getElem?_eq_getElem (by rw [HNK.out]; exact hjn)⟩
                have hrow := HRk.out.frX HFXj.out HX2r.out
                have hrow1 := hrow.1
                rw [HNK.out] at hrow1
                obtain ⟨gL, hgL, _⟩ := row_atK hrow1 (j * 13 + 0) _ (flatM_get (Lk 2) j 0 r hr (by omega))
                subst hgL
                have hcl : ∀ q u, q < 13 → r.mcells[q]? = some u → wj.cell? ⟨gL, j * 13 + q, none⟩ = some u := fun q u hq hu => by
                  obtain ⟨g', e, hc⟩ := row_atK hrow1 (j * 13 + q) u ((flatM_get (Lk 2) j q r hr hq).trans hu)
                  injection e with e
                  injection e with e
                  subst e
                  exact hc
                have e0 : wj.cell? ⟨gL, j * 13, none⟩ = some (.int .i64 r.kd) := hcl 0 _ (by omega) rfl
                have e1 : wj.cell? ⟨gL, j * 13 + 1, none⟩ = some (.int .i64 r.fr) := hcl 1 _ (by omega) rfl
                have e2 : wj.cell? ⟨gL, j * 13 + 2, none⟩ = some (.int .i64 r.ix) := hcl 2 _ (by omega) rfl
                have e3 : wj.cell? ⟨gL, j * 13 + 3, none⟩ = some (.int .i64 r.vw) := hcl 3 _ (by omega) rfl
                have e4 : wj.cell? ⟨gL, j * 13 + 4, none⟩ = some (.int .i64 r.vl) := hcl 4 _ (by omega) rfl
                have e5 : wj.cell? ⟨gL, j * 13 + 5, none⟩ = some (.int .i64 r.pr) := hcl 5 _ (by omega) rfl
                have e6 : wj.cell? ⟨gL, j * 13 + 6, none⟩ = some (.int .i64 0) := hcl 6 _ (by omega) rfl
                have e7 : wj.cell? ⟨gL, j * 13 + 7, none⟩ = some (.int .i64 0) := hcl 7 _ (by omega) rfl
                have e8 : wj.cell? ⟨gL, j * 13 + 8, none⟩ = some (.int .i64 0) := hcl 8 _ (by omega) rfl
                have e9 : wj.cell? ⟨gL, j * 13 + 9, none⟩ = some (.int .i64 0) := hcl 9 _ (by omega) rfl
                have e10 : wj.cell? ⟨gL, j * 13 + 10, none⟩ = some (.int .i64 0) := hcl 10 _ (by omega) rfl
                have e11 : wj.cell? ⟨gL, j * 13 + 11, none⟩ = some (.int .i64 0) := hcl 11 _ (by omega) rfl
                have e12 : wj.cell? ⟨gL, j * 13 + 12, none⟩ = some (.slice none 0 0) := hcl 12 _ (by omega) rfl
                clear hcl hrow hrow1
                have HMS : Hid (nk - (j + 1) < nk - j) := by show _ < _; omega
                have HTO := Lib.hid (HLT.out 2 r (List.mem_of_getElem? hr))
                have HSJ := Lib.hid (HCS.out j r hr)
                clear hr
                go_upto_region 15 with (fail)
                obtain ⟨W14, hW14⟩ : ∃ W14, W14 = wj.alloc (.cells #[.int .i64 r.kd, .int .i64 r.fr, .int .i64 r.ix, .int .i64 r.vw, .int .i64 r.vl, .int .i64 r.pr, .int .i64 0, .int .i64 0, .int .i64 0, .int .i64 0, .int .i64 0, .int .i64 0, .slice none 0 0] 32) := ⟨_, rfl⟩
                obtain ⟨bm, hbm⟩ : ∃ g, g = wj.heap.size := ⟨_, rfl⟩
                have hF14 : Fr [] wj W14 := by rw [hW14]; exact (Fr.refl _ _).alloc _
                have hb14 : W14.heap[bm]? = some (.cells #[.int .i64 r.kd, .int .i64 r.fr, .int .i64 r.ix, .int .i64 r.vw, .int .i64 r.vl, .int .i64 r.pr, .int .i64 0, .int .i64 0, .int .i64 0, .int .i64 0, .int .i64 0, .int .i64 0, .slice none 0 0] 32 (0, 0)) := by rw [hW14, hbm]; exact heap_alloc_new _ _
                rw [← hW14, ← hbm]
                obtain ⟨KB, hKB⟩ : ∃ KB, c.out.any (fun b => Co.sameM b r) = KB := ⟨_, rfl⟩
                have HCF : Hid (Calls Tryz.prog 56 #[.slice Ao NO dq, .func (.func 57) #[] #[.pointer (some ⟨bm, 0, none⟩)]] W14 fun e w' => e = .returned (.bool KB) ∧ Fr [] W14 w') := by
                  have := conf_calls (d := dq) r hb14 (HRDj.out.fr hF14) HNO.out (by have := HO.out; have := HNO.out; omega)
                  rw [hKB] at this
                  exact this
                rw [hKB] at HSJ
                have HB14 := Lib.hid hb14
                have HF14 := Lib.hid hF14
                clear hW14 hbm hF14 hb14 hKB e0 e1 e2 e3 e4 e5 e6 e7 e8 e9 e10 e11 e12
                cases KB with
                | true =>
                  go_wp2_with (go_at_call 56; refine HCF.out.mono ?_; rintro e w15 ⟨rfl, hf15⟩; have HF15 : Hid (Fr [] wj w15) := HF14.out.trans hf15 (by simp); clear hf15 HCF)
                  clear hj
                  go_roundg (nk - (j + 1))
                  case measure => exact HMS.out
                  case rel =>
                    refine ⟨j + 1, rfl, by go_num, by omega, ?_, HRDj.out.fr HF15.out, HFXj.out.trans (FrX.of0 HF15.out)⟩
                    obtain ⟨ov, h1⟩ := HINj.out
                    exact ⟨ov, by rw [HSJ.out, if_pos (by simp)]; exact h1.fr HF15.out⟩
                | false =>
                  obtain ⟨ovj, hin⟩ := HINj.out
                  have HINK := Lib.hid hin
                  have HSN : Hid (∀ W, Fr [] W14 W → Calls Tryz.prog 45 #[.pointer (some ⟨p, 0, none⟩), .agg #[.int .i64 r.kd, .int .i64 r.fr, .int .i64 r.ix, .int .i64 r.vw, .int .i64 r.vl, .int .i64 r.pr, .int .i64 0, .int .i64 0, .int .i64 0, .int .i64 0, .int .i64 0, .int .i64 0, .slice none 0 0]] W fun e w' => e = .returned (.tuple #[]) ∧ ∃ ov, CoIn X2 w' p ((cc j).send r) { a with ov := ov } ∧ FrX X2 W w' ∧ RdA w' Ao c.out) := fun W hW => by
                    have hf : Fr [] wj W := HF14.out.trans hW (by simp)
                    exact send_rd (HINK.out.fr hf) (fun q hq => Nat.lt_of_lt_of_le (HX2.out q hq) (HFXj.out.trans (FrX.of0 hf)).size) r HTO.out (by have := HCL3.out j; omega) (HCO.out j) (HRDj.out.fr hf) HRD.out.2
                  have HBC : Hid (∀ W, Fr [] W14 W → W.heap[bm]? = some (.cells #[.int .i64 r.kd, .int .i64 r.fr, .int .i64 r.ix, .int .i64 r.vw, .int .i64 r.vl, .int .i64 r.pr, .int .i64 0, .int .i64 0, .int .i64 0, .int .i64 0, .int .i64 0, .int .i64 0, .slice none 0 0] 32 (0, 0))) := fun W hW => (hW.block bm (Array.getElem?_eq_some_iff.1 HB14.out).1 (by simp)).trans HB14.out
                  clear hin
                  go_wp2_with (first
                    | (go_at_call 56; refine HCF.out.mono ?_; rintro e w15 ⟨rfl, hf15⟩; have HF15 : Hid (Fr [] wj w15) := HF14.out.trans hf15 (by simp); have hbc := HBC.out _ hf15; have HSN15 := Lib.hid (HSN.out _ hf15)
                       have f0 : w15.cell? ⟨bm, 0, none⟩ = some (.int .i64 r.kd) := cell_of hbc 0
                       have f1 : w15.cell? ⟨bm, 1, none⟩ = some (.int .i64 r.fr) := cell_of hbc 1
                       have f2 : w15.cell? ⟨bm, 2, none⟩ = some (.int .i64 r.ix) := cell_of hbc 2
                       have f3 : w15.cell? ⟨bm, 3, none⟩ = some (.int .i64 r.vw) := cell_of hbc 3
                       have f4 : w15.cell? ⟨bm, 4, none⟩ = some (.int .i64 r.vl) := cell_of hbc 4
                       have f5 : w15.cell? ⟨bm, 5, none⟩ = some (.int .i64 r.pr) := cell_of hbc 5
                       have f6 : w15.cell? ⟨bm, 6, none⟩ = some (.int .i64 0) := cell_of hbc 6
                       have f7 : w15.cell? ⟨bm, 7, none⟩ = some (.int .i64 0) := cell_of hbc 7
                       have f8 : w15.cell? ⟨bm, 8, none⟩ = some (.int .i64 0) := cell_of hbc 8
                       have f9 : w15.cell? ⟨bm, 9, none⟩ = some (.int .i64 0) := cell_of hbc 9
                       have f10 : w15.cell? ⟨bm, 10, none⟩ = some (.int .i64 0) := cell_of hbc 10
                       have f11 : w15.cell? ⟨bm, 11, none⟩ = some (.int .i64 0) := cell_of hbc 11
                       have f12 : w15.cell? ⟨bm, 12, none⟩ = some (.slice none 0 0) := cell_of hbc 12
                       clear hbc hf15 HCF HSN)
                    | (go_at_call 45; refine HSN15.out.mono ?_; rintro e w16 ⟨rfl, ov, h16, hf16, hr16⟩; have H16 := Lib.hid h16; have HF16 := Lib.hid hf16; have HR16 := Lib.hid hr16; clear h16 hf16 hr16 HSN15 f0 f1 f2 f3 f4 f5 f6 f7 f8 f9 f10 f11 f12))
                  clear hj
                  go_roundg (nk - (j + 1))
                  case measure => exact HMS.out
                  case rel => exact ⟨j + 1, rfl, by go_num, by omega, ⟨ov, by rw [HSJ.out, if_neg (by simp)]; exact H16.out⟩, HR16.out, HFXj.out.trans ((FrX.of0 HF15.out).trans HF16.out)⟩
              · obtain rfl : j = nk := by omega
                go_wp2
                go_end0
                obtain ⟨ov, h1⟩ := HINj.out
                rw [← HCN.out] at h1
                obtain ⟨e1, e2⟩ := HEND.out _ _ ⟨_, h1⟩ HFXj.out
                exact hR.out _ _ ⟨rfl, e1, e2⟩
end
end Go.Np.Tryz
