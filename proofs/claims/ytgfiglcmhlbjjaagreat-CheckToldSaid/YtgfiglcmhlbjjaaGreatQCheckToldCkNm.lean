/- What CheckTold needs. -/
import Derived.Test.YtgfiglcmhlbjjaaGreatQCheckToldCkOp
import Derived.Test.YtgfiglcmhlbjjaaGreatQCheckToldCkRt
import Derived.Test.YtgfiglcmhlbjjaaGreatQCheckToldCkHa
import Derived.Test.YtgfiglcmhlbjjaaGreatQCheckToldCkTk
import Derived.Test.YtgfiglcmhlbjjaaGreatQCheckToldCkAc
section
set_option linter.unusedVariables false
set_option linter.unusedSimpArgs false
namespace Go.Np.Tryz
open Go.RowKit Go.Proofs Go.Proofs.YtgfiglcmhlbjjaaGreat.PX Go.Proofs.YtgfiglcmhlbjjaaGreatW.PrintWords
def rightG (g : Cg) : Bool := decide (chk g.st = 0) && decide (0 ≤ g.me) && decide (g.me < g.st.length) && decide (1 ≤ g.base) && decide (g.base ≤ 100) && decide (1 ≤ g.most) && decide (g.most ≤ 1000)
theorem rightG_ok {g : Cg} (h : rightG g = true) : okS g.st ∧ 0 ≤ g.me ∧ g.me < g.st.length := by
  unfold rightG at h
  simp only [Bool.and_eq_true, decide_eq_true_eq] at h
  obtain ⟨⟨⟨⟨⟨⟨h1, h2⟩, h3⟩, _⟩, _⟩, _⟩, _⟩ := h
  refine ⟨?_, h2, h3⟩
  unfold chk at h1
  split at h1
  · assumption
  · cases h1
theorem right_ev (g : Cg) : ∃ k, neaptidelaw15_right.f k g.me g.base g.most g.st = some (rightG g) := by
  obtain ⟨k, hk⟩ := rcheck_ev g.st
  refine ⟨k, ?_⟩
  unfold neaptidelaw15_right.f rightG
  have hk' : neaptideref03_Check.f k g.st = some (chk g.st) := hk k (Nat.le_refl _)
  rw [hk']
  by_cases h0 : chk g.st = 0 <;> by_cases h1 : g.me ≥ 0 <;> by_cases h2 : g.me < g.st.length <;> by_cases h3 : g.base ≥ 1 <;> by_cases h4 : g.base ≤ 100 <;> by_cases h5 : g.most ≥ 1 <;> simp [h0, h1, h2, h3, h4, h5]
theorem right_calls {w : World} {g : Cg} (h : g.Fine w) : Calls Tryz.prog 7 #[.agg #[.int .i64 g.me, .int .i64 g.base, .int .i64 g.most, .slice g.A g.st.length g.c]] w fun e w' => e = .returned (.bool (rightG g)) ∧ Fr [] w w' := by
  obtain ⟨k, hk⟩ := right_ev g
  exact (neaptidelaw15_right.calls k g.me g.base g.most g.A g.c g.st _ w h.C h.l hk).mono (fun e w' h => ⟨h.1, Fr.of_below [] h.2⟩)
theorem copy_calls {w : World} {m : Mg} (h : m.Fine w) (hl : m.txs.length ≤ 3) : Calls Tryz.prog 12 #[.agg #[.int .i64 m.kd, .int .i64 m.fr, .int .i64 m.ix, .int .i64 m.vw, .int .i64 m.vl, .int .i64 m.pr, .int .i64 m.t0, .int .i64 m.t1, .int .i64 m.b0, .int .i64 m.b1, .int .i64 m.b2, .int .i64 m.b3, .slice m.A m.txs.length m.c]] w fun e w' => ∃ A c, e = .returned (.agg #[.int .i64 m.kd, .int .i64 m.fr, .int .i64 m.ix, .int .i64 m.vw, .int .i64 m.vl, .int .i64 m.pr, .int .i64 m.t0, .int .i64 m.t1, .int .i64 m.b0, .int .i64 m.b1, .int .i64 m.b2, .int .i64 m.b3, .slice A m.txs.length c]) ∧ Fr [] w w' := by
  refine (neaptideref12_Copy.calls m.kd m.fr m.ix m.vw m.vl m.pr m.t0 m.t1 m.b0 m.b1 m.b2 m.b3 m.A m.c m.txs _ _ _ _ _ _ _ _ _ _ _ _ _ w h.C h.l (by unfold neaptideref12_Copy.f; simp only [Option.bind_some, List.nil_append, List.length_nil, Nat.zero_add]; rw [if_pos (by omega)])).mono ?_
  rintro e w' ⟨v, rfl, h1, h2⟩
  obtain ⟨A4, c4, he4, h6, h7⟩ := Kd.R_reads h1
  exact ⟨A4, c4, by rw [he4], Fr.of_below [] h2⟩
theorem row_C {w : World} {A : Option Addr} {n c : Nat} {l : List Int} (h : w.ownsRow 0 3 1 (.slice A n c) n (l.map (Value.int .i64))) (hn : l.length = n) : (Kd.int .i64).C w A l.length l := by
  rw [← hn] at h
  obtain ⟨A4, c4, he4, h6, h7⟩ := Kd.R_reads (Kd.R_of_own (ok := fun _ => True) h (fun _ _ => trivial))
  injection he4 with e1 e2 e3
  rw [e1]
  exact h7
section
variable {X : Nat → Prop} {w w' w5 : World} {p n n5 c5 : Nat} {c c' : Co} {b : Pl} {known : List Int} {A5 : Option Addr}
theorem CoIn.grow (h : CoIn X w p c b) (hX : ∀ k, X k → k < w.heap.size) (hF : Fr [] w w5) : ∃ X', CoIn X' w5 p c b ∧ (∀ k, X' k → k < w5.heap.size) ∧ (∀ k, X k → X' k) ∧ (∀ k, w.heap.size ≤ k → k < w5.heap.size → X' k) := by
  refine ⟨fun k => X k ∨ (w.heap.size ≤ k ∧ k < w5.heap.size), ?_, ?_, fun k hk => .inl hk, fun k h1 h2 => .inr ⟨h1, h2⟩⟩
  · have h1 := h.fr hF
    exact ⟨h1.box, h1.tal, h1.st, h1.tst, h1.dec, h1.out, h1.vts, h1.prs, h1.sds, h1.nd, fun k hk hx => by
      rcases hx with hx | hx
      · exact h.nX k hk hx
      · have := h.lt k hk; omega⟩
  · intro k hk
    rcases hk with hk | hk
    · exact Nat.lt_of_lt_of_le (hX k hk) hF.size
    · exact hk.2
theorem tick_at (h : CoIn X w p c b) (hX : ∀ k, X k → k < w.heap.size) (hc : Co.Calm n c) (hF : Fr [] w w5) (hk : w5.ownsRow 0 3 1 (.slice A5 n5 c5) n5 (known.map (Value.int .i64))) (hb : ∀ k ∈ (Value.slice A5 n5 c5).ownBlock.toList, w.heap.size ≤ k) (hn : known.length = n5) (tip : Int) :
    Calls Tryz.prog 10 #[.pointer (some ⟨p, 0, none⟩), .slice A5 n5 c5, .int .i64 tip] w5 fun e w' => ∃ c' l B d, e = .returned (.slice B l.length d) ∧ Co.Ticks known tip c c' l ∧ CoAt X w' p c' ∧ w'.ownsRow 0 48 14 (.slice B l.length d) l.length (flatA l) ∧ FrX X w w' := by
  obtain ⟨X', h1, h2, h3, h4⟩ := h.grow hX hF
  have := c_tick h1 h2 hc.ok hc.wf (by rw [hc.out]; simp) (A := A5) (dn := c5) (known := known) (fun W hW => row_C (row_move hk (fun k e => hW.block (row_lt hk k (by simp [e])) (h4 k (hb k (by simp [e])) (row_lt hk k (by simp [e]))))) hn) tip (fun W d b0 b' _ _ hW hXW hd _ ho => c_again hW hXW hd ho)
  rw [hn] at this
  refine this.mono ?_
  rintro e w' ⟨c', l, B, d, e1, e2, ⟨b', e3⟩, e4, e5⟩
  exact ⟨c', l, B, d, e1, e2, ⟨b', e3.x (fun k _ hk => h3 k hk)⟩, e4, (FrX.of0 hF).trans (e5.weak h3)⟩
theorem handle_at (h : CoIn X w p c b) (hX : ∀ k, X k → k < w.heap.size) (hc : Co.Calm n c) (hn9 : n < 1000) (hF : Fr [] w w5) (hk : w5.ownsRow 0 3 1 (.slice A5 n5 c5) n5 (known.map (Value.int .i64))) (hb : ∀ k ∈ (Value.slice A5 n5 c5).ownBlock.toList, w.heap.size ≤ k) (hn : known.length = n5) (too : Int) (m : Mg) (hm : wf64 m.kd ∧ wf64 m.fr ∧ wf64 m.ix ∧ wf64 m.vw ∧ wf64 m.pr) (Ax : Option Addr) (cx : Nat) :
    Calls Tryz.prog 11 #[.pointer (some ⟨p, 0, none⟩), .agg #[.int .i64 m.kd, .int .i64 m.fr, .int .i64 m.ix, .int .i64 m.vw, .int .i64 m.vl, .int .i64 m.pr, .int .i64 m.t0, .int .i64 m.t1, .int .i64 m.b0, .int .i64 m.b1, .int .i64 m.b2, .int .i64 m.b3, .slice Ax m.txs.length cx], .slice A5 n5 c5] w5 fun e w' => ∃ c' l B d, e = .returned (.slice B l.length d) ∧ Co.Handles known c ⟨too, m.kd, m.fr, m.ix, m.vw, m.vl, m.pr⟩ c' l ∧ CoAt X w' p c' ∧ w'.ownsRow 0 48 14 (.slice B l.length d) l.length (flatA l) ∧ FrX X w w' := by
  obtain ⟨X', h1, h2, h3, h4⟩ := h.grow hX hF
  have := c_handle h1 h2 hc.ok hc.wf (by rw [hc.out]; simp) (by have := hc.said; omega) (A := A5) (dn := c5) (known := known) (fun W hW => row_C (row_move hk (fun k e => hW.block (row_lt hk k (by simp [e])) (h4 k (hb k (by simp [e])) (row_lt hk k (by simp [e]))))) hn) too m.kd m.fr m.ix m.vw m.vl m.pr m.t0 m.t1 m.b0 m.b1 m.b2 m.b3 Ax m.txs.length cx hm
  rw [hn] at this
  refine this.mono ?_
  rintro e w' ⟨c', l, B, d, e1, e2, ⟨b', e3⟩, e4, e5⟩
  exact ⟨c', l, B, d, e1, e2, ⟨b', e3.x (fun k _ hk => h3 k hk)⟩, e4, (FrX.of0 hF).trans (e5.weak h3)⟩
end
end Go.Np.Tryz
end
section
set_option linter.unusedVariables false
set_option linter.unusedSimpArgs false
namespace Go.Np.Tryz
open Go.RowKit Go.Proofs Go.Proofs.YtgfiglcmhlbjjaaGreat.PX Go.Proofs.YtgfiglcmhlbjjaaGreatW.PrintWords
namespace Co
variable {c c' : Co} {known : List Int}
theorem enter_decs (c : Co) (v : Int) : (c.enter v).decs = c.decs := by unfold Co.enter; split <;> rfl
theorem cast_decs (c : Co) (k x : Int) : (c.cast k x).decs = c.decs := by unfold Co.cast; split <;> rfl
theorem next_decs (known : List Int) (h : c.decs.length ≤ 1001) : (c.next known).1.decs.length ≤ 1001 := by
  unfold Co.next
  split
  · exact h
  rename_i h0
  split
  · unfold Co.decide1 Co.rest Co.send
    unfold Co.idx at h0
    simp only [List.length_append, List.length_singleton]
    omega
  split
  · exact h
  split
  · rw [enter_decs]; exact h
  split
  · split
    · exact h
    · split
      · exact h
      · show (c.cast 4 _).decs.length ≤ 1001; rw [cast_decs]; exact h
  split
  · exact h
  split
  · dsimp only
    split
    · show (c.cast 5 _).decs.length ≤ 1001; rw [cast_decs]; exact h
    · show (Co.cast _ 5 _).decs.length ≤ 1001; rw [cast_decs]; exact h
  split
  · exact h
  · exact h
theorem Settles.decs {d : Co} (h : Settles known c d) (hc : c.decs.length ≤ 1001) : d.decs.length ≤ 1001 := by
  induction h with
  | stop e => rename_i c1 c2; have h1 := next_decs (c := c1) known hc; rw [e] at h1; exact h1
  | go e _ ih => rename_i c1 c2 c3 _; have h1 := next_decs (c := c1) known hc; rw [e] at h1; exact ih h1
theorem tick1_decs (c : Co) (b : Bool) : (c.tick1 b).decs = c.decs := by
  unfold Co.tick1 Co.lapse
  split
  · exact enter_decs _ _
  split
  · split
    · exact cast_decs _ _ _
    split
    · exact cast_decs _ _ _
    split
    · split
      · exact enter_decs _ _
      · rfl
    · rfl
  · rfl
theorem Ticks.decs {tip : Int} {l : List Am} (h : Ticks known tip c c' l) (hc : c.decs.length ≤ 1001) : c'.decs.length ≤ 1001 := by
  unfold Ticks at h
  split at h
  · rw [h.1]; exact hc
  · obtain ⟨b, d, h1, rfl, _⟩ := h
    have h2 := h1.decs (by rw [tick1_decs]; exact hc)
    split
    · exact h2
    · exact h2
theorem Handles.decs {a : Am} {l : List Am} (h : Handles known c a c' l) (hc : c.decs.length ≤ 1001) : c'.decs.length ≤ 1001 := by
  unfold Handles at h
  split at h
  · rw [h.1]; exact hc
  · obtain ⟨d, h1, rfl, _⟩ := h
    exact h1.decs (by rw [(take_same c a).2.1]; exact hc)
end Co
theorem right_txs {kd fr ix vw vl pr t0 t1 b0 b1 b2 b3 : Int} {l : List S27} {tz tr : Bool} (h : rightM kd fr ix vw vl pr tz (decide (b0 = 0) && decide (b1 = 0) && decide (b2 = 0) && decide (b3 = 0) && decide (l = [])) tr (rightB ⟨b0, b1, b2, b3, l⟩) = true) : l.length ≤ 3 := by
  unfold rightM at h
  split at h
  · cases h
  split at h
  · cases h
  rename_i h2
  by_cases h1 : kd = 1
  · rw [if_neg (by omega), if_pos h1] at h
    simp only [Bool.and_eq_true, rightB, okTxs, unlikeB, decide_eq_true_eq] at h
    omega
  · have : l = [] := by
      have h3 : (decide (b0 = 0) && decide (b1 = 0) && decide (b2 = 0) && decide (b3 = 0) && decide (l = [])) = true := by
        cases hh : (decide (b0 = 0) && decide (b1 = 0) && decide (b2 = 0) && decide (b3 = 0) && decide (l = [])) with
        | true => rfl
        | false => exact absurd (by rw [hh]; simp [h1]) h2
      simp only [Bool.and_eq_true, decide_eq_true_eq] at h3
      exact h3.2
    rw [this]; simp
theorem right_bounds {kd fr ix vw vl pr : Int} {tz em tr br : Bool} (h : rightM kd fr ix vw vl pr tz em tr br = true) : 0 ≤ fr ∧ fr ≤ 6 ∧ (3 ≤ kd → 0 ≤ ix ∧ ix ≤ 1000) := by
  unfold rightM at h
  split at h
  · cases h
  rename_i h1
  simp only [Bool.or_eq_true, decide_eq_true_eq, not_or] at h1
  refine ⟨by omega, by omega, fun h3 => ?_⟩
  split at h
  · cases h
  rw [if_neg (by omega), if_neg (by omega), if_neg (by omega)] at h
  have hi : ∀ x : Int, idxB x = true → 0 ≤ x ∧ x ≤ 1000 := fun x hx => by unfold idxB at hx; simp only [Bool.and_eq_true, decide_eq_true_eq] at hx; exact hx
  split at h
  · simp only [Bool.and_eq_true] at h; exact hi _ h.1.1.1.1
  split at h
  · simp only [Bool.and_eq_true] at h; exact hi _ h.1.1
  split at h
  · simp only [Bool.and_eq_true] at h; exact hi _ h.1.1
  · cases h
section
variable {ops : Array Oper} {rest : List Oper} {o : Oper} {a : Act} {Q : Exit → Act → World → Prop}
theorem int_news {w : World} {ad : Addr} {l : List Int} (h : (Kd.int .i64).C w (some ad) l.length l) : ∀ j u, (l.map (Value.int .i64))[j]? = some u → w.cell? (ad.add j) = some u := fun j u hu => by
  have hj : j < l.length := by have := (List.getElem?_eq_some_iff.1 hu).1; simpa using this
  obtain ⟨ad', e, hc⟩ := int_at h j hj
  injection e with e
  subst e
  rw [List.getElem?_map, List.getElem?_eq_getElem hj] at hu
  simp at hu
  rw [← hu, hc]
  simp [List.getD_eq_getElem?_getD, List.getElem?_eq_getElem hj]
theorem wp_copyO {w : World} (hgd : o.guard = none) (s x : Operand)
    (ho : o.op = .call { callee := .builtin .append, args := #[s, x], argTypes := #[22, 22] })
    {l : List Int} {ad : Addr} {n c : Nat} (hn : l.length = n) (hs : a.eval s = .slice (some ⟨w.heap.size, 0, none⟩) 0 0) (hx : a.eval x = .slice (some ad) n c) (HC : (Kd.int .i64).C w (some ad) l.length l) (hl : n ≤ 1000)
    (h : ∀ A1 c1 w1, w1.ownsRow 0 3 1 (.slice A1 n c1) n (l.map (Value.int .i64)) → (∀ k ∈ (Value.slice A1 n c1).ownBlock.toList, w.heap.size ≤ k) → Fr [] w w1 → wpList Tryz.prog ops Q rest (a.put o.dst (.slice A1 n c1)) w1) :
    wpList Tryz.prog ops Q (o :: rest) a (w.alloc (.cells #[] 3)) := by
  have hA : Fr [] w (w.alloc (.cells #[] 3)) := (Fr.refl _ _).alloc _
  have hC2 : (Kd.int .i64).C (w.alloc (.cells #[] 3)) (some ad) l.length l := Kd.C_below HC hA.below
  refine wp_appendS hgd s x 22 3 ho Tryz.underlying22 infoZ rfl (by decide) (World.ownsRow_made w #[] 0 (Nat.zero_le _) (by unfold maxLen; omega) rfl) hs ad n c (l.map (Value.int .i64)) hx (by simp [hn]) (int_news hC2) (fun u hu => by obtain ⟨q, _, rfl⟩ := List.mem_map.1 hu; rfl) (by unfold maxLen; omega) (by omega) ?_
  intro A' c' w' h1 h2 h3
  simp only [Nat.zero_add, List.nil_append] at h1 h3 ⊢
  have hF : Fr [] w w' := hA.trans h2 (fun k hk => .inr (by simp [Value.ownBlock] at hk; omega))
  refine h A' c' w' h1 (fun k hk => ?_) hF
  rcases h3 k hk with h4 | h4
  · simp [Value.ownBlock] at h4; omega
  · have := hA.size; omega
theorem st_copyO {w0 w : World} {g : Nat} {K : Act → World → Prop} {E : Prop} (hg : o.guard = none) (s x : Operand)
    (ho : o.op = .call { callee := .builtin .append, args := #[s, x], argTypes := #[22, 22] })
    {l : List Int} {ad : Addr} {n c : Nat} (hn : l.length = n) (hs : a.eval s = .slice (some ⟨g, 0, none⟩) 0 0) (hx : a.eval x = .slice (some ad) n c) (hF : Fr [] w0 w) (hgl : w0.heap.size ≤ g) (hb : w.heap[g]? = some (.cells #[] 3 (0, 0))) (HC : (Kd.int .i64).C w0 (some ad) l.length l) (hl : n ≤ 1000)
    (h : ∀ A1 c1 w1, w1.ownsRow 0 3 1 (.slice A1 n c1) n (l.map (Value.int .i64)) → (∀ k ∈ (Value.slice A1 n c1).ownBlock.toList, w0.heap.size ≤ k) → Fr [] w0 w1 → K (a.put o.dst (.slice A1 n c1)) w1) :
    if Region.wanted o (yielded ops a.tmps) = true then Oper.wp Tryz.prog o a w K Q else E := by
  have hC2 : (Kd.int .i64).C w (some ad) l.length l := Kd.C_below HC hF.below
  have hown : w.ownsRow 0 3 1 (.slice (some ⟨g, 0, none⟩) 0 0) 0 [] := ⟨rfl, .inr ⟨g, 0, #[], rfl, Nat.zero_le _, hb, Nat.le_refl _, Nat.zero_le _, rfl, rfl⟩⟩
  refine st_appendS hg s x 22 3 ho Tryz.underlying22 infoZ rfl (by decide) hown hs ad n c (l.map (Value.int .i64)) hx (by simp [hn]) (int_news hC2) (fun u hu => by obtain ⟨q, _, rfl⟩ := List.mem_map.1 hu; rfl) (by unfold maxLen; omega) (by omega) ?_
  intro A' c' w' h1 h2 h3
  simp only [Nat.zero_add, List.nil_append] at h1 h3 ⊢
  have hF2 : Fr [] w0 w' := hF.trans h2 (fun k hk => .inr (by simp [Value.ownBlock] at hk; omega))
  refine h A' c' w' h1 (fun k hk => ?_) hF2
  rcases h3 k hk with h4 | h4
  · simp [Value.ownBlock] at h4; omega
  · have := hF.size; omega
end
end Go.Np.Tryz
end
section
set_option linter.unusedVariables false
set_option linter.unusedSimpArgs false
namespace Go.Np.Tryz
open Go.RowKit Go.Proofs.YtgfiglcmhlbjjaaGreat.PX Go.Proofs.YtgfiglcmhlbjjaaGreatW.PrintWords
def al3 : Am := ⟨-1, 3, 0, 0, 0, 65536, -1⟩
def al4 : Am := ⟨-1, 4, 0, 0, 0, 65536, 0⟩
def al5 : Am := ⟨-1, 5, 0, 0, 0, 65536, 0⟩
def al6 : Am := ⟨-1, 6, 0, 0, 0, 65536, 0⟩
def alC1 : Co := ⟨0, 2, 8, [1], [], 0, 1, 65536, [], [(0, (65536, -1))], [], (0, -1), (0, -1), [al3]⟩
def alC2 : Co := ⟨0, 2, 8, [1], [], 0, 2, 65536, [⟨4, 0, 0, 65536⟩], [(0, (65536, -1))], [], (0, -1), (0, -1), [al3, al4]⟩
def alC3 : Co := ⟨0, 2, 8, [1], [], 0, 3, 65536, [⟨4, 0, 0, 65536⟩, ⟨5, 0, 0, 65536⟩], [(0, (65536, -1))], [], (65536, 0), (65536, 0), [al3, al4, al5]⟩
def alC4 : Co := ⟨0, 2, 8, [1], [65536], 0, 0, 65536, [], [], [], (0, -1), (0, -1), [al3, al4, al5, al6]⟩
theorem al_ms : (([] : List Int).mergeSort fun x y => decide (x ≤ y)) = [] := by simp
theorem al_e0 (b : Bool) : ({ Co.new 0 [1] 2 8 with tip := 65536 } : Co).tick1 b = alC1 := by rfl
theorem al_a1 : alC1.agreed = (0, false) := by unfold Co.agreed; rw [if_neg (by decide)]; show (match (([] : List Int).mergeSort _).find? _ with | some v => (v, true) | none => ((0 : Int), false)) = _; rw [al_ms]; rfl
theorem al_a2 : alC2.agreed = (0, false) := by unfold Co.agreed; rw [if_neg (by decide)]; show (match (([] : List Int).mergeSort _).find? _ with | some v => (v, true) | none => ((0 : Int), false)) = _; rw [al_ms]; rfl
theorem al_a3 : alC3.agreed = (65536, true) := by unfold Co.agreed; rw [if_pos (by decide)]; rfl
theorem al_a4 : alC4.agreed = (0, false) := by unfold Co.agreed; rw [if_neg (by decide)]; show (match (([] : List Int).mergeSort _).find? _ with | some v => (v, true) | none => ((0 : Int), false)) = _; rw [al_ms]; rfl
theorem al_e1 : alC1.next [65536] = (alC2, true) := by unfold Co.next; rw [al_a1]; rfl
theorem al_e2 : alC2.next [65536] = (alC3, true) := by unfold Co.next; rw [al_a2]; rfl
theorem al_e3 : alC3.next [65536] = (alC4, true) := by unfold Co.next; rw [al_a3]; rfl
theorem al_e4 : alC4.next [65536] = (alC4, false) := by unfold Co.next; rw [al_a4]; rfl
theorem Co.Settles.one {known : List Int} {c c1 d : Co} (h : Co.Settles known c d) (e : c.next known = (c1, true)) : Co.Settles known c1 d := by
  cases h with
  | stop e' => rw [e] at e'; cases e'
  | go e' h' => rw [e] at e'; cases e'; exact h'
theorem Co.Settles.last {known : List Int} {c c1 d : Co} (h : Co.Settles known c d) (e : c.next known = (c1, false)) : d = c1 := by
  cases h with
  | stop e' => rw [e] at e'; cases e'; rfl
  | go e' h' => rw [e] at e'; cases e'
theorem al_settles {d : Co} (h : Co.Settles [65536] alC1 d) : d = alC4 := (((h.one al_e1).one al_e2).one al_e3).last al_e4
theorem al_ticks {c' : Co} {l : List Am} (h : Co.Ticks [65536] 65536 (Co.new 0 [1] 2 8) c' l) : c' = alC4.flush ∧ l = [al3, al4, al5, al6] := by
  unfold Co.Ticks at h
  rw [if_neg (by decide)] at h
  obtain ⟨b, d, h1, h2, h3⟩ := h
  rw [al_e0] at h1
  have := al_settles h1
  subst this
  exact ⟨h2, h3⟩
end Go.Np.Tryz
end
section
set_option linter.unusedVariables false
set_option linter.unusedSimpArgs false
namespace Go.Np.Tryz
open Go.RowKit Go.Proofs Go.Proofs.YtgfiglcmhlbjjaaGreat.PX Go.Proofs.YtgfiglcmhlbjjaaGreatW.PrintWords
theorem new_ok {me : Int} {st : List Int} (hst : okS st) (hme : 0 ≤ me ∧ me < st.length) (base most : Int) : (Co.new me st base most).Ok ∧ (Co.new me st base most).Wf :=
  ⟨⟨hst, hme, by simp [Co.new], by simp [Co.new], Good.nil _⟩, ⟨fun q hq => by simp [Co.new] at hq, Co.wf_m1, by simp [Co.new]⟩⟩
theorem C_block {w : World} {g : Nat} {l : List Int} (hb : w.heap[g]? = some (.cells (l.map (Value.int .i64)).toArray 3 (0, 0))) (hl : l.length < 1000000) (hne : l ≠ []) : (Kd.int .i64).C w (some ⟨g, 0, none⟩) l.length l := by
  have h : w.ownsRow 0 3 1 (.slice (some ⟨g, 0, none⟩) l.length l.length) l.length (l.map (Value.int .i64)) :=
    ⟨by simp, .inr ⟨g, l.length, (l.map (Value.int .i64)).toArray, rfl, Nat.zero_le _, hb, Nat.le_refl _, by unfold maxLen; omega, by simp, by simp only [Nat.mul_one]; exact List.take_of_length_le (by simp)⟩⟩
  obtain ⟨A4, c4, he4, h6, h7⟩ := Kd.R_reads (Kd.R_of_own (ok := fun _ => True) h (fun _ _ => trivial))
  injection he4 with e1 e2 e3
  rw [e1]
  exact h7
theorem al_tick {w W1 w2 : World} {p : Nat} (h : CoAt (fun k => k < W1.heap.size) w2 p (Co.new 0 [1] 2 8)) (h0 : Fr [] w W1) (hf : Fr [] W1 w2) :
    Calls Tryz.prog 10 #[.pointer (some ⟨p, 0, none⟩), .slice (some ⟨w2.heap.size, 0, none⟩) 1 1, .int .i64 65536] (w2.alloc (.cells #[.int .i64 65536] 3)) fun e w' => ∃ g d, e = .returned (.slice (some ⟨g, 0, none⟩) 4 d) ∧ (∃ Y, CoAt Y w' p alC4.flush) ∧ (w'.cell? ⟨g, 1, none⟩ = some (.int .i64 3) ∧ w'.cell? ⟨g, 15, none⟩ = some (.int .i64 4) ∧ w'.cell? ⟨g, 29, none⟩ = some (.int .i64 5) ∧ w'.cell? ⟨g, 43, none⟩ = some (.int .i64 6)) ∧ Fr [] w w' := by
  obtain ⟨b, h⟩ := h
  have h1 : CoIn (fun k => k < W1.heap.size ∨ k = w2.heap.size) w2 p (Co.new 0 [1] 2 8) b := h.x (fun k hk hx => by
    rcases hx with hx | hx
    · exact hx
    · omega)
  have hF3 : Fr [] w2 (w2.alloc (.cells #[.int .i64 65536] 3)) := (Fr.refl _ _).alloc _
  have hsz : (w2.alloc (.cells #[.int .i64 65536] 3)).heap.size = w2.heap.size + 1 := by simp
  have hnb := heap_alloc_new w2 (.cells #[.int .i64 65536] 3)
  obtain ⟨o1, o2⟩ := new_ok (me := 0) (st := [1]) (by unfold okS; decide) (by decide) 2 8
  have h2 := c_tick (h1.fr hF3) (fun k hk => by rw [hsz]; have := hf.size; rcases hk with hk | hk <;> omega) o1 o2 (by simp [Co.new]) (A := some ⟨w2.heap.size, 0, none⟩) (dn := 1) (known := [65536]) (fun W hW => ?_) 65536 (fun W d b0 b' hd hs => ?_)
  · refine h2.mono ?_
    rintro e w' ⟨c', l, B, d, he, ht, hc, hr, hfx⟩
    obtain ⟨rfl, rfl⟩ := al_ticks ht
    obtain ⟨g, hB, k1⟩ := row_atN hr 1 (.int .i64 3) rfl
    obtain ⟨g2, hB2, k2⟩ := row_atN hr 15 (.int .i64 4) rfl
    obtain ⟨g3, hB3, k3⟩ := row_atN hr 29 (.int .i64 5) rfl
    obtain ⟨g4, hB4, k4⟩ := row_atN hr 43 (.int .i64 6) rfl
    subst hB
    injection hB2 with e2
    injection hB3 with e3
    injection hB4 with e4
    injection e2 with e2
    injection e3 with e3
    injection e4 with e4
    subst e2 e3 e4
    exact ⟨g, d, he, ⟨_, hc⟩, ⟨k1, k2, k3, k4⟩, hfx.keep (fun k hk => .inl (Nat.lt_of_lt_of_le hk h0.size)) ((h0.trans hf (by simp)).trans hF3 (by simp))⟩
  · have hb := (hW.block (by rw [hsz]; omega) (.inr rfl)).trans hnb
    exact C_block (l := [65536]) hb (by decide) (by simp)
  · exact absurd (by rw [al_e0] at hd; rw [al_settles hd]; rfl) hs
set_option maxHeartbeats 8000000 in
set_option maxRecDepth 100000 in
theorem c_alive (w : World) : Calls Tryz.prog 6 #[] w fun e w' => e = .returned (.bool true) ∧ Fr [] w w' := by
  obtain ⟨W1, hW1⟩ : ∃ W1, W1 = w.alloc (.cells #[.int .i64 1] 3) := ⟨_, rfl⟩
  have hF1 : Fr [] w W1 := by rw [hW1]; exact (Fr.refl _ _).alloc _
  have hC1 : (Kd.int .i64).C W1 (some ⟨w.heap.size, 0, none⟩) 1 [1] := by rw [hW1]; exact made_C w [1] (by decide) (by simp)
  have HNW : Hid (Calls Tryz.prog 9 #[.int .i64 0, .slice (some ⟨w.heap.size, 0, none⟩) 1 1, .int .i64 2, .int .i64 8] W1 fun e w' => ∃ p, e = .returned (.pointer (some ⟨p, 0, none⟩)) ∧ CoAt (fun k => k < W1.heap.size) w' p (Co.new 0 [1] 2 8) ∧ Fr [] W1 w' ∧ W1.heap.size ≤ p) := c_new (c0 := 1) (st := [1]) hC1 (by decide) 0 2 8
  have HTK : Hid (∀ (w2 : World) (p : Nat), CoAt (fun k => k < W1.heap.size) w2 p (Co.new 0 [1] 2 8) → Fr [] W1 w2 → Calls Tryz.prog 10 #[.pointer (some ⟨p, 0, none⟩), .slice (some ⟨w2.heap.size, 0, none⟩) 1 1, .int .i64 65536] (w2.alloc (.cells #[.int .i64 65536] 3)) fun e w' => ∃ g d, e = .returned (.slice (some ⟨g, 0, none⟩) 4 d) ∧ (∃ Y, CoAt Y w' p alC4.flush) ∧ (w'.cell? ⟨g, 1, none⟩ = some (.int .i64 3) ∧ w'.cell? ⟨g, 15, none⟩ = some (.int .i64 4) ∧ w'.cell? ⟨g, 29, none⟩ = some (.int .i64 5) ∧ w'.cell? ⟨g, 43, none⟩ = some (.int .i64 6)) ∧ Fr [] w w') := fun w2 p h hf => al_tick h hF1 hf
  have HDE : Hid (∀ (Y : Nat → Prop) (W : World) (p : Nat) (b : Pl), CoIn Y W p alC4.flush b → Calls Tryz.prog 13 #[.pointer (some ⟨p, 0, none⟩)] W fun e w' => ∃ A d, e = .returned (.slice A 1 d) ∧ OwnI W.heap.size w' (.slice A 1 d) [65536] ∧ Fr [] W w') := fun Y W p b h => c_decisions h (by decide)
  have HSM : Hid (∀ (n : Nat) (W : World) (A : Option Addr) (d : Nat), OwnI n W (.slice A 1 d) [65536] → Calls Tryz.prog 16 #[.slice A 1 d, .slice (some ⟨W.heap.size, 0, none⟩) 1 1] (W.alloc (.cells #[.int .i64 65536] 3)) fun e w' => e = .returned (.bool true) ∧ Fr [] W w') := fun n W A d h => by
    obtain ⟨A', d', hv', _, hk⟩ := (h.fr ((Fr.refl [] W).alloc (.cells #[.int .i64 65536] 3)) (by simp)).sl
    injection hv' with e1 e2 e3
    subst e1
    refine (same_calls (c0 := d) (c1 := 1) hk (made_C W [65536] (by decide) (by simp))).mono ?_
    rintro e w' ⟨rfl, n, rfl⟩
    exact ⟨rfl, ((Fr.refl [] W).alloc _).drewN _⟩
  have HIX : Hid (∀ (Y : Nat → Prop) (W : World) (p : Nat) (b : Pl), CoIn Y W p alC4.flush b → Calls Tryz.prog 18 #[.pointer (some ⟨p, 0, none⟩)] W fun e w' => e = .returned (.int .i64 1) ∧ w' = W) := fun Y W p b h => c_index h
  have HSP : Hid (∀ (Y : Nat → Prop) (W : World) (p : Nat) (b : Pl), CoIn Y W p alC4.flush b → Calls Tryz.prog 15 #[.pointer (some ⟨p, 0, none⟩)] W fun e w' => e = .returned (.int .i64 0) ∧ ∃ n, w' = W.drewN n) := fun Y W p b h => c_step h
  refine calls_k fun R hR => ?_
  clear hC1
  have HF1 := Lib.hid hF1
  clear hF1
  go_enter Tryz.func6, Tryz.ntmps6
  go_upto_region 1 with (fail)
  rw [hW1] at HNW HTK HF1
  clear hW1
  go_upto_region 5 with (first
    | (go_at_call 9; refine HNW.out.mono ?_; rintro e w2 ⟨p, rfl, h2, hf2, _⟩; have HT := Lib.hid (HTK.out _ _ h2 hf2); clear h2 hf2 HNW HTK)
    | (go_at_call 10; refine HT.out.mono ?_; rintro e w3 ⟨g, d, rfl, ⟨Y, ⟨b3, h3⟩⟩, ⟨k1, k2, k3, k4⟩, hf3⟩; have H3 := Lib.hid h3; have HF3 := Lib.hid hf3; have HD := Lib.hid (HDE.out _ _ _ _ h3); clear h3 hf3 HT HDE))
  go_wp2_with (first
    | (go_at_call 13; refine HD.out.mono ?_; rintro e w4 ⟨A4, d4, rfl, h4, hf4⟩; have HS4 := Lib.hid (HSM.out _ _ _ _ h4); have HF4 := Lib.hid hf4; clear h4 hf4 HD HSM)
    | (go_at_call 16; refine HS4.out.mono ?_; rintro e w5 ⟨rfl, hf5⟩; have HF5 : Hid (Fr [] w3 w5) := HF4.out.trans hf5 (by simp); have HI5 := Lib.hid (HIX.out _ _ _ _ (H3.out.fr HF5.out)); have HP5 := Lib.hid (HSP.out _ _ _ _ (H3.out.fr HF5.out)); clear hf5 HS4 HIX HSP)
    | (go_at_call 18; refine HI5.out.mono ?_; rintro e w6 ⟨rfl, rfl⟩; clear HI5)
    | (go_at_call 15; refine HP5.out.mono ?_; rintro e w7 ⟨rfl, n, rfl⟩; clear HP5))
  exact hR.out _ _ ⟨rfl, (HF3.out.trans HF5.out (by simp)).drewN _⟩
end Go.Np.Tryz
end
