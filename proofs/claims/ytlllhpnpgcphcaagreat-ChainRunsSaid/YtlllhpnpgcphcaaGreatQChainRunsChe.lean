/- What ChainRuns needs. -/
import Derived.Test.YtlllhpnpgcphcaaGreatQChainRunsNpD
import Derived.Test.YtlllhpnpgcphcaaGreatQChainRunsShelf
import Derived.Test.YtlllhpnpgcphcaaGreatQChainRunsWWords
import Derived.Test.YtlllhpnpgcphcaaGreatQChainRunsSame
import Derived.Test.YtlllhpnpgcphcaaGreatQChainRunsDocA
import Derived.Test.YtlllhpnpgcphcaaGreatQChainRunsPXx13
import Derived.Test.YtlllhpnpgcphcaaGreatQChainRunsPXx14
import Derived.Lib.LaidU8
section
set_option linter.unusedVariables false
set_option linter.unusedSimpArgs false
namespace Go.Np.Tryz
open Go.RowKit Go.Proofs Go.Proofs.YtlllhpnpgcphcaaGreatW.PrintWords
theorem addr_add (a : Addr) (n : Nat) (h : a.spot = none) : a.add n = ⟨a.block, a.off + n, none⟩ := by
  obtain ⟨b, o, s⟩ := a
  simp only at h
  subst h
  unfold Addr.add
  by_cases h1 : n = 0 <;> simp [h1]
end Go.Np.Tryz
end
section
set_option linter.unusedVariables false
set_option linter.unusedSimpArgs false
namespace Go.Np.Tryz
open Go.RowKit Go.Proofs Go.Proofs.YtlllhpnpgcphcaaGreat.PX Go.Proofs.YtlllhpnpgcphcaaGreatW.PrintWords
structure Ch where
  t : Tr
  dr : List Int
  deep : Int
  slot : Int
def bitW (d m : Int) : Bool := (Go.bits .and .i64 (shr .i64 d m) 1) == 1
def winsB (dr : List Int) (s m : Int) : Bool := decide (1 ≤ s) && decide (s ≤ (dr.length : Int)) && decide (0 ≤ m) && decide (m < 7) && bitW (rd dr (s - 1)) m
theorem wins_ev (dr : List Int) (hd : dr.length ≤ 9223372036854775807) (s m : Int) : lot_Wins.f dr s m = some (winsB dr s m) := by
  unfold lot_Wins.f winsB
  by_cases h1 : s ≥ 1
  · rw [if_pos h1]
    by_cases h2 : s ≤ (dr.length : Int)
    · rw [if_pos h2]
      by_cases h3 : m ≥ 0
      · rw [if_pos h3]
        by_cases h4 : m < 7
        · have e : wrap64 (s - 1) = s - 1 := wr_in _ (by omega)
          rw [if_pos h4, e, if_pos (by omega), if_pos (by omega), if_pos h3]
          have g1 : 1 ≤ s := h1
          have g3 : 0 ≤ m := h3
          simp [g1, h2, g3, h4, bitW]
        · rw [if_neg h4]; simp [h4]
      · rw [if_neg h3]
        have g3 : ¬ 0 ≤ m := h3
        simp [g3]
    · rw [if_neg h2]; simp [h2]
  · rw [if_neg h1]
    have g1 : ¬ 1 ≤ s := h1
    simp [g1]
def slotN (n : Int) : Int := if namedB n = true then n / 65536 else 0
def Ch.take (C : Ch) (b : Blk) : Ch × List Int × Int :=
  if rightB b = true ∧ b.f0 ≤ C.slot ∧ winsB C.dr b.f0 b.f1 = true then
    (⟨(C.t.add b).1, C.dr, C.deep, C.slot⟩, (C.t.add b).2.1, if (C.t.add b).2.2 = true then 0 else 111)
  else (C, [], 111)
def Ch.txs (C : Ch) (n : Int) : List Int := (C.t.path n).flatMap fun m => (C.t.get m).f4.map (·.f0)
def Ch.conf (C : Ch) : Int := C.t.back C.t.tip C.deep
def Ch.next (C : Ch) (s : Int) : Ch := ⟨C.t, C.dr, C.deep, max C.slot s⟩
theorem Tr.add_no {t : Tr} {b : Blk} (h : (t.add b).2.2 = false) : t.add b = (t, [], false) := by
  unfold Tr.add at h ⊢
  split
  · rfl
  · rename_i h1
    rw [if_neg h1] at h
    split
    · rename_i h2
      rw [if_pos h2] at h; cases h
    · rename_i h2
      rw [if_neg h2] at h
      split
      · rfl
      · rename_i h3
        rw [if_neg h3] at h
        cases h
abbrev VI (W : World) (P : Nat → Prop) (v : Value) (l : List Int) : Prop := Kd.V (Kd.int .i64) 3 W 0 P v l
structure ChIn (X : Nat → Prop) (w : World) (c : Nat) (C : Ch) (p : Nat) (v : Value) (D : Nat → Prop) : Prop where
  box : w.heap[c]? = some (.cells #[.pointer (some ⟨p, 0, none⟩), v, .int .i64 C.deep, .int .i64 C.slot] 70 (0, 0))
  tr : TrAt (fun k => (X k ∨ k = c) ∨ D k) w p C.t
  dr : VI w D v C.dr
  d : ∀ k, D k → ¬ X k ∧ k ≠ c ∧ k < w.heap.size
  c : ¬ X c
def ChAt (X : Nat → Prop) (w : World) (c : Nat) (C : Ch) : Prop := ∃ p v D, ChIn X w c C p v D
section
variable {X : Nat → Prop} {w w' : World} {c : Nat} {C : Ch} {p : Nat} {v : Value} {D : Nat → Prop}
theorem ChIn.lt (h : ChIn X w c C p v D) : c < w.heap.size := (Array.getElem?_eq_some_iff.1 h.box).1
theorem ChIn.frX {S : List Nat} (h : ChIn X w c C p v D) (hf : Fr S w w') (hS : ∀ k ∈ S, X k ∨ w.heap.size ≤ k) : ChIn X w' c C p v D := by
  have hc : c ∉ S := fun hm => (hS c hm).elim h.c (fun hl => absurd h.lt (by omega))
  refine ⟨(hf.block c h.lt hc).trans h.box, h.tr.frX hf (fun k hk => (hS k hk).imp (fun hx => .inl (.inl hx)) id), Kd.V_step h.dr (fun k hk hl => hf.block k hl (fun hm => (hS k hm).elim (h.d k hk).1 (fun h2 => by omega))), fun k hk => ⟨(h.d k hk).1, (h.d k hk).2.1, Nat.lt_of_lt_of_le (h.d k hk).2.2 hf.size⟩, h.c⟩
theorem ChIn.fr (h : ChIn X w c C p v D) (hf : Fr [] w w') : ChIn X w' c C p v D := h.frX hf (by simp)
theorem ChIn.later {S : List Nat} (h : ChIn X w c C p v D) (hf : Fr S w w') (hS : ∀ k ∈ S, X k ∨ w.heap.size ≤ k) : ChIn (fun k => X k ∨ (w.heap.size ≤ k ∧ k < w'.heap.size)) w' c C p v D := by
  have h1 := h.frX hf hS
  have hl := h.lt
  refine ⟨h1.box, (h.tr.later hf (fun k hk => (hS k hk).imp (fun hx => .inl (.inl hx)) id)).grow (fun k hk _ => ?_), h1.dr, fun k hk => ⟨fun hx => ?_, (h1.d k hk).2⟩, fun hx => ?_⟩
  · rcases hk with ((hk | hk) | hk) | hk
    · exact .inl (.inl (.inl hk))
    · exact .inr hk
    · exact .inl (.inl (.inr hk))
    · exact .inl (.inr hk)
  · rcases hx with hx | hx
    · exact (h.d k hk).1 hx
    · have := (h.d k hk).2.2; omega
  · rcases hx with hx | hx
    · exact h.c hx
    · omega
theorem ChAt.fr (h : ChAt X w c C) (hf : Fr [] w w') : ChAt X w' c C := by
  obtain ⟨p, v, D, h⟩ := h
  exact ⟨p, v, D, h.fr hf⟩
theorem ChAt.frX {S : List Nat} (h : ChAt X w c C) (hf : Fr S w w') (hS : ∀ k ∈ S, X k ∨ w.heap.size ≤ k) : ChAt X w' c C := by
  obtain ⟨p, v, D, h⟩ := h
  exact ⟨p, v, D, h.frX hf hS⟩
theorem ChAt.later {S : List Nat} (h : ChAt X w c C) (hf : Fr S w w') (hS : ∀ k ∈ S, X k ∨ w.heap.size ≤ k) : ChAt (fun k => X k ∨ (w.heap.size ≤ k ∧ k < w'.heap.size)) w' c C := by
  obtain ⟨p, v, D, h⟩ := h
  exact ⟨p, v, D, h.later hf hS⟩
theorem ChAt.less {X' : Nat → Prop} (h : ChAt X w c C) (hX : ∀ k, X' k → X k) : ChAt X' w c C := by
  obtain ⟨p, v, D, h⟩ := h
  refine ⟨p, v, D, h.box, h.tr.grow (fun k hk _ => ?_), h.dr, fun k hk => ⟨fun hx => (h.d k hk).1 (hX k hx), (h.d k hk).2⟩, fun hx => h.c (hX c hx)⟩
  rcases hk with (hk | hk) | hk
  · exact .inl (.inl (hX k hk))
  · exact .inl (.inr hk)
  · exact .inr hk
theorem ChIn.cells (h : ChIn X w c C p v D) : w.cell? ⟨c, 0, none⟩ = some (.pointer (some ⟨p, 0, none⟩)) ∧ w.cell? ⟨c, 1, none⟩ = some v ∧ w.cell? ⟨c, 2, none⟩ = some (.int .i64 C.deep) ∧ w.cell? ⟨c, 3, none⟩ = some (.int .i64 C.slot) ∧ w.frozen? ⟨c, 3, none⟩ = false := by
  have e0 := cell_of h.box 0
  have e1 := cell_of h.box 1
  have e2 := cell_of h.box 2
  have e3 := cell_of h.box 3
  simp at e0 e1 e2 e3
  exact ⟨e0, e1, e2, e3, froz_of h.box 3⟩
theorem ChIn.tree (h : ChIn X w c C p v D) {t' : Tr} (hT : TrAt (fun k => (X k ∨ k = c) ∨ D k) w' p t') (hF : FrX (fun k => (X k ∨ k = c) ∨ D k) w w') : ChIn X w' c ⟨t', C.dr, C.deep, C.slot⟩ p v D :=
  ⟨(hF.block h.lt (.inl (.inr rfl))).trans h.box, hT, Kd.V_step h.dr (fun k hk hl => hF.block hl (.inr hk)), fun k hk => ⟨(h.d k hk).1, (h.d k hk).2.1, Nat.lt_of_lt_of_le (h.d k hk).2.2 hF.size⟩, h.c⟩
theorem ChIn.set (h : ChIn X w c C p v D) (s : Int) : ChIn X (w.setCell ⟨c, 3, none⟩ (.int .i64 s)) c ⟨C.t, C.dr, C.deep, s⟩ p v D := by
  have hF : Fr [c] w (w.setCell ⟨c, 3, none⟩ (.int .i64 s)) := (Fr.refl _ _).setCell (.inl (by simp)) _
  refine ⟨by simpa using obj_set h.box 3 (.int .i64 s), h.tr.frX hF (fun k hk => .inl (.inl (.inr (by simpa using hk)))), Kd.V_step h.dr (fun k hk hl => hF.block k hl (fun hm => (h.d k hk).2.1 (by simpa using hm))), fun k hk => ⟨(h.d k hk).1, (h.d k hk).2.1, Nat.lt_of_lt_of_le (h.d k hk).2.2 hF.size⟩, h.c⟩
end
end Go.Np.Tryz
end
section
set_option linter.unusedVariables false
set_option linter.unusedSimpArgs false
namespace Go.Np.Tryz
open Go.RowKit Go.Proofs Go.Proofs.YtlllhpnpgcphcaaGreat.PX Go.Proofs.YtlllhpnpgcphcaaGreatW.PrintWords
theorem OwnI.V {base : Nat} {w : World} {v : Value} {l : List Int} (h : OwnI base w v l) : VI w (fun k => k ∈ v.ownBlock.toList) v l := by
  obtain ⟨A, c, hv, hc, _⟩ := h.sl
  refine ⟨A, c, hv, hc, fun W' hW => ?_⟩
  have h2 : OwnI base W' v l := ⟨row_move h.1 (fun k hk => hW k (by simp [hk]) (h.lt k (by simp [hk]))), h.2⟩
  obtain ⟨A', c', hv', _, hC⟩ := h2.sl
  rw [hv] at hv'
  injection hv' with e1 _ _
  rw [e1]; exact hC
theorem clone_own {w : World} {A : Option Addr} {c : Nat} {l : List Int} (h : (Kd.int .i64).C w A l.length l) (hb : l.length < 17592186044416) :
    Calls Tryz.prog 36 #[.slice A l.length c] w fun e w' => ∃ v, e = .returned v ∧ OwnI w.heap.size w' v l ∧ Fr [] w w' := by
  cases A with
  | none =>
    have hl : l = [] := by
      cases l with
      | nil => rfl
      | cons x l => obtain ⟨ad, e, _⟩ := int_at h 0 (by simp); cases e
    subst hl
    refine (Tryz.slices_Clone_int_nil _ c w).mono ?_
    rintro e w' ⟨rfl, rfl⟩
    exact ⟨_, rfl, OwnI.nil _ _, Fr.refl _ _⟩
  | some ad =>
    by_cases hl : l.length = 0
    · obtain rfl := List.eq_nil_of_length_eq_zero hl
      refine (Tryz.slices_Clone_int_zero ad c w).mono ?_
      rintro e w' ⟨v, rfl, h1, _, h2⟩
      exact ⟨v, rfl, OwnI.of_base h1, Fr.of_below [] h2⟩
    · have hs : ad.spot = none := by
        obtain ⟨ad', e, hc⟩ := int_at h 0 (by omega)
        injection e with e
        subst e
        have h0 : ad.add 0 = ad := by simp [Addr.add]
        rw [h0] at hc
        obtain ⟨b, o, s⟩ := ad
        exact cell_spot hc
      obtain ⟨b, o, s⟩ := ad
      simp only at hs
      subst hs
      refine (Tryz.slices_Clone_int b o l.length c l w (Nat.le_refl _) (by omega) (fun j hj => ?_)).mono ?_
      · obtain ⟨ad', e, hc⟩ := int_at h j hj
        injection e with e
        rw [← e, addr_add _ _ rfl] at hc
        exact hc
      · rintro e w' ⟨v, rfl, h1, _, h2⟩
        rw [List.take_length] at h1
        exact ⟨v, rfl, OwnI.of_base h1, Fr.of_below [] h2⟩
theorem wins_calls {w : World} {P : Nat → Prop} {A : Option Addr} {c : Nat} {dr : List Int} (h : VI w P (.slice A dr.length c) dr) (s m : Int) :
    Calls Tryz.prog 37 #[.slice A dr.length c, .int .i64 s, .int .i64 m] w fun e w' => e = .returned (.bool (winsB dr s m)) ∧ Fr [] w w' := by
  obtain ⟨_, hc, hC⟩ := Kd.V_reads' h
  refine (lot_Wins.calls A c dr s m _ w hC hc (wins_ev dr hC.2.1 s m)).mono ?_
  rintro e w' ⟨h1, ⟨n, rfl⟩⟩
  exact ⟨h1, (Fr.refl _ _).drewN n⟩
theorem right_calls {w : World} (q : BV) (h : Kd.C k67 w q.A q.b.f4.length q.b.f4) (hc : q.b.f4.length ≤ q.c) :
    Calls Tryz.prog 40 #[.agg #[.int .i64 q.b.f0, .int .i64 q.b.f1, .int .i64 q.b.f2, .int .i64 q.b.f3, .slice q.A q.b.f4.length q.c]] w fun e w' => e = .returned (.bool (rightB q.b)) ∧ Fr [] w w' :=
  (block_Right.calls 40 q.b.f0 q.b.f1 q.b.f2 q.b.f3 q.A q.c q.b.f4 _ w h hc (right_ev q.b 40 (by omega))).mono (fun e w' h => ⟨h.1, Fr.of_below [] h.2⟩)
set_option maxHeartbeats 4000000 in
set_option maxRecDepth 100000 in
theorem ch_new {w : World} {A : Option Addr} {c : Nat} {dr : List Int} (h : (Kd.int .i64).C w A dr.length dr) (hb : dr.length < 17592186044416) (deep : Int) :
    Calls Tryz.prog 8 #[.slice A dr.length c, .int .i64 deep] w fun e w' => ∃ g, e = .returned (.pointer (some ⟨g, 0, none⟩)) ∧ ChAt (fun k => k < w.heap.size) w' g ⟨⟨[], []⟩, dr, deep, 0⟩ ∧ Fr [] w w' := by
  have HNW := Lib.hid (new_calls (w := w))
  have HC := Lib.hid h
  refine calls_k fun R hR => ?_
  clear h
  go_enter Tryz.func8, Tryz.ntmps8
  go_wp2_with (first
    | (go_at_call 35; refine HNW.out.mono ?_; rintro e w1 ⟨p, rfl, hT1, hF1, hp1⟩
       have HT1 := Lib.hid hT1
       have HF1 := Lib.hid hF1
       have HCL := Lib.hid (clone_own (c := c) (Kd.C_below HC.out hF1.below) hb)
       clear hT1 hF1 HNW hp1)
    | (go_at_call 36; refine HCL.out.mono ?_; rintro e w2 ⟨v2, rfl, hO, hF2⟩
       obtain ⟨A2, d2, rfl⟩ := hO.form
       have HO := Lib.hid hO
       have HF2 := Lib.hid hF2
       clear hO hF2 HCL))
  obtain ⟨W3, hW3⟩ : ∃ W3, W3 = w2.alloc (.cells #[.pointer (some ⟨p, 0, none⟩), .slice A2 dr.length d2, .int .i64 deep, .int .i64 0] 70) := ⟨_, rfl⟩
  have hF3 : Fr [] w2 W3 := by rw [hW3]; exact (Fr.refl _ _).alloc _
  have hs1 := HF1.out.size
  have hs2 := HF2.out.size
  have hs3 : W3.heap.size = w2.heap.size + 1 := by rw [hW3]; simp
  have hb3 : W3.heap[w2.heap.size]? = some (.cells #[.pointer (some ⟨p, 0, none⟩), .slice A2 dr.length d2, .int .i64 deep, .int .i64 0] 70 (0, 0)) := by rw [hW3]; exact heap_alloc_new _ _
  have hfin : ChAt (fun k => k < w.heap.size) W3 w2.heap.size ⟨⟨[], []⟩, dr, deep, 0⟩ := by
    refine ⟨p, .slice A2 dr.length d2, fun k => k ∈ (Value.slice A2 dr.length d2).ownBlock.toList, hb3, ((HT1.out.later HF2.out (by simp)).later hF3 (by simp)).grow (fun k hk _ => ?_), (Kd.V_below HO.out.V hF3.below), fun k hk => ⟨?_, ?_, ?_⟩, ?_⟩
    · rcases hk with (hk | hk) | hk
      · exact .inl (.inl hk)
      · exact .inr ⟨by omega, by omega⟩
      · exact .inl (.inr ⟨HO.out.2 k hk, HO.out.lt k hk⟩)
    · have := HO.out.2 k hk; omega
    · have := HO.out.lt k hk; omega
    · have := HO.out.lt k hk; omega
    · show ¬ w2.heap.size < w.heap.size; omega
  rw [← hW3]
  refine hR.out _ _ ⟨_, rfl, hfin, (HF1.out.trans HF2.out (by simp)).trans hF3 (by simp)⟩
set_option maxHeartbeats 4000000 in
set_option maxRecDepth 100000 in
theorem ch_slot {X : Nat → Prop} {w : World} {c : Nat} {C : Ch} (h : ChAt X w c C) : Calls Tryz.prog 19 #[.pointer (some ⟨c, 0, none⟩)] w fun e w' => e = .returned (.int .i64 C.slot) ∧ Fr [] w w' := by
  obtain ⟨p, v, D, h⟩ := h
  obtain ⟨c0, c1, c2, c3, _⟩ := h.cells
  refine calls_k fun R hR => ?_
  clear h
  go_enter Tryz.func19, Tryz.ntmps19
  go_wp2
  exact hR.out _ _ ⟨rfl, Fr.refl _ _⟩
set_option maxHeartbeats 4000000 in
set_option maxRecDepth 100000 in
theorem ch_tree {X : Nat → Prop} {w : World} {c p : Nat} {C : Ch} {v : Value} {D : Nat → Prop} (h : ChIn X w c C p v D) : Calls Tryz.prog 20 #[.pointer (some ⟨c, 0, none⟩)] w fun e w' => e = .returned (.pointer (some ⟨p, 0, none⟩)) ∧ Fr [] w w' := by
  obtain ⟨c0, c1, c2, c3, _⟩ := h.cells
  refine calls_k fun R hR => ?_
  clear h
  go_enter Tryz.func20, Tryz.ntmps20
  go_wp2
  exact hR.out _ _ ⟨rfl, Fr.refl _ _⟩
set_option maxHeartbeats 4000000 in
set_option maxRecDepth 100000 in
theorem ch_next {X : Nat → Prop} {w : World} {c : Nat} {C : Ch} (h : ChAt X w c C) (s : Int) : Calls Tryz.prog 9 #[.pointer (some ⟨c, 0, none⟩), .int .i64 s] w fun e w' => e = .returned (.tuple #[]) ∧ ChAt X w' c (C.next s) ∧ FrX X w w' := by
  obtain ⟨p, v, D, h⟩ := h
  obtain ⟨c0, c1, c2, c3, c4⟩ := h.cells
  have H := Lib.hid h
  refine calls_k fun R hR => ?_
  clear h
  go_enter Tryz.func9, Tryz.ntmps9
  go_wp2
  refine bodyPost_end (v := .tuple #[]) (results_none rfl _ _ _) rfl ?_
  refine hR.out _ _ ⟨rfl, ⟨p, v, D, ?_⟩, ⟨[c], (Fr.refl [c] w).setCell (p := ⟨c, 3, none⟩) (.inl (by simp)) _, fun k hk => by simp at hk; subst hk; exact H.out.c⟩⟩
  first
    | exact H.out.set _
    | (have := H.out.set (max C.slot s); simpa [Ch.next] using this)
set_option maxHeartbeats 4000000 in
set_option maxRecDepth 100000 in
theorem ch_conf {X : Nat → Prop} {w : World} {c : Nat} {C : Ch} (h : ChAt X w c C) (hG : C.t.Good) : Calls Tryz.prog 22 #[.pointer (some ⟨c, 0, none⟩)] w fun e w' => e = .returned (.int .i64 C.conf) ∧ Fr [] w w' := by
  obtain ⟨p, v, D, h⟩ := h
  have H := Lib.hid h
  have HG := Lib.hid hG
  have HS : Hid (∀ W, Fr [] w W → W.cell? ⟨c, 0, none⟩ = some (.pointer (some ⟨p, 0, none⟩)) ∧ W.cell? ⟨c, 2, none⟩ = some (.int .i64 C.deep)) := fun W hW => ⟨(H.out.fr hW).cells.1, (H.out.fr hW).cells.2.2.1⟩
  have hd : Fr [] w w.drew := (Fr.refl _ _).drew
  have hs0 := HS.out _ hd
  have HD := Lib.hid hd
  refine calls_k fun R hR => ?_
  clear h hG hd
  go_enter Tryz.func22, Tryz.ntmps22
  go_upto_region 1 with (fail)
  go_region_held3 (fun W => W.cell? ⟨c, 0, none⟩ = some (.pointer (some ⟨p, 0, none⟩)) ∧ W.cell? ⟨c, 2, none⟩ = some (.int .i64 C.deep))
    (assumption)
    (first
      | (go_at_call 21; refine (tip_calls (H.out.tr.fr HD.out) HG.out.ok).mono ?_; rintro e z1 ⟨rfl, hF1⟩; have HD1 := Lib.hid (HD.out.trans hF1 (by simp)); have hs1 := HS.out _ HD1.out; clear hF1)
      | (go_at_call 56; refine (back_calls (H.out.tr.fr HD1.out) HG.out C.t.tip C.deep).mono ?_; rintro e z2 ⟨rfl, hF1⟩; have HD2 := Lib.hid (HD1.out.trans hF1 (by simp)); have hs2 := HS.out _ HD2.out; clear hF1))
  all_goals
    go_wp2
    exact hR.out _ _ ⟨rfl, HD2.out⟩
end Go.Np.Tryz
end
section
set_option linter.unusedVariables false
set_option linter.unusedSimpArgs false
namespace Go.Np.Tryz
open Go.RowKit Go.Proofs Go.Proofs.YtlllhpnpgcphcaaGreat.PX Go.Proofs.YtlllhpnpgcphcaaGreatW.PrintWords
theorem get3 {t : Tr} (hO : t.Ok) (n : Int) : (t.get n).f4.length ≤ 3 := by
  unfold Tr.get
  cases hf : t.find n with
  | none => exact Nat.zero_le _
  | some e =>
    obtain ⟨h1, h2⟩ := Tr.find_some hf
    obtain ⟨h3, h4, _⟩ := hO.known e h1
    exact txs_few (b := e.blk) (by rw [← h3]; exact h4)
theorem own_ne {w : World} {e1 e2 : TypeId} {s1 s2 n1 n2 : Nat} {v1 v2 : Value} {x1 x2 : List Value} (h1 : w.ownsRow 0 e1 s1 v1 n1 x1) (h2 : w.ownsRow 0 e2 s2 v2 n2 x2) (hne : e1 ≠ e2) : ∀ k ∈ v1.ownBlock.toList, k ∉ v2.ownBlock.toList := by
  intro k hk
  rcases h1.2 with ⟨h3, _⟩ | ⟨g, cap, cur, h3, _, h4, _⟩
  · rw [h3] at hk; simp [Value.ownBlock] at hk
  · rw [h3] at hk
    simp [Value.ownBlock] at hk
    subst hk
    exact row_ne_obj h2 h4 (Ne.symm hne)
theorem own_tx2 {w : World} {A : Option Addr} {n c : Nat} {l : List S67} (h : w.ownsRow 0 67 2 (.slice A n c) n (flatT l)) (j : Nat) (q : S67) (hq : l[j]? = some q) : ∃ g, A = some ⟨g, 0, none⟩ ∧ w.cell? ⟨g, j * 2, none⟩ = some (.int .i64 q.f0) ∧ w.cell? ⟨g, j * 2 + 1, none⟩ = some (.int .i64 q.f1) := by
  have hj := (List.getElem?_eq_some_iff.1 hq).1
  have h1 := h.1
  rw [flatT_len] at h1
  rcases h.2 with ⟨h2, h3⟩ | ⟨g, cap, cur, h2, _, h4, _, _, _, h5⟩
  · omega
  · injection h2 with h2 _ _
    refine ⟨g, h2, ?_, ?_⟩
    · have hu : (flatT l)[j * 2]? = some (.int .i64 q.f0) := by
        rw [flatT_get, show (j * 2) / 2 = j by omega, show (j * 2) % 2 = 0 by omega, hq]; rfl
      rw [cell_of h4, ← Array.getElem?_toList]
      rw [← h5, List.getElem?_take] at hu
      split at hu
      · exact hu
      · cases hu
    · have hu : (flatT l)[j * 2 + 1]? = some (.int .i64 q.f1) := by
        rw [flatT_get, show (j * 2 + 1) / 2 = j by omega, show (j * 2 + 1) % 2 = 1 by omega, hq]; rfl
      rw [cell_of h4, ← Array.getElem?_toList]
      rw [← h5, List.getElem?_take] at hu
      split at hu
      · exact hu
      · cases hu
def Ch.ids (C : Ch) (m : Int) : List Int := (C.t.get m).f4.map (·.f0)
theorem ids_len {C : Ch} (hG : C.t.Good) : ∀ (l : List Int), (l.flatMap C.ids).length ≤ 3 * l.length
  | [] => by simp
  | x :: l => by
    have h1 := ids_len hG l
    have h2 : (C.ids x).length ≤ 3 := by unfold Ch.ids; rw [List.length_map]; exact get3 hG.ok x
    simp only [List.flatMap_cons, List.length_append, List.length_cons]
    omega
theorem txs_len {C : Ch} (hG : C.t.Good) (n : Int) : (C.txs n).length ≤ 1200 := by
  have h1 := ids_len hG (C.t.path n)
  have h2 := hG.path400 n
  show ((C.t.path n).flatMap C.ids).length ≤ 1200
  omega
set_option maxHeartbeats 4000000 in
set_option maxRecDepth 100000 in
theorem ch_txs {X : Nat → Prop} {w : World} {c : Nat} {C : Ch} (h : ChAt X w c C) (hG : C.t.Good) (n : Int) : Calls Tryz.prog 24 #[.pointer (some ⟨c, 0, none⟩), .int .i64 n] w fun e w' => ∃ v, e = .returned v ∧ OwnI w.heap.size w' v (C.txs n) ∧ Fr [] w w' := by
  obtain ⟨p, v, D, h⟩ := h
  have H := Lib.hid h
  have HG := Lib.hid hG
  obtain ⟨c0, c1, c2, c3, _⟩ := h.cells
  have HPA := Lib.hid (path_calls h.tr hG n)
  have h400 := hG.path400 n
  refine calls_k fun R hR => ?_
  clear h hG
  obtain ⟨P, hP⟩ : ∃ P, P = C.t.path n := ⟨_, rfl⟩
  have htx : C.txs n = P.flatMap C.ids := by rw [hP]; rfl
  rw [← hP] at HPA h400
  obtain ⟨N, hN⟩ : ∃ N, P.length = N := ⟨_, rfl⟩
  rw [hN] at h400
  have HN := Lib.hid hN
  have HTX := Lib.hid htx
  clear hP htx hN
  go_enter Tryz.func24, Tryz.ntmps24
  go_upto_region 3 with (first
    | (go_at_call 58; refine HPA.out.mono ?_; rintro e w1 ⟨v1, rfl, hO1, hF1⟩
       obtain ⟨A1, d1, rfl⟩ := hO1.formN HN.out
       have HO1 := Lib.hid hO1
       have HGPX : Hid (∀ k ∈ (Value.slice A1 N d1).ownBlock.toList, k < w1.heap.size) := fun k hk => hO1.lt k hk
       have HF1 := Lib.hid hF1
       clear hO1 hF1 HPA))
  clear c0 c1 c2 c3
  have hst : OwnI w1.heap.size w1 (.slice none ([] : List Int).length 0) [] := OwnI.nil _ _
  have HST := Lib.hid hst
  clear hst
  go_loopg [5, 19] N (fun gn o i wr => ∃ (m j : Nat) (l : List Int) (B : Option Addr) (cp : Nat), m = gn ∧ o = .slice B l.length cp ∧ i = .int .i64 j ∧ m + j = N ∧ Hid (l = (P.take j).flatMap C.ids) ∧ Hid (OwnI w1.heap.size wr (.slice B l.length cp) l) ∧ Hid (OwnI w.heap.size wr (.slice A1 N d1) P) ∧ Hid (Fr [] w wr ∧ w1.heap.size ≤ wr.heap.size))
  case atStart => exact ⟨_, 0, [], none, 0, rfl, rfl, rfl, rfl, by show _ = _; simp, HST, HO1, HF1.out, Nat.le_refl _⟩
  case round =>
    obtain ⟨m, j, l, B, cp, rfl, rfl, rfl, hj, HL, HOU, HOP, HFR⟩ := hrel
    obtain ⟨wO, rfl⟩ : ∃ wO, wO = wr := ⟨_, rfl⟩
    clear HST HO1
    have hlen : l.length ≤ 1200 := by
      have h1 := ids_len HG.out (P.take j)
      have h2 : (P.take j).length ≤ N := by rw [List.length_take, HN.out]; omega
      rw [HL.out]; omega
    by_cases hlt : j < N
    · obtain ⟨gp, hA1, hcj⟩ := OwnI.at (A := A1) (c := d1) (l := P) (by rw [HN.out]; exact HOP.out) j (by rw [HN.out]; exact hlt)
      subst hA1
      have HGP : Hid (gp < w1.heap.size) := HGPX.out gp (by simp [Value.ownBlock])
      have hnx : (P.take (j + 1)).flatMap C.ids = l ++ C.ids (P.getD j 0) := by
        rw [List.take_succ_eq_append_getElem (show j < P.length by rw [HN.out]; exact hlt), List.flatMap_append, HL.out]
        simp [List.getD_eq_getElem?_getD, show j < P.length by rw [HN.out]; exact hlt]
      have HNX := Lib.hid hnx
      obtain ⟨y, hy⟩ : ∃ y, y = P.getD j 0 := ⟨_, rfl⟩
      rw [← hy] at hcj HNX
      clear hy hnx
      have hHO := H.out.fr HFR.out.1
      obtain ⟨c0, c1, c2, c3, _⟩ := hHO.cells
      have HGT := Lib.hid (get_calls hHO.tr HG.out.ok y)
      simp only [blkV] at HGT
      have hf3 := get3 HG.out.ok y
      obtain ⟨gb, hgb⟩ : ∃ gb, C.t.get y = gb := ⟨_, rfl⟩
      rw [hgb] at HGT hf3
      have HID : Hid (C.ids y = gb.f4.map (·.f0)) := by show _ = _; unfold Ch.ids; rw [hgb]
      clear hHO hgb
      go_upto_region 6 with (first
        | (go_at_call 59; refine HGT.out.mono ?_; rintro e w2 ⟨A2, d2, rfl, hr2, hn2, hF2⟩
           have HR2 := Lib.hid hr2
           have HF2 := Lib.hid hF2
           clear hr2 hn2 hF2 HGT c0 c1 c2 c3 hcj))
      obtain ⟨W3, hW3⟩ : ∃ W3, W3 = w2.alloc (.cells #[.int .i64 gb.f0, .int .i64 gb.f1, .int .i64 gb.f2, .int .i64 gb.f3, .slice A2 gb.f4.length d2] 35) := ⟨_, rfl⟩
      obtain ⟨g8, hg8⟩ : ∃ g, g = w2.heap.size := ⟨_, rfl⟩
      have hF3 : Fr [] w2 W3 := by rw [hW3]; exact (Fr.refl _ _).alloc _
      have hB3 : BlkIn W3 g8 ⟨gb, A2, d2⟩ := by rw [hg8]; exact BlkIn.made hW3
      have hFO3 := HF2.out.trans hF3 (by simp)
      have HR3 := Lib.hid (row_fr HR2.out hF3 (by simp))
      have HOU3 := Lib.hid (HOU.out.fr hFO3 (by simp))
      have HOP3 := Lib.hid (HOP.out.fr hFO3 (by simp))
      have HFR3 : Hid (Fr [] w W3 ∧ w1.heap.size ≤ W3.heap.size) := ⟨HFR.out.1.trans hFO3 (by simp), Nat.le_trans HFR.out.2 hFO3.size⟩
      rw [← hW3, ← hg8]
      clear hW3 hg8 hF3 hFO3 HR2 HOU HOP HF2
      obtain ⟨e0, e1, e2, e3, e4⟩ := hB3.cells
      clear hB3
      obtain ⟨n2, hn2⟩ : ∃ n2, gb.f4.length = n2 := ⟨_, rfl⟩
      have HN2 := Lib.hid hn2
      rw [hn2] at HR3 hf3
      simp only [hn2] at e4 ⊢
      clear hn2
      go_upto_region 7 with (fail)
      clear e0 e1 e2 e3 e4
      go_loopg [5, 35] n2 (fun gn o i wr => ∃ (m2 k : Nat) (l2 : List Int) (B2 : Option Addr) (cp2 : Nat), m2 = gn ∧ o = .slice B2 l2.length cp2 ∧ i = .int .i64 k ∧ m2 + k = n2 ∧ Hid (l2 = l ++ (gb.f4.take k).map (·.f0)) ∧ Hid (OwnI w1.heap.size wr (.slice B2 l2.length cp2) l2) ∧ Hid (OwnI w.heap.size wr (.slice (some ⟨gp, 0, none⟩) N d1) P) ∧ Hid (wr.ownsRow 0 67 2 (.slice A2 n2 d2) n2 (flatT gb.f4)) ∧ Hid (Fr [] w wr ∧ w1.heap.size ≤ wr.heap.size))
      case atStart => exact ⟨_, 0, l, B, cp, rfl, rfl, rfl, rfl, by show _ = _; simp, HOU3, HOP3, HR3, HFR3⟩
      case round =>
        obtain ⟨m2, k, l2, B2, cp2, rfl, rfl, rfl, hk, HL2, HOX, HPX, HRX, HFX⟩ := hrel
        obtain ⟨wx, rfl⟩ : ∃ wx, wx = wr := ⟨_, rfl⟩
        clear HOU3 HOP3 HR3 HFR3
        have hlen2 : l2.length ≤ 1210 := by
          have h2 : (gb.f4.take k).length ≤ 3 := by rw [List.length_take, HN2.out]; omega
          rw [HL2.out]; simp at h2 ⊢; omega
        by_cases hlt2 : k < n2
        · obtain ⟨q, hq⟩ : ∃ q, gb.f4[k]? = some q := ⟨_, List.getElem?_eq_getElem (by rw [HN2.out]; exact hlt2)⟩
          obtain ⟨gr, hA2, x0, x1⟩ := own_tx2 HRX.out k q hq
          subst hA2
          have HLN : Hid (l2 ++ [q.f0] = l ++ (gb.f4.take (k + 1)).map (·.f0)) := by
            obtain ⟨hkl, hqe⟩ := List.getElem?_eq_some_iff.1 hq
            show _ = _
            rw [List.take_succ_eq_append_getElem hkl, hqe, List.map_append, HL2.out]
            simp
          clear hq
          go_upto_region 9 with (fail)
          obtain ⟨W4, hW4⟩ : ∃ W4, W4 = wx.alloc (.cells #[.int .i64 q.f0, .int .i64 q.f1] 67) := ⟨_, rfl⟩
          obtain ⟨g4, hg4⟩ : ∃ g, g = wx.heap.size := ⟨_, rfl⟩
          have hF4 : Fr [] wx W4 := by rw [hW4]; exact (Fr.refl _ _).alloc _
          have hB4 : W4.heap[g4]? = some (.cells #[.int .i64 q.f0, .int .i64 q.f1] 67 (0, 0)) := by rw [hW4, hg4]; exact heap_alloc_new _ _
          have u0 := cell_of hB4 0
          simp at u0
          have HOY := Lib.hid (HOX.out.fr hF4 (by simp))
          have HPY := Lib.hid (HPX.out.fr hF4 (by simp))
          have HRY := Lib.hid (row_fr HRX.out hF4 (by simp))
          have HFY : Hid (Fr [] w W4 ∧ w1.heap.size ≤ W4.heap.size) := ⟨HFX.out.1.trans hF4 (by simp), Nat.le_trans HFX.out.2 hF4.size⟩
          have hrow := HOY.out.1
          rw [← hW4, ← hg4]
          have hb63 : l2.length < maxLen := by unfold maxLen; omega
          have hb8 : (l2.length + 1) * 8 ≤ 140737488355328 := by omega
          clear hW4 hg4 hF4 hB4 x0 x1 HOX HPX HRX HFX
          go_wp2_with (first
            | (at_builtin; refine wp_append1 rfl _ _ 22 3 rfl Tryz.underlying22 infoI rfl (by decide) hrow rfl [.int .i64 q.f0] rfl rfl (by simp [Value.oneCell']) hb63 hb8 ?_; intro A5 c5 w5 hr5 hF5 hN5
               have HOZ : Hid (OwnI w1.heap.size w5 (.slice A5 (l2.length + 1) c5) (l2 ++ [q.f0])) := by
                 refine ⟨by simpa using hr5, fun k hk => ?_⟩
                 rcases hN5 k hk with h1 | h1
                 · exact HOY.out.2 k h1
                 · exact Nat.le_trans HFY.out.2 h1
               have HPZ : Hid (OwnI w.heap.size w5 (.slice (some ⟨gp, 0, none⟩) N d1) P) := HPY.out.fr hF5 (fun k hk hm => by
                 have h1 := HOY.out.2 k hm
                 have h2 : k = gp := by simpa [Value.ownBlock, eq_comm] using hk
                 have h3 := HGP.out
                 omega)
               have HRZ : Hid (w5.ownsRow 0 67 2 (.slice (some ⟨gr, 0, none⟩) n2 d2) n2 (flatT gb.f4)) := row_fr HRY.out hF5 (own_ne HRY.out HOY.out.1 (by decide))
               have HFZ : Hid (Fr [] w w5 ∧ w1.heap.size ≤ w5.heap.size) := ⟨HFY.out.1.trans hF5 (fun k hk => .inr (Nat.le_trans HF1.out.size (HOY.out.2 k hk))), Nat.le_trans HFY.out.2 hF5.size⟩
               clear hr5 hF5 hN5 hrow u0))
          have hl1 : (l2 ++ [q.f0]).length = l2.length + 1 := by simp
          obtain ⟨m3, rfl⟩ : ∃ m3, m2 = m3 + 1 := ⟨m2 - 1, by omega⟩
          go_roundg m3
          case rel => exact ⟨m3, k + 1, l2 ++ [q.f0], A5, c5, rfl, by rw [hl1], by go_num, by omega, HLN, by rw [hl1]; exact HOZ, HPZ, HRZ, HFZ⟩
          case measure => omega
        · have HLZ : Hid (l2 = (P.take (j + 1)).flatMap C.ids) := by
            show _ = _
            rw [HNX.out, HID.out, HL2.out, List.take_of_length_le (by rw [HN2.out]; omega)]
          go_wp2
          obtain ⟨m', rfl⟩ : ∃ m', m = m' + 1 := ⟨m - 1, by omega⟩
          go_roundg m'
          case rel => exact ⟨m', j + 1, l2, B2, cp2, rfl, rfl, by go_num, by omega, HLZ, HOX, HPX, HFX⟩
          case measure => omega
    · obtain rfl : j = N := by omega
      go_wp2
      refine hR.out _ _ ⟨_, rfl, ?_, HFR.out.1⟩
      rw [HTX.out, ← List.take_length (l := P), HN.out, ← HL.out]
      exact ⟨HOU.out.1, fun k hk => Nat.le_trans HF1.out.size (HOU.out.2 k hk)⟩
end Go.Np.Tryz
end
section
set_option linter.unusedVariables false
set_option linter.unusedSimpArgs false
namespace Go.Np.Tryz
open Go.RowKit Go.Proofs Go.Proofs.YtlllhpnpgcphcaaGreat.PX Go.Proofs.YtlllhpnpgcphcaaGreatW.PrintWords
def ChTake (X : Nat → Prop) (w : World) (c : Nat) (C : Ch) (b : Blk) (e : Ending) (w' : World) : Prop :=
  ∃ v, e = .returned (.tuple #[v, .int .i64 (C.take b).2.2]) ∧ OwnI w.heap.size w' v (C.take b).2.1 ∧ ChAt X w' c (C.take b).1 ∧ FrX X w w'
set_option maxHeartbeats 4000000 in
set_option maxRecDepth 100000 in
theorem take_wrong {X : Nat → Prop} {w : World} {c p cp : Nat} {A : Option Addr} {C : Ch} {D : Nat → Prop} (h : ChIn X w c C p (.slice A C.dr.length cp) D) (q : BV) (hC : k67.C w q.A q.b.f4.length q.b.f4) (hc : q.b.f4.length ≤ q.c) (hrb : rightB q.b = false) :
    Calls Tryz.prog 14 #[.pointer (some ⟨c, 0, none⟩), .agg #[.int .i64 q.b.f0, .int .i64 q.b.f1, .int .i64 q.b.f2, .int .i64 q.b.f3, .slice q.A q.b.f4.length q.c]] w fun e w' => ChTake X w c C q.b e w' := by
  have hno : C.take q.b = (C, [], 111) := by unfold Ch.take; rw [if_neg (by simp [hrb])]
  refine calls_k fun R hR => ?_
  unfold ChTake at hR
  obtain ⟨W1, hW1⟩ : ∃ W1, W1 = w.alloc (.cells #[.int .i64 q.b.f0, .int .i64 q.b.f1, .int .i64 q.b.f2, .int .i64 q.b.f3, .slice q.A q.b.f4.length q.c] 35) := ⟨_, rfl⟩
  obtain ⟨g3, hg3⟩ : ∃ g, g = w.heap.size := ⟨_, rfl⟩
  have hF1 : Fr [] w W1 := by rw [hW1]; exact (Fr.refl _ _).alloc _
  have hB1 : BlkIn W1 g3 q := by rw [hg3]; exact BlkIn.made hW1
  have hs1 : W1.heap.size = g3 + 1 := by rw [hW1, hg3]; simp
  have hgw : w.heap.size ≤ g3 := Nat.le_of_eq hg3.symm
  have HS : Hid (∀ W, Fr [] W1 W → Fr [] W1 W ∧ W.cell? ⟨g3, 0, none⟩ = some (.int .i64 q.b.f0) ∧ W.cell? ⟨g3, 1, none⟩ = some (.int .i64 q.b.f1) ∧ W.cell? ⟨g3, 2, none⟩ = some (.int .i64 q.b.f2) ∧ W.cell? ⟨g3, 3, none⟩ = some (.int .i64 q.b.f3) ∧ W.cell? ⟨g3, 4, none⟩ = some (.slice q.A q.b.f4.length q.c) ∧ W.cell? ⟨c, 1, none⟩ = some (.slice A C.dr.length cp) ∧ W.cell? ⟨c, 3, none⟩ = some (.int .i64 C.slot)) := fun W hW => ⟨hW, (hB1.fr hW).cells.1, (hB1.fr hW).cells.2.1, (hB1.fr hW).cells.2.2.1, (hB1.fr hW).cells.2.2.2.1, (hB1.fr hW).cells.2.2.2.2, ((h.fr hF1).fr hW).cells.2.1, ((h.fr hF1).fr hW).cells.2.2.2.1⟩
  have HRT : Hid (∀ W, Fr [] W1 W → Calls Tryz.prog 40 #[.agg #[.int .i64 q.b.f0, .int .i64 q.b.f1, .int .i64 q.b.f2, .int .i64 q.b.f3, .slice q.A q.b.f4.length q.c]] W fun e w' => e = .returned (.bool false) ∧ Fr [] W w') := fun W hW => by
    have h1 := right_calls (w := W) q (Kd.C_below hC (hF1.trans hW (by simp)).below) hc
    rw [hrb] at h1; exact h1
  have HF1 := Lib.hid hF1
  have H := Lib.hid h
  rw [hno] at hR
  have hsl : True := trivial
  have HRS : Hid (∀ W, (Fr [] W1 W ∧ W.cell? ⟨g3, 0, none⟩ = some (.int .i64 q.b.f0) ∧ W.cell? ⟨g3, 1, none⟩ = some (.int .i64 q.b.f1) ∧ W.cell? ⟨g3, 2, none⟩ = some (.int .i64 q.b.f2) ∧ W.cell? ⟨g3, 3, none⟩ = some (.int .i64 q.b.f3) ∧ W.cell? ⟨g3, 4, none⟩ = some (.slice q.A q.b.f4.length q.c) ∧ W.cell? ⟨c, 1, none⟩ = some (.slice A C.dr.length cp) ∧ W.cell? ⟨c, 3, none⟩ = some (.int .i64 C.slot)) → Calls Tryz.prog 40 #[.agg #[.int .i64 q.b.f0, .int .i64 q.b.f1, .int .i64 q.b.f2, .int .i64 q.b.f3, .slice q.A q.b.f4.length q.c]] W fun e w' => e = .returned (.bool false) ∧ (Fr [] W1 w' ∧ w'.cell? ⟨g3, 0, none⟩ = some (.int .i64 q.b.f0) ∧ w'.cell? ⟨g3, 1, none⟩ = some (.int .i64 q.b.f1) ∧ w'.cell? ⟨g3, 2, none⟩ = some (.int .i64 q.b.f2) ∧ w'.cell? ⟨g3, 3, none⟩ = some (.int .i64 q.b.f3) ∧ w'.cell? ⟨g3, 4, none⟩ = some (.slice q.A q.b.f4.length q.c) ∧ w'.cell? ⟨c, 1, none⟩ = some (.slice A C.dr.length cp) ∧ w'.cell? ⟨c, 3, none⟩ = some (.int .i64 C.slot)) ∧ Fr [] W w') := fun W hS => (HRT.out W hS.1).mono (fun e w' h => ⟨h.1, HS.out w' (hS.1.trans h.2 (by simp)), h.2⟩)
  have hs0 := HS.out _ (Fr.refl [] W1).drew
  clear h hC hrb hno hB1 hF1 hs1
  go_enter Tryz.func14, Tryz.ntmps14
  go_upto_region 1 with (fail)
  rw [← hW1, ← hg3]
  clear hW1 hg3
  refine wp_region_held_drew (S := fun W => Fr [] W1 W ∧ W.cell? ⟨g3, 0, none⟩ = some (.int .i64 q.b.f0) ∧ W.cell? ⟨g3, 1, none⟩ = some (.int .i64 q.b.f1) ∧ W.cell? ⟨g3, 2, none⟩ = some (.int .i64 q.b.f2) ∧ W.cell? ⟨g3, 3, none⟩ = some (.int .i64 q.b.f3) ∧ W.cell? ⟨g3, 4, none⟩ = some (.slice q.A q.b.f4.length q.c) ∧ W.cell? ⟨c, 1, none⟩ = some (.slice A C.dr.length cp) ∧ W.cell? ⟨c, 3, none⟩ = some (.int .i64 C.slot)) (by kernel_rfl) hs0 (fun hHeld => ?_)
  refine held_take (i := 0) (v := ?_) rfl (by kernel_rfl) (by kernel_rfl) (by kernel_rfl) (fun _ _ _ h => h) (Or.inl ⟨by rfl, ?_⟩) (by assumption) ?_
  rotate_left
  · intro w hSw; obtain ⟨sF, s0, s1, s2, s3, s4, s5, s6⟩ := hSw; (try go_simp); first | done | with_reducible rfl | assumption | skip
  try simp only [Act.put, List.setIfInBounds_toArray, List.set_cons_zero, List.set_cons_succ]
  refine held_one (i := 1) rfl (by kernel_rfl) (by rfl) (fun K2 hK2 => ?_)
  go_simp
  refine (HRS.out _ (by assumption)).mono ?_
  rintro e w21 ⟨rfl, hS21, hF21⟩
  refine hK2.out _ _ hS21 (fun hHeld2 => ?_)
  try simp only [Act.put, List.setIfInBounds_toArray, List.set_cons_zero, List.set_cons_succ]
  clear hK2 K2
  refine held_take (i := 2) (v := ?_) rfl (by kernel_rfl) (by kernel_rfl) (by kernel_rfl) (fun _ _ _ h => h) (Or.inl ⟨by rfl, ?_⟩) (by assumption) ?_
  rotate_left
  · intro w hSw; obtain ⟨sF, s0, s1, s2, s3, s4, s5, s6⟩ := hSw; (try go_simp); first | done | with_reducible rfl | assumption | skip
  try simp only [Act.put, List.setIfInBounds_toArray, List.set_cons_zero, List.set_cons_succ]
  refine held_take (i := 3) (v := ?_) rfl (by kernel_rfl) (by kernel_rfl) (by kernel_rfl) (fun _ _ _ h => h) (Or.inl ⟨by rfl, ?_⟩) (by assumption) ?_
  rotate_left
  · intro w hSw; obtain ⟨sF, s0, s1, s2, s3, s4, s5, s6⟩ := hSw; (try go_simp); first | done | with_reducible rfl | assumption | skip
  try simp only [Act.put, List.setIfInBounds_toArray, List.set_cons_zero, List.set_cons_succ]
  refine held_take (i := 4) (v := undef) rfl (by kernel_rfl) (by kernel_rfl) (by kernel_rfl) (fun _ _ _ h => h) (Or.inr ⟨by rfl, rfl⟩) (by assumption) ?_
  try simp only [Act.put, List.setIfInBounds_toArray, List.set_cons_zero, List.set_cons_succ]
  refine held_take (i := 5) (v := undef) rfl (by kernel_rfl) (by kernel_rfl) (by kernel_rfl) (fun _ _ _ h => h) (Or.inr ⟨by rfl, rfl⟩) (by assumption) ?_
  try simp only [Act.put, List.setIfInBounds_toArray, List.set_cons_zero, List.set_cons_succ]
  refine held_take (i := 6) (v := undef) rfl (by kernel_rfl) (by kernel_rfl) (by kernel_rfl) (fun _ _ _ h => h) (Or.inr ⟨by rfl, rfl⟩) (by assumption) ?_
  try simp only [Act.put, List.setIfInBounds_toArray, List.set_cons_zero, List.set_cons_succ]
  refine held_take (i := 7) (v := undef) rfl (by kernel_rfl) (by kernel_rfl) (by kernel_rfl) (fun _ _ _ h => h) (Or.inr ⟨by rfl, rfl⟩) (by assumption) ?_
  try simp only [Act.put, List.setIfInBounds_toArray, List.set_cons_zero, List.set_cons_succ]
  refine held_take (i := 8) (v := undef) rfl (by kernel_rfl) (by kernel_rfl) (by kernel_rfl) (fun _ _ _ h => h) (Or.inr ⟨by rfl, rfl⟩) (by assumption) ?_
  try simp only [Act.put, List.setIfInBounds_toArray, List.set_cons_zero, List.set_cons_succ]
  refine held_take (i := 9) (v := undef) rfl (by kernel_rfl) (by kernel_rfl) (by kernel_rfl) (fun _ _ _ h => h) (Or.inr ⟨by rfl, rfl⟩) (by assumption) ?_
  try simp only [Act.put, List.setIfInBounds_toArray, List.set_cons_zero, List.set_cons_succ]
  refine held_take (i := 10) (v := undef) rfl (by kernel_rfl) (by kernel_rfl) (by kernel_rfl) (fun _ _ _ h => h) (Or.inr ⟨by rfl, rfl⟩) (by assumption) ?_
  try simp only [Act.put, List.setIfInBounds_toArray, List.set_cons_zero, List.set_cons_succ]
  refine held_take (i := 11) (v := .bool true) rfl (by kernel_rfl) (by kernel_rfl) (by kernel_rfl) (fun _ _ _ h => h) (Or.inl ⟨by rfl, ?_⟩) (by assumption) ?_
  · intro w hSw; obtain ⟨sF, s0, s1, s2, s3, s4, s5, s6⟩ := hSw; (try go_simp); first | done | with_reducible rfl | assumption | skip
  try simp only [Act.put, List.setIfInBounds_toArray, List.set_cons_zero, List.set_cons_succ]
  refine held_take (i := 12) (v := ?_) rfl (by kernel_rfl) (by kernel_rfl) (by kernel_rfl) (fun _ _ _ h => h) (Or.inl ⟨by rfl, ?_⟩) (by assumption) ?_
  rotate_left
  · intro w hSw; obtain ⟨sF, s0, s1, s2, s3, s4, s5, s6⟩ := hSw; (try go_simp); first | done | with_reducible rfl | assumption | skip
  try simp only [Act.put, List.setIfInBounds_toArray, List.set_cons_zero, List.set_cons_succ]
  refine held_take (i := 13) (v := undef) rfl (by kernel_rfl) (by kernel_rfl) (by kernel_rfl) (fun _ _ _ h => h) (Or.inr ⟨by rfl, rfl⟩) (by assumption) ?_
  try simp only [Act.put, List.setIfInBounds_toArray, List.set_cons_zero, List.set_cons_succ]
  refine held_take (i := 14) (v := undef) rfl (by kernel_rfl) (by kernel_rfl) (by kernel_rfl) (fun _ _ _ h => h) (Or.inr ⟨by rfl, rfl⟩) (by assumption) ?_
  try simp only [Act.put, List.setIfInBounds_toArray, List.set_cons_zero, List.set_cons_succ]
  refine held_take (i := 15) (v := undef) rfl (by kernel_rfl) (by kernel_rfl) (by kernel_rfl) (fun _ _ _ h => h) (Or.inr ⟨by rfl, rfl⟩) (by assumption) ?_
  try simp only [Act.put, List.setIfInBounds_toArray, List.set_cons_zero, List.set_cons_succ]
  refine held_take (i := 16) (v := undef) rfl (by kernel_rfl) (by kernel_rfl) (by kernel_rfl) (fun _ _ _ h => h) (Or.inr ⟨by rfl, rfl⟩) (by assumption) ?_
  try simp only [Act.put, List.setIfInBounds_toArray, List.set_cons_zero, List.set_cons_succ]
  refine held_take (i := 17) (v := undef) rfl (by kernel_rfl) (by kernel_rfl) (by kernel_rfl) (fun _ _ _ h => h) (Or.inr ⟨by rfl, rfl⟩) (by assumption) ?_
  try simp only [Act.put, List.setIfInBounds_toArray, List.set_cons_zero, List.set_cons_succ]
  refine held_take (i := 18) (v := undef) rfl (by kernel_rfl) (by kernel_rfl) (by kernel_rfl) (fun _ _ _ h => h) (Or.inr ⟨by rfl, rfl⟩) (by assumption) ?_
  try simp only [Act.put, List.setIfInBounds_toArray, List.set_cons_zero, List.set_cons_succ]
  refine held_take (i := 19) (v := undef) rfl (by kernel_rfl) (by kernel_rfl) (by kernel_rfl) (fun _ _ _ h => h) (Or.inr ⟨by rfl, rfl⟩) (by assumption) ?_
  try simp only [Act.put, List.setIfInBounds_toArray, List.set_cons_zero, List.set_cons_succ]
  refine held_take (i := 20) (v := undef) rfl (by kernel_rfl) (by kernel_rfl) (by kernel_rfl) (fun _ _ _ h => h) (Or.inr ⟨by rfl, rfl⟩) (by assumption) ?_
  try simp only [Act.put, List.setIfInBounds_toArray, List.set_cons_zero, List.set_cons_succ]
  refine held_take (i := 21) (v := undef) rfl (by kernel_rfl) (by kernel_rfl) (by kernel_rfl) (fun _ _ _ h => h) (Or.inr ⟨by rfl, rfl⟩) (by assumption) ?_
  try simp only [Act.put, List.setIfInBounds_toArray, List.set_cons_zero, List.set_cons_succ]
  refine held_take (i := 22) (v := undef) rfl (by kernel_rfl) (by kernel_rfl) (by kernel_rfl) (fun _ _ _ h => h) (Or.inr ⟨by rfl, rfl⟩) (by assumption) ?_
  try simp only [Act.put, List.setIfInBounds_toArray, List.set_cons_zero, List.set_cons_succ]
  refine held_take (i := 23) (v := .bool true) rfl (by kernel_rfl) (by kernel_rfl) (by kernel_rfl) (fun _ _ _ h => h) (Or.inl ⟨by rfl, ?_⟩) (by assumption) ?_
  · intro w hSw; obtain ⟨sF, s0, s1, s2, s3, s4, s5, s6⟩ := hSw; (try go_simp); first | done | with_reducible rfl | assumption | skip
  try simp only [Act.put, List.setIfInBounds_toArray, List.set_cons_zero, List.set_cons_succ]
  refine wpAnyH_done (by kernel_rfl) ?_ _
  go_wp2
  exact hR.out _ _ ⟨_, rfl, OwnI.nil _ _, ⟨p, _, D, H.out.fr (HF1.out.trans hS21.1 (by simp))⟩, .of0 (HF1.out.trans hS21.1 (by simp))⟩
set_option maxHeartbeats 4000000 in
set_option maxRecDepth 100000 in
theorem take_late {X : Nat → Prop} {w : World} {c p cp : Nat} {A : Option Addr} {C : Ch} {D : Nat → Prop} (h : ChIn X w c C p (.slice A C.dr.length cp) D) (q : BV) (hC : k67.C w q.A q.b.f4.length q.b.f4) (hc : q.b.f4.length ≤ q.c) (hrb : rightB q.b = true) (hsl : C.slot < q.b.f0) :
    Calls Tryz.prog 14 #[.pointer (some ⟨c, 0, none⟩), .agg #[.int .i64 q.b.f0, .int .i64 q.b.f1, .int .i64 q.b.f2, .int .i64 q.b.f3, .slice q.A q.b.f4.length q.c]] w fun e w' => ChTake X w c C q.b e w' := by
  have hno : C.take q.b = (C, [], 111) := by unfold Ch.take; rw [if_neg (by rintro ⟨_, h2, _⟩; omega)]
  refine calls_k fun R hR => ?_
  unfold ChTake at hR
  obtain ⟨W1, hW1⟩ : ∃ W1, W1 = w.alloc (.cells #[.int .i64 q.b.f0, .int .i64 q.b.f1, .int .i64 q.b.f2, .int .i64 q.b.f3, .slice q.A q.b.f4.length q.c] 35) := ⟨_, rfl⟩
  obtain ⟨g3, hg3⟩ : ∃ g, g = w.heap.size := ⟨_, rfl⟩
  have hF1 : Fr [] w W1 := by rw [hW1]; exact (Fr.refl _ _).alloc _
  have hB1 : BlkIn W1 g3 q := by rw [hg3]; exact BlkIn.made hW1
  have hs1 : W1.heap.size = g3 + 1 := by rw [hW1, hg3]; simp
  have hgw : w.heap.size ≤ g3 := Nat.le_of_eq hg3.symm
  have HS : Hid (∀ W, Fr [] W1 W → Fr [] W1 W ∧ W.cell? ⟨g3, 0, none⟩ = some (.int .i64 q.b.f0) ∧ W.cell? ⟨g3, 1, none⟩ = some (.int .i64 q.b.f1) ∧ W.cell? ⟨g3, 2, none⟩ = some (.int .i64 q.b.f2) ∧ W.cell? ⟨g3, 3, none⟩ = some (.int .i64 q.b.f3) ∧ W.cell? ⟨g3, 4, none⟩ = some (.slice q.A q.b.f4.length q.c) ∧ W.cell? ⟨c, 1, none⟩ = some (.slice A C.dr.length cp) ∧ W.cell? ⟨c, 3, none⟩ = some (.int .i64 C.slot)) := fun W hW => ⟨hW, (hB1.fr hW).cells.1, (hB1.fr hW).cells.2.1, (hB1.fr hW).cells.2.2.1, (hB1.fr hW).cells.2.2.2.1, (hB1.fr hW).cells.2.2.2.2, ((h.fr hF1).fr hW).cells.2.1, ((h.fr hF1).fr hW).cells.2.2.2.1⟩
  have HRT : Hid (∀ W, Fr [] W1 W → Calls Tryz.prog 40 #[.agg #[.int .i64 q.b.f0, .int .i64 q.b.f1, .int .i64 q.b.f2, .int .i64 q.b.f3, .slice q.A q.b.f4.length q.c]] W fun e w' => e = .returned (.bool true) ∧ Fr [] W w') := fun W hW => by
    have h1 := right_calls (w := W) q (Kd.C_below hC (hF1.trans hW (by simp)).below) hc
    rw [hrb] at h1; exact h1
  have HF1 := Lib.hid hF1
  have H := Lib.hid h
  rw [hno] at hR
  have HRS : Hid (∀ W, (Fr [] W1 W ∧ W.cell? ⟨g3, 0, none⟩ = some (.int .i64 q.b.f0) ∧ W.cell? ⟨g3, 1, none⟩ = some (.int .i64 q.b.f1) ∧ W.cell? ⟨g3, 2, none⟩ = some (.int .i64 q.b.f2) ∧ W.cell? ⟨g3, 3, none⟩ = some (.int .i64 q.b.f3) ∧ W.cell? ⟨g3, 4, none⟩ = some (.slice q.A q.b.f4.length q.c) ∧ W.cell? ⟨c, 1, none⟩ = some (.slice A C.dr.length cp) ∧ W.cell? ⟨c, 3, none⟩ = some (.int .i64 C.slot)) → Calls Tryz.prog 40 #[.agg #[.int .i64 q.b.f0, .int .i64 q.b.f1, .int .i64 q.b.f2, .int .i64 q.b.f3, .slice q.A q.b.f4.length q.c]] W fun e w' => e = .returned (.bool true) ∧ (Fr [] W1 w' ∧ w'.cell? ⟨g3, 0, none⟩ = some (.int .i64 q.b.f0) ∧ w'.cell? ⟨g3, 1, none⟩ = some (.int .i64 q.b.f1) ∧ w'.cell? ⟨g3, 2, none⟩ = some (.int .i64 q.b.f2) ∧ w'.cell? ⟨g3, 3, none⟩ = some (.int .i64 q.b.f3) ∧ w'.cell? ⟨g3, 4, none⟩ = some (.slice q.A q.b.f4.length q.c) ∧ w'.cell? ⟨c, 1, none⟩ = some (.slice A C.dr.length cp) ∧ w'.cell? ⟨c, 3, none⟩ = some (.int .i64 C.slot)) ∧ Fr [] W w') := fun W hS => (HRT.out W hS.1).mono (fun e w' h => ⟨h.1, HS.out w' (hS.1.trans h.2 (by simp)), h.2⟩)
  have hs0 := HS.out _ (Fr.refl [] W1).drew
  have hgt : decide (C.slot < q.b.f0) = true := decide_eq_true hsl
  clear h hC hrb hno hB1 hF1 hs1
  go_enter Tryz.func14, Tryz.ntmps14
  go_upto_region 1 with (fail)
  rw [← hW1, ← hg3]
  clear hW1 hg3
  refine wp_region_held_drew (S := fun W => Fr [] W1 W ∧ W.cell? ⟨g3, 0, none⟩ = some (.int .i64 q.b.f0) ∧ W.cell? ⟨g3, 1, none⟩ = some (.int .i64 q.b.f1) ∧ W.cell? ⟨g3, 2, none⟩ = some (.int .i64 q.b.f2) ∧ W.cell? ⟨g3, 3, none⟩ = some (.int .i64 q.b.f3) ∧ W.cell? ⟨g3, 4, none⟩ = some (.slice q.A q.b.f4.length q.c) ∧ W.cell? ⟨c, 1, none⟩ = some (.slice A C.dr.length cp) ∧ W.cell? ⟨c, 3, none⟩ = some (.int .i64 C.slot)) (by kernel_rfl) hs0 (fun hHeld => ?_)
  refine held_take (i := 0) (v := ?_) rfl (by kernel_rfl) (by kernel_rfl) (by kernel_rfl) (fun _ _ _ h => h) (Or.inl ⟨by rfl, ?_⟩) (by assumption) ?_
  rotate_left
  · intro w hSw; obtain ⟨sF, s0, s1, s2, s3, s4, s5, s6⟩ := hSw; (try go_simp); first | done | with_reducible rfl | assumption | skip
  try simp only [Act.put, List.setIfInBounds_toArray, List.set_cons_zero, List.set_cons_succ]
  refine held_one (i := 1) rfl (by kernel_rfl) (by rfl) (fun K2 hK2 => ?_)
  go_simp
  refine (HRS.out _ (by assumption)).mono ?_
  rintro e w21 ⟨rfl, hS21, hF21⟩
  refine hK2.out _ _ hS21 (fun hHeld2 => ?_)
  try simp only [Act.put, List.setIfInBounds_toArray, List.set_cons_zero, List.set_cons_succ]
  clear hK2 K2
  refine held_take (i := 2) (v := ?_) rfl (by kernel_rfl) (by kernel_rfl) (by kernel_rfl) (fun _ _ _ h => h) (Or.inl ⟨by rfl, ?_⟩) (by assumption) ?_
  rotate_left
  · intro w hSw; obtain ⟨sF, s0, s1, s2, s3, s4, s5, s6⟩ := hSw; (try go_simp); first | done | with_reducible rfl | assumption | skip
  try simp only [Act.put, List.setIfInBounds_toArray, List.set_cons_zero, List.set_cons_succ]
  refine held_take (i := 3) (v := ?_) rfl (by kernel_rfl) (by kernel_rfl) (by kernel_rfl) (fun _ _ _ h => h) (Or.inl ⟨by rfl, ?_⟩) (by assumption) ?_
  rotate_left
  · intro w hSw; obtain ⟨sF, s0, s1, s2, s3, s4, s5, s6⟩ := hSw; (try go_simp); first | done | with_reducible rfl | assumption | skip
  try simp only [Act.put, List.setIfInBounds_toArray, List.set_cons_zero, List.set_cons_succ]
  refine held_take (i := 4) (v := ?_) rfl (by kernel_rfl) (by kernel_rfl) (by kernel_rfl) (fun _ _ _ h => h) (Or.inl ⟨by rfl, ?_⟩) (by assumption) ?_
  rotate_left
  · intro w hSw; obtain ⟨sF, s0, s1, s2, s3, s4, s5, s6⟩ := hSw; (try go_simp); first | done | with_reducible rfl | assumption | skip
  try simp only [Act.put, List.setIfInBounds_toArray, List.set_cons_zero, List.set_cons_succ]
  refine held_take (i := 5) (v := ?_) rfl (by kernel_rfl) (by kernel_rfl) (by kernel_rfl) (fun _ _ _ h => h) (Or.inl ⟨by rfl, ?_⟩) (by assumption) ?_
  rotate_left
  · intro w hSw; obtain ⟨sF, s0, s1, s2, s3, s4, s5, s6⟩ := hSw; (try go_simp); first | done | with_reducible rfl | assumption | skip
  try simp only [Act.put, List.setIfInBounds_toArray, List.set_cons_zero, List.set_cons_succ]
  refine held_take (i := 6) (v := ?_) rfl (by kernel_rfl) (by kernel_rfl) (by kernel_rfl) (fun _ _ _ h => h) (Or.inl ⟨by rfl, ?_⟩) (by assumption) ?_
  rotate_left
  · intro w hSw; obtain ⟨sF, s0, s1, s2, s3, s4, s5, s6⟩ := hSw; (try go_simp); first | done | with_reducible rfl | assumption | skip
  try simp only [Act.put, List.setIfInBounds_toArray, List.set_cons_zero, List.set_cons_succ]
  refine held_take (i := 7) (v := ?_) rfl (by kernel_rfl) (by kernel_rfl) (by kernel_rfl) (fun _ _ _ h => h) (Or.inl ⟨by rfl, ?_⟩) (by assumption) ?_
  rotate_left
  · intro w hSw; obtain ⟨sF, s0, s1, s2, s3, s4, s5, s6⟩ := hSw; (try go_simp); first | done | with_reducible rfl | assumption | skip
  try simp only [Act.put, List.setIfInBounds_toArray, List.set_cons_zero, List.set_cons_succ]
  refine held_take (i := 8) (v := ?_) rfl (by kernel_rfl) (by kernel_rfl) (by kernel_rfl) (fun _ _ _ h => h) (Or.inl ⟨by rfl, ?_⟩) (by assumption) ?_
  rotate_left
  · intro w hSw; obtain ⟨sF, s0, s1, s2, s3, s4, s5, s6⟩ := hSw; (try go_simp); first | done | with_reducible rfl | assumption | skip
  try simp only [Act.put, List.setIfInBounds_toArray, List.set_cons_zero, List.set_cons_succ]
  refine held_take (i := 9) (v := ?_) rfl (by kernel_rfl) (by kernel_rfl) (by kernel_rfl) (fun _ _ _ h => h) (Or.inl ⟨by rfl, ?_⟩) (by assumption) ?_
  rotate_left
  · intro w hSw; obtain ⟨sF, s0, s1, s2, s3, s4, s5, s6⟩ := hSw; (try go_simp); first | done | with_reducible rfl | assumption | skip
  try simp only [Act.put, List.setIfInBounds_toArray, List.set_cons_zero, List.set_cons_succ]
  refine held_take (i := 10) (v := ?_) rfl (by kernel_rfl) (by kernel_rfl) (by kernel_rfl) (fun _ _ _ h => h) (Or.inl ⟨by rfl, ?_⟩) (by assumption) ?_
  rotate_left
  · intro w hSw; obtain ⟨sF, s0, s1, s2, s3, s4, s5, s6⟩ := hSw; (try go_simp); first | done | with_reducible rfl | assumption | skip
  try simp only [Act.put, List.setIfInBounds_toArray, List.set_cons_zero, List.set_cons_succ]
  refine held_take (i := 11) (v := .bool true) rfl (by kernel_rfl) (by kernel_rfl) (by kernel_rfl) (fun _ _ _ h => h) (Or.inl ⟨by rfl, ?_⟩) (by assumption) ?_
  · intro w hSw; obtain ⟨sF, s0, s1, s2, s3, s4, s5, s6⟩ := hSw; (try go_simp); first | done | with_reducible rfl | assumption | skip
  try simp only [Act.put, List.setIfInBounds_toArray, List.set_cons_zero, List.set_cons_succ]
  refine held_take (i := 12) (v := ?_) rfl (by kernel_rfl) (by kernel_rfl) (by kernel_rfl) (fun _ _ _ h => h) (Or.inl ⟨by rfl, ?_⟩) (by assumption) ?_
  rotate_left
  · intro w hSw; obtain ⟨sF, s0, s1, s2, s3, s4, s5, s6⟩ := hSw; (try go_simp); first | done | with_reducible rfl | assumption | skip
  try simp only [Act.put, List.setIfInBounds_toArray, List.set_cons_zero, List.set_cons_succ]
  refine held_take (i := 13) (v := undef) rfl (by kernel_rfl) (by kernel_rfl) (by kernel_rfl) (fun _ _ _ h => h) (Or.inr ⟨by rfl, rfl⟩) (by assumption) ?_
  try simp only [Act.put, List.setIfInBounds_toArray, List.set_cons_zero, List.set_cons_succ]
  refine held_take (i := 14) (v := undef) rfl (by kernel_rfl) (by kernel_rfl) (by kernel_rfl) (fun _ _ _ h => h) (Or.inr ⟨by rfl, rfl⟩) (by assumption) ?_
  try simp only [Act.put, List.setIfInBounds_toArray, List.set_cons_zero, List.set_cons_succ]
  refine held_take (i := 15) (v := undef) rfl (by kernel_rfl) (by kernel_rfl) (by kernel_rfl) (fun _ _ _ h => h) (Or.inr ⟨by rfl, rfl⟩) (by assumption) ?_
  try simp only [Act.put, List.setIfInBounds_toArray, List.set_cons_zero, List.set_cons_succ]
  refine held_take (i := 16) (v := undef) rfl (by kernel_rfl) (by kernel_rfl) (by kernel_rfl) (fun _ _ _ h => h) (Or.inr ⟨by rfl, rfl⟩) (by assumption) ?_
  try simp only [Act.put, List.setIfInBounds_toArray, List.set_cons_zero, List.set_cons_succ]
  refine held_take (i := 17) (v := undef) rfl (by kernel_rfl) (by kernel_rfl) (by kernel_rfl) (fun _ _ _ h => h) (Or.inr ⟨by rfl, rfl⟩) (by assumption) ?_
  try simp only [Act.put, List.setIfInBounds_toArray, List.set_cons_zero, List.set_cons_succ]
  refine held_take (i := 18) (v := undef) rfl (by kernel_rfl) (by kernel_rfl) (by kernel_rfl) (fun _ _ _ h => h) (Or.inr ⟨by rfl, rfl⟩) (by assumption) ?_
  try simp only [Act.put, List.setIfInBounds_toArray, List.set_cons_zero, List.set_cons_succ]
  refine held_take (i := 19) (v := undef) rfl (by kernel_rfl) (by kernel_rfl) (by kernel_rfl) (fun _ _ _ h => h) (Or.inr ⟨by rfl, rfl⟩) (by assumption) ?_
  try simp only [Act.put, List.setIfInBounds_toArray, List.set_cons_zero, List.set_cons_succ]
  refine held_take (i := 20) (v := undef) rfl (by kernel_rfl) (by kernel_rfl) (by kernel_rfl) (fun _ _ _ h => h) (Or.inr ⟨by rfl, rfl⟩) (by assumption) ?_
  try simp only [Act.put, List.setIfInBounds_toArray, List.set_cons_zero, List.set_cons_succ]
  refine held_take (i := 21) (v := undef) rfl (by kernel_rfl) (by kernel_rfl) (by kernel_rfl) (fun _ _ _ h => h) (Or.inr ⟨by rfl, rfl⟩) (by assumption) ?_
  try simp only [Act.put, List.setIfInBounds_toArray, List.set_cons_zero, List.set_cons_succ]
  refine held_take (i := 22) (v := undef) rfl (by kernel_rfl) (by kernel_rfl) (by kernel_rfl) (fun _ _ _ h => h) (Or.inr ⟨by rfl, rfl⟩) (by assumption) ?_
  try simp only [Act.put, List.setIfInBounds_toArray, List.set_cons_zero, List.set_cons_succ]
  refine held_take (i := 23) (v := .bool true) rfl (by kernel_rfl) (by kernel_rfl) (by kernel_rfl) (fun _ _ _ h => h) (Or.inl ⟨by rfl, ?_⟩) (by assumption) ?_
  · intro w hSw; obtain ⟨sF, s0, s1, s2, s3, s4, s5, s6⟩ := hSw; (try go_simp); first | done | with_reducible rfl | assumption | skip
  try simp only [Act.put, List.setIfInBounds_toArray, List.set_cons_zero, List.set_cons_succ]
  refine wpAnyH_done (by kernel_rfl) ?_ _
  go_wp2
  exact hR.out _ _ ⟨_, rfl, OwnI.nil _ _, ⟨p, _, D, H.out.fr (HF1.out.trans hS21.1 (by simp))⟩, .of0 (HF1.out.trans hS21.1 (by simp))⟩
end Go.Np.Tryz
end
section
set_option linter.unusedVariables false
set_option linter.unusedSimpArgs false
namespace Go.Np.Tryz
open Go.RowKit Go.Proofs Go.Proofs.YtlllhpnpgcphcaaGreat.PX Go.Proofs.YtlllhpnpgcphcaaGreatW.PrintWords
set_option maxHeartbeats 4000000 in
set_option maxRecDepth 100000 in
theorem take_lost {X : Nat → Prop} {w : World} {c p cp : Nat} {A : Option Addr} {C : Ch} {D : Nat → Prop} (h : ChIn X w c C p (.slice A C.dr.length cp) D) (q : BV) (hC : k67.C w q.A q.b.f4.length q.b.f4) (hc : q.b.f4.length ≤ q.c) (hrb : rightB q.b = true) (hsl : q.b.f0 ≤ C.slot) (hwn : winsB C.dr q.b.f0 q.b.f1 = false) :
    Calls Tryz.prog 14 #[.pointer (some ⟨c, 0, none⟩), .agg #[.int .i64 q.b.f0, .int .i64 q.b.f1, .int .i64 q.b.f2, .int .i64 q.b.f3, .slice q.A q.b.f4.length q.c]] w fun e w' => ChTake X w c C q.b e w' := by
  have hno : C.take q.b = (C, [], 111) := by unfold Ch.take; rw [if_neg (by rintro ⟨_, _, h3⟩; rw [hwn] at h3; cases h3)]
  refine calls_k fun R hR => ?_
  unfold ChTake at hR
  obtain ⟨W1, hW1⟩ : ∃ W1, W1 = w.alloc (.cells #[.int .i64 q.b.f0, .int .i64 q.b.f1, .int .i64 q.b.f2, .int .i64 q.b.f3, .slice q.A q.b.f4.length q.c] 35) := ⟨_, rfl⟩
  obtain ⟨g3, hg3⟩ : ∃ g, g = w.heap.size := ⟨_, rfl⟩
  have hF1 : Fr [] w W1 := by rw [hW1]; exact (Fr.refl _ _).alloc _
  have hB1 : BlkIn W1 g3 q := by rw [hg3]; exact BlkIn.made hW1
  have hs1 : W1.heap.size = g3 + 1 := by rw [hW1, hg3]; simp
  have hgw : w.heap.size ≤ g3 := Nat.le_of_eq hg3.symm
  have HS : Hid (∀ W, Fr [] W1 W → Fr [] W1 W ∧ W.cell? ⟨g3, 0, none⟩ = some (.int .i64 q.b.f0) ∧ W.cell? ⟨g3, 1, none⟩ = some (.int .i64 q.b.f1) ∧ W.cell? ⟨g3, 2, none⟩ = some (.int .i64 q.b.f2) ∧ W.cell? ⟨g3, 3, none⟩ = some (.int .i64 q.b.f3) ∧ W.cell? ⟨g3, 4, none⟩ = some (.slice q.A q.b.f4.length q.c) ∧ W.cell? ⟨c, 1, none⟩ = some (.slice A C.dr.length cp) ∧ W.cell? ⟨c, 3, none⟩ = some (.int .i64 C.slot)) := fun W hW => ⟨hW, (hB1.fr hW).cells.1, (hB1.fr hW).cells.2.1, (hB1.fr hW).cells.2.2.1, (hB1.fr hW).cells.2.2.2.1, (hB1.fr hW).cells.2.2.2.2, ((h.fr hF1).fr hW).cells.2.1, ((h.fr hF1).fr hW).cells.2.2.2.1⟩
  have HRT : Hid (∀ W, Fr [] W1 W → Calls Tryz.prog 40 #[.agg #[.int .i64 q.b.f0, .int .i64 q.b.f1, .int .i64 q.b.f2, .int .i64 q.b.f3, .slice q.A q.b.f4.length q.c]] W fun e w' => e = .returned (.bool true) ∧ Fr [] W w') := fun W hW => by
    have h1 := right_calls (w := W) q (Kd.C_below hC (hF1.trans hW (by simp)).below) hc
    rw [hrb] at h1; exact h1
  have HWI : Hid (∀ W, Fr [] W1 W → Calls Tryz.prog 37 #[.slice A C.dr.length cp, .int .i64 q.b.f0, .int .i64 q.b.f1] W fun e w' => e = .returned (.bool false) ∧ Fr [] W w') := fun W hW => by
    have h1 := wins_calls (w := W) ((h.fr hF1).fr hW).dr q.b.f0 q.b.f1
    rw [hwn] at h1; exact h1
  have HF1 := Lib.hid hF1
  have H := Lib.hid h
  rw [hno] at hR
  have hs0 := (HS.out _ (Fr.refl [] W1).drew).2
  have HD0 : Hid (Fr [] W1 W1.drew) := (Fr.refl [] W1).drew
  have hle : ¬ C.slot < q.b.f0 := by omega
  have hlb : decide (C.slot < q.b.f0) = false := decide_eq_false hle
  clear h hC hrb hno hB1 hF1 hs1 hwn
  go_enter Tryz.func14, Tryz.ntmps14
  go_upto_region 1 with (fail)
  rw [← hW1, ← hg3]
  clear hW1 hg3
  go_region_held3 (fun W => W.cell? ⟨g3, 0, none⟩ = some (.int .i64 q.b.f0) ∧ W.cell? ⟨g3, 1, none⟩ = some (.int .i64 q.b.f1) ∧ W.cell? ⟨g3, 2, none⟩ = some (.int .i64 q.b.f2) ∧ W.cell? ⟨g3, 3, none⟩ = some (.int .i64 q.b.f3) ∧ W.cell? ⟨g3, 4, none⟩ = some (.slice q.A q.b.f4.length q.c) ∧ W.cell? ⟨c, 1, none⟩ = some (.slice A C.dr.length cp) ∧ W.cell? ⟨c, 3, none⟩ = some (.int .i64 C.slot))
    (assumption)
    (first
      | (go_at_call 40; refine (HRT.out _ HD0.out).mono ?_; rintro e w2 ⟨rfl, hF2⟩; have HD1 := Lib.hid (HD0.out.trans hF2 (by simp)); have hs1 := (HS.out _ HD1.out).2; clear hF2 HRT)
      | (go_at_call 37; refine (HWI.out _ HD1.out).mono ?_; rintro e w3 ⟨rfl, hF3⟩; have HD2 := Lib.hid (HD1.out.trans hF3 (by simp)); have hs2 := (HS.out _ HD2.out).2; clear hF3 HWI))
  all_goals
    go_wp2
    exact hR.out _ _ ⟨_, rfl, OwnI.nil _ _, ⟨p, _, D, H.out.fr (HF1.out.trans HD2.out (by simp))⟩, .of0 (HF1.out.trans HD2.out (by simp))⟩
set_option maxHeartbeats 4000000 in
set_option maxRecDepth 100000 in
theorem take_won {X : Nat → Prop} {w : World} {c p cp : Nat} {A : Option Addr} {C : Ch} {D : Nat → Prop} (h : ChIn X w c C p (.slice A C.dr.length cp) D) (q : BV) (hC : k67.C w q.A q.b.f4.length q.b.f4) (hc : q.b.f4.length ≤ q.c) (hG : C.t.Good) (hXw : ∀ k, X k → k < w.heap.size) (hrb : rightB q.b = true) (hsl : q.b.f0 ≤ C.slot) (hwn : winsB C.dr q.b.f0 q.b.f1 = true) :
    Calls Tryz.prog 14 #[.pointer (some ⟨c, 0, none⟩), .agg #[.int .i64 q.b.f0, .int .i64 q.b.f1, .int .i64 q.b.f2, .int .i64 q.b.f3, .slice q.A q.b.f4.length q.c]] w fun e w' => ChTake X w c C q.b e w' := by
  have hyes : C.take q.b = (⟨(C.t.add q.b).1, C.dr, C.deep, C.slot⟩, (C.t.add q.b).2.1, if (C.t.add q.b).2.2 = true then 0 else 111) := by unfold Ch.take; rw [if_pos ⟨hrb, hsl, hwn⟩]
  refine calls_k fun R hR => ?_
  unfold ChTake at hR
  obtain ⟨W1, hW1⟩ : ∃ W1, W1 = w.alloc (.cells #[.int .i64 q.b.f0, .int .i64 q.b.f1, .int .i64 q.b.f2, .int .i64 q.b.f3, .slice q.A q.b.f4.length q.c] 35) := ⟨_, rfl⟩
  obtain ⟨g3, hg3⟩ : ∃ g, g = w.heap.size := ⟨_, rfl⟩
  have hF1 : Fr [] w W1 := by rw [hW1]; exact (Fr.refl _ _).alloc _
  have hB1 : BlkIn W1 g3 q := by rw [hg3]; exact BlkIn.made hW1
  have hs1 : W1.heap.size = g3 + 1 := by rw [hW1, hg3]; simp
  have hgw : w.heap.size ≤ g3 := Nat.le_of_eq hg3.symm
  have HS : Hid (∀ W, Fr [] W1 W → Fr [] W1 W ∧ W.cell? ⟨g3, 0, none⟩ = some (.int .i64 q.b.f0) ∧ W.cell? ⟨g3, 1, none⟩ = some (.int .i64 q.b.f1) ∧ W.cell? ⟨g3, 2, none⟩ = some (.int .i64 q.b.f2) ∧ W.cell? ⟨g3, 3, none⟩ = some (.int .i64 q.b.f3) ∧ W.cell? ⟨g3, 4, none⟩ = some (.slice q.A q.b.f4.length q.c) ∧ W.cell? ⟨c, 1, none⟩ = some (.slice A C.dr.length cp) ∧ W.cell? ⟨c, 3, none⟩ = some (.int .i64 C.slot)) := fun W hW => ⟨hW, (hB1.fr hW).cells.1, (hB1.fr hW).cells.2.1, (hB1.fr hW).cells.2.2.1, (hB1.fr hW).cells.2.2.2.1, (hB1.fr hW).cells.2.2.2.2, ((h.fr hF1).fr hW).cells.2.1, ((h.fr hF1).fr hW).cells.2.2.2.1⟩
  have HRT : Hid (∀ W, Fr [] W1 W → Calls Tryz.prog 40 #[.agg #[.int .i64 q.b.f0, .int .i64 q.b.f1, .int .i64 q.b.f2, .int .i64 q.b.f3, .slice q.A q.b.f4.length q.c]] W fun e w' => e = .returned (.bool true) ∧ Fr [] W w') := fun W hW => by
    have h1 := right_calls (w := W) q (Kd.C_below hC (hF1.trans hW (by simp)).below) hc
    rw [hrb] at h1; exact h1
  have HWI : Hid (∀ W, Fr [] W1 W → Calls Tryz.prog 37 #[.slice A C.dr.length cp, .int .i64 q.b.f0, .int .i64 q.b.f1] W fun e w' => e = .returned (.bool true) ∧ Fr [] W w') := fun W hW => by
    have h1 := wins_calls (w := W) ((h.fr hF1).fr hW).dr q.b.f0 q.b.f1
    rw [hwn] at h1; exact h1
  have HF1 := Lib.hid hF1
  have H := Lib.hid h
  rw [hyes] at hR
  have hs0 := (HS.out _ (Fr.refl [] W1).drew).2
  have HD0 : Hid (Fr [] W1 W1.drew) := (Fr.refl [] W1).drew
  have hle : ¬ C.slot < q.b.f0 := by omega
  have hlb : decide (C.slot < q.b.f0) = false := decide_eq_false hle
  have HB1 := Lib.hid hB1
  have HG := Lib.hid hG
  have HC := Lib.hid hC
  have HXW := Lib.hid hXw
  clear h hC hrb hyes hB1 hwn hG hF1 hs1 hXw
  go_enter Tryz.func14, Tryz.ntmps14
  go_upto_region 1 with (fail)
  rw [← hW1, ← hg3]
  clear hW1 hg3
  go_region_held3 (fun W => W.cell? ⟨g3, 0, none⟩ = some (.int .i64 q.b.f0) ∧ W.cell? ⟨g3, 1, none⟩ = some (.int .i64 q.b.f1) ∧ W.cell? ⟨g3, 2, none⟩ = some (.int .i64 q.b.f2) ∧ W.cell? ⟨g3, 3, none⟩ = some (.int .i64 q.b.f3) ∧ W.cell? ⟨g3, 4, none⟩ = some (.slice q.A q.b.f4.length q.c) ∧ W.cell? ⟨c, 1, none⟩ = some (.slice A C.dr.length cp) ∧ W.cell? ⟨c, 3, none⟩ = some (.int .i64 C.slot))
    (assumption)
    (first
      | (go_at_call 40; refine (HRT.out _ HD0.out).mono ?_; rintro e w2 ⟨rfl, hF2⟩; have HD1 := Lib.hid (HD0.out.trans hF2 (by simp)); have hs1 := (HS.out _ HD1.out).2; clear hF2 HRT)
      | (go_at_call 37; refine (HWI.out _ HD1.out).mono ?_; rintro e w3 ⟨rfl, hF3⟩; have HD2 := Lib.hid (HD1.out.trans hF3 (by simp)); have hs2 := (HS.out _ HD2.out).2; clear hF3 HWI))
  all_goals
    go_upto_region 3 with (fail)
    have hDD := HD2.out.drew
    have hFd := HF1.out.trans hDD (by simp)
    have hId := H.out.fr hFd
    have hTd := H.out.tr.later hFd (by simp)
    have hcl := H.out.lt
    have hbd := (HB1.out.fr hDD)
    have hgd : g3 < w3.drew.heap.size := (Array.getElem?_eq_some_iff.1 hbd).1
    have hsd := hFd.size
    have HP : Hid (Calls Tryz.prog 45 #[.pointer (some ⟨p, 0, none⟩), .agg #[.int .i64 q.b.f0, .int .i64 q.b.f1, .int .i64 q.b.f2, .int .i64 q.b.f3, .slice q.A q.b.f4.length q.c]] w3.drew fun e w' => (∃ v, e = .returned (.tuple #[v, .bool (C.t.add q.b).2.2]) ∧ OwnI w.heap.size w' v (C.t.add q.b).2.1 ∧ ChIn X w' c ⟨(C.t.add q.b).1, C.dr, C.deep, C.slot⟩ p (.slice A C.dr.length cp) D ∧ FrX X w w') ∧ (w'.cell? ⟨g3, 0, none⟩ = some (.int .i64 q.b.f0) ∧ w'.cell? ⟨g3, 1, none⟩ = some (.int .i64 q.b.f1) ∧ w'.cell? ⟨g3, 2, none⟩ = some (.int .i64 q.b.f2) ∧ w'.cell? ⟨g3, 3, none⟩ = some (.int .i64 q.b.f3) ∧ w'.cell? ⟨g3, 4, none⟩ = some (.slice q.A q.b.f4.length q.c) ∧ w'.cell? ⟨c, 0, none⟩ = some (.pointer (some ⟨p, 0, none⟩)))) := by
      refine (add_calls hTd HG.out q (Kd.C_below HC.out hFd.below) hc (fun k hk => ?_)).mono ?_
      · rcases hk with ((hk | hk) | hk) | hk
        · have := HXW.out k hk; omega
        · omega
        · have := (H.out.d k hk).2.2; omega
        · exact hk.2
      · rintro e w' ⟨v, rfl, h1, h2, h3⟩
        have hb := hbd.frX h3 (.inr ⟨hgw, hgd⟩)
        have hI := hId.tree (h2.grow (fun k hk _ => .inl hk)) (h3.weak (fun k hk => .inl hk))
        exact ⟨⟨v, rfl, ⟨h1.1, fun k hk => Nat.le_trans hsd (h1.2 k hk)⟩, hI, (FrX.of0 hFd).trans (h3.weak (fun k hk => .inl (.inl (.inl hk))))⟩, hb.cells.1, hb.cells.2.1, hb.cells.2.2.1, hb.cells.2.2.2.1, hb.cells.2.2.2.2, hI.cells.1⟩
    have hsA : (fun W : World => W.cell? ⟨g3, 0, none⟩ = some (.int .i64 q.b.f0) ∧ W.cell? ⟨g3, 1, none⟩ = some (.int .i64 q.b.f1) ∧ W.cell? ⟨g3, 2, none⟩ = some (.int .i64 q.b.f2) ∧ W.cell? ⟨g3, 3, none⟩ = some (.int .i64 q.b.f3) ∧ W.cell? ⟨g3, 4, none⟩ = some (.slice q.A q.b.f4.length q.c) ∧ W.cell? ⟨c, 0, none⟩ = some (.pointer (some ⟨p, 0, none⟩))) w3.drew := ⟨hbd.cells.1, hbd.cells.2.1, hbd.cells.2.2.1, hbd.cells.2.2.2.1, hbd.cells.2.2.2.2, hId.cells.1⟩
    simp only [] at hsA
    clear hDD hFd hId hTd hbd hs0 hs1 hs2
    cases hok : (C.t.add q.b).2.2 with
    | true =>
      rw [hok] at HP hR
      clear hok
      go_region_held3 (fun W => W.cell? ⟨g3, 0, none⟩ = some (.int .i64 q.b.f0) ∧ W.cell? ⟨g3, 1, none⟩ = some (.int .i64 q.b.f1) ∧ W.cell? ⟨g3, 2, none⟩ = some (.int .i64 q.b.f2) ∧ W.cell? ⟨g3, 3, none⟩ = some (.int .i64 q.b.f3) ∧ W.cell? ⟨g3, 4, none⟩ = some (.slice q.A q.b.f4.length q.c) ∧ W.cell? ⟨c, 0, none⟩ = some (.pointer (some ⟨p, 0, none⟩)))
        (assumption)
        (first
          | (go_at_call 45; refine HP.out.mono ?_; rintro e w9 ⟨⟨v9, rfl, hA9⟩, hS9⟩; have HA9 := Lib.hid hA9; clear hA9))
      all_goals
        go_wp2
        exact hR.out _ _ ⟨_, rfl, HA9.out.1, ⟨p, _, D, HA9.out.2.1⟩, HA9.out.2.2⟩
    | false =>
      have hn := Tr.add_no hok
      rw [hn] at HP hR
      clear hok hn
      go_region_held3 (fun W => W.cell? ⟨g3, 0, none⟩ = some (.int .i64 q.b.f0) ∧ W.cell? ⟨g3, 1, none⟩ = some (.int .i64 q.b.f1) ∧ W.cell? ⟨g3, 2, none⟩ = some (.int .i64 q.b.f2) ∧ W.cell? ⟨g3, 3, none⟩ = some (.int .i64 q.b.f3) ∧ W.cell? ⟨g3, 4, none⟩ = some (.slice q.A q.b.f4.length q.c) ∧ W.cell? ⟨c, 0, none⟩ = some (.pointer (some ⟨p, 0, none⟩)))
        (assumption)
        (first
          | (go_at_call 45; refine HP.out.mono ?_; rintro e w9 ⟨⟨v9, rfl, hA9⟩, hS9⟩; have HA9 := Lib.hid hA9; clear hA9))
      all_goals
        go_wp2
        exact hR.out _ _ ⟨_, rfl, OwnI.nil _ _, ⟨p, _, D, HA9.out.2.1⟩, HA9.out.2.2⟩
theorem ch_take {X : Nat → Prop} {w : World} {c : Nat} {C : Ch} (h : ChAt X w c C) (hG : C.t.Good) (hXw : ∀ k, X k → k < w.heap.size) (q : BV) (hC : k67.C w q.A q.b.f4.length q.b.f4) (hc : q.b.f4.length ≤ q.c) :
    Calls Tryz.prog 14 #[.pointer (some ⟨c, 0, none⟩), .agg #[.int .i64 q.b.f0, .int .i64 q.b.f1, .int .i64 q.b.f2, .int .i64 q.b.f3, .slice q.A q.b.f4.length q.c]] w fun e w' => ChTake X w c C q.b e w' := by
  obtain ⟨p, v, D, h⟩ := h
  obtain ⟨A, cp, rfl⟩ := Kd.V_slice h.dr
  cases hrb : rightB q.b with
  | false => exact take_wrong h q hC hc hrb
  | true =>
    by_cases hsl : C.slot < q.b.f0
    · exact take_late h q hC hc hrb hsl
    · cases hwn : winsB C.dr q.b.f0 q.b.f1 with
      | false => exact take_lost h q hC hc hrb (by omega) hwn
      | true => exact take_won h q hC hc hG hXw hrb (by omega) hwn
end Go.Np.Tryz
end
