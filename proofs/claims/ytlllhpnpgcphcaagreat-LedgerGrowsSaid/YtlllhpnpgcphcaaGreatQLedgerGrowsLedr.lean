/- A text that the row of LedgerGrows needs. (Pruned by tools/prune.py.) -/
import Derived.Test.YtlllhpnpgcphcaaGreatQLedgerGrowsLedq
set_option linter.unusedVariables false
set_option linter.unusedSimpArgs false
namespace Go.Np.Tryz
open Go.RowKit Go.Proofs Go.Proofs.YtlllhpnpgcphcaaGreat.PX Go.Proofs.YtlllhpnpgcphcaaGreatW.PrintWords
def grownC (dr : List Int) (deep : Int) (l : List Blk) : Ch := l.foldl (fun C b => (C.take b).1) ⟨⟨[], []⟩, dr, deep, 200⟩
theorem Ch.take_keep (C : Ch) (b : Blk) : (C.take b).1.dr = C.dr ∧ (C.take b).1.deep = C.deep ∧ (C.take b).1.slot = C.slot := by
  unfold Ch.take
  split <;> exact ⟨rfl, rfl, rfl⟩
theorem Ch.take_rng {C : Ch} (h : C.t.Rng) {b : Blk} (hb : rng b) : (C.take b).1.t.Rng := by
  unfold Ch.take
  split
  · exact Tr.add_rng h hb
  · exact h
theorem grownC_next (dr : List Int) (deep : Int) {l : List Blk} {j : Nat} {b : Blk} (hb : l[j]? = some b) : grownC dr deep (l.take (j + 1)) = ((grownC dr deep (l.take j)).take b).1 := by
  obtain ⟨hj, rfl⟩ := List.getElem?_eq_some_iff.1 hb
  unfold grownC
  rw [List.take_succ_eq_append_getElem hj, List.foldl_append]
  rfl
theorem grownC_inv (dr : List Int) (deep : Int) : ∀ (l : List Blk) (C : Ch), C.t.Good → C.t.Rng → C.dr = dr → C.deep = deep → C.slot = 200 → (∀ b ∈ l, rng b) → (l.foldl (fun C b => (C.take b).1) C).t.Good ∧ (l.foldl (fun C b => (C.take b).1) C).t.Rng ∧ (l.foldl (fun C b => (C.take b).1) C).dr = dr ∧ (l.foldl (fun C b => (C.take b).1) C).deep = deep ∧ (l.foldl (fun C b => (C.take b).1) C).slot = 200
  | [], C, h1, h2, h3, h4, h5, _ => ⟨h1, h2, h3, h4, h5⟩
  | b :: l, C, h1, h2, h3, h4, h5, hr => by
    obtain ⟨k1, k2, k3⟩ := Ch.take_keep C b
    exact grownC_inv dr deep l (C.take b).1 (Ch.take_good h1 b) (Ch.take_rng h2 (hr b (by simp))) (k1.trans h3) (k2.trans h4) (k3.trans h5) (fun x hx => hr x (by simp [hx]))
theorem grownC_all (dr : List Int) (deep : Int) {l : List Blk} (hr : ∀ b ∈ l, rng b) : (grownC dr deep l).t.Good ∧ (grownC dr deep l).t.Rng ∧ (grownC dr deep l).dr = dr ∧ (grownC dr deep l).deep = deep ∧ (grownC dr deep l).slot = 200 :=
  grownC_inv dr deep l _ Tr.empty_good Tr.empty_rng rfl rfl rfl hr
structure GCW (w W : World) (c g5 : Nat) (C : Ch) (t : Tr) (v0 v1 vd : Value) (deep slot : Int) (X Y : Nat → Prop) : Prop where
  ch : ChAt X W c C
  box : RChIn W g5 v0 v1 vd deep slot
  ks : VB W Y v0 t.ks
  wait : VB W Y v1 t.wait
  y : ∀ k, Y k → X k ∧ k ≠ g5
  x : ∀ k, X k → k < W.heap.size
  old : ∀ k, k < w.heap.size → Y k
  g : X g5
  fr : Fr [] w W
theorem RChIn.frX {X : Nat → Prop} {W W' : World} {g : Nat} {v0 v1 vd : Value} {deep slot : Int} (h : RChIn W g v0 v1 vd deep slot) (hF : FrX X W W') (hx : X g) : RChIn W' g v0 v1 vd deep slot := (hF.block h.lt hx).trans h
theorem RChIn.drew {W : World} {g : Nat} {v0 v1 vd : Value} {deep slot : Int} (h : RChIn W g v0 v1 vd deep slot) : RChIn W.drew g v0 v1 vd deep slot := h
theorem RChIn.conj {W : World} {g : Nat} {v0 v1 vd : Value} {deep slot : Int} (h : RChIn W g v0 v1 vd deep slot) : W.cell? ⟨g, 0, none⟩ = some v0 ∧ W.cell? ⟨g, 1, none⟩ = some v1 ∧ W.cell? ⟨g, 2, none⟩ = some vd ∧ W.cell? ⟨g, 3, none⟩ = some (.int .i64 deep) ∧ W.cell? ⟨g, 4, none⟩ = some (.int .i64 slot) := by
  obtain ⟨a0, a1, a2, a3, a4, _⟩ := five_cells h
  exact ⟨a0, a1, a2, a3, a4⟩
section
variable {w W W' : World} {c g5 : Nat} {C C' : Ch} {t : Tr} {v0 v1 vd : Value} {deep slot : Int} {X Y : Nat → Prop}
theorem GCW.mv (h : GCW w W c g5 C t v0 v1 vd deep slot X Y) (hF : Fr [] W W') : GCW w W' c g5 C t v0 v1 vd deep slot (fun k => X k ∨ (W.heap.size ≤ k ∧ k < W'.heap.size)) Y :=
  ⟨h.ch.later hF (by simp), h.box.fr hF, h.ks.fr hF, h.wait.fr hF, fun k hk => ⟨.inl (h.y k hk).1, (h.y k hk).2⟩, fun k hk => by
    have h1 := hF.size
    rcases hk with hk | hk
    · exact Nat.lt_of_lt_of_le (h.x k hk) h1
    · exact hk.2, h.old, .inl h.g, h.fr.trans hF (by simp)⟩
theorem GCW.taken (h : GCW w W c g5 C t v0 v1 vd deep slot X Y) (hT : ChAt X W' c C') (hF : FrX X W W') : GCW w W' c g5 C' t v0 v1 vd deep slot X Y :=
  ⟨hT, h.box.frX hF h.g, h.ks.frX hF (fun k hk _ => (h.y k hk).1), h.wait.frX hF (fun k hk _ => (h.y k hk).1), h.y, fun k hk => Nat.lt_of_lt_of_le (h.x k hk) hF.size, h.old, h.g, hF.keep (fun k hk => (h.y k (h.old k hk)).1) h.fr⟩
theorem GCW.doc (h : GCW w W c g5 C t v0 v1 vd deep slot X Y) {t' : Tr} {u0 u1 : Value} {dp' sl' : Int} (hF : Fr [] W W') (hk : VB W' (fun k => Y k ∨ W.heap.size ≤ k) u0 t'.ks) (hw : VB W' (fun k => Y k ∨ W.heap.size ≤ k) u1 t'.wait) :
    GCW w (put5 W' g5 u0 u1 vd (.int .i64 dp') (.int .i64 sl')) c g5 C t' u0 u1 vd dp' sl' (fun k => X k ∨ (W.heap.size ≤ k ∧ k < W'.heap.size)) (fun k => (Y k ∨ W.heap.size ≤ k) ∧ k < W'.heap.size) := by
  have h2 := h.mv hF
  have hg := h.x g5 h.g
  have hs := hF.size
  have hgw : w.heap.size ≤ g5 := Nat.le_of_not_lt (fun hl => (h.y g5 (h.old g5 hl)).2 rfl)
  have hF3 : Fr [g5] W' (put5 W' g5 u0 u1 vd (.int .i64 dp') (.int .i64 sl')) := put5_fr (Fr.refl _ _) (.inl (by simp)) _ _ _ _ _
  have hne : ∀ k, ((Y k ∨ W.heap.size ≤ k) ∧ k < W'.heap.size) → k ≠ g5 := fun k hk => by
    rcases hk.1 with h1 | h1
    · exact (h.y k h1).2
    · omega
  refine ⟨h2.ch.frX hF3 (fun k hk => ?_), put5_heap h2.box _ _ _ _ _, ?_, ?_, fun k hk => ⟨?_, hne k hk⟩, fun k hk => Nat.lt_of_lt_of_le (h2.x k hk) hF3.size, fun k hk => ⟨.inl (h.old k hk), ?_⟩, .inl h.g, h2.fr.trans hF3 (fun k hk => by simp at hk; subst hk; exact .inr hgw)⟩
  · simp at hk; subst hk; exact .inl (.inl h.g)
  · exact Kd.V_step hk.bound (fun k hk hl => hF3.block k hl (by simp; exact hne k hk))
  · exact Kd.V_step hw.bound (fun k hk hl => hF3.block k hl (by simp; exact hne k hk))
  · rcases hk.1 with h1 | h1
    · exact .inl (h.y k h1).1
    · exact .inr ⟨h1, hk.2⟩
  · have := h.fr.size; omega
end
theorem GCW.start {w W1 w1 W2 : World} {c : Nat} {C : Ch} {vd : Value} {deep : Int} (h0 : Fr [] w W1) (h1 : Fr [] W1 w1) (hT : ChAt (fun k => k < W1.heap.size) w1 c C) (hW : W2 = w1.alloc (.cells #[.slice none 0 0, .slice none 0 0, vd, .int .i64 deep, .int .i64 0] 32)) :
    GCW w W2 c w1.heap.size C ⟨[], []⟩ (.slice none 0 0) (.slice none 0 0) vd deep 0 (fun k => k < W1.heap.size ∨ (w1.heap.size ≤ k ∧ k < W2.heap.size)) (fun k => k < w.heap.size) := by
  have hF : Fr [] w1 W2 := by rw [hW]; exact (Fr.refl _ _).alloc _
  have hs0 := h0.size
  have hs1 := h1.size
  have hs2 : W2.heap.size = w1.heap.size + 1 := by rw [hW]; simp
  refine ⟨hT.later hF (by simp), by rw [hW]; exact heap_alloc_new _ _, VB.nil _ _, VB.nil _ _, fun k hk => ⟨.inl (by omega), by omega⟩, fun k hk => by rcases hk with hk | hk <;> omega, fun k hk => hk, .inr ⟨Nat.le_refl _, by omega⟩, (h0.trans h1 (by simp)).trans hF (by simp)⟩
def GrownCh (w : World) (Ad : Option Addr) (cd : Nat) (C : Ch) (e : Ending) (w' : World) : Prop :=
  ∃ (c : Nat) (B0 : Option Addr) (d0 : Nat) (B1 : Option Addr) (d1 : Nat), e = .returned (.tuple #[.pointer (some ⟨c, 0, none⟩), .agg #[.slice B0 C.t.ks.length d0, .slice B1 C.t.wait.length d1, .slice Ad C.dr.length cd, .int .i64 C.deep, .int .i64 200]]) ∧ ChAt (fun k => k < w.heap.size) w' c C ∧
    VB w' (fun _ => True) (.slice B0 C.t.ks.length d0) C.t.ks ∧ VB w' (fun _ => True) (.slice B1 C.t.wait.length d1) C.t.wait ∧ Fr [] w w'
set_option maxHeartbeats 16000000 in
set_option maxRecDepth 100000 in
theorem grownch_calls {w : World} {A Ad : Option Addr} {c cd N : Nat} {l : List Blk} {dr : List Int} (hD : (Kd.int .i64).C w Ad dr.length dr) (hd200 : dr.length ≤ 200) (hOk : OkDr dr) (deep : Int) (hC : k35.C w A N l) (hN : l.length = N) (hS : ∀ b ∈ l, b.f4.length ≤ 8796093022208) (hR : ∀ b ∈ l, rng b) :
    Calls Tryz.prog 27 #[.slice Ad dr.length cd, .int .i64 deep, .slice A N c] w fun e w' => GrownCh w Ad cd (grownC dr deep l) e w' := by
  have HSZ := Lib.hid hS
  have HRB := Lib.hid hR
  have HC := Lib.hid hC
  have HLN := Lib.hid hN
  have HOK := Lib.hid hOk
  have hNm : N ≤ 9223372036854775807 := hC.2.1
  refine calls_k fun R hR => ?_
  unfold GrownCh at hR
  obtain ⟨nd, hnd⟩ : ∃ nd, dr.length = nd := ⟨_, rfl⟩
  have hm1000 : dr.length ≤ 1000 := by omega
  obtain ⟨W1, hW1⟩ : ∃ W1, W1 = w.alloc (.cells #[.slice none 0 0, .slice none 0 0, .slice none 0 0, .int .i64 0, .int .i64 0] 32) := ⟨_, rfl⟩
  obtain ⟨g3, hg3⟩ : ∃ g3, g3 = w.heap.size := ⟨_, rfl⟩
  have hF1 : Fr [] w W1 := by rw [hW1]; exact (Fr.refl _ _).alloc _
  have hR1 : RChIn W1 g3 (.slice none 0 0) (.slice none 0 0) (.slice none 0 0) 0 0 := by rw [hW1, hg3]; exact heap_alloc_new _ _
  have HF1 := Lib.hid hF1
  have HR1 := Lib.hid hR1
  have HD := Lib.hid hD
  have HCD := Lib.hid (Kd.C_below hD hF1.below)
  have hgw : w.heap.size ≤ g3 := Nat.le_of_eq hg3.symm
  have hg31 : g3 < W1.heap.size := hR1.lt
  obtain ⟨hfdr, hfdp, hfsl⟩ : (grownC dr deep l).dr = dr ∧ (grownC dr deep l).deep = deep ∧ (grownC dr deep l).slot = 200 := (grownC_all dr deep (l := l) HRB.out).2.2
  rw [hfdr, hfdp] at hR
  have hx200 : decide ((0 : Int) < 200) = true := by decide
  clear hF1 hR1 hD hnd hfdr hfdp hfsl hS hC hN hOk hd200
  go_enter Tryz.func27, Tryz.ntmps27
  go_upto_region 1 with (fail)
  rw [← hW1, ← hg3]
  clear hW1 hg3
  go_upto_region 2 with (first
    | (at_builtin; refine wp_copyI rfl _ _ rfl rfl rfl HCD.out hm1000 ?_; intro A3 c3 w4 hc3 hC3 hF3
       have HF4 := Lib.hid hF3
       have HNEW := Lib.hid (ch_new (c := c3) hC3 (by omega) deep)
       clear hc3 hC3 hF3)
    | (go_at_call 8; refine HNEW.out.mono ?_; rintro e w1 ⟨p, rfl, hT1, hF2⟩
       have HT1 := Lib.hid hT1
       have HF2 := Lib.hid hF2
       clear hT1 hF2 HNEW))
  go_upto_region 3 with (fail)
  obtain ⟨vd, hvd⟩ : ∃ vd : Value, vd = .slice Ad dr.length cd := ⟨_, rfl⟩
  obtain ⟨W2, hW2⟩ : ∃ W2, W2 = w1.alloc (.cells #[.slice none 0 0, .slice none 0 0, .slice Ad dr.length cd, .int .i64 deep, .int .i64 0] 32) := ⟨_, rfl⟩
  have hst := GCW.start (HF1.out.trans HF4.out (by simp)) HF2.out HT1.out hW2
  have hF3 : Fr [] w1 W2 := by rw [hW2]; exact (Fr.refl _ _).alloc _
  have hres := ((HR1.out.fr HF4.out).fr HF2.out).fr hF3
  have hs2 := HF2.out.size
  have hs4 := HF4.out.size
  have hx3 : (fun k => k < w4.heap.size ∨ (w1.heap.size ≤ k ∧ k < W2.heap.size)) g3 := .inl (by omega)
  obtain ⟨g5, hg5⟩ : ∃ g5, g5 = w1.heap.size := ⟨_, rfl⟩
  have h35 : g3 ≠ g5 := by omega
  rw [← hg5] at hst hx3
  obtain ⟨X2, hX2⟩ : ∃ X2, X2 = (fun k => k < w4.heap.size ∨ (g5 ≤ k ∧ k < W2.heap.size)) := ⟨_, rfl⟩
  obtain ⟨Y2, hY2⟩ : ∃ Y2, Y2 = (fun k => k < w.heap.size) := ⟨_, rfl⟩
  rw [← hX2, ← hY2] at hst
  have hyg : ∀ k, Y2 k → k ≠ g3 := by rw [hY2]; intro k hk; omega
  have hxg : X2 g3 := by rw [hX2]; exact hx3
  have HG2 := Lib.hid hst
  have HX3 := Lib.hid hxg
  have HY3 := Lib.hid hyg
  have HRES := Lib.hid hres
  have HNX := Lib.hid (ch_next hst.ch 200)
  rw [← hW2, ← hg5]
  clear hW2 hg5 hst hF3 hres hx3 hX2 hY2 hyg hxg hs2 hs4 hg31 HT1 HF2 HF1 HR1 HF4 hvd
  go_upto_region 4 with (first
    | (go_at_call 9; refine HNX.out.mono ?_; rintro e w5 ⟨rfl, hc5, hX5⟩
       have HG5 : Hid (GCW w w5 p g5 ⟨⟨[], []⟩, dr, deep, 200⟩ ⟨[], []⟩ (.slice none 0 0) (.slice none 0 0) (.slice Ad dr.length cd) deep 0 X2 Y2) := HG2.out.taken hc5 hX5
       have HR5 := Lib.hid (HRES.out.frX hX5 HX3.out)
       clear hc5 hX5 HNX))
  obtain ⟨x20, x21, x22, x23, x24, f20, f21, f22, f23, f24⟩ := five_cells HG5.out.box
  have HRN := Lib.hid (rnext_calls (w := w5) none none Ad 0 0 0 0 dr.length cd deep 0 200 (by decide))
  go_upto_region 6 with (first
    | (go_at_call 10; refine HRN.out.mono ?_; rintro e w6 ⟨rfl, hF6⟩
       have HG6 := Lib.hid (HG5.out.doc (t' := ⟨[], []⟩) (u0 := .slice none 0 0) (u1 := .slice none 0 0) (dp' := deep) (sl' := 200) hF6 (VB.nil _ _) (VB.nil _ _))
       have HBX := Lib.hid (HG5.out.mv hF6).box
       have HR6 := Lib.hid (HR5.out.fr hF6)
       clear hF6 HRN x20 x21 x22 x23 x24 f20 f21 f22 f23 f24
       obtain ⟨x20, x21, x22, x23, x24, f20, f21, f22, f23, f24⟩ := five_cells HBX.out))
  have HRe : Hid (RChIn (put5 w6 g5 (.slice none 0 0) (.slice none 0 0) (.slice Ad dr.length cd) (.int .i64 deep) (.int .i64 200)) g3 (.slice none 0 0) (.slice none 0 0) (.slice none 0 0) 0 0) :=
    ((put5_fr (b := g5) (Fr.refl [g5] w6) (.inl (by simp)) _ _ _ _ _).block g3 HR6.out.lt (by simp; exact h35)).trans HR6.out
  have HYN : Hid (∀ k, ((Y2 k ∨ w5.heap.size ≤ k) ∧ k < w6.heap.size) → k ≠ g3) := fun k hk => by
    rcases hk.1 with h1 | h1
    · exact HY3.out k h1
    · have := HR5.out.lt; omega
  clear x20 x21 x22 x23 x24 f20 f21 f22 f23 f24
  go_loopg [26] N (fun gn i wr => ∃ (m j : Nat) (C : Ch) (B0 : Option Addr) (d0 : Nat) (B1 : Option Addr) (d1 : Nat), m = gn ∧ i = .int .i64 j ∧ m + j = N ∧ Hid (C = grownC dr deep (l.take j)) ∧ Hid (∃ X Y : Nat → Prop, GCW w wr p g5 C C.t (.slice B0 C.t.ks.length d0) (.slice B1 C.t.wait.length d1) (.slice Ad dr.length cd) deep 200 X Y ∧ X g3 ∧ ∀ k, Y k → k ≠ g3) ∧ Hid (RChIn wr g3 (.slice none 0 0) (.slice none 0 0) (.slice none 0 0) 0 0))
  case atStart => exact ⟨_, 0, ⟨⟨[], []⟩, dr, deep, 200⟩, none, 0, none, 0, rfl, rfl, rfl, rfl, ⟨_, _, HG6.out, .inl HX3.out, HYN.out⟩, HRe⟩
  case round =>
    obtain ⟨m, j, C, B0, d0, B1, d1, rfl, rfl, hj, HCE, HGW, HR3⟩ := hrel
    obtain ⟨wO, rfl⟩ : ∃ wO, wO = wr := ⟨_, rfl⟩
    clear HG6 HRe HYN HG5 HR5 HG2 HRES HX3 HY3 HR6 HBX
    obtain ⟨X, Y, hgw1, hx3, hy3⟩ := HGW.out
    have HG0 := Lib.hid hgw1
    have HX3 := Lib.hid hx3
    have HY3 := Lib.hid hy3
    have hall := grownC_all dr deep (l := l.take j) (fun b hb => HRB.out b (List.mem_of_mem_take hb))
    rw [← HCE.out] at hall
    have HALL := Lib.hid hall
    clear hgw1 hx3 hy3 HGW hall
    by_cases hlt : j < N
    · obtain ⟨ad, q, hq, rfl, c0, c1, c2, c3, c4, hqc, hqC⟩ := blocks_at HC.out j hlt
      replace c0 := cellF HG0.out.fr c0
      replace c1 := cellF HG0.out.fr c1
      replace c2 := cellF HG0.out.fr c2
      replace c3 := cellF HG0.out.fr c3
      replace c4 := cellF HG0.out.fr c4
      have hqs := HSZ.out q.b (List.mem_of_getElem? hq)
      have HQR := Lib.hid (HRB.out q.b (List.mem_of_getElem? hq))
      have HQF := Lib.hid (txs_F hqC)
      have HQC := Lib.hid hqC
      have hnext := grownC_next dr deep hq
      rw [← HCE.out] at hnext
      obtain ⟨W8, hW8⟩ : ∃ W8, W8 = wO.alloc (.cells #[.int .i64 q.b.f0, .int .i64 q.b.f1, .int .i64 q.b.f2, .int .i64 q.b.f3, .slice q.A q.b.f4.length q.c] 35) := ⟨_, rfl⟩
      obtain ⟨g, hg⟩ : ∃ g, g = wO.heap.size := ⟨_, rfl⟩
      have hF8 : Fr [] wO W8 := by rw [hW8]; exact (Fr.refl _ _).alloc _
      have hB8 : BlkIn W8 g q := by rw [hg]; exact BlkIn.made hW8
      have hs8 : W8.heap.size = g + 1 := by rw [hW8, hg]; simp
      obtain ⟨e0, e1, e2, e3, e4⟩ := hB8.cells
      have HG8 := Lib.hid (HG0.out.mv hF8)
      have HXg : Hid ((fun k => X k ∨ (wO.heap.size ≤ k ∧ k < W8.heap.size)) g) := .inr ⟨by omega, by omega⟩
      have HCP := Lib.hid (copy_C q (Kd.C_below HQC.out HG8.out.fr.below) hqs)
      obtain ⟨C', L3, E3, htk⟩ : ∃ C' L3 E3, C.take q.b = (C', L3, E3) := ⟨_, _, _, rfl⟩
      rw [htk] at hnext
      have HNXT := Lib.hid hnext
      have HTK := Lib.hid htk
      have HB8 := Lib.hid hB8
      have HR8 := Lib.hid (HR3.out.fr hF8)
      clear hqC hq hF8 hB8 htk hnext hs8
      go_upto_region 8 with (fail)
      rw [← hW8, ← hg]
      clear hW8 hg c0 c1 c2 c3 c4
      go_upto_region 9 with (first
        | (go_at_call 15; refine HCP.out.mono ?_; rintro e wf ⟨A3, d3, rfl, hd3, hC3, hFf⟩
           have HGf := Lib.hid (HG8.out.mv hFf)
           have HAC := Lib.hid (ch_takeC HGf.out.ch HALL.out.1 HGf.out.x q.b hC3 hd3 HTK.out)
           have HBf := Lib.hid (HB8.out.fr hFf)
           have HRf := Lib.hid (HR8.out.fr hFf)
           clear hFf hC3 hd3 HCP)
        | (go_at_call 14; refine HAC.out.mono ?_; rintro e wg ⟨A4, d4, rfl, hO4, hTg, hXg⟩
           have HGg := Lib.hid (HGf.out.taken hTg hXg)
           have HBg := Lib.hid (HBf.out.frX hXg (.inl HXg.out))
           have HRg := Lib.hid (HRf.out.frX hXg (.inl (.inl HX3.out)))
           clear hO4 hTg hXg HAC e0 e1 e2 e3 e4))
      obtain ⟨e0, e1, e2, e3, e4⟩ := HBg.out.cells
      obtain ⟨x20, x21, x22, x23, x24, f20, f21, f22, f23, f24⟩ := five_cells HGg.out.box
      have hra := rtake_calls (C := C) (Ad := Ad) (cd := cd) HALL.out.1 HALL.out.2.1 (by rw [HALL.out.2.2.1]; exact HOK.out) HGg.out.ks HGg.out.wait (by rw [HALL.out.2.2.1]; exact Kd.C_below HD.out HGg.out.fr.below) q hqc (Kd.F_mono (Kd.F_below HQF.out HGg.out.fr.below) HGg.out.old) HQR.out
      unfold RTakeRes at hra
      rw [HTK.out, HALL.out.2.2.1, HALL.out.2.2.2.1, HALL.out.2.2.2.2] at hra
      have HRA := Lib.hid hra
      clear hra
      go_wp2_with (first
        | (go_at_call 16; refine HRA.out.mono ?_; rintro e wh ⟨C0, f0, C1, f1, D, d, rfl, hv0, hv1, hS, hFh⟩
           have HGh := Lib.hid (HGg.out.doc (dp' := deep) (sl' := 200) hFh hv0 hv1)
           have HBX := Lib.hid ((HGg.out.mv hFh).box)
           have HRh := Lib.hid (HRg.out.fr hFh)
           clear hv0 hv1 hS hFh HRA e0 e1 e2 e3 e4 x20 x21 x22 x23 x24 f20 f21 f22 f23 f24
           obtain ⟨x20, x21, x22, x23, x24, f20, f21, f22, f23, f24⟩ := five_cells HBX.out))
      have HRe : Hid (RChIn (put5 wh g5 (.slice C0 C'.t.ks.length f0) (.slice C1 C'.t.wait.length f1) (.slice Ad dr.length cd) (.int .i64 deep) (.int .i64 200)) g3 (.slice none 0 0) (.slice none 0 0) (.slice none 0 0) 0 0) :=
        ((put5_fr (b := g5) (Fr.refl [g5] wh) (.inl (by simp)) _ _ _ _ _).block g3 HRh.out.lt (by simp; exact h35)).trans HRh.out
      have HYN : Hid (∀ k, ((Y k ∨ wg.heap.size ≤ k) ∧ k < wh.heap.size) → k ≠ g3) := fun k hk => by
        rcases hk.1 with h1 | h1
        · exact HY3.out k h1
        · have := HRg.out.lt; omega
      obtain ⟨m', rfl⟩ : ∃ m', m = m' + 1 := ⟨m - 1, by omega⟩
      go_roundg m'
      case rel => exact ⟨m', j + 1, C', C0, f0, C1, f1, rfl, by go_num, by omega, HNXT.out.symm, ⟨_, _, HGh.out, .inl (.inl (.inl HX3.out)), HYN.out⟩, HRe⟩
      case measure => omega
    · obtain rfl : j = N := by omega
      have hCE := HCE.out
      rw [← HLN.out, List.take_length] at hCE
      rw [← hCE] at hR
      clear hCE
      obtain ⟨x20, x21, x22, x23, x24, _, _, _, _, _⟩ := five_cells HG0.out.box
      obtain ⟨z0, z1, z2, z3, z4, q0, q1, q2, q3, q4⟩ := five_cells HR3.out
      go_upto_region 11 with (fail)
      have hF3 : Fr [g3] wO (put5 wO g3 (.slice B0 C.t.ks.length d0) (.slice B1 C.t.wait.length d1) (.slice Ad dr.length cd) (.int .i64 deep) (.int .i64 200)) := put5_fr (Fr.refl _ _) (.inl (by simp)) _ _ _ _ _
      have hfin : RChIn (put5 wO g3 (.slice B0 C.t.ks.length d0) (.slice B1 C.t.wait.length d1) (.slice Ad dr.length cd) (.int .i64 deep) (.int .i64 200)) g5 (.slice B0 C.t.ks.length d0) (.slice B1 C.t.wait.length d1) (.slice Ad dr.length cd) deep 200 := (hF3.block g5 HG0.out.box.lt (by simp; exact fun e => h35 e.symm)).trans HG0.out.box
      have hSd := (show RChIn wO.drew g5 (.slice B0 C.t.ks.length d0) (.slice B1 C.t.wait.length d1) (.slice Ad dr.length cd) deep 200 from HG0.out.box).conj
      have hSp := hfin.conj
      have hSpd := (hfin.drew).conj
      unfold put5 at hSp hSpd
      go_region_held3 (fun W => W.cell? ⟨g5, 0, none⟩ = some (.slice B0 C.t.ks.length d0) ∧ W.cell? ⟨g5, 1, none⟩ = some (.slice B1 C.t.wait.length d1) ∧ W.cell? ⟨g5, 2, none⟩ = some (.slice Ad dr.length cd) ∧ W.cell? ⟨g5, 3, none⟩ = some (.int .i64 deep) ∧ W.cell? ⟨g5, 4, none⟩ = some (.int .i64 200)) (with_reducible assumption) (fail)
      all_goals
        go_wp2
        have hb4 := put5_heap HR3.out (.slice B0 C.t.ks.length d0) (.slice B1 C.t.wait.length d1) (.slice Ad dr.length cd) (.int .i64 deep) (.int .i64 200)
        have hF4 := hF3.drew
        have hYg : ∀ k, Y k → k ≠ g3 := HY3.out
        have hv0 := Kd.V_mono (Kd.V_step HG0.out.ks (fun k hk hl => hF4.block k hl (by simp; exact hYg k hk))) (fun _ _ => trivial)
        have hv1 := Kd.V_mono (Kd.V_step HG0.out.wait (fun k hk hl => hF4.block k hl (by simp; exact hYg k hk))) (fun _ _ => trivial)
        have hch := (HG0.out.ch.frX hF4 (fun k hk => by simp at hk; subst hk; exact .inl HX3.out)).less (fun k hk => (HG0.out.y k (HG0.out.old k hk)).1)
        have hfr := HG0.out.fr.trans hF4 (fun k hk => by simp at hk; subst hk; exact .inr hgw)
        unfold put5 at hb4 hv0 hv1 hch hfr
        refine bodyPost_ret (results_tc rfl _ _ g3 32 _ (0, 0) _ rfl hb4 Tryz.underlying32 rfl (by kernel_rfl)) rfl ?_
        exact hR.out _ _ ⟨p, B0, d0, B1, d1, rfl, hch, hv0, hv1, hfr⟩
end Go.Np.Tryz
