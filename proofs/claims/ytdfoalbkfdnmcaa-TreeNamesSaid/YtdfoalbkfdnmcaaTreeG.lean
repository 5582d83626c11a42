/- tree.Tree: grow. -/
import Derived.Test.YtdfoalbkfdnmcaaTreeC
import Derived.Deep.RegionHeld3
set_option linter.unusedVariables false
set_option linter.unusedSimpArgs false
namespace Go.Np
open Go.RowKit
/-- Nothing of X is changed. -/
def FrX (X : Nat → Prop) (w w' : World) : Prop := ∃ S : List Nat, Fr S w w' ∧ ∀ k ∈ S, ¬ X k
theorem FrX.of0 {X : Nat → Prop} {w w' : World} (h : Fr [] w w') : FrX X w w' := ⟨[], h, by simp⟩
theorem FrX.trans {X : Nat → Prop} {a b c : World} (h : FrX X a b) (k : FrX X b c) : FrX X a c := by
  obtain ⟨S, h1, h2⟩ := h
  obtain ⟨T, k1, k2⟩ := k
  exact ⟨S ++ T, (h1.mono (fun x hx => .inl (by simp [hx]))).trans (k1.mono (fun x hx => .inl (List.mem_append_right S hx))) (fun x hx => .inl hx), fun x hx => by
    rcases List.mem_append.1 hx with hx | hx
    · exact h2 x hx
    · exact k2 x hx⟩
theorem FrX.size {X : Nat → Prop} {a b : World} (h : FrX X a b) : a.heap.size ≤ b.heap.size := by obtain ⟨S, h1, _⟩ := h; exact h1.size
theorem FrX.block {X : Nat → Prop} {a b : World} (h : FrX X a b) {k : Nat} (hk : k < a.heap.size) (hx : X k) : b.heap[k]? = a.heap[k]? := by obtain ⟨S, h1, h2⟩ := h; exact h1.block k hk (fun hm => h2 k hm hx)
theorem FrX.weak {X Y : Nat → Prop} {a b : World} (h : FrX X a b) (hY : ∀ k, Y k → X k) : FrX Y a b := by obtain ⟨S, h1, h2⟩ := h; exact ⟨S, h1, fun k hk hy => h2 k hk (hY k hy)⟩
end Go.Np
namespace Go.Np.Try
open Go.RowKit Go.Proofs Go.Proofs.Ytdfoalbkfdnmcaa.PX Go.Proofs.YtdfoalbkfdnmcaaW.PrintWords
section
variable {X : Nat → Prop} {w w' : World} {p b : Nat} {t : Tr} {v : Value} {ds : List (BV × Kn)} {qs : List BV}
theorem TrIn.ds_len (h : TrIn X w p t b v ds qs) : (mOf ds).length = t.known.length := by rw [← h.hds]; simp [mOf]
theorem TrIn.put (h : TrIn X w p t b v ds qs) (hf : Fr [b] w w') (q : BV) (e : Kn) (hM : MapIs (fun a : Int => Value.int .i64 a) w' b (mOf ds ++ [(e.name, knV q e.way.length)])) (hq : q.b = e.blk) (hT : TxsAt X w q) : TrIn X w' p ⟨t.known ++ [e], t.wait⟩ b v (ds ++ [(q, e)]) qs := by
  obtain ⟨es, cl, hb, _⟩ := h.hM
  have hpb : p ≠ b := by rintro rfl; have := h.hp; rw [hb] at this; cases this
  refine ⟨(hf.block p h.plt (by simpa using hpb)).trans h.hp, by simpa [mOf] using hM, by simp [h.hds], ?_, ?_, h.hqs, ?_, h.hX⟩
  · intro d hd
    rcases List.mem_append.1 hd with hd | hd
    · exact ⟨(h.hd d hd).1, (h.hd d hd).2.fr hf (fun k hk hm => (h.hd d hd).2.ne_map hb (by simp at hm; rw [← hm]; exact hk))⟩
    · have : d = (q, e) := by simpa using hd
      subst this
      exact ⟨hq, hT.fr hf (fun k hk hm => hT.ne_map hb (by simp at hm; rw [← hm]; exact hk))⟩
  · exact h.hv.fr hf (fun k hk hm => h.hv.ne_map hb (by simp at hm; rw [← hm]; exact hk))
  · intro r hr
    exact (h.hq r hr).fr hf (fun k hk hm => (h.hq r hr).ne_map hb (by simp at hm; rw [← hm]; exact hk))
end
theorem iwr (n : Int) (h : -9223372036854775808 ≤ n ∧ n ≤ 9223372036854775807) : IntKind.i64.wrap n = n := by
  simp [IntKind.wrap, IntKind.bits, IntKind.signed]; omega
theorem len_map {w : World} {b : Nat} {es : Array MapEntry} {cl : Nat} (hb : w.heap[b]? = some (.map es cl)) (ty : TypeId) : (Builtin.len_ #[63] ty #[.map (some b)]).run Try.prog w = .ok (.int .i64 es.size) w :=
  run_len_map w 63 ty b es cl (by kernel_rfl) hb
theorem Tr.Ok.high_parent {t : Tr} (hO : t.Ok) {bl : Blk} (hr : t.ready bl = true) : t.high bl.f3 + 1 = ((t.path bl.f3 ++ [nameB bl]).length : Int) := by
  unfold Tr.ready at hr
  unfold Tr.high
  by_cases h0 : bl.f3 = 0
  · rw [if_pos h0, h0, hO.path_zero]; rfl
  · rw [if_neg h0]
    have h1 : t.has bl.f3 = true := by simpa [h0] using hr
    rw [if_pos h1]; simp
set_option maxHeartbeats 4000000 in
set_option maxRecDepth 100000 in
theorem grow_full {X : Nat → Prop} {w : World} {p : Nat} {t : Tr} (h : TrAt X w p t) (q : BV) (hroom : t.room = false) :
    Calls Try.prog 49 #[.pointer (some ⟨p, 0, none⟩), blkV q.b q.A q.c] w fun e w' => e = .returned (.bool false) ∧ Fr [] w w' := by
  obtain ⟨b, v, ds, qs, h⟩ := h
  unfold blkV
  refine calls_k fun R hR => ?_
  have hF : Fr [] w (w.alloc (.cells #[.int .i64 q.b.f0, .int .i64 q.b.f1, .int .i64 q.b.f2, .int .i64 q.b.f3, .slice q.A q.b.f4.length q.c] 28)) := (Fr.refl _ _).alloc _
  have h1 := h.fr0 hF
  have hc := cell_of h1.hp 0
  simp at hc
  obtain ⟨es, cl, hb, hme, _⟩ := h1.hM
  have hsz : es.size = t.known.length := by
    have := congrArg List.length hme
    rw [← h1.ds_len]
    simpa using this
  have hge : (400 : Int) ≤ (es.size : Int) := by
    simp [Tr.room] at hroom; omega
  have hlen := fun ty => len_map hb ty
  clear h1 hme h
  go_enter Try.func49, Try.ntmps49
  go_wp2
  exact hR.out _ _ ⟨rfl, hF⟩
set_option maxHeartbeats 4000000 in
set_option maxRecDepth 100000 in
theorem grow_calls {X : Nat → Prop} {w : World} {p : Nat} {t : Tr} (h : TrAt X w p t) (hO : t.Ok) (q : BV) (hT : TxsAt X w q) (hroom : t.room = true) (hr : t.ready q.b = true) (hk : t.has (nameB q.b) = false) (hpl : (t.path q.b.f3).length ≤ 100000) :
    Calls Try.prog 49 #[.pointer (some ⟨p, 0, none⟩), blkV q.b q.A q.c] w fun e w' => e = .returned (.bool true) ∧ TrAt X w' p (t.grow q.b) ∧ FrX X w w' ∧ TxsAt X w' q := by
  obtain ⟨b, v, ds, qs, h⟩ := h
  unfold blkV
  refine calls_k fun R hR => ?_
  obtain ⟨W, hW⟩ : ∃ W, W = w.alloc (.cells #[.int .i64 q.b.f0, .int .i64 q.b.f1, .int .i64 q.b.f2, .int .i64 q.b.f3, .slice q.A q.b.f4.length q.c] 28) := ⟨_, rfl⟩
  obtain ⟨g, hg⟩ : ∃ g, g = w.heap.size := ⟨_, rfl⟩
  have hF : Fr [] w W := by rw [hW]; exact (Fr.refl _ _).alloc _
  have hbl : W.heap[g]? = some (.cells #[.int .i64 q.b.f0, .int .i64 q.b.f1, .int .i64 q.b.f2, .int .i64 q.b.f3, .slice q.A q.b.f4.length q.c] 28 (0, 0)) := by rw [hW, hg]; exact heap_alloc_new _ _
  have e0 := cell_of hbl 0
  have e1 := cell_of hbl 1
  have e2 := cell_of hbl 2
  have e3 := cell_of hbl 3
  have e4 := cell_of hbl 4
  simp at e0 e1 e2 e3 e4
  have h1 := h.fr0 hF
  have hT1 := hT.fr hF (by simp)
  have hc := cell_of h1.hp 0
  simp at hc
  obtain ⟨es, cl, hb, hme, _⟩ := h1.hM
  have hsz : es.size = t.known.length := by
    have := congrArg List.length hme
    rw [← h1.ds_len]
    simpa using this
  have hge : ¬ (400 : Int) ≤ (es.size : Int) := by
    simp [Tr.room] at hroom; omega
  have hlen := fun ty => len_map hb ty
  have hhp := hO.high_parent hr
  have hadd : IntKind.i64.wrap (t.high q.b.f3 + 1) = t.high q.b.f3 + 1 := iwr _ (by rw [hhp]; simp; omega)
  have hS : ∀ W', Fr [] W W' → (W'.cell? ⟨g, 0, none⟩ = some (.int .i64 q.b.f0) ∧ W'.cell? ⟨g, 1, none⟩ = some (.int .i64 q.b.f1) ∧ W'.cell? ⟨g, 2, none⟩ = some (.int .i64 q.b.f2) ∧ W'.cell? ⟨g, 3, none⟩ = some (.int .i64 q.b.f3) ∧ W'.cell? ⟨g, 4, none⟩ = some (.slice q.A q.b.f4.length q.c) ∧ W'.cell? ⟨p, 0, none⟩ = some (.map (some b))) := fun W' hF' =>
    ⟨cellF hF' e0, cellF hF' e1, cellF hF' e2, cellF hF' e3, cellF hF' e4, cellF hF' hc⟩
  have HS := Lib.hid hS
  have HH := Lib.hid h1
  have HT := Lib.hid hT1
  have HF := Lib.hid hF
  have HP := Lib.hid hhp
  have hfin : ∀ w5, Fr [] W w5 → ∃ w6, (Instr.mapUpdate 63 (.map (some b)) (.int .i64 (nameB q.b)) (.agg #[.int .i64 q.b.f0, .int .i64 q.b.f1, .int .i64 q.b.f2, .int .i64 q.b.f3, .slice q.A q.b.f4.length q.c, .int .i64 (t.high q.b.f3 + 1)])).run Try.prog w5 = .ok () w6 ∧
      TrAt X w6 p (t.grow q.b) ∧ FrX X w w6 ∧ TxsAt X w6 q ∧ (w6.cell? ⟨g, 0, none⟩ = some (.int .i64 q.b.f0) ∧ w6.cell? ⟨g, 1, none⟩ = some (.int .i64 q.b.f1) ∧ w6.cell? ⟨g, 2, none⟩ = some (.int .i64 q.b.f2) ∧ w6.cell? ⟨g, 3, none⟩ = some (.int .i64 q.b.f3) ∧ w6.cell? ⟨g, 4, none⟩ = some (.slice q.A q.b.f4.length q.c) ∧ w6.cell? ⟨p, 0, none⟩ = some (.map (some b))) := by
    intro w5 hF5
    have h5 := h1.fr0 hF5
    obtain ⟨w6, u1, u2, u3, u4⟩ := h5.hM.run_update keyI' Try.underlying63 (nameB q.b) (knV q (t.high q.b.f3 + 1))
    refine ⟨w6, u1, ?_⟩
    have hno : alook (mOf ds) (nameB q.b) = none := by
      rw [alook_ds]
      have h9 := hk
      unfold Tr.has at h9
      rw [find_ds _ h1.hds] at h9
      cases hh : ds.find? (fun d => decide (d.2.name = nameB q.b)) with
      | none => rfl
      | some d => rw [hh] at h9; cases h9
    rw [aput_new hno, hhp] at u2
    have h6 := h5.put u3 q ⟨nameB q.b, q.b, t.path q.b.f3 ++ [nameB q.b]⟩ u2 rfl (hT1.fr hF5 (by simp))
    obtain ⟨es5, cl5, hb5, _⟩ := h5.hM
    have hgb : g ≠ b := by
      rintro rfl
      have := (hF5.block g (Array.getElem?_eq_some_iff.1 hbl).1 (by simp)).trans hbl
      rw [hb5] at this; cases this
    have hpb : p ≠ b := by rintro rfl; have := h5.hp; rw [hb5] at this; cases this
    obtain ⟨s0, s1, s2, s3, s4, s5⟩ := hS w5 hF5
    have hc' : ∀ (a : Addr) (u : Value), a.block ≠ b → w5.cell? a = some u → w6.cell? a = some u := fun a u ha hu => (u3.cell (lt_cell hu) (by simpa using ha)).trans hu
    exact ⟨⟨_, _, _, _, h6⟩, ⟨[b], (hF.trans hF5 (by simp)).mono (by simp) |>.trans u3 (fun x hx => .inl hx), fun k hk => by
      have : k = b := by simpa using hk
      subst this; exact h5.hX.2.1⟩, (hT1.fr hF5 (by simp)).fr u3 (fun k hk hm => (hT1.fr hF5 (by simp)).ne_map hb5 (by simp at hm; rw [← hm]; exact hk)), hc' _ _ hgb s0, hc' _ _ hgb s1, hc' _ _ hgb s2, hc' _ _ hgb s3, hc' _ _ hgb s4, hc' _ _ hpb s5⟩
  have HFIN := Lib.hid hfin
  clear hS h h1 hT hT1 hF hhp hfin hme hsz hr hk hpl hO hroom hbl
  go_enter Try.func49, Try.ntmps49
  go_upto_region 1 with (fail)
  rw [← hW, ← hg]
  clear hW hg
  go_upto_region 3 with (fail)
  clear hb e0 e1 e2 e3 e4 hc
  have hSD := HS.out W.drew ((Fr.refl _ _).drew)
  have HFD : Hid (Fr [] W W.drew) := (Fr.refl _ _).drew
  go_region_held3 (fun W' => W'.cell? ⟨g, 0, none⟩ = some (.int .i64 q.b.f0) ∧ W'.cell? ⟨g, 1, none⟩ = some (.int .i64 q.b.f1) ∧ W'.cell? ⟨g, 2, none⟩ = some (.int .i64 q.b.f2) ∧ W'.cell? ⟨g, 3, none⟩ = some (.int .i64 q.b.f3) ∧ W'.cell? ⟨g, 4, none⟩ = some (.slice q.A q.b.f4.length q.c) ∧ W'.cell? ⟨p, 0, none⟩ = some (.map (some b)))
    (assumption)
    (first
      | (go_at_call 22; refine (name_calls q.b q.A q.c (HT.out.fr HFD.out (by simp)).C.2 (HT.out.fr HFD.out (by simp)).C.1).mono ?_; rintro e w4 ⟨rfl, hB4⟩; have HF4 := Lib.hid (HFD.out.trans (Fr.of_below [] hB4) (by simp)); have hS4 := HS.out _ HF4.out; clear hB4)
      | (go_at_call 14; refine (height_calls ⟨_, _, _, _, HH.out.fr0 HF4.out⟩ q.b.f3).mono ?_; rintro e w5 ⟨rfl, hF5⟩; have HF5 := Lib.hid (HF4.out.trans hF5 (by simp)); have hS5 := HS.out _ HF5.out; obtain ⟨w6, hup, hA6, hF6, hT6, hS6⟩ := HFIN.out _ HF5.out; have HT6 := Lib.hid hT6; clear hT6; have HA6 := Lib.hid hA6; have HF6 := Lib.hid hF6; clear hA6 hF6 hF5))
  all_goals (go_wp2; exact hR.out _ _ ⟨rfl, HA6.out, HF6.out, HT6.out⟩)
end Go.Np.Try
