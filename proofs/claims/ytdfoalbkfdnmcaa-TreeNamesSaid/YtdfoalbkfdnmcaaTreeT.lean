/- tree.Tree: take. -/
import Derived.Test.YtdfoalbkfdnmcaaTreeD
set_option linter.unusedVariables false
set_option linter.unusedSimpArgs false
namespace Go.Np
open Go.RowKit
theorem frz_of {w : World} {b : Nat} {cs : Array Value} {t : TypeId} (h : w.heap[b]? = some (.cells cs t (0, 0))) : ∀ i, w.frozen? ⟨b, i, none⟩ = false := fun i => froz_of h i
/-- Five cells written one after the other. -/
def put5 (w : World) (b : Nat) (u0 u1 u2 u3 u4 : Value) : World := (((((w.setCell ⟨b, 0, none⟩ u0).setCell ⟨b, 1, none⟩ u1).setCell ⟨b, 2, none⟩ u2).setCell ⟨b, 3, none⟩ u3).setCell ⟨b, 4, none⟩ u4)
theorem put5_fr {S : List Nat} {w0 w : World} {b : Nat} (h : Fr S w0 w) (hb : b ∈ S ∨ w0.heap.size ≤ b) (u0 u1 u2 u3 u4 : Value) : Fr S w0 (put5 w b u0 u1 u2 u3 u4) :=
  ((((h.setCell hb _).setCell hb _).setCell hb _).setCell hb _).setCell hb _
theorem put5_heap {w : World} {b : Nat} {x0 x1 x2 x3 x4 : Value} {t : TypeId} (h : w.heap[b]? = some (.cells #[x0, x1, x2, x3, x4] t (0, 0))) (u0 u1 u2 u3 u4 : Value) :
    (put5 w b u0 u1 u2 u3 u4).heap[b]? = some (.cells #[u0, u1, u2, u3, u4] t (0, 0)) := five_put h u0 u1 u2 u3 u4
end Go.Np
namespace Go.Np.Try
open Go.RowKit Go.Proofs Go.Proofs.Ytdfoalbkfdnmcaa.PX Go.Proofs.YtdfoalbkfdnmcaaW.PrintWords
theorem TrIn.txs {X : Nat → Prop} {w w' : World} {p b : Nat} {t : Tr} {v : Value} {ds : List (BV × Kn)} {qs : List BV} (h : TrIn X w p t b v ds qs) (hf : Fr (p :: v.ownBlock.toList) w w') {q : BV} (hq : TxsAt X w q) : TxsAt X w' q := hq.fr hf (fun k hk hm => by
    rcases List.mem_cons.1 hm with hm | hm
    · subst hm; exact hq.ne h.hp (by decide) hk
    · obtain ⟨cur, hc⟩ := h.hv.obj k hm
      exact hq.ne hc (by decide) hk)
set_option maxHeartbeats 4000000 in
set_option maxRecDepth 100000 in
theorem take_none {X : Nat → Prop} {w : World} {p : Nat} {t : Tr} (h : TrAt X w p t) (hl : t.wait.length ≤ 100000) (hn : t.wait.findIdx? t.ready = none) :
    Calls Try.prog 50 #[.pointer (some ⟨p, 1, none⟩), .func (.func 47) #[.pointer (some ⟨p, 0, none⟩)] #[]] w fun e w' => e = .returned (.tuple #[.agg #[.int .i64 0, .int .i64 0, .int .i64 0, .int .i64 0, .slice none 0 0], .bool false]) ∧ Fr [] w w' := by
  obtain ⟨b, v, ds, qs, h⟩ := h
  obtain ⟨A, c, rfl, hc⟩ := h.hv.form
  refine calls_k fun R hR => ?_
  obtain ⟨W, hW⟩ : ∃ W, W = w.alloc (.cells #[.int .i64 0, .int .i64 0, .int .i64 0, .int .i64 0, .slice none 0 0] 28) := ⟨_, rfl⟩
  obtain ⟨g, hg⟩ : ∃ g, g = w.heap.size := ⟨_, rfl⟩
  have hF : Fr [] w W := by rw [hW]; exact (Fr.refl _ _).alloc _
  have hbl : W.heap[g]? = some (.cells #[.int .i64 0, .int .i64 0, .int .i64 0, .int .i64 0, .slice none 0 0] 28 (0, 0)) := by rw [hW, hg]; exact heap_alloc_new _ _
  have h1 := h.fr0 hF
  have hc1 := cell_of h1.hp 1
  simp at hc1
  have hlq : qs.length ≤ 100000 := by have := congrArg List.length h.hqs; simp at this; omega
  have HI := Lib.hid (index_calls h1 hlq)
  have hidx : idxP t = -1 := by unfold idxP; rw [hn]
  rw [hidx] at HI
  have HB := Lib.hid hbl
  have HF := Lib.hid hF
  have hgw : w.heap.size ≤ g := Nat.le_of_eq hg.symm
  clear h h1 hbl hF hn hidx hl hlq
  go_enter Try.func50, Try.ntmps50
  go_upto_region 1 with (fail)
  rw [← hW, ← hg]
  clear hW hg
  go_wp2_with (go_at_call 65; refine HI.out.mono ?_; rintro e w1 ⟨rfl, h3⟩; have hb2 := (h3.block _ (Array.getElem?_eq_some_iff.1 HB.out).1 (by simp)).trans HB.out; have f0 := cell_of hb2 0; have f1 := cell_of hb2 1; have f2 := cell_of hb2 2; have f3 := cell_of hb2 3; have f4 := cell_of hb2 4; simp at f0 f1 f2 f3 f4; have z0 := froz_of hb2 0; have z1 := froz_of hb2 1; have z2 := froz_of hb2 2; have z3 := froz_of hb2 3; have z4 := froz_of hb2 4; have HB2 := Lib.hid hb2; have H3 := Lib.hid h3; clear hb2 h3 hc1)
  have hb3 := put5_heap HB2.out (.int .i64 0) (.int .i64 0) (.int .i64 0) (.int .i64 0) (.slice none 0 0)
  have hf3 := put5_fr (HF.out.trans H3.out (by simp)) (.inr hgw) (.int .i64 0) (.int .i64 0) (.int .i64 0) (.int .i64 0) (.slice none 0 0)
  unfold put5 at hb3 hf3
  refine bodyPost_ret (results_ct rfl _ _ g 28 _ (0, 0) _ rfl hb3 Try.underlying28 rfl (by kernel_rfl)) rfl ?_
  refine hR.out _ _ ⟨by simp, ?_⟩
  exact hf3
set_option maxHeartbeats 4000000 in
set_option maxRecDepth 100000 in
theorem take_some {X : Nat → Prop} {w : World} {p i : Nat} {t : Tr} (h : TrAt X w p t) (hl : t.wait.length ≤ 100000) (hn : t.wait.findIdx? t.ready = some i) (hXw : ∀ k, X k → k < w.heap.size) :
    Calls Try.prog 50 #[.pointer (some ⟨p, 1, none⟩), .func (.func 47) #[.pointer (some ⟨p, 0, none⟩)] #[]] w fun e w' => ∃ q : BV, e = .returned (.tuple #[blkV q.b q.A q.c, .bool true]) ∧ t.wait[i]? = some q.b ∧ TxsAt X w' q ∧ TrAt X w' p ⟨t.known, t.wait.eraseIdx i⟩ ∧ FrX X w w' := by
  obtain ⟨b, v, ds, qs, h⟩ := h
  obtain ⟨A, c, rfl, hc⟩ := h.hv.form
  refine calls_k fun R hR => ?_
  have hiw : i < t.wait.length := by
    rw [List.findIdx?_eq_some_iff_getElem] at hn
    exact hn.1
  have hlen : qs.length = t.wait.length := by have := congrArg List.length h.hqs; simpa using this
  have hil : i < qs.length := by omega
  obtain ⟨q, hq⟩ : ∃ q, qs[i]? = some q := ⟨_, List.getElem?_eq_getElem hil⟩
  have hwq : t.wait[i]? = some q.b := by rw [← h.hqs, List.getElem?_map, hq]; rfl
  obtain ⟨k, HK⟩ : ∃ k, Hid (qs.length = i + 1 + k) := ⟨qs.length - (i + 1), by unfold Hid; omega⟩
  obtain ⟨W, hW⟩ : ∃ W, W = w.alloc (.cells #[.int .i64 0, .int .i64 0, .int .i64 0, .int .i64 0, .slice none 0 0] 28) := ⟨_, rfl⟩
  obtain ⟨g, hg⟩ : ∃ g, g = w.heap.size := ⟨_, rfl⟩
  have hF : Fr [] w W := by rw [hW]; exact (Fr.refl _ _).alloc _
  have hbl : W.heap[g]? = some (.cells #[.int .i64 0, .int .i64 0, .int .i64 0, .int .i64 0, .slice none 0 0] 28 (0, 0)) := by rw [hW, hg]; exact heap_alloc_new _ _
  have h1 := h.fr0 hF
  have hc1 := cell_of h1.hp 1
  simp at hc1
  have hlq : qs.length ≤ 100000 := by omega
  have HI := Lib.hid (index_calls h1 hlq)
  have hidx : idxP t = i := by unfold idxP; rw [hn]
  rw [hidx] at HI
  have HB := Lib.hid hbl
  have HF := Lib.hid hF
  have HH := Lib.hid h
  have HWQ := Lib.hid hwq
  have HQ := Lib.hid hq
  have hgw : w.heap.size ≤ g := Nat.le_of_eq hg.symm
  have hgp : p < g := by rw [hg]; exact h.plt
  have hltI : (i : Int) < (qs.length : Int) := by omega
  clear h h1 hbl hF hn hidx hl hiw hlen hwq hq hil
  go_enter Try.func50, Try.ntmps50
  go_upto_region 1 with (fail)
  rw [← hW, ← hg]
  clear hW hg
  go_upto_region 4 with (go_at_call 65; refine HI.out.mono ?_; rintro e w1 ⟨rfl, h3⟩; have hb2 := (h3.block _ (Array.getElem?_eq_some_iff.1 HB.out).1 (by simp)).trans HB.out; have f0 := cell_of hb2 0; have f1 := cell_of hb2 1; have f2 := cell_of hb2 2; have f3 := cell_of hb2 3; have f4 := cell_of hb2 4; simp at f0 f1 f2 f3 f4; have z0 := froz_of hb2 0; have z1 := froz_of hb2 1; have z2 := froz_of hb2 2; have z3 := froz_of hb2 3; have z4 := froz_of hb2 4; have hc2 := cellF h3 hc1; have HB2 := Lib.hid hb2; have H3 := Lib.hid h3; clear hb2 h3 hc1)
  have hr1 := HH.out.fr0 (HF.out.trans H3.out (by simp))
  obtain ⟨ad, rfl, c0, c1, c2, c3, c4⟩ := Go.Np.Try.RowAt.blk hr1.hv i q HQ.out
  obtain ⟨W2, hW2⟩ : ∃ W2, W2 = put5 w1 g (.int .i64 q.b.f0) (.int .i64 q.b.f1) (.int .i64 q.b.f2) (.int .i64 q.b.f3) (.slice q.A q.b.f4.length q.c) := ⟨_, rfl⟩
  have hbl2 : W2.heap[g]? = some (.cells #[.int .i64 q.b.f0, .int .i64 q.b.f1, .int .i64 q.b.f2, .int .i64 q.b.f3, .slice q.A q.b.f4.length q.c] 28 (0, 0)) := by rw [hW2]; exact put5_heap HB2.out _ _ _ _ _
  have hF2 : Fr [] w W2 := by rw [hW2]; exact put5_fr (HF.out.trans H3.out (by simp)) (.inr hgw) _ _ _ _ _
  have h2 := HH.out.fr0 hF2
  have d1 := cell_of h2.hp 1
  simp at d1
  have HCL := Lib.hid (clone_blk qs h2.hv hlq)
  have HF2 := Lib.hid hF2
  have HBL2 := Lib.hid hbl2
  have HH2 := Lib.hid h2
  unfold put5 at hW2
  clear hr1 hbl2 hF2 h2
  go_upto_region 5 with (fail)
  rw [← hW2]
  clear hW2 c0 c1 c2 c3 c4 f0 f1 f2 f3 f4 z0 z1 z2 z3 z4 hc2
  have hgs := (Array.getElem?_eq_some_iff.1 HBL2.out).1
  have hk1 := HK.out
  have HSM : Hid (i + 1 + k ≤ 100000) := by unfold Hid; omega
  clear hk1
  go_upto_region 6 with (first
    | (go_at_call 67; refine HCL.out.mono ?_; rintro e w3 ⟨A3, cc3, rfl, ho3, hn3, hF3⟩
       obtain ⟨g3, rfl, hg3⟩ : ∃ g3, A3 = some ⟨g3, 0, none⟩ ∧ W2.heap.size ≤ g3 := by
         have hk1 := HK.out
         rcases ho3.2 with ⟨h5, h6⟩ | ⟨g3, cap, cur, h5, _⟩
         · omega
         · injection h5 with h5 _ _
           subst h5
           exact ⟨g3, rfl, hn3 g3 (by simp [Value.ownBlock])⟩
       have hdel := delete_blk (i := i) (k := k) (by have := RowAt.of_own ho3; rw [HK.out] at this; exact this) HK.out HSM.out
       rw [← HK.out] at hdel
       have HD := Lib.hid hdel
       have HF3 := Lib.hid hF3
       clear hF3 hn3 ho3 hdel)
    | (go_at_call 66; refine HD.out.mono ?_; rintro e w4 ⟨rfl, hr4, hF4⟩
       have hps : p < W2.heap.size := by omega
       have hp4 := (hF4.block p (Nat.lt_of_lt_of_le hps HF3.out.size) (by simp; omega)).trans ((HF3.out.block p hps (by simp)).trans HH2.out.hp)
       have n1 := cell_of hp4 1
       have y1 := froz_of hp4 1
       simp at n1
       have HP4 := Lib.hid hp4
       have HF4 := Lib.hid hF4
       have HR4 := Lib.hid hr4
       clear hp4 hF4 hr4 hps))
  obtain ⟨W5, hW5⟩ : ∃ W5, W5 = w4.setCell ⟨p, 1, none⟩ (.slice (some ⟨g3, 0, none⟩) (i + k) cc3) := ⟨_, rfl⟩
  have hbl5 : W5.heap[g]? = some (.cells #[.int .i64 q.b.f0, .int .i64 q.b.f1, .int .i64 q.b.f2, .int .i64 q.b.f3, .slice q.A q.b.f4.length q.c] 28 (0, 0)) := by
    rw [hW5]
    refine (set_far w4 (a := ⟨p, 1, none⟩) (by show g ≠ p; omega) _).trans ?_
    exact (HF4.out.block g (Nat.lt_of_lt_of_le hgs HF3.out.size) (by simp; omega)).trans ((HF3.out.block g hgs (by simp)).trans HBL2.out)
  have hp5 : W5.heap[p]? = some (.cells #[.map (some b), .slice (some ⟨g3, 0, none⟩) (i + k) cc3] 67 (0, 0)) := by
    have := obj_set HP4.out 1 (.slice (some ⟨g3, 0, none⟩) (i + k) cc3)
    rw [hW5]; simpa using this
  have hF5 : Fr (p :: (Value.slice (some ad) qs.length c).ownBlock.toList) w W5 := by
    rw [hW5]
    refine Fr.setCell ?_ (.inl (by simp)) _
    have h23 : Fr [] w w3 := HF2.out.trans HF3.out (by simp)
    exact ((h23.mono (by simp)).trans HF4.out (fun x hx => .inr (by simp at hx; subst hx; exact Nat.le_trans HF2.out.size hg3)))
  have hr5 : RowAt W5 28 5 (.slice (some ⟨g3, 0, none⟩) (i + k) cc3) (i + k) (flatB (qs.eraseIdx i)) := by
    rw [hW5]
    exact HR4.out.fr ((Fr.refl [p] w4).setCell (p := ⟨p, 1, none⟩) (.inl (by simp)) _) (fun k' hk' hm => HR4.out.ne_obj HP4.out (by decide) (by simp at hm; rw [← hm]; exact hk'))
  have f0 := cell_of hbl5 0
  have f1 := cell_of hbl5 1
  have f2 := cell_of hbl5 2
  have f3 := cell_of hbl5 3
  have f4 := cell_of hbl5 4
  simp at f0 f1 f2 f3 f4
  have z0 := froz_of hbl5 0
  have z1 := froz_of hbl5 1
  have z2 := froz_of hbl5 2
  have z3 := froz_of hbl5 3
  have z4 := froz_of hbl5 4
  have HBL5 := Lib.hid hbl5
  have HP5 := Lib.hid hp5
  have HF5 := Lib.hid hF5
  have HR5 := Lib.hid hr5
  clear hbl5 hp5 hF5 hr5
  rw [← hW5]
  clear hW5 n1 y1 d1
  go_wp2
  have hb6 := put5_heap HBL5.out (.int .i64 q.b.f0) (.int .i64 q.b.f1) (.int .i64 q.b.f2) (.int .i64 q.b.f3) (.slice q.A q.b.f4.length q.c)
  have hf6 := put5_fr HF5.out (.inr hgw) (.int .i64 q.b.f0) (.int .i64 q.b.f1) (.int .i64 q.b.f2) (.int .i64 q.b.f3) (.slice q.A q.b.f4.length q.c)
  have hf56 := put5_fr (b := g) (Fr.refl [g] W5) (.inl (by simp)) (.int .i64 q.b.f0) (.int .i64 q.b.f1) (.int .i64 q.b.f2) (.int .i64 q.b.f3) (.slice q.A q.b.f4.length q.c)
  unfold put5 at hb6 hf6 hf56
  refine bodyPost_ret (results_ct rfl _ _ g 28 _ (0, 0) _ rfl hb6 Try.underlying28 rfl (by kernel_rfl)) rfl ?_
  have hlen6 : (qs.eraseIdx i).length = i + k := by
    have hk1 := HK.out
    rw [List.length_eraseIdx]
    rw [if_pos (by omega)]; omega
  have hg3g : g3 ≠ g := by omega
  have hp6 := (hf56.block p (by have := (Array.getElem?_eq_some_iff.1 HP5.out).1; exact this) (by simp; omega)).trans HP5.out
  have hr6 := HR5.out.fr hf56 (fun k' hk' hm => by simp [Value.ownBlock] at hk' hm; omega)
  have hset := HH.out.setQ (qs' := qs.eraseIdx i) hf6 hp6 (by rw [hlen6]; exact hr6) (fun r hr => HH.out.hq r (List.mem_of_mem_eraseIdx hr)) (fun k' hk' hx => by
    have h7 := hXw k' hx
    simp [Value.ownBlock] at hk'
    have := HF2.out.size
    omega)
  have hwe : (qs.eraseIdx i).map (·.b) = t.wait.eraseIdx i := by rw [← HH.out.hqs, List.eraseIdx_eq_take_drop_succ, List.eraseIdx_eq_take_drop_succ, List.map_append, List.map_take, List.map_drop]
  rw [hwe] at hset
  refine hR.out _ _ ⟨q, by simp [blkV], HWQ.out, HH.out.txs hf6 (HH.out.hq q (List.mem_of_getElem? HQ.out)), ⟨_, _, _, _, hset⟩, ⟨_, hf6, ?_⟩⟩
  intro k' hk'
  rcases List.mem_cons.1 hk' with h1 | h1
  · rw [h1]; exact HH.out.hX.1
  · exact HH.out.hX.2.2 k' h1
end Go.Np.Try
