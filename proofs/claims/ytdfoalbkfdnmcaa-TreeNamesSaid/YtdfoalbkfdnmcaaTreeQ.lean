/- tree.Tree: the queue: push, IndexFunc, Delete, take. -/
import Derived.Test.YtdfoalbkfdnmcaaTreeG
import Derived.Deep.RegionLaw
set_option linter.unusedVariables false
set_option linter.unusedSimpArgs false
namespace Go.Np
open Go.RowKit
theorem RowAt.obj {w : World} {e : TypeId} {sz n : Nat} {v : Value} {xs : List Value} (h : RowAt w e sz v n xs) : ∀ k ∈ v.ownBlock.toList, ∃ cur, w.heap[k]? = some (.cells cur e (0, 0)) := by
  intro k hk
  rcases h.2 with ⟨h2, _⟩ | ⟨g, off, cap, cur, rfl, hh, r⟩
  · rw [h2] at hk; simp [Value.ownBlock] at hk
  · simp [Value.ownBlock] at hk
    subst hk
    exact ⟨_, hh⟩
end Go.Np
namespace Go.Np.Try
open Go.RowKit Go.Proofs Go.Proofs.Ytdfoalbkfdnmcaa.PX Go.Proofs.YtdfoalbkfdnmcaaW.PrintWords
section
variable {X : Nat → Prop} {w w' : World} {p b : Nat} {t : Tr} {v v' : Value} {ds : List (BV × Kn)} {qs qs' : List BV}
theorem TrIn.setQ (h : TrIn X w p t b v ds qs) (hf : Fr (p :: v.ownBlock.toList) w w') (hp : w'.heap[p]? = some (.cells #[.map (some b), v'] 67 (0, 0))) (hr : RowAt w' 28 5 v' qs'.length (flatB qs'))
    (hq : ∀ q ∈ qs', TxsAt X w q) (hX : ∀ k ∈ v'.ownBlock.toList, ¬ X k) : TrIn X w' p ⟨t.known, qs'.map (·.b)⟩ b v' ds qs' := by
  have ht : ∀ q, TxsAt X w q → TxsAt X w' q := fun q hq => hq.fr hf (fun k hk hm => by
    rcases List.mem_cons.1 hm with hm | hm
    · subst hm; exact hq.ne h.hp (by decide) hk
    · obtain ⟨cur, hc⟩ := h.hv.obj k hm
      exact hq.ne hc (by decide) hk)
  obtain ⟨es, cl, hb, _⟩ := h.hM
  have hM := h.hM.fr hf (fun hm => by
    rcases List.mem_cons.1 hm with hm | hm
    · subst hm; have := h.hp; rw [hb] at this; cases this
    · exact h.hv.ne_map hb hm)
  exact ⟨hp, hM, h.hds, fun d hd => ⟨(h.hd d hd).1, ht _ (h.hd d hd).2⟩, hr, rfl, fun q hq' => ht q (hq q hq'), h.hX.1, h.hX.2.1, hX⟩
end
set_option maxHeartbeats 4000000 in
set_option maxRecDepth 100000 in
theorem push_calls {X : Nat → Prop} {w : World} {p b : Nat} {t : Tr} {v : Value} {ds : List (BV × Kn)} {qs : List BV} (h : TrIn X w p t b v ds qs) (q : BV) (hT : TxsAt X w q) (hl : qs.length ≤ 16) (hXw : ∀ k, X k → k < w.heap.size) :
    Calls Try.prog 48 #[.pointer (some ⟨p, 1, none⟩), blkV q.b q.A q.c, .int .i64 16] w fun e w' => e = .returned (.tuple #[]) ∧ TrAt X w' p ⟨t.known, (t.wait ++ [q.b]).drop (t.wait.length + 1 - 16)⟩ ∧ FrX X w w' := by
  unfold blkV
  refine calls_k fun R hR => ?_
  obtain ⟨A, c, rfl, hc⟩ := h.hv.form
  obtain ⟨W, hW⟩ : ∃ W, W = w.alloc (.cells #[.int .i64 q.b.f0, .int .i64 q.b.f1, .int .i64 q.b.f2, .int .i64 q.b.f3, .slice q.A q.b.f4.length q.c] 28) := ⟨_, rfl⟩
  obtain ⟨g, hg⟩ : ∃ g, g = w.heap.size := ⟨_, rfl⟩
  have hF : Fr [] w W := by rw [hW]; exact (Fr.refl _ _).alloc _
  have hbl : W.heap[g]? = some (.cells #[.int .i64 q.b.f0, .int .i64 q.b.f1, .int .i64 q.b.f2, .int .i64 q.b.f3, .slice q.A q.b.f4.length q.c] 28 (0, 0)) := by rw [hW, hg]; exact heap_alloc_new _ _
  have e0 := cell_of hbl 0
  have e1 := cell_of hbl 1
  have e2 := cell_of hbl 2
  have e3 := cell_of hbl 3
  have e4 := cell_of hbl 4
  simp at e0 e1 e2 e3 e4
  have h1 := h.fr0 hF
  have hc1 := cell_of h1.hp 1
  simp at hc1
  have hFn : Fr [] W (W.alloc (.cells #[.int .i64 q.b.f0, .int .i64 q.b.f1, .int .i64 q.b.f2, .int .i64 q.b.f3, .slice q.A q.b.f4.length q.c] 28)).drew := ((Fr.refl _ _).alloc _).drew
  have hca : (W.alloc (.cells #[.int .i64 q.b.f0, .int .i64 q.b.f1, .int .i64 q.b.f2, .int .i64 q.b.f3, .slice q.A q.b.f4.length q.c] 28)).cell? ⟨p, 1, none⟩ = some (.slice A qs.length c) := cellF hFn hc1
  have HRW := Lib.hid (h1.hv.fr hFn (by simp))
  have hcn : Hid (∀ j u, (flatB [q])[j]? = some u → (W.alloc (.cells #[.int .i64 q.b.f0, .int .i64 q.b.f1, .int .i64 q.b.f2, .int .i64 q.b.f3, .slice q.A q.b.f4.length q.c] 28)).drew.cell? ((⟨W.heap.size, 0, none⟩ : Addr).add j) = some u) := by
    intro j u hu
    have hn := heap_alloc_new W (.cells #[.int .i64 q.b.f0, .int .i64 q.b.f1, .int .i64 q.b.f2, .int .i64 q.b.f3, .slice q.A q.b.f4.length q.c] 28)
    have e : (⟨W.heap.size, 0, none⟩ : Addr).add j = ⟨W.heap.size, j, none⟩ := by unfold Addr.add; split <;> simp_all
    rw [e]
    have := cell_of (p := W.heap.size) hn j
    refine Eq.trans (show _ = _ from this) ?_
    simpa [flatB, BV.cells] using hu
  have h63 : qs.length + 1 ≤ maxLen := by unfold maxLen; omega
  have hbb : (qs.length + 1) * 56 ≤ 140737488355328 := by omega
  have HH := Lib.hid h
  have HF := Lib.hid hF
  have HT := Lib.hid hT
  have HP := Lib.hid h1.hp
  have HFn := Lib.hid hFn
  have hpg : p < g := by rw [hg]; exact h.plt
  have hgs : g < W.heap.size := (Array.getElem?_eq_some_iff.1 hbl).1
  clear h h1 hbl hF hT hFn
  go_enter Try.func48, Try.ntmps48
  go_upto_region 1 with (fail)
  rw [← hW, ← hg]
  clear hW hg
  go_region_law (first
    | (refine st_appendR rfl (.tmp 10) (.tmp 12) 22 28 rfl Try.underlying22 info28 rfl (by decide) HRW.out (by simp [Act.eval, Act.put]) ⟨W.heap.size, 0, none⟩ 1 1 (flatB [q]) (by simp [Act.eval, Act.put]) rfl hcn.out (flatB_one _) h63 hbb ?_; intro A6 c6 w6 hr6 hF6 hN6; have hp6 := (hF6.block p (by simp; omega) (fun hm => HRW.out.ne_obj ((HFn.out.block p (by omega) (by simp)).trans HP.out) (by decide) hm)).trans ((HFn.out.block p (by omega) (by simp)).trans HP.out); have n1 := cell_of hp6 1; have z1 := froz_of hp6 1; simp at n1; have HR6 := Lib.hid hr6; have HF6 := Lib.hid hF6; have HN6 := Lib.hid hN6; have HP6 := Lib.hid hp6; clear hr6 hF6 hN6 hp6))
  all_goals (clear hca hc1)
  all_goals
    have hFX : Hid (∀ (v8 : Value) (W8 : World) (qs8 : List BV), Fr (p :: (Value.slice A qs.length c).ownBlock.toList) w6 W8 → W8.heap[p]? = some (.cells #[.map (some b), v8] 67 (0, 0)) → RowAt W8 28 5 v8 qs8.length (flatB qs8) → (∀ r ∈ qs8, r ∈ qs ++ [q]) → (∀ k ∈ v8.ownBlock.toList, k ∈ (Value.slice A6 (qs.length + 1) c6).ownBlock.toList) →
        TrAt X W8 p ⟨t.known, qs8.map (·.b)⟩ ∧ FrX X w W8) := by
      intro v8 W8 qs8 hf8 hp8 hr8 hq8 hb8
      have hfw : Fr (p :: (Value.slice A qs.length c).ownBlock.toList) w W8 := (((HF.out.trans HFn.out (by simp)).mono (by simp)).trans (HF6.out.mono (fun x hx => .inl (List.mem_cons_of_mem _ hx))) (fun x hx => .inl hx)).trans hf8 (fun x hx => .inl hx)
      refine ⟨⟨b, v8, ds, qs8, HH.out.setQ hfw hp8 hr8 ?_ ?_⟩, ⟨_, hfw, ?_⟩⟩
      · intro r hr
        rcases List.mem_append.1 (hq8 r hr) with h1 | h1
        · exact HH.out.hq r h1
        · have : r = q := by simpa using h1
          rw [this]; exact HT.out
      · intro k hk hx
        rcases HN6.out k (hb8 k hk) with h1 | h1
        · exact HH.out.hX.2.2 k h1 hx
        · have h2 := hXw k hx
          have h3 : w.heap.size ≤ (W.alloc (.cells #[.int .i64 q.b.f0, .int .i64 q.b.f1, .int .i64 q.b.f2, .int .i64 q.b.f3, .slice q.A q.b.f4.length q.c] 28)).drew.heap.size := (HF.out.trans HFn.out (by simp)).size
          omega
      · intro k hk
        rcases List.mem_cons.1 hk with h1 | h1
        · rw [h1]; exact HH.out.hX.1
        · exact HH.out.hX.2.2 k h1
  all_goals
    have hwt : t.wait = qs.map (·.b) := HH.out.hqs.symm
    have hp7 := obj_set HP6.out 1 (.slice A6 (qs.length + 1) c6)
    have hrow7 : RowAt (w6.setCell ⟨p, 1, none⟩ (.slice A6 (qs.length + 1) c6)) 28 5 (.slice A6 (qs.length + 1) c6) (qs ++ [q]).length (flatB (qs ++ [q])) := by
      have := (HR6.out.fr ((Fr.refl [p] w6).setCell (p := ⟨p, 1, none⟩) (.inl (by simp)) (.slice A6 (qs.length + 1) c6)) (fun k hk hm => HR6.out.ne_obj HP6.out (by decide) (by simp at hm; rw [← hm]; exact hk)))
      rw [flatB_append]
      simpa using this
    have hf7 : Fr (p :: (Value.slice A qs.length c).ownBlock.toList) w6 (w6.setCell ⟨p, 1, none⟩ (.slice A6 (qs.length + 1) c6)) := (Fr.refl _ w6).setCell (.inl (by simp)) _
    obtain ⟨W7, hW7⟩ : ∃ W7, W7 = w6.setCell ⟨p, 1, none⟩ (.slice A6 (qs.length + 1) c6) := ⟨_, rfl⟩
    rw [← hW7] at hp7 hrow7 hf7
    simp at hp7
    have d1 := cell_of hp7 1
    have y1 := froz_of hp7 1
    simp at d1
    have HP7 := Lib.hid hp7
    have HR7 := Lib.hid hrow7
    have HF7 := Lib.hid hf7
    clear n1 z1 hp7 hrow7 hf7 e0 e1 e2 e3 e4
    go_upto_region 2 with (fail)
    rw [← hW7]
    clear hW7
    by_cases h16 : qs.length = 16
    · have h17 : (16 : Int) < (qs.length : Int) + 1 := by omega
      obtain ⟨g6, off6, hA6, hc6⟩ : ∃ g6 off6, A6 = some ⟨g6, off6, none⟩ ∧ qs.length + 1 ≤ c6 := by
        rcases HR7.out.2 with ⟨h2, h3⟩ | ⟨g', off', cap', cur, h2, h4, h5, _⟩
        · simp at h3
        · injection h2 with h2 _ h3
          subst h2 h3
          exact ⟨g', off', rfl, by simpa using h5⟩
      subst hA6
      have hne1 : c6 ≠ 1 := by omega
      have hle1 : 1 ≤ c6 := by omega
      have hr := HR7.out
      have hl17 : (qs ++ [q]).length = qs.length + 1 := by simp
      rw [hl17] at hr
      have ht := hr.tail (by decide) (some ⟨g6, off6 + 5, none⟩) (by rw [if_neg hne1])
      rw [show (flatB (qs ++ [q])).drop 5 = flatB ((qs ++ [q]).drop 1) from flatB_drop (qs ++ [q]) 1] at ht
      have hld : ((qs ++ [q]).drop 1).length = qs.length := by simp
      have ht8 := ht.fr ((Fr.refl [p] W7).setCell (p := ⟨p, 1, none⟩) (.inl (by simp)) (.slice (some ⟨g6, off6 + 5, none⟩) 16 (c6 - 1))) (fun k hk hm => ht.ne_obj HP7.out (by decide) (by simp at hm; rw [← hm]; exact hk))
      have hp8 := obj_set HP7.out 1 (.slice (some ⟨g6, off6 + 5, none⟩) 16 (c6 - 1))
      simp at hp8
      have hr8 : RowAt (W7.setCell ⟨p, 1, none⟩ (.slice (some ⟨g6, off6 + 5, none⟩) 16 (c6 - 1))) 28 5 (.slice (some ⟨g6, off6 + 5, none⟩) 16 (c6 - 1)) ((qs ++ [q]).drop 1).length (flatB ((qs ++ [q]).drop 1)) := by
        rw [hld]
        rw [h16] at ht8 ⊢
        exact ht8
      have hf8 := HF7.out.setCell (p := ⟨p, 1, none⟩) (.inl (by simp)) (.slice (some ⟨g6, off6 + 5, none⟩) 16 (c6 - 1))
      have hfin := hFX.out _ _ ((qs ++ [q]).drop 1) hf8 hp8 hr8 (fun r hr => List.mem_of_mem_drop hr) (fun k hk => by simpa [Value.ownBlock] using hk)
      have HFI := Lib.hid hfin
      clear hr ht ht8 hp8 hr8 hf8 hfin hld hl17
      go_wp2
      go_end0
      refine hR.out _ _ ⟨rfl, ?_⟩
      rw [hwt, show (qs.map (·.b)).length + 1 - 16 = 1 by simp; omega]
      simpa using HFI.out
    · have h17 : ¬ (16 : Int) < (qs.length : Int) + 1 := by omega
      go_wp2
      go_end0
      refine hR.out _ _ ⟨rfl, ?_⟩
      have := hFX.out _ W7 (qs ++ [q]) HF7.out HP7.out HR7.out (fun r hr => hr) (fun k hk => hk)
      rw [hwt, show (qs.map (·.b)).length + 1 - 16 = 0 by simp; omega, List.drop_zero]
      simpa using this
end Go.Np.Try
