/- tree.Tree: Waiting; slices.Clone of transactions and of blocks; block.Copy. -/
import Derived.Test.YtdfoalbkfdnmcaaTreeA
set_option linter.unusedVariables false
set_option linter.unusedSimpArgs false
namespace Go.Np.Try
open Go.RowKit Go.Proofs Go.Proofs.Ytdfoalbkfdnmcaa.PX Go.Proofs.YtdfoalbkfdnmcaaW.PrintWords
theorem infoI : (Try.prog.info? 3).map (fun i => (i.zero, i.size, i.bytes)) = some (some (.int .i64 0), 1, 8) := by kernel_rfl
/-- A row of numbers of one's own. -/
def OwnI (base : Nat) (w : World) (v : Value) (l : List Int) : Prop := w.ownsRow 0 3 1 v l.length (l.map (Value.int .i64)) ∧ ∀ k ∈ v.ownBlock.toList, base ≤ k
theorem OwnI.fr {base : Nat} {w w' : World} {v : Value} {l : List Int} {S : List Nat} (h : OwnI base w v l) (hf : Fr S w w') (hd : ∀ k ∈ v.ownBlock.toList, k ∉ S) : OwnI base w' v l := ⟨row_fr h.1 hf hd, h.2⟩
theorem OwnI.nil (base : Nat) (w : World) : OwnI base w (.slice none 0 0) [] := ⟨World.ownsRow_nil _ _ _ _, by simp [Value.ownBlock]⟩
def SlI (w : World) (v : Value) (l : List Int) : Prop := ∃ A c, v = .slice A l.length c ∧ l.length ≤ c ∧ (Kd.int .i64).C w A l.length l
theorem SlI.fr {w w' : World} {v : Value} {l : List Int} (h : SlI w v l) (hF : Fr [] w w') : SlI w' v l := by
  obtain ⟨A, c, h1, h2, h3⟩ := h
  exact ⟨A, c, h1, h2, Kd.C_below h3 hF.below⟩
theorem OwnI.sl {base : Nat} {w : World} {v : Value} {l : List Int} (h : OwnI base w v l) : SlI w v l := by
  have hr : Reps (fun (q : Int) cs => cs = [Value.int .i64 q]) 1 l (l.map (Value.int .i64)) := by
    have : ∀ l : List Int, Reps (fun (q : Int) cs => cs = [Value.int .i64 q]) 1 l (l.map (Value.int .i64)) := by
      intro l
      induction l with
      | nil => exact Reps.none _ _
      | cons q l ih =>
        have h1 : Reps (fun (q : Int) cs => cs = [Value.int .i64 q]) 1 [q] [Value.int .i64 q] := by simpa using (Reps.none (fun (q : Int) cs => cs = [Value.int .i64 q]) 1).snoc (p := q) rfl rfl
        have := Kd.reps_append h1 ih
        simpa using this
    exact this l
  obtain ⟨A, c, he, hl, hc⟩ := OwnRow.reads (R := fun (q : Int) cs => cs = [Value.int .i64 q]) ⟨_, h.1, hr⟩
  exact ⟨A, c, he, hl, hc.imp_ (Below.refl _ _) (fun q cs hq => by subst hq; rfl)⟩
set_option maxHeartbeats 2000000 in
set_option maxRecDepth 100000 in
theorem waiting_calls {X : Nat → Prop} {w : World} {p : Nat} {t : Tr} (h : TrAt X w p t) (hlen : t.wait.length ≤ 100000) :
    Calls Try.prog 20 #[.pointer (some ⟨p, 0, none⟩)] w fun e w' => ∃ v, e = .returned v ∧ OwnI w.heap.size w' v (t.wait.map nameB) ∧ Fr [] w w' := by
  obtain ⟨b, v, ds, qs, h⟩ := h
  obtain ⟨A, c, rfl, hc⟩ := h.hv.form
  have hc1 := cell_of h.hp 1
  simp at hc1
  have hqs := h.hqs
  have hlq : qs.length ≤ 100000 := by rw [← hqs] at hlen; simpa using hlen
  rw [← hqs, List.map_map]
  have HH := Lib.hid h
  refine calls_k fun R hR => ?_
  clear h hqs hlen
  go_enter Try.func20, Try.ntmps20
  go_upto_region 3 with (fail)
  clear hc1
  go_loopg [3, 12] qs.length (fun gn o i wr => ∃ (m j : Nat) (D : Option Addr) (cp : Nat), m = gn ∧ m + j = qs.length ∧ o = .slice D j cp ∧ i = .int .i64 j ∧ Hid (OwnI w.heap.size wr (.slice D j cp) ((qs.take j).map (fun q => nameB q.b))) ∧ Hid (Fr [] w wr))
  case atStart => exact ⟨_, 0, none, 0, rfl, rfl, rfl, rfl, OwnI.nil _ _, Fr.refl _ _⟩
  case round =>
    obtain ⟨m, j, D, cp, rfl, hj, rfl, rfl, HO, HF⟩ := hrel
    by_cases hlt : j < qs.length
    · have hr := HH.out.fr0 HF.out
      obtain ⟨q, hq⟩ : ∃ q, qs[j]? = some q := ⟨_, List.getElem?_eq_getElem hlt⟩
      obtain ⟨ad, rfl, c0, c1, c2, c3, c4⟩ := Go.Np.Try.RowAt.blk hr.hv j q hq
      have hT := hr.hq q (List.mem_of_getElem? hq)
      have htake : qs.take (j + 1) = qs.take j ++ [q] := by rw [List.take_add_one, hq]; rfl
      obtain ⟨W8, hW8⟩ : ∃ W8, W8 = wr.alloc (.cells #[.int .i64 q.b.f0, .int .i64 q.b.f1, .int .i64 q.b.f2, .int .i64 q.b.f3, .slice q.A q.b.f4.length q.c] 28) := ⟨_, rfl⟩
      obtain ⟨g, hg⟩ : ∃ g, g = wr.heap.size := ⟨_, rfl⟩
      have hbl : W8.heap[g]? = some (.cells #[.int .i64 q.b.f0, .int .i64 q.b.f1, .int .i64 q.b.f2, .int .i64 q.b.f3, .slice q.A q.b.f4.length q.c] 28 (0, 0)) := by rw [hW8, hg]; exact heap_alloc_new _ _
      have e0 := cell_of hbl 0
      have e1 := cell_of hbl 1
      have e2 := cell_of hbl 2
      have e3 := cell_of hbl 3
      have e4 := cell_of hbl 4
      simp at e0 e1 e2 e3 e4
      have hF8 : Fr [] wr W8 := by rw [hW8]; exact (Fr.refl _ _).alloc _
      have hT8 := hT.fr hF8 (by simp)
      have HN := Lib.hid (name_calls q.b q.A q.c hT8.C.2 hT8.C.1)
      simp only [blkV] at HN
      have HF8 := Lib.hid hF8
      have HT := Lib.hid htake
      have hb63 : j < maxLen := by unfold maxLen; omega
      have hb8 : (j + 1) * 8 ≤ 140737488355328 := by omega
      have hlj : ((qs.take j).map (fun q => nameB q.b)).length = j := by simp; omega
      have hrow : W8.ownsRow 0 3 1 (.slice D j cp) j (((qs.take j).map (fun q => nameB q.b)).map (Value.int .i64)) := by
        have h1 := (HO.out.fr hF8 (by simp)).1
        rw [hlj] at h1
        exact h1
      have HR := Lib.hid hrow
      clear hr hq hT hbl hF8 hT8 htake hlj hrow
      go_upto_region 5 with (fail)
      rw [← hW8, ← hg]
      clear hW8 hg c0 c1 c2 c3 c4
      go_wp2_with (first
        | (go_at_call 22; refine HN.out.mono ?_; rintro e w1 ⟨rfl, hB1⟩; have hF1 := Fr.of_below [] hB1; have hr1 := row_fr HR.out hF1 (by simp); have HF1 := Lib.hid hF1; clear hF1 hB1 e0 e1 e2 e3 e4)
        | (at_builtin; refine wp_append1 rfl _ _ 29 3 rfl Try.underlying29 infoI rfl (by decide) hr1 rfl [.int .i64 (nameB q.b)] rfl rfl (by simp [Value.oneCell']) hb63 hb8 ?_; intro A7 c7 w7 hr7 hF7 hN7; have HR7 := Lib.hid hr7; have HF7 := Lib.hid hF7; have HN7 := Lib.hid hN7; clear hr7 hF7 hN7 hr1))
      have hsz : wr.heap.size ≤ w1.heap.size := Nat.le_trans HF8.out.size HF1.out.size
      have hbase : ∀ k ∈ (Value.slice D j cp).ownBlock.toList, w.heap.size ≤ k := HO.out.2
      have hF17 : Fr [] w w7 := ((HF.out.trans HF8.out (by simp)).trans HF1.out (by simp)).trans HF7.out (fun k hk => .inr (hbase k hk))
      have hO7 : OwnI w.heap.size w7 (.slice A7 (j + 1) c7) ((qs.take (j + 1)).map (fun q => nameB q.b)) := by
        refine ⟨?_, fun k hk => ?_⟩
        · have h1 := HR7.out
          rw [HT.out]
          simpa [Nat.min_eq_left (Nat.le_of_lt hlt)] using h1
        · rcases HN7.out k hk with h1 | h1
          · exact hbase k h1
          · exact Nat.le_trans (Nat.le_trans HF.out.size hsz) h1
      have HF17 := Lib.hid hF17
      have HO7 := Lib.hid hO7
      clear hF17 hO7 hbase
      obtain ⟨gm, rfl⟩ : ∃ gm, m = gm + 1 := ⟨m - 1, by omega⟩
      go_roundg gm
      case rel => exact ⟨gm, j + 1, A7, c7, rfl, by omega, rfl, by go_num, HO7, HF17⟩
      case measure => omega
    · obtain rfl : j = qs.length := by omega
      have hO := HO.out
      rw [List.take_length] at hO
      clear HO
      go_wp2
      exact hR.out _ _ ⟨_, rfl, hO, HF.out⟩
end Go.Np.Try
