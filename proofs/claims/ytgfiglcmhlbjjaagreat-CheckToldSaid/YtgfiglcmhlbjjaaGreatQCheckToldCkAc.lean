/- What CheckTold needs. -/
import Derived.Test.YtgfiglcmhlbjjaaGreatQCheckToldCkTk
import Derived.Test.YtgfiglcmhlbjjaaGreatQCheckToldCkH
import Derived.Test.YtgfiglcmhlbjjaaGreatQCheckToldCkR
section
set_option linter.unusedVariables false
set_option linter.unusedSimpArgs false
namespace Go.Np.Tryz
open Go.RowKit Go.Proofs.YtgfiglcmhlbjjaaGreat.PX Go.Proofs.YtgfiglcmhlbjjaaGreatW.PrintWords
theorem Good.step {st : List Int} {m : List S41} (hst : okS st) (h : Good st.length m) (q : S41) : Good st.length (stepR st.length m q) := by
  unfold stepR
  split
  · rename_i ha; exact h.add hst ha
  · exact h
namespace Co
variable {c c' : Co} {known : List Int}
theorem Ok.take (h : Ok c) (a : Am) : Ok (c.take a) := by
  unfold Co.take
  split
  · exact ⟨h.st, h.me, h.view, h.step, h.votes.step h.st _⟩
  split
  · split
    · exact ⟨h.st, h.me, h.view, h.step, h.votes⟩
    · exact h
  · split
    · exact ⟨h.st, h.me, h.view, h.step, h.votes⟩
    · exact h
theorem aput_len {α : Type} (m : List (Int × α)) (k : Int) (x : α) : (aput m k x).length ≤ m.length + 1 := by
  induction m with
  | nil => simp [aput]
  | cons q m ih =>
    obtain ⟨u, v⟩ := q
    by_cases h : u = k
    · simp [aput, h]
    · simp [aput, h]; omega
theorem Wf.take (h : Wf c) (a : Am) (ha : wf64 a.pr) (hs : c.said.length < 1000) : Wf (c.take a) := by
  unfold Co.take
  split
  · exact ⟨h.props, h.valid, h.said⟩
  split
  · split
    · refine ⟨fun q hq => ?_, h.valid, h.said⟩
      rcases aput_sub _ _ _ q hq with h1 | h1
      · exact h.props q h1
      · rw [h1]; exact ha
    · exact h
  · split
    · exact ⟨h.props, h.valid, by have := aput_len c.said a.fr a.vl; show (aput c.said a.fr a.vl).length ≤ 1000; omega⟩
    · exact h
theorem take_same (c : Co) (a : Am) : (c.take a).out = c.out ∧ (c.take a).decs = c.decs ∧ (c.take a).me = c.me ∧ (c.take a).st = c.st ∧ (c.take a).view = c.view ∧ (c.take a).step = c.step ∧ (c.take a).said.length ≤ c.said.length + 1 := by
  unfold Co.take
  split
  · exact ⟨rfl, rfl, rfl, rfl, rfl, rfl, Nat.le_succ _⟩
  split
  · split
    · exact ⟨rfl, rfl, rfl, rfl, rfl, rfl, Nat.le_succ _⟩
    · exact ⟨rfl, rfl, rfl, rfl, rfl, rfl, Nat.le_succ _⟩
  · split
    · exact ⟨rfl, rfl, rfl, rfl, rfl, rfl, aput_len _ _ _⟩
    · exact ⟨rfl, rfl, rfl, rfl, rfl, rfl, Nat.le_succ _⟩
theorem next_said (c : Co) (known : List Int) : (c.next known).1.said.length ≤ c.said.length ∧ (c.next known).1.me = c.me ∧ (c.next known).1.st = c.st := by
  have hc : ∀ (d : Co) k x, (d.cast k x).said = d.said ∧ (d.cast k x).me = d.me ∧ (d.cast k x).st = d.st := fun d k x => by unfold Co.cast; split <;> exact ⟨rfl, rfl, rfl⟩
  have he : ∀ v, (c.enter v).said = c.said ∧ (c.enter v).me = c.me ∧ (c.enter v).st = c.st := fun v => by unfold Co.enter; split <;> exact ⟨rfl, rfl, rfl⟩
  have hcl : ∀ (d : Co) k x, d.said = c.said → d.me = c.me → d.st = c.st → ((d.cast k x).toS 3).said.length ≤ c.said.length ∧ ((d.cast k x).toS 3).me = c.me ∧ ((d.cast k x).toS 3).st = c.st := fun d k x e1 e2 e3 => by
    obtain ⟨f1, f2, f3⟩ := hc d k x
    exact ⟨Nat.le_of_eq (by show (d.cast k x).said.length = _; rw [f1, e1]), f2.trans e2, f3.trans e3⟩
  unfold Co.next
  split
  · exact ⟨Nat.le_refl _, rfl, rfl⟩
  split
  · exact ⟨Nat.zero_le _, rfl, rfl⟩
  split
  · exact ⟨Nat.le_refl _, rfl, rfl⟩
  split
  · obtain ⟨f1, f2, f3⟩ := he (ahR c.st c.m c.view); exact ⟨Nat.le_of_eq (by rw [f1]), f2, f3⟩
  split
  · split
    · exact ⟨Nat.le_refl _, rfl, rfl⟩
    · split
      · exact ⟨Nat.le_refl _, rfl, rfl⟩
      · rename_i q _ _
        obtain ⟨f1, f2, f3⟩ := hc c 4 (c.judge q).1
        exact ⟨Nat.le_of_eq (by show (c.cast 4 (c.judge q).1).said.length = _; rw [f1]), f2, f3⟩
  split
  · exact ⟨Nat.le_refl _, rfl, rfl⟩
  split
  · dsimp only
    split
    · exact hcl c 5 _ rfl rfl rfl
    · exact hcl _ 5 _ rfl rfl rfl
  split
  · exact ⟨Nat.le_refl _, rfl, rfl⟩
  · exact ⟨Nat.le_refl _, rfl, rfl⟩
theorem Settles.said {d : Co} (h : Settles known c d) : d.said.length ≤ c.said.length ∧ d.me = c.me ∧ d.st = c.st := by
  induction h with
  | stop e => rename_i c1 c2; have h1 := next_said c1 known; rw [e] at h1; exact h1
  | go e _ ih =>
    rename_i c1 c2 c3 _
    have h1 := next_said c1 known
    rw [e] at h1
    exact ⟨Nat.le_trans ih.1 h1.1, ih.2.1.trans h1.2.1, ih.2.2.trans h1.2.2⟩
structure Calm (n : Nat) (c : Co) : Prop where
  ok : Ok c
  wf : Wf c
  out : c.out = []
  said : c.said.length ≤ n
theorem Calm.tick {n : Nat} (h : Calm n c) {tip : Int} {l : List Am} (ht : Ticks known tip c c' l) : Calm n c' ∧ c'.me = c.me ∧ c'.st = c.st := by
  unfold Ticks at ht
  split at ht
  · obtain ⟨rfl, rfl⟩ := ht
    exact ⟨⟨h.ok.tipped _, h.wf.tipped _, h.out, h.said⟩, rfl, rfl⟩
  · obtain ⟨b, d, h1, rfl, rfl⟩ := ht
    have hs : ∀ (e : Co), (e.tick1 b).said = e.said ∧ (e.tick1 b).me = e.me ∧ (e.tick1 b).st = e.st := fun e => by
      have hc : ∀ (d : Co) k x, (d.cast k x).said = d.said ∧ (d.cast k x).me = d.me ∧ (d.cast k x).st = d.st := fun d k x => by unfold Co.cast; split <;> exact ⟨rfl, rfl, rfl⟩
      have he : ∀ (d : Co) v, (d.enter v).said = d.said ∧ (d.enter v).me = d.me ∧ (d.enter v).st = d.st := fun d v => by unfold Co.enter; split <;> exact ⟨rfl, rfl, rfl⟩
      unfold Co.tick1 Co.lapse
      split
      · exact he _ _
      split
      · split
        · exact hc _ _ _
        split
        · exact hc _ _ _
        split
        · split
          · exact he _ _
          · exact ⟨rfl, rfl, rfl⟩
        · exact ⟨rfl, rfl, rfl⟩
      · exact ⟨rfl, rfl, rfl⟩
    have o1 := (h.ok.tipped tip).tick1 b
    have o2 := (h.wf.tipped tip).tick1 b
    obtain ⟨s1, s2, s3⟩ := h1.said
    obtain ⟨t1, t2, t3⟩ := hs { c with tip := tip }
    have k1 := h1.ok o1
    have k2 := h1.wf o1 o2
    have key : ∀ e : Co, e.st = d.st → e.me = d.me → e.view = d.view → e.step = d.step → e.m = d.m → e.props = d.props → e.valid = d.valid → e.said = d.said → Calm n e.flush ∧ e.flush.me = c.me ∧ e.flush.st = c.st := fun e e1 e2 e3 e4 e5 e6 e7 e8 => by
      refine ⟨⟨⟨?_, ?_, ?_, ?_, ?_⟩, ⟨?_, ?_, ?_⟩, rfl, ?_⟩, ?_, ?_⟩
      · show okS e.st; rw [e1]; exact k1.st
      · show 0 ≤ e.me ∧ e.me < e.st.length; rw [e1, e2]; exact k1.me
      · show 0 ≤ e.view ∧ e.view ≤ 1000; rw [e3]; exact k1.view
      · show 0 ≤ e.step ∧ e.step ≤ 3; rw [e4]; exact k1.step
      · show Good e.st.length e.m; rw [e1, e5]; exact k1.votes
      · show ∀ q ∈ e.props, _; rw [e6]; exact k2.props
      · show wf64 e.valid.2; rw [e7]; exact k2.valid
      · show e.said.length ≤ 1000; rw [e8]; exact k2.said
      · show e.said.length ≤ n; rw [e8]; rw [t1] at s1; exact Nat.le_trans s1 h.said
      · show e.me = c.me; rw [e2, s2, t2]
      · show e.st = c.st; rw [e1, s3, t3]
    split
    · exact key d rfl rfl rfl rfl rfl rfl rfl rfl
    · exact key d.again rfl rfl rfl rfl rfl rfl rfl rfl
theorem Calm.handle {n : Nat} (h : Calm n c) (hn : n < 1000) {a : Am} (ha : wf64 a.pr) {l : List Am} (ht : Handles known c a c' l) : Calm (n + 1) c' ∧ c'.me = c.me ∧ c'.st = c.st := by
  unfold Handles at ht
  split at ht
  · obtain ⟨rfl, _⟩ := ht
    exact ⟨⟨h.ok, h.wf, h.out, Nat.le_succ_of_le h.said⟩, rfl, rfl⟩
  · obtain ⟨d, h1, rfl, rfl⟩ := ht
    have o1 := h.ok.take a
    have hlt : c.said.length < 1000 := by have := h.said; omega
    have o2 := h.wf.take a ha hlt
    have k1 := h1.ok o1
    have k2 := h1.wf o1 o2
    obtain ⟨s1, s2, s3⟩ := h1.said
    obtain ⟨_, _, t3, t4, _, _, t7⟩ := take_same c a
    refine ⟨⟨⟨k1.st, k1.me, k1.view, k1.step, k1.votes⟩, ⟨k2.props, k2.valid, k2.said⟩, rfl, ?_⟩, s2.trans t3, s3.trans t4⟩
    have h2 := h.said
    show d.said.length ≤ n + 1
    omega
theorem Calm.new {me : Int} {st : List Int} (hst : okS st) (hme : 0 ≤ me ∧ me < st.length) (base most : Int) : Calm 0 (Co.new me st base most) :=
  ⟨⟨hst, hme, by simp [Co.new], by simp [Co.new], Good.nil _⟩, ⟨fun q hq => by simp [Co.new] at hq, Co.wf_m1, by simp [Co.new]⟩, rfl, by simp [Co.new]⟩
theorem Calm.more {n k : Nat} (h : Calm n c) (hk : n ≤ k) : Calm k c := ⟨h.ok, h.wf, h.out, Nat.le_trans h.said hk⟩
end Co
end Go.Np.Tryz
end
section
set_option linter.unusedVariables false
set_option linter.unusedSimpArgs false
namespace Go.Np.Tryz
open Go.RowKit Go.Proofs Go.Proofs.YtgfiglcmhlbjjaaGreat.PX Go.Proofs.YtgfiglcmhlbjjaaGreatW.PrintWords
set_option maxHeartbeats 2000000 in
set_option maxRecDepth 100000 in
theorem eqtx_nil (w : World) : Calls Tryz.prog 89 #[.slice none 0 0, .slice none 0 0] w fun e w' => e = .returned (.bool true) ∧ Fr [] w w' := by
  refine calls_k fun R hR => ?_
  go_enter Tryz.func89, Tryz.ntmps89
  go_upto_region 4 with (fail)
  go_loopg [13] 0 (fun gn i wr => i = .int .i64 0 ∧ Hid (Fr [] w wr))
  case atStart => exact ⟨rfl, Fr.refl _ _⟩
  case round =>
    obtain ⟨rfl, HF⟩ := hrel
    go_wp2
    exact hR.out _ _ ⟨rfl, HF.out⟩
set_option maxHeartbeats 2000000 in
set_option maxRecDepth 100000 in
theorem bsame0 (w : World) : Calls Tryz.prog 76 #[.agg #[.int .i64 0, .int .i64 0, .int .i64 0, .int .i64 0, .slice none 0 0], .agg #[.int .i64 0, .int .i64 0, .int .i64 0, .int .i64 0, .slice none 0 0]] w fun e w' => e = .returned (.bool true) ∧ Fr [] w w' := by
  obtain ⟨W1, hW1⟩ : ∃ W1, W1 = w.alloc (.cells #[.int .i64 0, .int .i64 0, .int .i64 0, .int .i64 0, .slice none 0 0] 30) := ⟨_, rfl⟩
  obtain ⟨W2, hW2⟩ : ∃ W2, W2 = W1.alloc (.cells #[.int .i64 0, .int .i64 0, .int .i64 0, .int .i64 0, .slice none 0 0] 30) := ⟨_, rfl⟩
  obtain ⟨g1, hg1⟩ : ∃ g, g = w.heap.size := ⟨_, rfl⟩
  have hs1 : W1.heap.size = w.heap.size + 1 := by rw [hW1]; simp
  obtain ⟨g2, hg2⟩ : ∃ g, g = w.heap.size + 1 := ⟨_, rfl⟩
  have hF1 : Fr [] w W1 := by rw [hW1]; exact (Fr.refl _ _).alloc _
  have hF2 : Fr [] W1 W2 := by rw [hW2]; exact (Fr.refl _ _).alloc _
  have hb1 : W1.heap[g1]? = some (.cells #[.int .i64 0, .int .i64 0, .int .i64 0, .int .i64 0, .slice none 0 0] 30 (0, 0)) := by rw [hW1, hg1]; exact heap_alloc_new _ _
  have hb2 : W2.heap[g2]? = some (.cells #[.int .i64 0, .int .i64 0, .int .i64 0, .int .i64 0, .slice none 0 0] 30 (0, 0)) := by rw [hW2, hg2, ← hs1]; exact heap_alloc_new _ _
  have hb1' := (hF2.block g1 (Array.getElem?_eq_some_iff.1 hb1).1 (by simp)).trans hb1
  have ca0 : W2.cell? ⟨g1, 0, none⟩ = some (.int .i64 0) := cell_of hb1' 0
  have cb0 : W2.cell? ⟨g2, 0, none⟩ = some (.int .i64 0) := cell_of hb2 0
  have ca1 : W2.cell? ⟨g1, 1, none⟩ = some (.int .i64 0) := cell_of hb1' 1
  have cb1 : W2.cell? ⟨g2, 1, none⟩ = some (.int .i64 0) := cell_of hb2 1
  have ca2 : W2.cell? ⟨g1, 2, none⟩ = some (.int .i64 0) := cell_of hb1' 2
  have cb2 : W2.cell? ⟨g2, 2, none⟩ = some (.int .i64 0) := cell_of hb2 2
  have ca3 : W2.cell? ⟨g1, 3, none⟩ = some (.int .i64 0) := cell_of hb1' 3
  have cb3 : W2.cell? ⟨g2, 3, none⟩ = some (.int .i64 0) := cell_of hb2 3
  have ca4 : W2.cell? ⟨g1, 4, none⟩ = some (.slice none 0 0) := cell_of hb1' 4
  have cb4 : W2.cell? ⟨g2, 4, none⟩ = some (.slice none 0 0) := cell_of hb2 4
  have HF := Lib.hid (hF1.trans hF2 (by simp))
  have HE := Lib.hid (eqtx_nil W2)
  refine calls_k fun R hR => ?_
  clear hF1 hF2 hb1 hb2 hb1' hs1
  go_enter Tryz.func76, Tryz.ntmps76
  go_upto_region 1 with (fail)
  rw [← hW1, ← hW2, ← hg2, ← hg1]
  clear hW1 hW2 hg1 hg2
  go_wp2_with (go_at_call 89; refine HE.out.mono ?_; rintro e w3 ⟨rfl, hf3⟩; have HF3 := Lib.hid (HF.out.trans hf3 (by simp)); clear hf3 HE)
  exact hR.out _ _ ⟨rfl, HF3.out⟩
set_option maxHeartbeats 8000000 in
set_option maxRecDepth 100000 in
theorem msame_calls (w : World) (k1 f1 i1 v1 x1 p1 k2 f2 i2 v2 x2 p2 : Int) : Calls Tryz.prog 58 #[.agg #[.int .i64 k1, .int .i64 f1, .int .i64 i1, .int .i64 v1, .int .i64 x1, .int .i64 p1, .int .i64 0, .int .i64 0, .int .i64 0, .int .i64 0, .int .i64 0, .int .i64 0, .slice none 0 0], .agg #[.int .i64 k2, .int .i64 f2, .int .i64 i2, .int .i64 v2, .int .i64 x2, .int .i64 p2, .int .i64 0, .int .i64 0, .int .i64 0, .int .i64 0, .int .i64 0, .int .i64 0, .slice none 0 0]] w fun e w' => e = .returned (.bool (decide (k1 = k2) && decide (f1 = f2) && decide (i1 = i2) && decide (v1 = v2) && decide (x1 = x2) && decide (p1 = p2))) ∧ Fr [] w w' := by
  obtain ⟨W1, hW1⟩ : ∃ W1, W1 = w.alloc (.cells #[.int .i64 k1, .int .i64 f1, .int .i64 i1, .int .i64 v1, .int .i64 x1, .int .i64 p1, .int .i64 0, .int .i64 0, .int .i64 0, .int .i64 0, .int .i64 0, .int .i64 0, .slice none 0 0] 32) := ⟨_, rfl⟩
  obtain ⟨W2, hW2⟩ : ∃ W2, W2 = W1.alloc (.cells #[.int .i64 k2, .int .i64 f2, .int .i64 i2, .int .i64 v2, .int .i64 x2, .int .i64 p2, .int .i64 0, .int .i64 0, .int .i64 0, .int .i64 0, .int .i64 0, .int .i64 0, .slice none 0 0] 32) := ⟨_, rfl⟩
  obtain ⟨g1, hg1⟩ : ∃ g, g = w.heap.size := ⟨_, rfl⟩
  have hs1 : W1.heap.size = w.heap.size + 1 := by rw [hW1]; simp
  obtain ⟨g2, hg2⟩ : ∃ g, g = w.heap.size + 1 := ⟨_, rfl⟩
  have hF1 : Fr [] w W1 := by rw [hW1]; exact (Fr.refl _ _).alloc _
  have hF2 : Fr [] W1 W2 := by rw [hW2]; exact (Fr.refl _ _).alloc _
  have hb1 : W1.heap[g1]? = some (.cells #[.int .i64 k1, .int .i64 f1, .int .i64 i1, .int .i64 v1, .int .i64 x1, .int .i64 p1, .int .i64 0, .int .i64 0, .int .i64 0, .int .i64 0, .int .i64 0, .int .i64 0, .slice none 0 0] 32 (0, 0)) := by rw [hW1, hg1]; exact heap_alloc_new _ _
  have hb2 : W2.heap[g2]? = some (.cells #[.int .i64 k2, .int .i64 f2, .int .i64 i2, .int .i64 v2, .int .i64 x2, .int .i64 p2, .int .i64 0, .int .i64 0, .int .i64 0, .int .i64 0, .int .i64 0, .int .i64 0, .slice none 0 0] 32 (0, 0)) := by rw [hW2, hg2, ← hs1]; exact heap_alloc_new _ _
  have hb1' := (hF2.block g1 (Array.getElem?_eq_some_iff.1 hb1).1 (by simp)).trans hb1
  have ca0 : W2.cell? ⟨g1, 0, none⟩ = some (.int .i64 k1) := cell_of hb1' 0
  have cb0 : W2.cell? ⟨g2, 0, none⟩ = some (.int .i64 k2) := cell_of hb2 0
  have ca1 : W2.cell? ⟨g1, 1, none⟩ = some (.int .i64 f1) := cell_of hb1' 1
  have cb1 : W2.cell? ⟨g2, 1, none⟩ = some (.int .i64 f2) := cell_of hb2 1
  have ca2 : W2.cell? ⟨g1, 2, none⟩ = some (.int .i64 i1) := cell_of hb1' 2
  have cb2 : W2.cell? ⟨g2, 2, none⟩ = some (.int .i64 i2) := cell_of hb2 2
  have ca3 : W2.cell? ⟨g1, 3, none⟩ = some (.int .i64 v1) := cell_of hb1' 3
  have cb3 : W2.cell? ⟨g2, 3, none⟩ = some (.int .i64 v2) := cell_of hb2 3
  have ca4 : W2.cell? ⟨g1, 4, none⟩ = some (.int .i64 x1) := cell_of hb1' 4
  have cb4 : W2.cell? ⟨g2, 4, none⟩ = some (.int .i64 x2) := cell_of hb2 4
  have ca5 : W2.cell? ⟨g1, 5, none⟩ = some (.int .i64 p1) := cell_of hb1' 5
  have cb5 : W2.cell? ⟨g2, 5, none⟩ = some (.int .i64 p2) := cell_of hb2 5
  have ca6 : W2.cell? ⟨g1, 6, none⟩ = some (.int .i64 0) := cell_of hb1' 6
  have cb6 : W2.cell? ⟨g2, 6, none⟩ = some (.int .i64 0) := cell_of hb2 6
  have ca7 : W2.cell? ⟨g1, 7, none⟩ = some (.int .i64 0) := cell_of hb1' 7
  have cb7 : W2.cell? ⟨g2, 7, none⟩ = some (.int .i64 0) := cell_of hb2 7
  have ca8 : W2.cell? ⟨g1, 8, none⟩ = some (.int .i64 0) := cell_of hb1' 8
  have cb8 : W2.cell? ⟨g2, 8, none⟩ = some (.int .i64 0) := cell_of hb2 8
  have ca9 : W2.cell? ⟨g1, 9, none⟩ = some (.int .i64 0) := cell_of hb1' 9
  have cb9 : W2.cell? ⟨g2, 9, none⟩ = some (.int .i64 0) := cell_of hb2 9
  have ca10 : W2.cell? ⟨g1, 10, none⟩ = some (.int .i64 0) := cell_of hb1' 10
  have cb10 : W2.cell? ⟨g2, 10, none⟩ = some (.int .i64 0) := cell_of hb2 10
  have ca11 : W2.cell? ⟨g1, 11, none⟩ = some (.int .i64 0) := cell_of hb1' 11
  have cb11 : W2.cell? ⟨g2, 11, none⟩ = some (.int .i64 0) := cell_of hb2 11
  have ca12 : W2.cell? ⟨g1, 12, none⟩ = some (.slice none 0 0) := cell_of hb1' 12
  have cb12 : W2.cell? ⟨g2, 12, none⟩ = some (.slice none 0 0) := cell_of hb2 12
  have HF := Lib.hid (hF1.trans hF2 (by simp))
  have HE := Lib.hid (bsame0 W2)
  refine calls_k fun R hR => ?_
  clear hF1 hF2 hb1 hb2 hb1' hs1
  by_cases n0 : k1 = k2
  case neg =>
    have b0 : (k1 == k2) = false := by simpa using n0
    have N0 := Lib.hid n0
    clear n0
    go_enter Tryz.func58, Tryz.ntmps58
    go_upto_region 1 with (fail)
    rw [← hW1, ← hW2, ← hg2, ← hg1]
    clear hW1 hW2 hg1 hg2
    go_wp2
    exact hR.out _ _ ⟨by simp [N0.out], HF.out⟩
  case pos =>
    have b0 : (k1 == k2) = true := by simpa using n0
    have N0 := Lib.hid n0
    clear n0
    by_cases n1 : f1 = f2
    case neg =>
      have b1 : (f1 == f2) = false := by simpa using n1
      have N1 := Lib.hid n1
      clear n1
      go_enter Tryz.func58, Tryz.ntmps58
      go_upto_region 1 with (fail)
      rw [← hW1, ← hW2, ← hg2, ← hg1]
      clear hW1 hW2 hg1 hg2
      go_wp2
      exact hR.out _ _ ⟨by simp [N0.out, N1.out], HF.out⟩
    case pos =>
      have b1 : (f1 == f2) = true := by simpa using n1
      have N1 := Lib.hid n1
      clear n1
      by_cases n2 : i1 = i2
      case neg =>
        have b2 : (i1 == i2) = false := by simpa using n2
        have N2 := Lib.hid n2
        clear n2
        go_enter Tryz.func58, Tryz.ntmps58
        go_upto_region 1 with (fail)
        rw [← hW1, ← hW2, ← hg2, ← hg1]
        clear hW1 hW2 hg1 hg2
        go_wp2
        exact hR.out _ _ ⟨by simp [N0.out, N1.out, N2.out], HF.out⟩
      case pos =>
        have b2 : (i1 == i2) = true := by simpa using n2
        have N2 := Lib.hid n2
        clear n2
        by_cases n3 : v1 = v2
        case neg =>
          have b3 : (v1 == v2) = false := by simpa using n3
          have N3 := Lib.hid n3
          clear n3
          go_enter Tryz.func58, Tryz.ntmps58
          go_upto_region 1 with (fail)
          rw [← hW1, ← hW2, ← hg2, ← hg1]
          clear hW1 hW2 hg1 hg2
          go_wp2
          exact hR.out _ _ ⟨by simp [N0.out, N1.out, N2.out, N3.out], HF.out⟩
        case pos =>
          have b3 : (v1 == v2) = true := by simpa using n3
          have N3 := Lib.hid n3
          clear n3
          by_cases n4 : x1 = x2
          case neg =>
            have b4 : (x1 == x2) = false := by simpa using n4
            have N4 := Lib.hid n4
            clear n4
            go_enter Tryz.func58, Tryz.ntmps58
            go_upto_region 1 with (fail)
            rw [← hW1, ← hW2, ← hg2, ← hg1]
            clear hW1 hW2 hg1 hg2
            go_wp2
            exact hR.out _ _ ⟨by simp [N0.out, N1.out, N2.out, N3.out, N4.out], HF.out⟩
          case pos =>
            have b4 : (x1 == x2) = true := by simpa using n4
            have N4 := Lib.hid n4
            clear n4
            by_cases n5 : p1 = p2
            case neg =>
              have b5 : (p1 == p2) = false := by simpa using n5
              have N5 := Lib.hid n5
              clear n5
              go_enter Tryz.func58, Tryz.ntmps58
              go_upto_region 1 with (fail)
              rw [← hW1, ← hW2, ← hg2, ← hg1]
              clear hW1 hW2 hg1 hg2
              go_wp2
              exact hR.out _ _ ⟨by simp [N0.out, N1.out, N2.out, N3.out, N4.out, N5.out], HF.out⟩
            case pos =>
              have b5 : (p1 == p2) = true := by simpa using n5
              have N5 := Lib.hid n5
              clear n5
              go_enter Tryz.func58, Tryz.ntmps58
              go_upto_region 1 with (fail)
              rw [← hW1, ← hW2, ← hg2, ← hg1]
              clear hW1 hW2 hg1 hg2
              go_wp2_with (go_at_call 76; refine HE.out.mono ?_; rintro e w3 ⟨rfl, hf3⟩; have HF3 := Lib.hid (HF.out.trans hf3 (by simp)); clear hf3 HE)
              exact hR.out _ _ ⟨by simp [N0.out, N1.out, N2.out, N3.out, N4.out, N5.out], HF3.out⟩
end Go.Np.Tryz
end
section
set_option linter.unusedVariables false
set_option linter.unusedSimpArgs false
namespace Go.Np.Tryz
open Go.RowKit Go.Proofs Go.Proofs.YtgfiglcmhlbjjaaGreat.PX Go.Proofs.YtgfiglcmhlbjjaaGreatW.PrintWords
theorem row_atN {w : World} {e : TypeId} {n cp sz : Nat} {A : Option Addr} {xs : List Value} (h : w.ownsRow 0 e sz (.slice A n cp) n xs) (j : Nat) (u : Value) (hu : xs[j]? = some u) : ∃ g, A = some ⟨g, 0, none⟩ ∧ w.cell? ⟨g, j, none⟩ = some u := by
  have hj := (List.getElem?_eq_some_iff.1 hu).1
  have h1 := h.1
  rcases h.2 with ⟨h2, h3⟩ | ⟨g, cap, cur, h2, _, h4, _, _, _, h5⟩
  · subst h3; omega
  · injection h2 with h2 _ _
    refine ⟨g, h2, ?_⟩
    rw [cell_of h4, ← Array.getElem?_toList]
    rw [← h5, List.getElem?_take] at hu
    split at hu
    · exact hu
    · cases hu
section
variable {X : Nat → Prop} {w w' w1 : World} {p : Nat} {c c' : Co} {a a' : Pl}
set_option maxHeartbeats 2000000 in
set_option maxRecDepth 100000 in
theorem c_decisions (h : CoIn X w p c a) (hl : c.decs.length < 1000000) : Calls Tryz.prog 13 #[.pointer (some ⟨p, 0, none⟩)] w fun e w' => ∃ A d, e = .returned (.slice A c.decs.length d) ∧ OwnI w.heap.size w' (.slice A c.decs.length d) c.decs ∧ Fr [] w w' := by
  obtain ⟨A, d, hv, hc⟩ := h.dv
  obtain ⟨A', d', hv', _, hk⟩ := h.dec.sl
  have hAA : A' = A := by rw [hv] at hv'; injection hv' with e1 e2 e3; exact e1.symm
  subst hAA
  have HC := Lib.hid (clone_own (c := d) hk (by omega))
  obtain ⟨n, hn⟩ : ∃ n, c.decs.length = n := ⟨_, rfl⟩
  rw [hn] at hc HC
  rw [hn]
  have HN := Lib.hid hn
  refine calls_k fun R hR => ?_
  clear h hv hk hv' hn
  go_enter Tryz.func13, Tryz.ntmps13
  go_wp2_with (go_at_call 27; refine HC.out.mono ?_; rintro e w1 ⟨v, rfl, h1, h2⟩; obtain ⟨A, d, rfl⟩ := h1.formN HN.out; have H1 := Lib.hid h1; have H2 := Lib.hid h2; clear h1 h2 HC)
  exact hR.out _ _ ⟨A, d, rfl, H1.out, H2.out⟩
end
end Go.Np.Tryz
end
section
set_option linter.unusedVariables false
set_option linter.unusedSimpArgs false
namespace Go.Np.Tryz
open Go.RowKit Go.Proofs Go.Proofs.YtgfiglcmhlbjjaaGreat.PX Go.Proofs.YtgfiglcmhlbjjaaGreatW.PrintWords
set_option maxHeartbeats 4000000 in
set_option maxRecDepth 100000 in
theorem cl_calls {w : World} {bm : Nat} (q r : Am) (hb : w.heap[bm]? = some (.cells #[.int .i64 q.kd, .int .i64 q.fr, .int .i64 q.ix, .int .i64 q.vw, .int .i64 q.vl, .int .i64 q.pr, .int .i64 0, .int .i64 0, .int .i64 0, .int .i64 0, .int .i64 0, .int .i64 0, .slice none 0 0] 32 (0, 0))) :
    Calls Tryz.prog 57 #[.agg #[.int .i64 r.too, .int .i64 r.kd, .int .i64 r.fr, .int .i64 r.ix, .int .i64 r.vw, .int .i64 r.vl, .int .i64 r.pr, .int .i64 0, .int .i64 0, .int .i64 0, .int .i64 0, .int .i64 0, .int .i64 0, .slice none 0 0], .pointer (some ⟨bm, 0, none⟩)] w fun e w' => e = .returned (.bool (Co.sameM r q)) ∧ Fr [] w w' := by
  obtain ⟨W1, hW1⟩ : ∃ W1, W1 = w.alloc (.cells #[.int .i64 r.too, .int .i64 r.kd, .int .i64 r.fr, .int .i64 r.ix, .int .i64 r.vw, .int .i64 r.vl, .int .i64 r.pr, .int .i64 0, .int .i64 0, .int .i64 0, .int .i64 0, .int .i64 0, .int .i64 0, .slice none 0 0] 48) := ⟨_, rfl⟩
  obtain ⟨g1, hg1⟩ : ∃ g, g = w.heap.size := ⟨_, rfl⟩
  have hF1 : Fr [] w W1 := by rw [hW1]; exact (Fr.refl _ _).alloc _
  have hb1 : W1.heap[g1]? = some (.cells #[.int .i64 r.too, .int .i64 r.kd, .int .i64 r.fr, .int .i64 r.ix, .int .i64 r.vw, .int .i64 r.vl, .int .i64 r.pr, .int .i64 0, .int .i64 0, .int .i64 0, .int .i64 0, .int .i64 0, .int .i64 0, .slice none 0 0] 48 (0, 0)) := by rw [hW1, hg1]; exact heap_alloc_new _ _
  have hbq := (hF1.block bm (Array.getElem?_eq_some_iff.1 hb).1 (by simp)).trans hb
  have ca0 : W1.cell? ⟨g1, 1, none⟩ = some (.int .i64 r.kd) := cell_of hb1 1
  have cb0 : W1.cell? ⟨bm, 0, none⟩ = some (.int .i64 q.kd) := cell_of hbq 0
  have ca1 : W1.cell? ⟨g1, 2, none⟩ = some (.int .i64 r.fr) := cell_of hb1 2
  have cb1 : W1.cell? ⟨bm, 1, none⟩ = some (.int .i64 q.fr) := cell_of hbq 1
  have ca2 : W1.cell? ⟨g1, 3, none⟩ = some (.int .i64 r.ix) := cell_of hb1 3
  have cb2 : W1.cell? ⟨bm, 2, none⟩ = some (.int .i64 q.ix) := cell_of hbq 2
  have ca3 : W1.cell? ⟨g1, 4, none⟩ = some (.int .i64 r.vw) := cell_of hb1 4
  have cb3 : W1.cell? ⟨bm, 3, none⟩ = some (.int .i64 q.vw) := cell_of hbq 3
  have ca4 : W1.cell? ⟨g1, 5, none⟩ = some (.int .i64 r.vl) := cell_of hb1 5
  have cb4 : W1.cell? ⟨bm, 4, none⟩ = some (.int .i64 q.vl) := cell_of hbq 4
  have ca5 : W1.cell? ⟨g1, 6, none⟩ = some (.int .i64 r.pr) := cell_of hb1 6
  have cb5 : W1.cell? ⟨bm, 5, none⟩ = some (.int .i64 q.pr) := cell_of hbq 5
  have ca6 : W1.cell? ⟨g1, 7, none⟩ = some (.int .i64 0) := cell_of hb1 7
  have cb6 : W1.cell? ⟨bm, 6, none⟩ = some (.int .i64 0) := cell_of hbq 6
  have ca7 : W1.cell? ⟨g1, 8, none⟩ = some (.int .i64 0) := cell_of hb1 8
  have cb7 : W1.cell? ⟨bm, 7, none⟩ = some (.int .i64 0) := cell_of hbq 7
  have ca8 : W1.cell? ⟨g1, 9, none⟩ = some (.int .i64 0) := cell_of hb1 9
  have cb8 : W1.cell? ⟨bm, 8, none⟩ = some (.int .i64 0) := cell_of hbq 8
  have ca9 : W1.cell? ⟨g1, 10, none⟩ = some (.int .i64 0) := cell_of hb1 10
  have cb9 : W1.cell? ⟨bm, 9, none⟩ = some (.int .i64 0) := cell_of hbq 9
  have ca10 : W1.cell? ⟨g1, 11, none⟩ = some (.int .i64 0) := cell_of hb1 11
  have cb10 : W1.cell? ⟨bm, 10, none⟩ = some (.int .i64 0) := cell_of hbq 10
  have ca11 : W1.cell? ⟨g1, 12, none⟩ = some (.int .i64 0) := cell_of hb1 12
  have cb11 : W1.cell? ⟨bm, 11, none⟩ = some (.int .i64 0) := cell_of hbq 11
  have ca12 : W1.cell? ⟨g1, 13, none⟩ = some (.slice none 0 0) := cell_of hb1 13
  have cb12 : W1.cell? ⟨bm, 12, none⟩ = some (.slice none 0 0) := cell_of hbq 12
  have HS : Hid (Calls Tryz.prog 58 #[.agg #[.int .i64 r.kd, .int .i64 r.fr, .int .i64 r.ix, .int .i64 r.vw, .int .i64 r.vl, .int .i64 r.pr, .int .i64 0, .int .i64 0, .int .i64 0, .int .i64 0, .int .i64 0, .int .i64 0, .slice none 0 0], .agg #[.int .i64 q.kd, .int .i64 q.fr, .int .i64 q.ix, .int .i64 q.vw, .int .i64 q.vl, .int .i64 q.pr, .int .i64 0, .int .i64 0, .int .i64 0, .int .i64 0, .int .i64 0, .int .i64 0, .slice none 0 0]] W1 fun e w' => e = .returned (.bool (Co.sameM r q)) ∧ Fr [] W1 w') := msame_calls W1 r.kd r.fr r.ix r.vw r.vl r.pr q.kd q.fr q.ix q.vw q.vl q.pr
  have HF := Lib.hid hF1
  obtain ⟨B, hB⟩ : ∃ B, Co.sameM r q = B := ⟨_, rfl⟩
  rw [hB] at HS
  rw [hB]
  refine calls_k fun R hR => ?_
  clear hF1 hb1 hbq hb hB
  go_enter Tryz.func57, Tryz.ntmps57
  go_upto_region 1 with (fail)
  rw [← hW1, ← hg1]
  clear hW1 hg1
  go_wp2_with (go_at_call 58; refine HS.out.mono ?_; rintro e w2 ⟨rfl, hf2⟩; have HF2 := Lib.hid (HF.out.trans hf2 (by simp)); clear hf2 HS)
  exact hR.out _ _ ⟨rfl, HF2.out⟩
theorem flatA_get : ∀ (l : List Am) (k j : Nat) (r : Am), l[k]? = some r → j < 14 → (flatA l)[k * 14 + j]? = r.cells[j]? := by
  intro l
  induction l with
  | nil => intro k j r h _; simp at h
  | cons a l ih =>
    intro k j r h hj
    have e : flatA (a :: l) = a.cells ++ flatA l := by unfold flatA; rw [List.flatMap_cons]
    rw [e]
    cases k with
    | zero =>
      simp at h
      subst h
      rw [Nat.zero_mul, Nat.zero_add, List.getElem?_append_left (by simp [Am.cells]; omega)]
    | succ k =>
      rw [List.getElem?_append_right (by simp [Am.cells]; omega)]
      have : (k + 1) * 14 + j - a.cells.length = k * 14 + j := by simp [Am.cells]; omega
      rw [this]
      exact ih k j r (by simpa using h) hj
def RdA (w : World) (A : Option Addr) (l : List Am) : Prop := ∀ j u, (flatA l)[j]? = some u → ∃ g, A = some ⟨g, 0, none⟩ ∧ w.cell? ⟨g, j, none⟩ = some u
theorem RdA.of {w : World} {A : Option Addr} {l : List Am} {n d : Nat} (h : w.ownsRow 0 48 14 (.slice A n d) n (flatA l)) : RdA w A l := fun j u hu => row_atN h j u hu
theorem RdA.fr {w w' : World} {A : Option Addr} {l : List Am} (h : RdA w A l) (hf : Fr [] w w') : RdA w' A l := fun j u hu => by
  obtain ⟨g, e, hc⟩ := h j u hu
  exact ⟨g, e, (hf.cell (lt_cell hc) (by simp)).trans hc⟩
set_option maxHeartbeats 4000000 in
set_option maxRecDepth 100000 in
theorem idxf_calls {w : World} {bm n d : Nat} {A : Option Addr} {l : List Am} (q : Am) (hb : w.heap[bm]? = some (.cells #[.int .i64 q.kd, .int .i64 q.fr, .int .i64 q.ix, .int .i64 q.vw, .int .i64 q.vl, .int .i64 q.pr, .int .i64 0, .int .i64 0, .int .i64 0, .int .i64 0, .int .i64 0, .int .i64 0, .slice none 0 0] 32 (0, 0))) (hr : RdA w A l) (hn : l.length = n) (hl : n ≤ 1000000000) :
    Calls Tryz.prog 75 #[.slice A n d, .func (.func 57) #[] #[.pointer (some ⟨bm, 0, none⟩)]] w fun e w' => ∃ i : Int, e = .returned (.int .i64 i) ∧ decide (0 ≤ i) = l.any (fun b => Co.sameM b q) ∧ Fr [] w w' := by
  have HCL : Hid (∀ (r : Am) (W : World), Fr [] w W → Calls Tryz.prog 57 #[.agg #[.int .i64 r.too, .int .i64 r.kd, .int .i64 r.fr, .int .i64 r.ix, .int .i64 r.vw, .int .i64 r.vl, .int .i64 r.pr, .int .i64 0, .int .i64 0, .int .i64 0, .int .i64 0, .int .i64 0, .int .i64 0, .slice none 0 0], .pointer (some ⟨bm, 0, none⟩)] W fun e w' => e = .returned (.bool (Co.sameM r q)) ∧ Fr [] W w') := fun r W hW => cl_calls q r ((hW.block bm (Array.getElem?_eq_some_iff.1 hb).1 (by simp)).trans hb)
  have HR := Lib.hid hr
  have HN := Lib.hid hn
  refine calls_k fun R hR => ?_
  clear hr hn hb
  go_enter Tryz.func75, Tryz.ntmps75
  go_upto_region 2 with (fail)
  go_loopg [8] n (fun gn i wr => ∃ (m k : Nat), m = gn ∧ i = .int .i64 k ∧ m + k = n ∧ Hid ((l.take k).any (fun b => Co.sameM b q) = false) ∧ Hid (Fr [] w wr))
  case atStart => exact ⟨_, 0, rfl, rfl, rfl, by show _ = _; simp, Fr.refl _ _⟩
  case round =>
    obtain ⟨m, k, rfl, rfl, hk, HP, HF⟩ := hrel
    by_cases hlt : k < n
    · obtain ⟨m', rfl⟩ : ∃ m', m = m' + 1 := ⟨m - 1, by omega⟩
      obtain ⟨r, hr⟩ : ∃ r, l[k]? = some r := ⟨_, List.getElem?_eq_getElem (by rw [HN.out]; exact hlt)⟩
      obtain ⟨g, hA, _⟩ := HR.out (k * 14 + 0) _ (flatA_get l k 0 r hr (by omega))
      subst hA
      have hcl : ∀ j u, j < 14 → r.cells[j]? = some u → wr.cell? ⟨g, k * 14 + j, none⟩ = some u := fun j u hj hu => by
        obtain ⟨g', e, hc⟩ := HR.out (k * 14 + j) u ((flatA_get l k j r hr hj).trans hu)
        injection e with e
        injection e with e
        subst e
        exact (HF.out.cell (lt_cell hc) (by simp)).trans hc
      have e0 : wr.cell? ⟨g, k * 14, none⟩ = some (.int .i64 r.too) := hcl 0 _ (by omega) rfl
      have e1 : wr.cell? ⟨g, k * 14 + 1, none⟩ = some (.int .i64 r.kd) := hcl 1 _ (by omega) rfl
      have e2 : wr.cell? ⟨g, k * 14 + 2, none⟩ = some (.int .i64 r.fr) := hcl 2 _ (by omega) rfl
      have e3 : wr.cell? ⟨g, k * 14 + 3, none⟩ = some (.int .i64 r.ix) := hcl 3 _ (by omega) rfl
      have e4 : wr.cell? ⟨g, k * 14 + 4, none⟩ = some (.int .i64 r.vw) := hcl 4 _ (by omega) rfl
      have e5 : wr.cell? ⟨g, k * 14 + 5, none⟩ = some (.int .i64 r.vl) := hcl 5 _ (by omega) rfl
      have e6 : wr.cell? ⟨g, k * 14 + 6, none⟩ = some (.int .i64 r.pr) := hcl 6 _ (by omega) rfl
      have e7 : wr.cell? ⟨g, k * 14 + 7, none⟩ = some (.int .i64 0) := hcl 7 _ (by omega) rfl
      have e8 : wr.cell? ⟨g, k * 14 + 8, none⟩ = some (.int .i64 0) := hcl 8 _ (by omega) rfl
      have e9 : wr.cell? ⟨g, k * 14 + 9, none⟩ = some (.int .i64 0) := hcl 9 _ (by omega) rfl
      have e10 : wr.cell? ⟨g, k * 14 + 10, none⟩ = some (.int .i64 0) := hcl 10 _ (by omega) rfl
      have e11 : wr.cell? ⟨g, k * 14 + 11, none⟩ = some (.int .i64 0) := hcl 11 _ (by omega) rfl
      have e12 : wr.cell? ⟨g, k * 14 + 12, none⟩ = some (.int .i64 0) := hcl 12 _ (by omega) rfl
      have e13 : wr.cell? ⟨g, k * 14 + 13, none⟩ = some (.slice none 0 0) := hcl 13 _ (by omega) rfl
      clear hcl
      have HCR := Lib.hid (HCL.out r wr HF.out)
      have HT : Hid ((l.take (k + 1)).any (fun b => Co.sameM b q) = Co.sameM r q) := by
        show _ = _
        rw [List.take_add_one, hr, List.any_append, HP.out]
        simp
      have HANY : Hid (Co.sameM r q = true → l.any (fun b => Co.sameM b q) = true) := fun h => List.any_eq_true.2 ⟨r, List.mem_of_getElem? hr, h⟩
      clear hr
      obtain ⟨B, hB⟩ : ∃ B, Co.sameM r q = B := ⟨_, rfl⟩
      rw [hB] at HCR HT HANY
      clear hB
      cases B with
      | true =>
        go_wp2_with (go_at_call 57; refine HCR.out.mono ?_; rintro e w2 ⟨rfl, hf2⟩; have HF2 : Hid (Fr [] w w2) := HF.out.trans hf2 (by simp); clear hf2 HCR)
        refine hR.out _ _ ⟨k, rfl, ?_, HF2.out⟩
        rw [HANY.out (by simp)]
        simp
      | false =>
        go_wp2_with (go_at_call 57; refine HCR.out.mono ?_; rintro e w2 ⟨rfl, hf2⟩; have HF2 : Hid (Fr [] w w2) := HF.out.trans hf2 (by simp); clear hf2 HCR)
        go_roundg m'
        case measure => omega
        case rel => exact ⟨m', k + 1, rfl, by go_num, by omega, HT, HF2⟩
    · go_wp2
      refine hR.out _ _ ⟨-1, rfl, ?_, HF.out⟩
      have h1 := HP.out
      rw [List.take_of_length_le (by rw [HN.out]; omega)] at h1
      rw [h1]
      decide
set_option maxHeartbeats 4000000 in
set_option maxRecDepth 100000 in
theorem conf_calls {w : World} {bm n d : Nat} {A : Option Addr} {l : List Am} (q : Am) (hb : w.heap[bm]? = some (.cells #[.int .i64 q.kd, .int .i64 q.fr, .int .i64 q.ix, .int .i64 q.vw, .int .i64 q.vl, .int .i64 q.pr, .int .i64 0, .int .i64 0, .int .i64 0, .int .i64 0, .int .i64 0, .int .i64 0, .slice none 0 0] 32 (0, 0))) (hr : RdA w A l) (hn : l.length = n) (hl : n ≤ 1000000000) :
    Calls Tryz.prog 56 #[.slice A n d, .func (.func 57) #[] #[.pointer (some ⟨bm, 0, none⟩)]] w fun e w' => e = .returned (.bool (l.any (fun b => Co.sameM b q))) ∧ Fr [] w w' := by
  have HI := Lib.hid (idxf_calls (d := d) q hb hr hn hl)
  obtain ⟨B, hB⟩ : ∃ B, l.any (fun b => Co.sameM b q) = B := ⟨_, rfl⟩
  rw [hB] at HI
  rw [hB]
  refine calls_k fun R hR => ?_
  clear hr hn hb hB
  go_enter Tryz.func56, Tryz.ntmps56
  go_wp2_with (go_at_call 75; refine HI.out.mono ?_; rintro e w1 ⟨i, rfl, hi, hf⟩; have HI2 := Lib.hid hi; have HF := Lib.hid hf; clear hi hf HI)
  refine hR.out _ _ ⟨?_, HF.out⟩
  rw [← HI2.out]
  rfl
end Go.Np.Tryz
end
section
set_option linter.unusedVariables false
set_option linter.unusedSimpArgs false
namespace Go.Np
open Go.RowKit
theorem row_atK {w : World} {e : TypeId} {n cp sz : Nat} {A : Option Addr} {xs : List Value} (h : w.ownsRow 0 e sz (.slice A n cp) n xs) (j : Nat) (u : Value) (hu : xs[j]? = some u) : ∃ g, A = some ⟨g, 0, none⟩ ∧ w.cell? ⟨g, j, none⟩ = some u := by
  have hj := (List.getElem?_eq_some_iff.1 hu).1
  have h1 := h.1
  rcases h.2 with ⟨h2, h3⟩ | ⟨g, cap, cur, h2, _, h4, _, _, _, h5⟩
  · subst h3; omega
  · injection h2 with h2 _ _
    refine ⟨g, h2, ?_⟩
    rw [cell_of h4, ← Array.getElem?_toList]
    rw [← h5, List.getElem?_take] at hu
    split at hu
    · exact hu
    · cases hu
section
variable {P : Program} {ops : Array Oper} {rest : List Oper} {o : Oper} {a : Act} {Q : Exit → Act → World → Prop}
theorem append_keeps {w w' : World} (t ty e : TypeId) (ht : P.underlying t = some (.slice e)) {z : Value} {size bytes : Nat} (hinfo : (P.info? e).map (fun i => (i.zero, i.size, i.bytes)) = some (some z, size, bytes)) (hz : z.cells.size = size) (hs0 : 0 < size)
    {A : Option Addr} {n cap : Nat} {xs : List Value} (hown : w.ownsRow 0 e size (.slice A n cap) n xs) (ad : Addr) (m c : Nat) (news : List Value) (hl : news.length = m * size) (hnews : ∀ j u, news[j]? = some u → w.cell? (ad.add j) = some u) (h1 : ∀ u ∈ news, u.oneCell' = true)
    (h63 : n + m ≤ maxLen) (hbytes : (n + m) * bytes ≤ 140737488355328) {v' : Value} (hr : (Builtin.append_ #[t, t] ty #[.slice A n cap, .slice (some ad) m c]).run P w = .ok v' w') (hown' : w'.ownsRow 0 e size v' (n + m) (xs ++ news)) :
    ∀ j u, xs[j]? = some u → ∃ g, A = some ⟨g, 0, none⟩ ∧ w'.cell? ⟨g, j, none⟩ = some u := by
  obtain ⟨i, hi, hzz⟩ := Option.map_eq_some_iff.1 hinfo
  simp only [Prod.mk.injEq] at hzz
  obtain ⟨hz0, rfl, rfl⟩ := hzz
  intro j u hu
  obtain ⟨g1, eg, hc1⟩ := row_atK hown j u hu
  have hh := hown
  rcases hh.2 with ⟨h2, h3⟩ | ⟨g, cap', cur, h2, _, hg, hnc, hcm, hcs, htake⟩
  · have hj := (List.getElem?_eq_some_iff.1 hu).1
    have h4 := hown.1
    subst h3
    omega
  · injection h2 with e1 e2 e3
    subst e1 e3
    injection eg with eg
    injection eg with eg
    subst eg
    refine ⟨g, rfl, ?_⟩
    by_cases hroom : n + m ≤ cap
    · have hfit : n * i.size + news.length ≤ cur.size := by rw [hl, hcs, ← Nat.add_mul]; exact Nat.mul_le_mul_right _ hroom
      have hr2 := run_append_room (P := P) w t ty e i ht hi g n cap cur hg ad m c news hl hnews h1 hroom hfit
      rw [hr2] at hr
      injection hr with hv hw
      subst hv
      obtain ⟨g', e', hc⟩ := row_atK hown' j u (by rw [List.getElem?_append_left (List.getElem?_eq_some_iff.1 hu).1]; exact hu)
      injection e' with e'
      injection e' with e'
      subst e'
      exact hc
    · have hsmall : n + m ≤ 9223372036854775807 := by simp only [maxLen] at h63; omega
      have holds : ∀ j u, xs[j]? = some u → w.cell? ((⟨g, 0, none⟩ : Addr).add j) = some u := hown.cells (g := g) rfl
      have hr2 := run_append_grow (P := P) w t ty e i z ht hi hz0 ⟨g, 0, none⟩ n cap xs hown.1 holds ad m c news hl hnews (by omega) (by omega) (growslice_fits (by omega) hbytes)
      rw [hr2] at hr
      injection hr with hv hw
      have hlt : g < w.drew.heap.size := (Array.getElem?_eq_some_iff.1 hg).1
      have hb' : w'.heap[g]? = some (.cells cur e (0, 0)) := by rw [← hw]; exact (heap_alloc_old w.drew _ hlt).trans hg
      exact (cell_of hb' j).trans ((cell_of hg j).symm.trans hc1)
theorem st_appendK {w : World} {K : Act → World → Prop} {E : Prop} (hg : o.guard = none) (s x : Operand) (t e : TypeId)
    (ho : o.op = .call { callee := .builtin .append, args := #[s, x], argTypes := #[t, t] })
    (ht : P.underlying t = some (.slice e)) {z : Value} {size bytes : Nat} (hinfo : (P.info? e).map (fun i => (i.zero, i.size, i.bytes)) = some (some z, size, bytes)) (hz : z.cells.size = size) (hs0 : 0 < size)
    {A : Option Addr} {n cap : Nat} {xs : List Value} (hown : w.ownsRow 0 e size (.slice A n cap) n xs) (hs : a.eval s = .slice A n cap) (ad : Addr) (m c : Nat) (news : List Value) (hx : a.eval x = .slice (some ad) m c) (hl : news.length = m * size) (hnews : ∀ j u, news[j]? = some u → w.cell? (ad.add j) = some u) (h1 : ∀ u ∈ news, u.oneCell' = true)
    (h63 : n + m ≤ maxLen) (hbytes : (n + m) * bytes ≤ 140737488355328)
    (h : ∀ A' c' w', w'.ownsRow 0 e size (.slice A' (n + m) c') (n + m) (xs ++ news) → Fr (Value.slice A n cap).ownBlock.toList w w' → Fresh (Value.slice A n cap).ownBlock.toList (Value.slice A' (n + m) c').ownBlock.toList w → (∀ j u, xs[j]? = some u → ∃ g, A = some ⟨g, 0, none⟩ ∧ w'.cell? ⟨g, j, none⟩ = some u) → K (a.put o.dst (.slice A' (n + m) c')) w') :
    if Region.wanted o (yielded ops a.tmps) = true then Oper.wp P o a w K Q else E := by
  have hw : Region.wanted o (yielded ops a.tmps) = true := by simp [Region.wanted, hg]
  rw [if_pos hw]
  obtain ⟨A', c', w', hr, h2, h3, h4⟩ := run_appendS (P := P) w t o.type e ht hinfo hz hs0 hown ad m c news hl hnews h1 h63 hbytes
  have h5 := append_keeps (P := P) t o.type e ht hinfo hz hs0 hown ad m c news hl hnews h1 h63 hbytes hr h2
  unfold Oper.wp execOp
  simp only [ho, resolve, invoke, builtin, Sem.run_bind, Sem.run_pure, Result.andThen_ok, List.map_toArray, List.map_cons, List.map_nil, hs, hx, hr]
  exact h A' c' w' h2 h3 h4 h5
end
end Go.Np
namespace Go.Np.Tryz
open Go.RowKit Go.Proofs Go.Proofs.YtgfiglcmhlbjjaaGreat.PX Go.Proofs.YtgfiglcmhlbjjaaGreatW.PrintWords
section
variable {X : Nat → Prop} {w w' w1 : World} {p : Nat} {c c' : Co} {a a' : Pl}
set_option maxHeartbeats 4000000 in
set_option maxRecDepth 100000 in
theorem c_send2 (h : CoIn X w p c a) (hX : ∀ k, X k → k < w.heap.size) (m : Am) (hm : m.too = -1) (hl : c.out.length ≤ 100000000) : Calls Tryz.prog 45 #[.pointer (some ⟨p, 0, none⟩), m.msg] w fun e w' => e = .returned (.tuple #[]) ∧ ∃ ov, CoIn X w' p (c.send m) { a with ov := ov } ∧ FrX X w w' ∧ Fr (p :: a.ov.ownBlock.toList) w w' ∧ (∀ A d, a.ov = .slice A c.out.length d → RdA w' A c.out) := by
  unfold Am.msg
  obtain ⟨W, hW⟩ : ∃ W, W = w.alloc (.cells #[.int .i64 m.kd, .int .i64 m.fr, .int .i64 m.ix, .int .i64 m.vw, .int .i64 m.vl, .int .i64 m.pr, .int .i64 0, .int .i64 0, .int .i64 0, .int .i64 0, .int .i64 0, .int .i64 0, .slice none 0 0] 32) := ⟨_, rfl⟩
  obtain ⟨g, hg⟩ : ∃ g, g = w.heap.size := ⟨_, rfl⟩
  have hF : Fr [] w W := by rw [hW]; exact (Fr.refl _ _).alloc _
  have hbl : W.heap[g]? = some (.cells #[.int .i64 m.kd, .int .i64 m.fr, .int .i64 m.ix, .int .i64 m.vw, .int .i64 m.vl, .int .i64 m.pr, .int .i64 0, .int .i64 0, .int .i64 0, .int .i64 0, .int .i64 0, .int .i64 0, .slice none 0 0] 32 (0, 0)) := by rw [hW, hg]; exact heap_alloc_new _ _
  have hgs : g < W.heap.size := (Array.getElem?_eq_some_iff.1 hbl).1
  have h1 := h.fr hF
  obtain ⟨Ao, co, hov⟩ := slice_form h1.out
  have c16 : W.cell? ⟨p, 16, none⟩ = some (.slice Ao c.out.length co) := by rw [h1.cells 16, ← hov]; rfl
  have e0 : W.cell? ⟨g, 0, none⟩ = some (.int .i64 m.kd) := cell_of hbl 0
  have e1 : W.cell? ⟨g, 1, none⟩ = some (.int .i64 m.fr) := cell_of hbl 1
  have e2 : W.cell? ⟨g, 2, none⟩ = some (.int .i64 m.ix) := cell_of hbl 2
  have e3 : W.cell? ⟨g, 3, none⟩ = some (.int .i64 m.vw) := cell_of hbl 3
  have e4 : W.cell? ⟨g, 4, none⟩ = some (.int .i64 m.vl) := cell_of hbl 4
  have e5 : W.cell? ⟨g, 5, none⟩ = some (.int .i64 m.pr) := cell_of hbl 5
  have e6 : W.cell? ⟨g, 6, none⟩ = some (.int .i64 0) := cell_of hbl 6
  have e7 : W.cell? ⟨g, 7, none⟩ = some (.int .i64 0) := cell_of hbl 7
  have e8 : W.cell? ⟨g, 8, none⟩ = some (.int .i64 0) := cell_of hbl 8
  have e9 : W.cell? ⟨g, 9, none⟩ = some (.int .i64 0) := cell_of hbl 9
  have e10 : W.cell? ⟨g, 10, none⟩ = some (.int .i64 0) := cell_of hbl 10
  have e11 : W.cell? ⟨g, 11, none⟩ = some (.int .i64 0) := cell_of hbl 11
  have e12 : W.cell? ⟨g, 12, none⟩ = some (.slice none 0 0) := cell_of hbl 12
  have hFn : Fr [] W (W.alloc (.cells #[.int .i64 (-1), .int .i64 m.kd, .int .i64 m.fr, .int .i64 m.ix, .int .i64 m.vw, .int .i64 m.vl, .int .i64 m.pr, .int .i64 0, .int .i64 0, .int .i64 0, .int .i64 0, .int .i64 0, .int .i64 0, .slice none 0 0] 48)).drew := ((Fr.refl _ _).alloc _).drew
  have h2 := h1.fr hFn
  have ho := h2.out
  rw [hov] at ho
  have HRW := Lib.hid ho
  have HZ := Lib.hid (froz_of h2.box 16)
  have H2 := Lib.hid h2
  have HF2 := Lib.hid (hF.trans hFn (by simp))
  have HOV := Lib.hid hov
  have hcn : Hid (∀ j u, m.cells[j]? = some u → (W.alloc (.cells #[.int .i64 (-1), .int .i64 m.kd, .int .i64 m.fr, .int .i64 m.ix, .int .i64 m.vw, .int .i64 m.vl, .int .i64 m.pr, .int .i64 0, .int .i64 0, .int .i64 0, .int .i64 0, .int .i64 0, .int .i64 0, .slice none 0 0] 48)).drew.cell? ((⟨W.heap.size, 0, none⟩ : Addr).add j) = some u) := by
    intro j u hu
    have hn := heap_alloc_new W (.cells #[.int .i64 (-1), .int .i64 m.kd, .int .i64 m.fr, .int .i64 m.ix, .int .i64 m.vw, .int .i64 m.vl, .int .i64 m.pr, .int .i64 0, .int .i64 0, .int .i64 0, .int .i64 0, .int .i64 0, .int .i64 0, .slice none 0 0] 48)
    have e : (⟨W.heap.size, 0, none⟩ : Addr).add j = ⟨W.heap.size, j, none⟩ := by unfold Addr.add; split <;> simp_all
    rw [e]
    have := cell_of (p := W.heap.size) hn j
    refine Eq.trans (show _ = _ from this) ?_
    unfold Am.cells at hu
    rw [hm] at hu
    simpa using hu
  have h63 : c.out.length + 1 ≤ maxLen := by unfold maxLen; omega
  have hbb : (c.out.length + 1) * 128 ≤ 140737488355328 := by omega
  have hsz : w.heap.size ≤ (W.alloc (.cells #[.int .i64 (-1), .int .i64 m.kd, .int .i64 m.fr, .int .i64 m.ix, .int .i64 m.vw, .int .i64 m.vl, .int .i64 m.pr, .int .i64 0, .int .i64 0, .int .i64 0, .int .i64 0, .int .i64 0, .int .i64 0, .slice none 0 0] 48)).drew.heap.size := (hF.trans hFn (by simp)).size
  have hca : (W.alloc (.cells #[.int .i64 (-1), .int .i64 m.kd, .int .i64 m.fr, .int .i64 m.ix, .int .i64 m.vw, .int .i64 m.vl, .int .i64 m.pr, .int .i64 0, .int .i64 0, .int .i64 0, .int .i64 0, .int .i64 0, .int .i64 0, .slice none 0 0] 48)).drew.cell? ⟨p, 16, none⟩ = some (.slice Ao c.out.length co) := cellF hFn c16
  obtain ⟨N, hN⟩ : ∃ N, c.out.length = N := ⟨_, rfl⟩
  rw [hN] at hca c16 h63 hbb HRW HOV
  refine calls_k fun R hR => ?_
  clear h h1 h2 ho hov hbl hF hFn hl
  go_enter Tryz.func45, Tryz.ntmps45
  go_upto_region 1 with (fail)
  rw [← hW, ← hg]
  clear hW hg
  go_region_law (first
    | (refine st_appendK rfl (.tmp 8) (.tmp 11) 40 48 rfl Tryz.underlying40 infoA rfl (by decide) HRW.out (by simp [Act.eval, Act.put]) ⟨W.heap.size, 0, none⟩ 1 1 m.cells (by simp [Act.eval, Act.put]) rfl hcn.out (cells_one m) h63 hbb ?_; intro A6 c6 w6 hr6 hF6 hN6 hK6
       have hc6 : CoIn X (w6.setCell ⟨p, 16, none⟩ (.slice A6 (N + 1) c6)) p (c.send m) { a with ov := .slice A6 (N + 1) c6 } := H2.out.sent (fun k hk => by have := hX k hk; omega) m (by rw [HOV.out]; exact hF6) (by rw [flatA_add, List.length_append, hN]; simpa [flatA] using hr6) (by rw [HOV.out]; exact hN6)
       have hp6 : FrX X w (w6.setCell ⟨p, 16, none⟩ (.slice A6 (N + 1) c6)) := (FrX.of0 HF2.out).trans ⟨p :: (Value.slice Ao N co).ownBlock.toList, (hF6.mono (fun x hx => .inl (List.mem_cons_of_mem _ hx))).setCell (.inl (by simp)) _, fun k hk => by
         rcases List.mem_cons.1 hk with rfl | hk
         · exact H2.out.pX
         · exact H2.out.nX k (by unfold Pl.own; rw [HOV.out]; simp only [List.mem_cons, List.mem_append]; exact .inr (.inr (.inr (.inr (.inr (.inr (.inr (.inr hk)))))))) ⟩
       have hq6 : Fr (p :: a.ov.ownBlock.toList) w (w6.setCell ⟨p, 16, none⟩ (.slice A6 (N + 1) c6)) := by
         rw [HOV.out]
         have h0 : Fr (p :: (Value.slice Ao N co).ownBlock.toList) w _ := HF2.out.mono (fun x hx => by simp at hx)
         exact (h0.trans (hF6.mono (fun x hx => .inl (List.mem_cons_of_mem _ hx))) (fun x hx => .inl hx)).setCell (.inl (by simp)) _
       have hk6 : RdA (w6.setCell ⟨p, 16, none⟩ (.slice A6 (N + 1) c6)) Ao c.out := fun j u hu => by
         obtain ⟨g6, e6, hc6⟩ := hK6 j u hu
         refine ⟨g6, e6, ?_⟩
         have hne : g6 ≠ p := fun e => row_ne_obj HRW.out H2.out.box (by decide) (by rw [e6, e]; simp [Value.ownBlock])
         have hfp : Fr [p] w6 (w6.setCell ⟨p, 16, none⟩ (.slice A6 (N + 1) c6)) := (Fr.refl [p] w6).setCell (.inl (by simp)) _
         exact (hfp.cell (lt_cell hc6) (by simpa using hne)).trans hc6
       have HQ6 := Lib.hid hq6
       have HK6 : Hid (∀ A d, a.ov = .slice A c.out.length d → RdA (w6.setCell ⟨p, 16, none⟩ (.slice A6 (N + 1) c6)) A c.out) := fun A d e => by
         rw [HOV.out, hN] at e
         injection e with e1 _ _
         rw [← e1]; exact hk6
       have hb6 : w6.heap[p]? = some (.cells (coreV c a) 78 (0, 0)) := (hF6.block p (H2.out.lt p (by simp [Pl.own])) (fun hm => row_ne_obj HRW.out H2.out.box (by decide) hm)).trans H2.out.box
       have hz6 := froz_of hb6 16
       have hd6 : w6.cell? ⟨p, 16, none⟩ = some a.ov := cell_of hb6 16
       have HC6 := Lib.hid hc6
       have HP6 := Lib.hid hp6
       clear hr6 hF6 hN6 hc6 hp6 hb6 hq6 hk6 hK6))
  all_goals
    go_wp2
    go_end0
    exact hR.out _ _ ⟨rfl, _, HC6.out, HP6.out, HQ6.out, HK6.out⟩
end
end Go.Np.Tryz
end
