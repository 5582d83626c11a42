/- What CheckTold needs. -/
import Derived.Test.YtgfiglcmhlbjjaaGreatQCheckToldCkH
import Derived.Test.YtgfiglcmhlbjjaaGreatQCheckToldPXx2
import Derived.Deep.RegionHeld3
import Derived.Deep.RegionLaw
section
set_option linter.unusedVariables false
set_option linter.unusedSimpArgs false
namespace Go.Np.Tryz
open Go.RowKit Go.Proofs Go.Proofs.YtgfiglcmhlbjjaaGreat.PX Go.Proofs.YtgfiglcmhlbjjaaGreatW.PrintWords
section
variable {X : Nat → Prop} {w w' : World} {p : Nat} {c c' : Co} {a a' : Pl}
theorem CoIn.dv (h : CoIn X w p c a) : ∃ A d, a.dv = .slice A c.decs.length d ∧ w.cell? ⟨p, 4, none⟩ = some (.slice A c.decs.length d) := by
  obtain ⟨A, d, e⟩ := h.dec.form
  exact ⟨A, d, e, by rw [h.cells 4, ← e]; rfl⟩
theorem CoIn.sv (h : CoIn X w p c a) : ∃ A d, a.sv = .slice A c.st.length d ∧ w.cell? ⟨p, 1, none⟩ = some (.slice A c.st.length d) := by
  obtain ⟨A, d, e⟩ := h.st.form
  exact ⟨A, d, e, by rw [h.cells 1, ← e]; rfl⟩
set_option maxHeartbeats 1000000 in
set_option maxRecDepth 100000 in
theorem c_index (h : CoIn X w p c a) : Calls Tryz.prog 18 #[.pointer (some ⟨p, 0, none⟩)] w fun e w' => e = .returned (.int .i64 c.idx) ∧ w' = w := by
  obtain ⟨A, d, _, hc⟩ := h.dv
  unfold Co.idx
  refine calls_k fun R hR => ?_
  clear h
  go_enter Tryz.func18, Tryz.ntmps18
  go_wp2
  exact hR.out _ _ ⟨rfl, rfl⟩
set_option maxHeartbeats 1000000 in
set_option maxRecDepth 100000 in
theorem c_over (h : CoIn X w p c a) : Calls Tryz.prog 29 #[.pointer (some ⟨p, 0, none⟩)] w fun e w' => e = .returned (.bool (decide (1000 < c.idx))) ∧ ∃ n, w' = w.drewN n := by
  have HI := Lib.hid (c_index h)
  refine calls_k fun R hR => ?_
  clear h
  go_enter Tryz.func29, Tryz.ntmps29
  go_wp2_with (go_at_call 18; refine HI.out.mono ?_; rintro e w1 ⟨rfl, rfl⟩; clear HI)
  exact hR.out _ _ ⟨rfl, 0, rfl⟩
set_option maxHeartbeats 1000000 in
set_option maxRecDepth 100000 in
theorem c_view (h : CoIn X w p c a) : Calls Tryz.prog 14 #[.pointer (some ⟨p, 0, none⟩)] w fun e w' => e = .returned (.int .i64 c.view) ∧ ∃ n, w' = w.drewN n := by
  have hc : w.cell? ⟨p, 5, none⟩ = some (.int .i64 c.view) := h.cells 5
  refine calls_k fun R hR => ?_
  clear h
  go_enter Tryz.func14, Tryz.ntmps14
  go_wp2
  exact hR.out _ _ ⟨rfl, 0, rfl⟩
set_option maxHeartbeats 1000000 in
set_option maxRecDepth 100000 in
theorem c_step (h : CoIn X w p c a) : Calls Tryz.prog 15 #[.pointer (some ⟨p, 0, none⟩)] w fun e w' => e = .returned (.int .i64 c.step) ∧ ∃ n, w' = w.drewN n := by
  have hc : w.cell? ⟨p, 6, none⟩ = some (.int .i64 c.step) := h.cells 6
  refine calls_k fun R hR => ?_
  clear h
  go_enter Tryz.func15, Tryz.ntmps15
  go_wp2
  exact hR.out _ _ ⟨rfl, 0, rfl⟩
theorem drawn_n {w w' : World} (h : Drawn0 w w') : ∃ n, w' = w.drewN n := by obtain ⟨n, rfl⟩ := h; exact ⟨n, rfl⟩
theorem leader_ev (i v n : Int) (hn : n ≤ 7) : view_Leader.f i v n = some (leaderN i v n) := by
  unfold view_Leader.f leaderN
  by_cases h1 : i < 0
  · simp [h1]
  by_cases h2 : i > 1000
  · simp [h1, h2]
  by_cases h3 : v < 0
  · simp [h1, h2, h3]
  by_cases h4 : v > 1000
  · simp [h1, h2, h3, h4]
  by_cases h5 : n < 1
  · simp [h1, h2, h3, h4, h5]
  have h6 : ¬ n > 7 := by omega
  have h7 : ¬ n = 0 := by omega
  rw [if_neg h1, if_neg h2, if_neg h3, if_neg h4, if_neg h5, if_neg h6, if_neg h7, if_neg (by omega), w64 (by omega) (by omega)]
set_option maxHeartbeats 2000000 in
set_option maxRecDepth 100000 in
theorem c_leads (h : CoIn X w p c a) (hn : c.st.length ≤ 7) (node v : Int) : Calls Tryz.prog 37 #[.pointer (some ⟨p, 0, none⟩), .int .i64 node, .int .i64 v] w fun e w' => e = .returned (.bool (c.leads node v)) ∧ ∃ n, w' = w.drewN n := by
  obtain ⟨A, d, _, hc⟩ := h.sv
  have HI := Lib.hid (fun n => c_index (h.fr ((Fr.refl [] w).drewN n)))
  have HL := Lib.hid (fun W => (view_Leader.calls c.idx v c.st.length _ W (leader_ev c.idx v c.st.length (by omega))).mono (fun e w' (h : _ ∧ Drawn0 W w') => show e = .returned (.int .i64 (leaderN c.idx v c.st.length)) ∧ ∃ n, w' = W.drewN n from ⟨h.1, drawn_n h.2⟩))
  obtain ⟨n, hn'⟩ : ∃ n, c.st.length = n := ⟨_, rfl⟩
  obtain ⟨L, hL⟩ : ∃ L, leaderN c.idx v c.st.length = L := ⟨_, rfl⟩
  have he : c.leads node v = decide (L = node) := by unfold Co.leads; rw [hL]
  rw [he]
  rw [hL] at HL
  rw [hn'] at HL hc
  refine calls_k fun R hR => ?_
  have hb : (L == node) = decide (L = node) := by by_cases e : L = node <;> simp [e]
  clear h hL he hn hn'
  go_enter Tryz.func37, Tryz.ntmps37
  go_upto_region 1 with (fail)
  go_quiet (first
    | (go_at_call 18; exact Calls.quiet_of_same (HI.out _))
    | (go_at_call 59; exact Calls.quiet_of (HL.out _)))
  go_wp2
  exact hR.out _ _ ⟨rfl, nq, rfl⟩
end
end Go.Np.Tryz
end
section
set_option linter.unusedVariables false
set_option linter.unusedSimpArgs false
namespace Go.Np.Tryz
open Go.RowKit Go.Proofs Go.Proofs.YtgfiglcmhlbjjaaGreat.PX Go.Proofs.YtgfiglcmhlbjjaaGreatW.PrintWords
section
variable {X : Nat → Prop} {w w' w1 : World} {p : Nat} {c c' : Co} {a a' : Pl}
theorem opt_nodup (o : Option Nat) : o.toList.Nodup := by cases o <;> simp
theorem own_ov {p : Nat} {a : Pl} {ov' : Value} {N : Nat} (hnd : (a.own p).Nodup) (hlt : ∀ k ∈ a.own p, k < N) (hn : ∀ k ∈ ov'.ownBlock.toList, k ∈ a.ov.ownBlock.toList ∨ N ≤ k) :
    (({ a with ov := ov' } : Pl).own p).Nodup ∧ ∀ k ∈ ({ a with ov := ov' } : Pl).own p, k ∈ a.own p ∨ N ≤ k := by
  have ho := opt_nodup ov'.ownBlock
  unfold Pl.own at *
  simp only [List.nodup_cons, List.nodup_append, List.mem_cons, List.mem_append] at *
  refine ⟨?_, ?_⟩
  · grind
  · grind
theorem own_dv {p : Nat} {a : Pl} {dv' : Value} {N : Nat} (hnd : (a.own p).Nodup) (hlt : ∀ k ∈ a.own p, k < N) (hn : ∀ k ∈ dv'.ownBlock.toList, k ∈ a.dv.ownBlock.toList ∨ N ≤ k) :
    (({ a with dv := dv' } : Pl).own p).Nodup ∧ ∀ k ∈ ({ a with dv := dv' } : Pl).own p, k ∈ a.own p ∨ N ≤ k := by
  have ho := opt_nodup dv'.ownBlock
  unfold Pl.own at *
  simp only [List.nodup_cons, List.nodup_append, List.mem_cons, List.mem_append] at *
  refine ⟨?_, ?_⟩
  · grind
  · grind
theorem CoIn.sent (h : CoIn X w p c a) (hX : ∀ k, X k → k < w.heap.size) {ov' : Value} (m : Am) (hf : Fr a.ov.ownBlock.toList w w1) (hr : w1.ownsRow 0 48 14 ov' (c.out ++ [m]).length (flatA (c.out ++ [m])))
    (hn : ∀ k ∈ ov'.ownBlock.toList, k ∈ a.ov.ownBlock.toList ∨ w.heap.size ≤ k) : CoIn X (w1.setCell ⟨p, 16, none⟩ ov') p (c.send m) { a with ov := ov' } := by
  obtain ⟨n1, n2⟩ := own_ov h.nd h.lt hn
  have hlt := h.lt
  have hnd := h.nd
  have hm : ∀ k, k ∈ a.own p ↔ k = p ∨ k = a.pt ∨ k = a.bt ∨ k = a.bp ∨ k = a.bs ∨ k ∈ a.sv.ownBlock.toList ∨ k ∈ a.tv.ownBlock.toList ∨ k ∈ a.dv.ownBlock.toList ∨ k ∈ a.ov.ownBlock.toList := fun k => by
    unfold Pl.own; simp only [List.mem_cons, List.mem_append]
  have hk : ∀ k ∈ a.own p, k ∉ a.ov.ownBlock.toList → k ≠ p → (w1.setCell ⟨p, 16, none⟩ ov').heap[k]? = w.heap[k]? := fun k h1 h2 h3 => (set_far w1 h3 ov').trans (hf.block k (h.lt k h1) h2)
  have hq : ∀ k ∈ a.own p, k ∉ a.ov.ownBlock.toList ∨ k ∈ a.ov.ownBlock.toList := fun k _ => (Classical.em _).symm
  unfold Pl.own at hnd
  simp only [List.nodup_cons, List.nodup_append, List.mem_cons, List.mem_append, not_or] at hnd
  have b1 : w1.heap[p]? = some (.cells (coreV c a) 78 (0, 0)) := (hf.block p (h.lt p ((hm p).2 (.inl rfl))) (by grind)).trans h.box
  have hb : (w1.setCell ⟨p, 16, none⟩ ov').heap[p]? = some (.cells (coreV (c.send m) { a with ov := ov' }) 78 (0, 0)) := by rw [obj_set b1 16 ov']; rfl
  obtain ⟨q, hm1, hm2, hm3⟩ := h.vts
  refine ⟨hb, (hk _ ((hm _).2 (by grind)) (by grind) (by grind)).trans h.tal, ?_, ?_, ?_, ?_, ⟨q, hm1, hm2.move (hk _ ((hm _).2 (by grind)) (by grind) (by grind)), hm3⟩, h.prs.move (hk _ ((hm _).2 (by grind)) (by grind) (by grind)), h.sds.move (hk _ ((hm _).2 (by grind)) (by grind) (by grind)), n1, fun k hk' hx => ?_⟩
  · exact h.st.move0 (fun k h1 => hk k ((hm _).2 (by grind)) (by grind) (by grind))
  · exact h.tst.move0 (fun k h1 => hk k ((hm _).2 (by grind)) (by grind) (by grind))
  · exact h.dec.move0 (fun k h1 => hk k ((hm _).2 (by grind)) (by grind) (by grind))
  · refine row_move hr (fun k e => set_far w1 (fun e' => ?_) ov')
    have h1 : p ∈ ov'.ownBlock.toList := by have e2 : k = p := e'; rw [← e2]; simp [e]
    have h2 := n1
    unfold Pl.own at h2
    simp only [List.nodup_cons, List.nodup_append, List.mem_cons, List.mem_append, not_or] at h2
    grind
  · rcases n2 k hk' with h1 | h1
    · exact h.nX k h1 hx
    · have := hX k hx; omega
theorem CoIn.decd (h : CoIn X w p c a) (hX : ∀ k, X k → k < w.heap.size) {dv' : Value} (v : Int) (hf : Fr a.dv.ownBlock.toList w w1) (hr : w1.ownsRow 0 3 1 dv' (c.decs ++ [v]).length ((c.decs ++ [v]).map (Value.int .i64)))
    (hn : ∀ k ∈ dv'.ownBlock.toList, k ∈ a.dv.ownBlock.toList ∨ w.heap.size ≤ k) : CoIn X (w1.setCell ⟨p, 4, none⟩ dv') p { c with decs := c.decs ++ [v] } { a with dv := dv' } := by
  obtain ⟨n1, n2⟩ := own_dv h.nd h.lt hn
  have hlt := h.lt
  have hnd := h.nd
  have hm : ∀ k, k ∈ a.own p ↔ k = p ∨ k = a.pt ∨ k = a.bt ∨ k = a.bp ∨ k = a.bs ∨ k ∈ a.sv.ownBlock.toList ∨ k ∈ a.tv.ownBlock.toList ∨ k ∈ a.dv.ownBlock.toList ∨ k ∈ a.ov.ownBlock.toList := fun k => by
    unfold Pl.own; simp only [List.mem_cons, List.mem_append]
  have hk : ∀ k ∈ a.own p, k ∉ a.dv.ownBlock.toList → k ≠ p → (w1.setCell ⟨p, 4, none⟩ dv').heap[k]? = w.heap[k]? := fun k h1 h2 h3 => (set_far w1 h3 dv').trans (hf.block k (h.lt k h1) h2)
  unfold Pl.own at hnd
  simp only [List.nodup_cons, List.nodup_append, List.mem_cons, List.mem_append, not_or] at hnd
  have b1 : w1.heap[p]? = some (.cells (coreV c a) 78 (0, 0)) := (hf.block p (h.lt p ((hm p).2 (.inl rfl))) (by grind)).trans h.box
  have hb : (w1.setCell ⟨p, 4, none⟩ dv').heap[p]? = some (.cells (coreV { c with decs := c.decs ++ [v] } { a with dv := dv' }) 78 (0, 0)) := by rw [obj_set b1 4 dv']; rfl
  obtain ⟨q, hm1, hm2, hm3⟩ := h.vts
  refine ⟨hb, (hk _ ((hm _).2 (by grind)) (by grind) (by grind)).trans h.tal, ?_, ?_, ⟨row_move hr (fun k e => set_far w1 (fun e' => ?_) dv'), fun _ _ => Nat.zero_le _⟩, ?_, ⟨q, hm1, hm2.move (hk _ ((hm _).2 (by grind)) (by grind) (by grind)), hm3⟩, h.prs.move (hk _ ((hm _).2 (by grind)) (by grind) (by grind)), h.sds.move (hk _ ((hm _).2 (by grind)) (by grind) (by grind)), n1, fun k hk' hx => ?_⟩
  · exact h.st.move0 (fun k h1 => hk k ((hm _).2 (by grind)) (by grind) (by grind))
  · exact h.tst.move0 (fun k h1 => hk k ((hm _).2 (by grind)) (by grind) (by grind))
  · have h1 : p ∈ dv'.ownBlock.toList := by have e2 : k = p := e'; rw [← e2]; simp [e]
    have h2 := n1
    unfold Pl.own at h2
    simp only [List.nodup_cons, List.nodup_append, List.mem_cons, List.mem_append, not_or] at h2
    grind
  · exact row_move h.out (fun k e => by
      have h1 : k ∈ a.ov.ownBlock.toList := by simp [e]
      exact hk k ((hm _).2 (by grind)) (by grind) (by grind))
  · rcases n2 k hk' with h1 | h1
    · exact h.nX k h1 hx
    · have := hX k hx; omega
theorem aput_map {α β : Type} (f : Int × α → Int × β) (g : α → β) (hf : ∀ q, f q = (q.1, g q.2)) (m : List (Int × α)) (k : Int) (x : α) : (aput m k x).map f = aput (m.map f) k (g x) := by
  induction m with
  | nil => simp [aput, hf]
  | cons q m ih =>
    obtain ⟨a, v⟩ := q
    by_cases h : a = k
    · simp [aput, hf, h]
    · simp [aput, hf, h, ih]
theorem alook_map {α β : Type} (f : Int × α → Int × β) (g : α → β) (hf : ∀ q, f q = (q.1, g q.2)) (m : List (Int × α)) (k : Int) : alook (m.map f) k = (alook m k).map g := by
  induction m with
  | nil => rfl
  | cons q m ih =>
    obtain ⟨a, v⟩ := q
    by_cases h : a = k
    · simp [alook, hf, h]
    · simp [alook, hf, h, ih]
theorem CoIn.voted (h : CoIn X w p c a) {m' : List S41} (hf : Fr [a.bt] w w') (ht : Tz (bare w) w' a.pt a.bt c.st m') : CoIn X w' p { c with m := m' } a := by
  have hlt := h.lt
  have hnd := h.nd
  have hm : ∀ k, k ∈ a.own p ↔ k = p ∨ k = a.pt ∨ k = a.bt ∨ k = a.bp ∨ k = a.bs ∨ k ∈ a.sv.ownBlock.toList ∨ k ∈ a.tv.ownBlock.toList ∨ k ∈ a.dv.ownBlock.toList ∨ k ∈ a.ov.ownBlock.toList := fun k => by
    unfold Pl.own; simp only [List.mem_cons, List.mem_append]
  have hk : ∀ k ∈ a.own p, k ≠ a.bt → w'.heap[k]? = w.heap[k]? := fun k h1 h2 => hf.block k (h.lt k h1) (by simpa using h2)
  unfold Pl.own at hnd
  simp only [List.nodup_cons, List.nodup_append, List.mem_cons, List.mem_append, not_or] at hnd
  obtain ⟨q, A, d, hm1, hm2, hm3, _⟩ := ht
  exact ⟨(hk _ ((hm _).2 (by grind)) (by grind)).trans h.box, (hk _ ((hm _).2 (by grind)) (by grind)).trans h.tal, h.st.move0 (fun k h1 => hk k ((hm _).2 (by grind)) (by grind)), h.tst.move0 (fun k h1 => hk k ((hm _).2 (by grind)) (by grind)), h.dec.move0 (fun k h1 => hk k ((hm _).2 (by grind)) (by grind)), row_move h.out (fun k e => by
      have h1 : k ∈ a.ov.ownBlock.toList := by simp [e]
      exact hk k ((hm _).2 (by grind)) (by grind)), ⟨q, hm1, hm2.map, hm3⟩, h.prs.move (hk _ ((hm _).2 (by grind)) (by grind)), h.sds.move (hk _ ((hm _).2 (by grind)) (by grind)), h.nd, h.nX⟩
theorem CoIn.proposed (h : CoIn X w p c a) {v : Int} {x : Int × Int} (hf : Fr [a.bp] w w') (ht : MapIs keyE w' a.bp (aput (c.props.map propE) v (.agg #[.int .i64 x.1, .int .i64 x.2]))) : CoIn X w' p { c with props := aput c.props v x } a := by
  have hlt := h.lt
  have hnd := h.nd
  have hm : ∀ k, k ∈ a.own p ↔ k = p ∨ k = a.pt ∨ k = a.bt ∨ k = a.bp ∨ k = a.bs ∨ k ∈ a.sv.ownBlock.toList ∨ k ∈ a.tv.ownBlock.toList ∨ k ∈ a.dv.ownBlock.toList ∨ k ∈ a.ov.ownBlock.toList := fun k => by
    unfold Pl.own; simp only [List.mem_cons, List.mem_append]
  have hk : ∀ k ∈ a.own p, k ≠ a.bp → w'.heap[k]? = w.heap[k]? := fun k h1 h2 => hf.block k (h.lt k h1) (by simpa using h2)
  unfold Pl.own at hnd
  simp only [List.nodup_cons, List.nodup_append, List.mem_cons, List.mem_append, not_or] at hnd
  obtain ⟨q, hm1, hm2, hm3⟩ := h.vts
  refine ⟨(hk _ ((hm _).2 (by grind)) (by grind)).trans h.box, (hk _ ((hm _).2 (by grind)) (by grind)).trans h.tal, h.st.move0 (fun k h1 => hk k ((hm _).2 (by grind)) (by grind)), h.tst.move0 (fun k h1 => hk k ((hm _).2 (by grind)) (by grind)), h.dec.move0 (fun k h1 => hk k ((hm _).2 (by grind)) (by grind)), row_move h.out (fun k e => by
      have h1 : k ∈ a.ov.ownBlock.toList := by simp [e]
      exact hk k ((hm _).2 (by grind)) (by grind)), ⟨q, hm1, hm2.move (hk _ ((hm _).2 (by grind)) (by grind)), hm3⟩, ?_, h.sds.move (hk _ ((hm _).2 (by grind)) (by grind)), h.nd, h.nX⟩
  rw [aput_map propE (fun x => .agg #[.int .i64 x.1, .int .i64 x.2]) (fun q => rfl)]
  exact ht
theorem CoIn.heard (h : CoIn X w p c a) {v x : Int} (hf : Fr [a.bs] w w') (ht : MapIs keyE w' a.bs (aput (c.said.map saidE) v (.int .i64 x))) : CoIn X w' p { c with said := aput c.said v x } a := by
  have hlt := h.lt
  have hnd := h.nd
  have hm : ∀ k, k ∈ a.own p ↔ k = p ∨ k = a.pt ∨ k = a.bt ∨ k = a.bp ∨ k = a.bs ∨ k ∈ a.sv.ownBlock.toList ∨ k ∈ a.tv.ownBlock.toList ∨ k ∈ a.dv.ownBlock.toList ∨ k ∈ a.ov.ownBlock.toList := fun k => by
    unfold Pl.own; simp only [List.mem_cons, List.mem_append]
  have hk : ∀ k ∈ a.own p, k ≠ a.bs → w'.heap[k]? = w.heap[k]? := fun k h1 h2 => hf.block k (h.lt k h1) (by simpa using h2)
  unfold Pl.own at hnd
  simp only [List.nodup_cons, List.nodup_append, List.mem_cons, List.mem_append, not_or] at hnd
  obtain ⟨q, hm1, hm2, hm3⟩ := h.vts
  refine ⟨(hk _ ((hm _).2 (by grind)) (by grind)).trans h.box, (hk _ ((hm _).2 (by grind)) (by grind)).trans h.tal, h.st.move0 (fun k h1 => hk k ((hm _).2 (by grind)) (by grind)), h.tst.move0 (fun k h1 => hk k ((hm _).2 (by grind)) (by grind)), h.dec.move0 (fun k h1 => hk k ((hm _).2 (by grind)) (by grind)), row_move h.out (fun k e => by
      have h1 : k ∈ a.ov.ownBlock.toList := by simp [e]
      exact hk k ((hm _).2 (by grind)) (by grind)), ⟨q, hm1, hm2.move (hk _ ((hm _).2 (by grind)) (by grind)), hm3⟩, h.prs.move (hk _ ((hm _).2 (by grind)) (by grind)), ?_, h.nd, h.nX⟩
  rw [aput_map saidE (fun x => .int .i64 x) (fun q => rfl)]
  exact ht
theorem CoIn.own1 (h : CoIn X w p c a) : a.pt ∈ a.own p ∧ a.bt ∈ a.own p ∧ a.bp ∈ a.own p ∧ a.bs ∈ a.own p := by unfold Pl.own; simp
theorem CoIn.frOf (h : CoIn X w p c a) {b : Nat} (hb : b ∈ a.own p) (hf : Fr [b] w w') : FrX X w w' := ⟨[b], hf, fun k hk => by simp at hk; subst hk; exact h.nX k hb⟩
end
end Go.Np.Tryz
end
section
set_option linter.unusedVariables false
set_option linter.unusedSimpArgs false
namespace Go.Np.Tryz
open Go.RowKit Go.Proofs Go.Proofs.YtgfiglcmhlbjjaaGreat.PX Go.Proofs.YtgfiglcmhlbjjaaGreatW.PrintWords
section
variable {X : Nat → Prop} {w w' w1 : World} {p : Nat} {c c' : Co} {a a' : Pl}
set_option maxHeartbeats 2000000 in
set_option maxRecDepth 100000 in
theorem patience_calls (v b m : Int) : Calls Tryz.prog 77 #[.int .i64 v, .int .i64 b, .int .i64 m] w fun e w' => ∃ r, e = .returned (.int .i64 r) ∧ ∃ n, w' = w.drewN n := by
  refine calls_k fun R hR => ?_
  have fin : Hid (∀ r, R (.returned (.int .i64 r)) w) := fun r => hR.out _ _ ⟨r, rfl, 0, rfl⟩
  clear hR
  by_cases h0 : v < 0
  · have d0 : decide (v < 0) = true := decide_eq_true h0
    by_cases h1 : m < 1
    · have d1 : decide (m < 1) = true := decide_eq_true h1
      go_enter Tryz.func77, Tryz.ntmps77
      go_wp2
      exact fin.out _
    · have d1 : decide (m < 1) = false := decide_eq_false h1
      by_cases h2 : 1000 < m
      · have d2 : decide (1000 < m) = true := decide_eq_true h2
        go_enter Tryz.func77, Tryz.ntmps77
        go_wp2
        exact fin.out _
      · have d2 : decide (1000 < m) = false := decide_eq_false h2
        go_enter Tryz.func77, Tryz.ntmps77
        go_wp2
        exact fin.out _
  · have d0 : decide (v < 0) = false := decide_eq_false h0
    by_cases h1 : m < 1
    · have d1 : decide (m < 1) = true := decide_eq_true h1
      go_enter Tryz.func77, Tryz.ntmps77
      go_wp2
      exact fin.out _
    · have d1 : decide (m < 1) = false := decide_eq_false h1
      by_cases h2 : 1000 < m
      · have d2 : decide (1000 < m) = true := decide_eq_true h2
        go_enter Tryz.func77, Tryz.ntmps77
        go_wp2
        exact fin.out _
      · have d2 : decide (1000 < m) = false := decide_eq_false h2
        by_cases h3 : b < 1
        · have d3 : decide (b < 1) = true := decide_eq_true h3
          go_enter Tryz.func77, Tryz.ntmps77
          go_wp2
          exact fin.out _
        · have d3 : decide (b < 1) = false := decide_eq_false h3
          by_cases h4 : 100 < b
          · have d4 : decide (100 < b) = true := decide_eq_true h4
            go_enter Tryz.func77, Tryz.ntmps77
            go_wp2
            exact fin.out _
          · have d4 : decide (100 < b) = false := decide_eq_false h4
            by_cases h5 : 10 < v
            · have d5 : decide (10 < v) = true := decide_eq_true h5
              go_enter Tryz.func77, Tryz.ntmps77
              go_wp2
              exact fin.out _
            · have d5 : decide (10 < v) = false := decide_eq_false h5
              go_enter Tryz.func77, Tryz.ntmps77
              go_wp2
              exact fin.out _
set_option maxHeartbeats 2000000 in
set_option maxRecDepth 100000 in
theorem tset_calls (h : CoIn X w p c a) (v b m : Int) : Calls Tryz.prog 60 #[.pointer (some ⟨p, 7, none⟩), .int .i64 v, .int .i64 b, .int .i64 m] w fun e w' => ∃ r, e = .returned (.tuple #[]) ∧ ∃ n, w' = (w.drewN n).setCell ⟨p, 7, none⟩ (.int .i64 r) := by
  have HP := Lib.hid (patience_calls (w := w) v b m)
  have hc : ∀ n, (w.drewN n).cell? ⟨p, 7, none⟩ = some (.int .i64 a.left) := fun n => h.cells 7
  have hf : ∀ n, (w.drewN n).frozen? ⟨p, 7, none⟩ = false := fun n => froz_of h.box 7
  refine calls_k fun R hR => ?_
  clear h
  go_enter Tryz.func60, Tryz.ntmps60
  go_wp2_with (go_at_call 77; refine HP.out.mono ?_; rintro e w1 ⟨r, rfl, n, rfl⟩; have hc1 := hc n; have hf1 := hf n; clear hc hf HP)
  go_end0
  exact hR.out _ _ ⟨r, rfl, n, rfl⟩
set_option maxHeartbeats 4000000 in
set_option maxRecDepth 100000 in
theorem c_to (h : CoIn X w p c a) (s : Int) : Calls Tryz.prog 39 #[.pointer (some ⟨p, 0, none⟩), .int .i64 s] w fun e w' => e = .returned (.tuple #[]) ∧ ∃ r, CoIn X w' p (c.toS s) { a with left := r } ∧ FrX X w w' := by
  have hc := h.cells 6
  have hz := froz_of h.box 6
  obtain ⟨W1, hW1⟩ : ∃ W1, W1 = w.setCell ⟨p, 6, none⟩ (.int .i64 s) := ⟨_, rfl⟩
  have h1 : CoIn X W1 p (c.toS s) { a with left := a.left } := by rw [hW1]; exact h.set (a' := a) 6 _ rfl rfl rfl rfl rfl rfl rfl
  have H1 := Lib.hid h1
  have HX := Lib.hid (show FrX X w W1 by rw [hW1]; exact h.setX _ _)
  have HPX := Lib.hid h.pX
  have HT := Lib.hid (fun W (hW : Fr [] W1 W) => tset_calls (h1.fr hW) c.view c.base c.most)
  have c5 : W1.cell? ⟨p, 5, none⟩ = some (.int .i64 c.view) := h1.cells 5
  have c2 : W1.cell? ⟨p, 2, none⟩ = some (.int .i64 c.base) := h1.cells 2
  have c3 : W1.cell? ⟨p, 3, none⟩ = some (.int .i64 c.most) := h1.cells 3
  have HS : Hid (∀ W, Fr [] W1 W → W.cell? ⟨p, 5, none⟩ = some (.int .i64 c.view) ∧ W.cell? ⟨p, 2, none⟩ = some (.int .i64 c.base) ∧ W.cell? ⟨p, 3, none⟩ = some (.int .i64 c.most)) := fun W hW => ⟨cellF hW c5, cellF hW c2, cellF hW c3⟩
  clear h1 c5 c2 c3
  refine calls_k fun R hR => ?_
  simp [coreV] at hc
  clear h
  go_enter Tryz.func39, Tryz.ntmps39
  go_upto_region 1 with (fail)
  rw [← hW1]
  clear hW1 hc hz
  have HF0 : Hid (Fr [] W1 W1.drew) := (Fr.refl _ _).drew
  have hS0 := HS.out _ HF0.out
  go_region_held3 (fun W => W.cell? ⟨p, 5, none⟩ = some (.int .i64 c.view) ∧ W.cell? ⟨p, 2, none⟩ = some (.int .i64 c.base) ∧ W.cell? ⟨p, 3, none⟩ = some (.int .i64 c.most)) (with_reducible assumption)
    (first
      | (go_at_call 60; refine (HT.out _ HF0.out).mono ?_; rintro e w2 ⟨r, rfl, n, hw2⟩
         have hin : CoIn X w2 p (c.toS s) { a with left := r } := by rw [hw2]; exact (H1.out.fr (HF0.out.trans ((Fr.refl [] _).drewN n) (by simp))).set (a' := { a with left := r }) 7 _ rfl rfl rfl rfl rfl rfl rfl
         have hfx : FrX X W1 w2 := by rw [hw2]; exact ⟨[p], ((HF0.out.trans ((Fr.refl [] _).drewN n) (by simp)).mono (by simp)).setCell (.inl (by simp)) _, fun k hk => by simp at hk; subst hk; exact HPX.out⟩
         have hS2 : w2.cell? ⟨p, 5, none⟩ = some (.int .i64 c.view) ∧ w2.cell? ⟨p, 2, none⟩ = some (.int .i64 c.base) ∧ w2.cell? ⟨p, 3, none⟩ = some (.int .i64 c.most) := ⟨hin.cells 5, hin.cells 2, hin.cells 3⟩
         have HIN := Lib.hid hin
         have HFX := Lib.hid hfx
         clear hin hfx hw2 HT))
  all_goals
    go_wp2
    go_end0
    exact hR.out _ _ ⟨rfl, r, HIN.out, HX.out.trans HFX.out⟩
end
end Go.Np.Tryz
end
section
set_option linter.unusedVariables false
set_option linter.unusedSimpArgs false
namespace Go.Np.Tryz
open Go.RowKit Go.Proofs Go.Proofs.YtgfiglcmhlbjjaaGreat.PX Go.Proofs.YtgfiglcmhlbjjaaGreatW.PrintWords
section
variable {X : Nat → Prop} {w w' w1 : World} {p : Nat} {c c' : Co} {a a' : Pl}
theorem infoA : (Tryz.prog.info? 48).map (fun i => (i.zero, i.size, i.bytes)) = some (some (.agg #[.int .i64 0, .int .i64 0, .int .i64 0, .int .i64 0, .int .i64 0, .int .i64 0, .int .i64 0, .int .i64 0, .int .i64 0, .int .i64 0, .int .i64 0, .int .i64 0, .int .i64 0, .slice none 0 0]), 14, 128) := by kernel_rfl
theorem cells_one (m : Am) : ∀ u ∈ m.cells, u.oneCell' = true := by unfold Am.cells; simp [Value.oneCell']
set_option maxHeartbeats 4000000 in
set_option maxRecDepth 100000 in
theorem c_send (h : CoIn X w p c a) (hX : ∀ k, X k → k < w.heap.size) (m : Am) (hm : m.too = -1) (hl : c.out.length ≤ 100000000) : Calls Tryz.prog 45 #[.pointer (some ⟨p, 0, none⟩), m.msg] w fun e w' => e = .returned (.tuple #[]) ∧ ∃ ov, CoIn X w' p (c.send m) { a with ov := ov } ∧ FrX X w w' := by
  unfold Am.msg
  obtain ⟨W, hW⟩ : ∃ W, W = w.alloc (.cells #[.int .i64 m.kd, .int .i64 m.fr, .int .i64 m.ix, .int .i64 m.vw, .int .i64 m.vl, .int .i64 m.pr, .int .i64 0, .int .i64 0, .int .i64 0, .int .i64 0, .int .i64 0, .int .i64 0, .slice none 0 0] 32) := ⟨_, rfl⟩
  obtain ⟨g, hg⟩ : ∃ g, g = w.heap.size := ⟨_, rfl⟩
  have hF : Fr [] w W := by rw [hW]; exact (Fr.refl _ _).alloc _
  have hbl : W.heap[g]? = some (.cells #[.int .i64 m.kd, .int .i64 m.fr, .int .i64 m.ix, .int .i64 m.vw, .int .i64 m.vl, .int .i64 m.pr, .int .i64 0, .int .i64 0, .int .i64 0, .int .i64 0, .int .i64 0, .int .i64 0, .slice none 0 0] 32 (0, 0)) := by rw [hW, hg]; exact heap_alloc_new _ _
  have hgs : g < W.heap.size := (Array.getElem?_eq_some_iff.1 hbl).1
  have h1 := h.fr hF
  obtain ⟨Ao, co, hov⟩ := slice_form h1.out
  have c16 : W.cell? ⟨p, 16, none⟩ = some (.slice Ao c.out.length co) := by rw [h1.cells 16, ← hov]; rfl
  have e0 : W.cell? ⟨g, 0, none⟩ = some (.int .i64 m.kd) := cell_of hbl 0
  have e1 : W.cell? ⟨g, 1, none⟩ = some (.int .i64 m.fr) := cell_of hbl 1
  have e2 : W.cell? ⟨g, 2, none⟩ = some (.int .i64 m.ix) := cell_of hbl 2
  have e3 : W.cell? ⟨g, 3, none⟩ = some (.int .i64 m.vw) := cell_of hbl 3
  have e4 : W.cell? ⟨g, 4, none⟩ = some (.int .i64 m.vl) := cell_of hbl 4
  have e5 : W.cell? ⟨g, 5, none⟩ = some (.int .i64 m.pr) := cell_of hbl 5
  have e6 : W.cell? ⟨g, 6, none⟩ = some (.int .i64 0) := cell_of hbl 6
  have e7 : W.cell? ⟨g, 7, none⟩ = some (.int .i64 0) := cell_of hbl 7
  have e8 : W.cell? ⟨g, 8, none⟩ = some (.int .i64 0) := cell_of hbl 8
  have e9 : W.cell? ⟨g, 9, none⟩ = some (.int .i64 0) := cell_of hbl 9
  have e10 : W.cell? ⟨g, 10, none⟩ = some (.int .i64 0) := cell_of hbl 10
  have e11 : W.cell? ⟨g, 11, none⟩ = some (.int .i64 0) := cell_of hbl 11
  have e12 : W.cell? ⟨g, 12, none⟩ = some (.slice none 0 0) := cell_of hbl 12
  have hFn : Fr [] W (W.alloc (.cells #[.int .i64 (-1), .int .i64 m.kd, .int .i64 m.fr, .int .i64 m.ix, .int .i64 m.vw, .int .i64 m.vl, .int .i64 m.pr, .int .i64 0, .int .i64 0, .int .i64 0, .int .i64 0, .int .i64 0, .int .i64 0, .slice none 0 0] 48)).drew := ((Fr.refl _ _).alloc _).drew
  have h2 := h1.fr hFn
  have ho := h2.out
  rw [hov] at ho
  have HRW := Lib.hid ho
  have HZ := Lib.hid (froz_of h2.box 16)
  have H2 := Lib.hid h2
  have HF2 := Lib.hid (hF.trans hFn (by simp))
  have HOV := Lib.hid hov
  have hcn : Hid (∀ j u, m.cells[j]? = some u → (W.alloc (.cells #[.int .i64 (-1), .int .i64 m.kd, .int .i64 m.fr, .int .i64 m.ix, .int .i64 m.vw, .int .i64 m.vl, .int .i64 m.pr, .int .i64 0, .int .i64 0, .int .i64 0, .int .i64 0, .int .i64 0, .int .i64 0, .slice none 0 0] 48)).drew.cell? ((⟨W.heap.size, 0, none⟩ : Addr).add j) = some u) := by
    intro j u hu
    have hn := heap_alloc_new W (.cells #[.int .i64 (-1), .int .i64 m.kd, .int .i64 m.fr, .int .i64 m.ix, .int .i64 m.vw, .int .i64 m.vl, .int .i64 m.pr, .int .i64 0, .int .i64 0, .int .i64 0, .int .i64 0, .int .i64 0, .int .i64 0, .slice none 0 0] 48)
    have e : (⟨W.heap.size, 0, none⟩ : Addr).add j = ⟨W.heap.size, j, none⟩ := by unfold Addr.add; split <;> simp_all
    rw [e]
    have := cell_of (p := W.heap.size) hn j
    refine Eq.trans (show _ = _ from this) ?_
    unfold Am.cells at hu
    rw [hm] at hu
    simpa using hu
  have h63 : c.out.length + 1 ≤ maxLen := by unfold maxLen; omega
  have hbb : (c.out.length + 1) * 128 ≤ 140737488355328 := by omega
  have hsz : w.heap.size ≤ (W.alloc (.cells #[.int .i64 (-1), .int .i64 m.kd, .int .i64 m.fr, .int .i64 m.ix, .int .i64 m.vw, .int .i64 m.vl, .int .i64 m.pr, .int .i64 0, .int .i64 0, .int .i64 0, .int .i64 0, .int .i64 0, .int .i64 0, .slice none 0 0] 48)).drew.heap.size := (hF.trans hFn (by simp)).size
  have hca : (W.alloc (.cells #[.int .i64 (-1), .int .i64 m.kd, .int .i64 m.fr, .int .i64 m.ix, .int .i64 m.vw, .int .i64 m.vl, .int .i64 m.pr, .int .i64 0, .int .i64 0, .int .i64 0, .int .i64 0, .int .i64 0, .int .i64 0, .slice none 0 0] 48)).drew.cell? ⟨p, 16, none⟩ = some (.slice Ao c.out.length co) := cellF hFn c16
  obtain ⟨N, hN⟩ : ∃ N, c.out.length = N := ⟨_, rfl⟩
  rw [hN] at hca c16 h63 hbb HRW HOV
  refine calls_k fun R hR => ?_
  clear h h1 h2 ho hov hbl hF hFn hl
  go_enter Tryz.func45, Tryz.ntmps45
  go_upto_region 1 with (fail)
  rw [← hW, ← hg]
  clear hW hg
  go_region_law (first
    | (refine st_appendS rfl (.tmp 8) (.tmp 11) 40 48 rfl Tryz.underlying40 infoA rfl (by decide) HRW.out (by simp [Act.eval, Act.put]) ⟨W.heap.size, 0, none⟩ 1 1 m.cells (by simp [Act.eval, Act.put]) rfl hcn.out (cells_one m) h63 hbb ?_; intro A6 c6 w6 hr6 hF6 hN6
       have hc6 : CoIn X (w6.setCell ⟨p, 16, none⟩ (.slice A6 (N + 1) c6)) p (c.send m) { a with ov := .slice A6 (N + 1) c6 } := H2.out.sent (fun k hk => by have := hX k hk; omega) m (by rw [HOV.out]; exact hF6) (by rw [flatA_add, List.length_append, hN]; simpa [flatA] using hr6) (by rw [HOV.out]; exact hN6)
       have hp6 : FrX X w (w6.setCell ⟨p, 16, none⟩ (.slice A6 (N + 1) c6)) := (FrX.of0 HF2.out).trans ⟨p :: (Value.slice Ao N co).ownBlock.toList, (hF6.mono (fun x hx => .inl (List.mem_cons_of_mem _ hx))).setCell (.inl (by simp)) _, fun k hk => by
         rcases List.mem_cons.1 hk with rfl | hk
         · exact H2.out.pX
         · exact H2.out.nX k (by unfold Pl.own; rw [HOV.out]; simp only [List.mem_cons, List.mem_append]; exact .inr (.inr (.inr (.inr (.inr (.inr (.inr (.inr hk)))))))) ⟩
       have hb6 : w6.heap[p]? = some (.cells (coreV c a) 78 (0, 0)) := (hF6.block p (H2.out.lt p (by simp [Pl.own])) (fun hm => row_ne_obj HRW.out H2.out.box (by decide) hm)).trans H2.out.box
       have hz6 := froz_of hb6 16
       have hd6 : w6.cell? ⟨p, 16, none⟩ = some a.ov := cell_of hb6 16
       have HC6 := Lib.hid hc6
       have HP6 := Lib.hid hp6
       clear hr6 hF6 hN6 hc6 hp6 hb6))
  all_goals
    go_wp2
    go_end0
    exact hR.out _ _ ⟨rfl, _, HC6.out, HP6.out⟩
end
end Go.Np.Tryz
end
section
set_option linter.unusedVariables false
set_option linter.unusedSimpArgs false
namespace Go.Np.Tryz
open Go.RowKit Go.Proofs Go.Proofs.YtgfiglcmhlbjjaaGreat.PX Go.Proofs.YtgfiglcmhlbjjaaGreatW.PrintWords
def putL (w : World) (g : Nat) : Nat → List Value → World
  | _, [] => w
  | i, u :: l => putL (w.setCell ⟨g, i, none⟩ u) g (i + 1) l
def setL (cs : Array Value) : Nat → List Value → Array Value
  | _, [] => cs
  | i, u :: l => setL (cs.setIfInBounds i u) (i + 1) l
theorem putL_heap {t : TypeId} (g : Nat) : ∀ (l : List Value) (w : World) (i : Nat) (cs : Array Value), w.heap[g]? = some (.cells cs t (0, 0)) → (putL w g i l).heap[g]? = some (.cells (setL cs i l) t (0, 0)) := by
  intro l
  induction l with
  | nil => intro w i cs h; exact h
  | cons u l ih => intro w i cs h; exact ih _ _ _ (obj_set h i u)
theorem putL_fr {S : List Nat} {w0 : World} (g : Nat) : ∀ (l : List Value) (w : World) (i : Nat), Fr S w0 w → (g ∈ S ∨ w0.heap.size ≤ g) → Fr S w0 (putL w g i l) := by
  intro l
  induction l with
  | nil => intro w i h _; exact h
  | cons u l ih => intro w i h hg; exact ih _ _ (h.setCell hg u) hg
theorem setL_msg (x0 x1 x2 x3 x4 x5 x6 x7 x8 x9 x10 x11 x12 u0 u1 u2 u3 u4 u5 u6 u7 u8 u9 u10 u11 u12 : Value) : setL #[x0, x1, x2, x3, x4, x5, x6, x7, x8, x9, x10, x11, x12] 0 [u0, u1, u2, u3, u4, u5, u6, u7, u8, u9, u10, u11, u12] = #[u0, u1, u2, u3, u4, u5, u6, u7, u8, u9, u10, u11, u12] := by
  simp only [setL, List.setIfInBounds_toArray, List.set_cons_zero, List.set_cons_succ]
theorem putL_msg {t : TypeId} {g : Nat} {w : World} {x0 x1 x2 x3 x4 x5 x6 x7 x8 x9 x10 x11 x12 : Value} (u0 u1 u2 u3 u4 u5 u6 u7 u8 u9 u10 u11 u12 : Value) (h : w.heap[g]? = some (.cells #[x0, x1, x2, x3, x4, x5, x6, x7, x8, x9, x10, x11, x12] t (0, 0))) : (putL w g 0 [u0, u1, u2, u3, u4, u5, u6, u7, u8, u9, u10, u11, u12]).heap[g]? = some (.cells #[u0, u1, u2, u3, u4, u5, u6, u7, u8, u9, u10, u11, u12] t (0, 0)) := by
  rw [← setL_msg x0 x1 x2 x3 x4 x5 x6 x7 x8 x9 x10 x11 x12 u0 u1 u2 u3 u4 u5 u6 u7 u8 u9 u10 u11 u12]
  exact putL_heap g _ w 0 _ h
theorem fr_sc {w0 w : World} {g i : Nat} {u : Value} (h : Fr [] w0 w) (hg : w0.heap.size ≤ g) : Fr [] w0 (w.setCell ⟨g, i, none⟩ u) := h.setCell (.inr hg) u
section
variable {X : Nat → Prop} {w w' w1 : World} {p : Nat} {c c' : Co} {a a' : Pl}
set_option maxHeartbeats 4000000 in
set_option maxRecDepth 100000 in
theorem c_vote (h : CoIn X w p c a) (k x : Int) : Calls Tryz.prog 55 #[.pointer (some ⟨p, 0, none⟩), .int .i64 k, .int .i64 x] w fun e w' => e = .returned (c.voteM k x).msg ∧ Fr [] w w' := by
  obtain ⟨W, hW⟩ : ∃ W, W = w.alloc (.cells #[.int .i64 0, .int .i64 0, .int .i64 0, .int .i64 0, .int .i64 0, .int .i64 0, .int .i64 0, .int .i64 0, .int .i64 0, .int .i64 0, .int .i64 0, .int .i64 0, .slice none 0 0] 32) := ⟨_, rfl⟩
  obtain ⟨g, hg⟩ : ∃ g, g = w.heap.size := ⟨_, rfl⟩
  have hF : Fr [] w W := by rw [hW]; exact (Fr.refl _ _).alloc _
  have hbl : W.heap[g]? = some (.cells #[.int .i64 0, .int .i64 0, .int .i64 0, .int .i64 0, .int .i64 0, .int .i64 0, .int .i64 0, .int .i64 0, .int .i64 0, .int .i64 0, .int .i64 0, .int .i64 0, .slice none 0 0] 32 (0, 0)) := by rw [hW, hg]; exact heap_alloc_new _ _
  have h1 := h.fr hF
  have HFW := Lib.hid hF
  have HS : Hid (∀ W', Fr [] w W' → W'.cell? ⟨p, 0, none⟩ = some (.int .i64 c.me) ∧ W'.cell? ⟨p, 5, none⟩ = some (.int .i64 c.view)) := fun W' hW => ⟨(h.fr hW).cells 0, (h.fr hW).cells 5⟩
  have HI := Lib.hid (fun W' (hW : Fr [] w W') => c_index (h.fr hW))
  have HB := Lib.hid hbl
  have hF0 : Fr [] w W.drew := hF.drew
  have hS0 := HS.out _ hF0
  have hge : w.heap.size ≤ g := Nat.le_of_eq hg.symm
  have HF0 := Lib.hid hF0
  have z0 : W.cell? ⟨g, 0, none⟩ = some (.int .i64 0) := cell_of hbl 0
  have z1 : W.cell? ⟨g, 1, none⟩ = some (.int .i64 0) := cell_of hbl 1
  have z2 : W.cell? ⟨g, 2, none⟩ = some (.int .i64 0) := cell_of hbl 2
  have z3 : W.cell? ⟨g, 3, none⟩ = some (.int .i64 0) := cell_of hbl 3
  have z4 : W.cell? ⟨g, 4, none⟩ = some (.int .i64 0) := cell_of hbl 4
  have z5 : W.cell? ⟨g, 5, none⟩ = some (.int .i64 0) := cell_of hbl 5
  have z6 : W.cell? ⟨g, 6, none⟩ = some (.int .i64 0) := cell_of hbl 6
  have z7 : W.cell? ⟨g, 7, none⟩ = some (.int .i64 0) := cell_of hbl 7
  have z8 : W.cell? ⟨g, 8, none⟩ = some (.int .i64 0) := cell_of hbl 8
  have z9 : W.cell? ⟨g, 9, none⟩ = some (.int .i64 0) := cell_of hbl 9
  have z10 : W.cell? ⟨g, 10, none⟩ = some (.int .i64 0) := cell_of hbl 10
  have z11 : W.cell? ⟨g, 11, none⟩ = some (.int .i64 0) := cell_of hbl 11
  have z12 : W.cell? ⟨g, 12, none⟩ = some (.slice none 0 0) := cell_of hbl 12
  have y0 := froz_of hbl 0
  have y1 := froz_of hbl 1
  have y2 := froz_of hbl 2
  have y3 := froz_of hbl 3
  have y4 := froz_of hbl 4
  have y5 := froz_of hbl 5
  have y6 := froz_of hbl 6
  have y7 := froz_of hbl 7
  have y8 := froz_of hbl 8
  have y9 := froz_of hbl 9
  have y10 := froz_of hbl 10
  have y11 := froz_of hbl 11
  have y12 := froz_of hbl 12
  refine calls_k fun R hR => ?_
  clear h h1 hbl hF
  go_enter Tryz.func55, Tryz.ntmps55
  go_upto_region 1 with (fail)
  rw [← hW, ← hg]
  clear hW hg
  go_region_held3 (fun W => W.cell? ⟨p, 0, none⟩ = some (.int .i64 c.me) ∧ W.cell? ⟨p, 5, none⟩ = some (.int .i64 c.view)) (first | (with_reducible assumption) | (refine HS.out _ ?_; (try with_reducible refine Fr.drew ?_); (repeat with_reducible refine fr_sc ?_ hge); with_reducible first | exact HFW.out | exact hF0))
    (first
      | (go_at_call 18; refine (HI.out _ hF0).mono ?_; rintro e y ⟨rfl, rfl⟩))
  all_goals
    obtain ⟨Wp, hWp⟩ : ∃ Wp, Wp = putL W g 0 [.int .i64 k, .int .i64 c.me, .int .i64 c.idx, .int .i64 c.view, .int .i64 x, .int .i64 0, .int .i64 0, .int .i64 0, .int .i64 0, .int .i64 0, .int .i64 0, .int .i64 0, .slice none 0 0] := ⟨_, rfl⟩
    have hFp : Fr [] w Wp := by rw [hWp]; exact putL_fr g _ W 0 HFW.out (.inr hge)
    have hbp : Wp.heap[g]? = some (.cells #[.int .i64 k, .int .i64 c.me, .int .i64 c.idx, .int .i64 c.view, .int .i64 x, .int .i64 0, .int .i64 0, .int .i64 0, .int .i64 0, .int .i64 0, .int .i64 0, .int .i64 0, .slice none 0 0] 32 (0, 0)) := by rw [hWp]; exact putL_msg _ _ _ _ _ _ _ _ _ _ _ _ _ HB.out
    simp only [putL] at hWp
    rw [← hWp]
    clear hWp z0 z1 z2 z3 z4 z5 z6 z7 z8 z9 z10 z11 z12 y0 y1 y2 y3 y4 y5 y6 y7 y8 y9 y10 y11 y12
    have hF2 : Fr [] w Wp.drew := hFp.drew
    have hb2 : Wp.drew.heap[g]? = some (.cells #[.int .i64 k, .int .i64 c.me, .int .i64 c.idx, .int .i64 c.view, .int .i64 x, .int .i64 0, .int .i64 0, .int .i64 0, .int .i64 0, .int .i64 0, .int .i64 0, .int .i64 0, .slice none 0 0] 32 (0, 0)) := hbp
    go_wp2
    refine bodyPost_ret (results_cell_row rfl _ _ g 32 _ (0, 0) _ rfl hb2 Tryz.underlying32 rfl (by kernel_rfl)) rfl ?_
    exact hR.out _ _ ⟨rfl, hF2⟩
end
end Go.Np.Tryz
end
section
set_option linter.unusedVariables false
set_option linter.unusedSimpArgs false
namespace Go.Np.Tryz
open Go.RowKit Go.Proofs Go.Proofs.YtgfiglcmhlbjjaaGreat.PX Go.Proofs.YtgfiglcmhlbjjaaGreatW.PrintWords
section
variable {X : Nat → Prop} {w w' w1 : World} {p : Nat} {c c' : Co} {a a' : Pl}
theorem add_fresh (h : CoIn X w p c a) (hok : c.Ok) (hl : c.m.length < 999999) (k v f x : Int) (hwf : wf64 k ∧ wf64 v ∧ wf64 f) :
    Calls Tryz.prog 36 #[.pointer (some ⟨a.pt, 0, none⟩), .int .i64 k, .int .i64 v, .int .i64 f, .int .i64 x] w fun e w' => e = .returned (.bool (addR c.st.length c.m ⟨k, v, f, x⟩)) ∧ CoIn X w' p { c with m := stepR c.st.length c.m ⟨k, v, f, x⟩ } a ∧ FrX X w w' := by
  refine (zAdd (h.tz hok.st (by omega)) hl k v f x hwf).mono ?_
  rintro e w' ⟨rfl, h1, h2⟩
  exact ⟨rfl, h.voted h2 h1, h.frOf h.own1.2.1 h2⟩
set_option maxHeartbeats 4000000 in
set_option maxRecDepth 100000 in
theorem c_cast (h : CoIn X w p c a) (hX : ∀ k, X k → k < w.heap.size) (hok : c.Ok) (hl : c.m.length < 999999) (ho : c.out.length ≤ 100000000) (k x : Int) (hk : k = 4 ∨ k = 5) :
    Calls Tryz.prog 47 #[.pointer (some ⟨p, 0, none⟩), .int .i64 k, .int .i64 x] w fun e w' => e = .returned (.tuple #[]) ∧ (∃ ov, CoIn X w' p (c.cast k x) { a with ov := ov }) ∧ FrX X w w' := by
  have hwk : wf64 k := by rcases hk with rfl | rfl <;> decide
  have hwv : wf64 c.view := wfI (by have := hok.view; omega) (by have := hok.view; omega)
  have hwm : wf64 c.me := wfI (by have := hok.me; omega) (by have := hok.me; have := hok.st.2.1; omega)
  have HA := Lib.hid (fun W (hW : Fr [] w W) => add_fresh (h.fr hW) hok hl k c.view c.me x ⟨hwk, hwv, hwm⟩)
  have HS : Hid (∀ W, Fr [] w W → W.cell? ⟨p, 9, none⟩ = some (.pointer (some ⟨a.pt, 0, none⟩)) ∧ W.cell? ⟨p, 5, none⟩ = some (.int .i64 c.view) ∧ W.cell? ⟨p, 0, none⟩ = some (.int .i64 c.me)) := fun W hW => ⟨(h.fr hW).cells 9, (h.fr hW).cells 5, (h.fr hW).cells 0⟩
  have HF0 : Hid (Fr [] w w.drew) := (Fr.refl _ _).drew
  have hS0 := HS.out _ HF0.out
  have H := Lib.hid h
  have HX := Lib.hid hX
  have HO := Lib.hid ho
  refine calls_k fun R hR => ?_
  clear h hX ho hwk hwv hwm
  by_cases hadd : addR c.st.length c.m ⟨k, c.view, c.me, x⟩ = true
  · rw [hadd] at HA
    have hcast : c.cast k x = ({ c with m := stepR c.st.length c.m ⟨k, c.view, c.me, x⟩ } : Co).send (c.voteM k x) := by
      unfold Co.cast stepR; rw [if_pos hadd, if_pos hadd]
    have HC := Lib.hid hcast
    clear hcast hadd
    go_enter Tryz.func47, Tryz.ntmps47
    go_upto_region 0 with (fail)
    go_region_held3 (fun W => W.cell? ⟨p, 9, none⟩ = some (.pointer (some ⟨a.pt, 0, none⟩)) ∧ W.cell? ⟨p, 5, none⟩ = some (.int .i64 c.view) ∧ W.cell? ⟨p, 0, none⟩ = some (.int .i64 c.me)) (with_reducible assumption)
      (first
        | (go_at_call 36; refine (HA.out _ HF0.out).mono ?_; rintro e w2 ⟨rfl, h2, hf2⟩
           have hS2 : w2.cell? ⟨p, 9, none⟩ = some (.pointer (some ⟨a.pt, 0, none⟩)) ∧ w2.cell? ⟨p, 5, none⟩ = some (.int .i64 c.view) ∧ w2.cell? ⟨p, 0, none⟩ = some (.int .i64 c.me) := ⟨h2.cells 9, h2.cells 5, h2.cells 0⟩
           have H2 := Lib.hid h2
           have HF2 := Lib.hid ((FrX.of0 HF0.out).trans hf2)
           have HVO := Lib.hid (c_vote h2 k x)
           clear h2 hf2 HA))
    all_goals
      go_wp2_with (first
        | (go_at_call 55; refine HVO.out.mono ?_; rintro e w3 ⟨rfl, hf3⟩
           have h3 := H2.out.fr hf3
           have HF3 := Lib.hid (HF2.out.trans (FrX.of0 hf3))
           have HSE := Lib.hid (c_send h3 (fun k hk => by have := HX.out k hk; have := HF3.out.size; omega) (c.voteM k x) rfl HO.out)
           clear h3 hf3 HVO)
        | (go_at_call 45; refine HSE.out.mono ?_; rintro e w4 ⟨rfl, ov, h4, hf4⟩
           have H4 := Lib.hid h4
           have HF4 := Lib.hid (HF3.out.trans hf4)
           clear h4 hf4 HSE))
      go_end0
      refine hR.out _ _ ⟨rfl, ⟨ov, ?_⟩, HF4.out⟩
      rw [HC.out]
      exact H4.out
  · have hadd' : addR c.st.length c.m ⟨k, c.view, c.me, x⟩ = false := by simpa using hadd
    rw [hadd'] at HA
    have hcast : c.cast k x = c := by unfold Co.cast; rw [if_neg hadd]
    have hst : stepR c.st.length c.m ⟨k, c.view, c.me, x⟩ = c.m := by unfold stepR; rw [if_neg hadd]
    rw [hst] at HA
    have HC := Lib.hid hcast
    clear hcast hadd hadd' hst
    go_enter Tryz.func47, Tryz.ntmps47
    go_upto_region 0 with (fail)
    go_region_held3 (fun W => W.cell? ⟨p, 9, none⟩ = some (.pointer (some ⟨a.pt, 0, none⟩)) ∧ W.cell? ⟨p, 5, none⟩ = some (.int .i64 c.view) ∧ W.cell? ⟨p, 0, none⟩ = some (.int .i64 c.me)) (with_reducible assumption)
      (first
        | (go_at_call 36; refine (HA.out _ HF0.out).mono ?_; rintro e w2 ⟨rfl, h2, hf2⟩
           have hS2 : w2.cell? ⟨p, 9, none⟩ = some (.pointer (some ⟨a.pt, 0, none⟩)) ∧ w2.cell? ⟨p, 5, none⟩ = some (.int .i64 c.view) ∧ w2.cell? ⟨p, 0, none⟩ = some (.int .i64 c.me) := ⟨h2.cells 9, h2.cells 5, h2.cells 0⟩
           have H2 := Lib.hid h2
           have HF2 := Lib.hid ((FrX.of0 HF0.out).trans hf2)
           clear h2 hf2 HA))
    all_goals
      go_wp2
      go_end0
      refine hR.out _ _ ⟨rfl, ⟨a.ov, ?_⟩, HF2.out⟩
      rw [HC.out]
      exact H2.out
end
end Go.Np.Tryz
end
