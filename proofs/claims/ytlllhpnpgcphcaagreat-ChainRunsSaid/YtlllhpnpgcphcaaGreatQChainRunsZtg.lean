/- What ChainRuns needs. -/
import Derived.Test.YtlllhpnpgcphcaaGreatQChainRunsZtf
import Derived.Test.YtlllhpnpgcphcaaGreatQChainRunsChRf
import Derived.Deep.RegionHeld3
set_option linter.unusedVariables false
set_option linter.unusedSimpArgs false
namespace Go.Np.Tryz
open Go.RowKit Go.Proofs Go.ChangeShapes Go.WideShapes Go.Proofs.YtlllhpnpgcphcaaGreat.PX Go.Proofs.YtlllhpnpgcphcaaGreatW.PrintWords
set_option maxRecDepth 100000 in
theorem open_act2 {H : Type} {enc : TypeId × Value → H} {W : World} {base : Nat} {sp : Nat → Bool} {held : Bool} {n : Nat} {cs : List Value} {x : DataW H × List MemPlace} (hl : cs.length = 8)
    (h : DataW.trod enc Tryz.prog W base sp held n 37 cs = some x) : ∃ a : Ac, cs = a.cells ∧ a.Fine W ∧ (a.blk.f4.length = 0 ∨ ∃ m ∈ x.1.weights Tryz.prog 37, a.blk.f4.length * 16 ≤ m) ∧ (a.txs.length = 0 ∨ ∃ m ∈ x.1.weights Tryz.prog 37, a.txs.length * 16 ≤ m) := by
  obtain ⟨xs, m, _, hxx, _, hxl, hf⟩ := DataW.trod_struct Tryz.underlying37 h
  have hc : Tryz.prog.cellsOf 3 = 1 := by kernel_rfl
  have hc2 : Tryz.prog.cellsOf 33 = 1 := by kernel_rfl
  have hc3 : Tryz.prog.cellsOf 35 = 5 := by kernel_rfl
  match cs, hl with
  | [v0, v1, v2, v3, v4, v5, v6, v7], _ =>
    match xs, hxl with
    | [y0, y1, y2, y3], _ =>
      have h0 := hf 0 _ rfl
      have h1 := hf 1 _ rfl
      have h2 := hf 2 _ rfl
      have h3 := hf 3 _ rfl
      simp [hc, hc2, hc3] at h0 h1 h2 h3
      obtain ⟨k, ek, _, _⟩ := DataW.trod_int Tryz.underlying3 h0
      obtain ⟨z, ez, _, _⟩ := DataW.trod_int Tryz.underlying3 h1
      obtain ⟨q, hq, hrg, hsz⟩ := open_cellsR rfl h2
      obtain ⟨A4, c4, hcs, hl4, hC4⟩ := k35_open hq
      obtain ⟨At, ct, l, e7, hlt, hCt, htz⟩ := open_txs h3
      simp at ek ez hcs
      obtain ⟨e2, e3, e4, e5, e6⟩ := hcs
      subst ek ez e2 e3 e4 e5 e6 e7
      refine ⟨⟨k, z, q, l, A4, c4, At, ct⟩, rfl, ⟨hl4, hC4, hlt, hCt, hrg⟩, hsz.imp id (fun ⟨m', h1, h2⟩ => ⟨m', ?_, h2⟩), htz.imp id (fun ⟨m', h1, h2⟩ => ⟨m', ?_, h2⟩)⟩
      all_goals
        rw [hxx]
        simp only [DataW.weights, Tryz.underlying37, List.map_cons, List.map_nil, DataW.weightsEach, List.mem_append]
        simp [h1]
def ActsR2 (W : World) (v : Value) (l : List Ac) : Prop := ActsR W v l ∧ ∀ a ∈ l, a.txs.length ≤ 8796093022208
set_option maxRecDepth 100000 in
theorem open_acts2 {H : Type} {enc : TypeId × Value → H} {W : World} {base b0 : Nat} {sp : Nat → Bool} {held : Bool} {v : Value} {d : DataW H} {ps : List MemPlace} {ts : List TypeId} {ds : List (DataW H)} {j : Nat}
    (hs : (DataW.weightsEach Tryz.prog ts ds).all (· ≤ reachBytes) = true) (ht : ts[j]? = some 23) (hd : ds[j]? = some d)
    (hv : Value.okWide Tryz.prog W .any b0 23 v) (h : DataW.Trod enc Tryz.prog W base sp held 23 v d ps) : ∃ l : List Ac, ActsR2 W v l := by
  have hall : ∀ n ∈ d.weights Tryz.prog 23, n ≤ reachBytes := fun n hn => by
    have := List.all_eq_true.1 hs _ (DataW.weights_mem_each ht hd n hn)
    simpa using this
  obtain ⟨a, n, c, rfl⟩ := okWide_slice Tryz.underlying23 hv
  obtain ⟨fuel, hf⟩ := h
  rcases Go.Deep.open_slice Tryz.underlying23 hf with ⟨hcs, _⟩ | ⟨ad, len, cap, m, k, D, Pl, hcs, _, hlc, hcm, hm, hxx, hx⟩
  · simp [Value.cells] at hcs
    obtain ⟨rfl, rfl, rfl⟩ := hcs
    exact ⟨[], ⟨none, 0, rfl, Nat.zero_le _, fun j a h => by simp at h⟩, fun a h => by cases h⟩
  · simp [Value.cells] at hcs
    obtain ⟨rfl, rfl, rfl⟩ := hcs
    have hlm : n ≤ m := by rw [hm]; split <;> omega
    have hdd : d = .slice ((List.range n).map D) ((List.range (m - n)).map fun j => D (n + j)) := congrArg Prod.fst hxx
    have each : ∀ j, j < n → ∃ a : Ac, a.Fine W ∧ a.blk.f4.length ≤ 8796093022208 ∧ a.txs.length ≤ 8796093022208 ∧ ∀ (i : Nat) (u : Value), a.cells[i]? = some u → W.cell? (ad.add (j * 8 + i)) = some u := fun j hj => by
      obtain ⟨cs', h1, h2⟩ := hx j (by omega)
      rw [cells_act] at h1
      obtain ⟨_, hlen, hcell⟩ := World.cells?_some h1
      obtain ⟨a, hcs, hfine, hsz, htz⟩ := open_act2 hlen h2
      refine ⟨a, hfine, ?_, ?_, fun i u hu => ?_⟩
      · rcases hsz with h0 | ⟨mm, hm1, hm2⟩
        · omega
        · have := hall mm (by
            rw [hdd]
            simp only [DataW.weights, Tryz.underlying23]
            refine List.mem_cons_of_mem _ (List.mem_append_left _ (weights_all (d := D j) (List.mem_map.2 ⟨j, by simpa using hj, rfl⟩) hm1)))
          unfold reachBytes at this
          omega
      · rcases htz with h0 | ⟨mm, hm1, hm2⟩
        · omega
        · have := hall mm (by
            rw [hdd]
            simp only [DataW.weights, Tryz.underlying23]
            refine List.mem_cons_of_mem _ (List.mem_append_left _ (weights_all (d := D j) (List.mem_map.2 ⟨j, by simpa using hj, rfl⟩) hm1)))
          unfold reachBytes at this
          omega
      · have hi : i < 8 := by have := (List.getElem?_eq_some_iff.1 hu).1; simpa [Ac.cells] using this
        have := hcell i (by omega)
        rw [Go.Deep.add_add] at this
        rw [hcs] at this
        exact this.trans hu
    have hq : ∃ f : Nat → Ac, ∀ j, j < n → (f j).Fine W ∧ (f j).blk.f4.length ≤ 8796093022208 ∧ (f j).txs.length ≤ 8796093022208 ∧ ∀ (i : Nat) (u : Value), (f j).cells[i]? = some u → W.cell? (ad.add (j * 8 + i)) = some u :=
      ⟨fun j => if h : j < n then Classical.choose (each j h) else ⟨0, 0, z35, [], none, 0, none, 0⟩, fun j hj => by simp only [dif_pos hj]; exact Classical.choose_spec (each j hj)⟩
    obtain ⟨f, hf2⟩ := hq
    have hln : ((List.range n).map f).length = n := by simp
    refine ⟨(List.range n).map f, ⟨some ad, c, by rw [hln], by rw [hln]; omega, fun j a ha => ?_⟩, fun a ha => ?_⟩
    · have hj : j < n := by simpa using (List.getElem?_eq_some_iff.1 ha).1
      have haf : a = f j := by simpa [hj] using ha.symm
      subst haf
      obtain ⟨h1, h2, _, h3⟩ := hf2 j hj
      exact ⟨h1, h2, ad, rfl, h3⟩
    · obtain ⟨j, hj, rfl⟩ := List.mem_map.1 ha
      exact (hf2 j (by simpa using hj)).2.2.1
section
variable {ops : Array Oper} {o : Oper} {a : Act} {Q : Exit → Act → World → Prop} {Kc : Act → World → Prop}
theorem wp_copyT_step {w0 W : World} {g : Nat} (hw : Region.wanted o (yielded ops a.tmps) = true) (s x : Operand)
    (ho : o.op = .call { callee := .builtin .append, args := #[s, x], argTypes := #[33, 33] })
    {l : List S67} {A : Option Addr} {c : Nat} (hs : a.eval s = .slice (some ⟨g, 0, none⟩) 0 0) (hx : a.eval x = .slice A l.length c) (hF : Fr [] w0 W) (hg : w0.heap.size ≤ g) (hb : W.heap[g]? = some (.cells #[] 67 (0, 0))) (HR : k67.C w0 A l.length l) (hl : l.length ≤ 8796093022208)
    (h : ∀ A1 c1 w1, l.length ≤ c1 → k67.C w1 A1 l.length l → Fr [] w0 w1 → Fr [g] W w1 → Kc (a.put o.dst (.slice A1 l.length c1)) w1) :
    if Region.wanted o (yielded ops a.tmps) = true then Oper.wp Tryz.prog o a W Kc Q else Kc (a.put o.dst undef) W := by
  have HN : Kd.N k67 67 W 0 (fun _ => True) (.slice (some ⟨g, 0, none⟩) 0 0) [] :=
    Kd.R_N ⟨fun k hk => trivial, [], ⟨rfl, .inr ⟨g, 0, #[], rfl, Nat.zero_le _, hb, Nat.le_refl _, Nat.zero_le _, by simp, by simp⟩⟩, Reps.none _ _⟩
  refine Kd.N_append_rows_step k67 (w0 := W) 0 hw s x 33 67 _ 16 ho Tryz.underlying33 info67 rfl (by decide) (by omega) _ [] l A l.length c (fun _ => True) (fun k => k < w0.heap.size) hs hx HN (Kd.F_below (txs_F HR) hF.below)
    (fun k hk => ⟨trivial, fun he => by have h2 : k = g := (by simpa [Value.ownBlock] using he); omega⟩) (fun _ _ => trivial) (Below.refl _ _) (Nat.zero_le _) (by simp; omega) ?_
  intro v1 w1 h1 _ h3 h4
  rw [List.nil_append] at h1
  obtain ⟨A1, c1, rfl⟩ := Kd.N_slice h1
  obtain ⟨_, h5, h6⟩ := Kd.N_reads' h1
  have h7 : Fr [g] W w1 := Fr.grown (S := [g]) h3 (fun k hk => .inl (by simp [Value.ownBlock] at hk; simp [hk]))
  exact h A1 c1 w1 h5 h6 (hF.trans h7 (fun k hk => .inr (by simp at hk; omega))) h7
end
set_option maxHeartbeats 4000000 in
set_option maxRecDepth 100000 in
theorem rnext_any {w : World} (A0 A1 Ad : Option Addr) (n0 c0 n1 c1 nd cd : Nat) (deep slot s : Int) :
    Calls Tryz.prog 10 #[.agg #[.slice A0 n0 c0, .slice A1 n1 c1, .slice Ad nd cd, .int .i64 deep, .int .i64 slot], .int .i64 s] w fun e w' => e = .returned (.agg #[.slice A0 n0 c0, .slice A1 n1 c1, .slice Ad nd cd, .int .i64 deep, .int .i64 (max slot s)]) ∧ Fr [] w w' := by
  by_cases hlt : slot < s
  · have h := rnext_calls (w := w) A0 A1 Ad n0 c0 n1 c1 nd cd deep slot s hlt
    rw [show max slot s = s from by omega]
    exact h
  · rw [show max slot s = slot from by omega]
    refine calls_k fun R hR => ?_
    have g1 : decide (slot < s) = false := decide_eq_false hlt
    clear hlt
    go_enter Tryz.func10, Tryz.ntmps10
    go_wp2
    obtain ⟨W1, hW1⟩ : ∃ W1, W1 = w.alloc (.cells #[.slice A0 n0 c0, .slice A1 n1 c1, .slice Ad nd cd, .int .i64 deep, .int .i64 slot] 32) := ⟨_, rfl⟩
    have hs : W1.heap.size = w.heap.size + 1 := by rw [hW1]; simp
    have hF : Fr [] w W1 := by rw [hW1]; exact (Fr.refl _ _).alloc _
    have hb := heap_alloc_new W1 (.cells #[.slice A0 n0 c0, .slice A1 n1 c1, .slice Ad nd cd, .int .i64 deep, .int .i64 slot] 32)
    rw [hs] at hb
    rw [← hW1]
    refine bodyPost_ret (results_c rfl _ _ (w.heap.size + 1) 32 _ (0, 0) _ rfl hb Tryz.underlying32 rfl (by kernel_rfl)) rfl ?_
    exact hR.out _ _ ⟨rfl, hF.alloc _⟩
section
variable {w W W' : World} {c g5 : Nat} {C C' : Ch} {t : Tr} {v0 v1 vd : Value} {deep slot : Int} {X Y : Nat → Prop}
theorem GCW.made (h : GCW w W c g5 C t v0 v1 vd deep slot X Y) {g n : Nat} {Z : Nat → Prop} {A : Option Addr} {l : List S67} (hF : Fr [g] W W') (hx : X g) (hg : w.heap.size ≤ g) (hne : g ≠ g5) (hy : ∀ k, Y k → k ≠ g)
    (hQ : Kd.F k67 W Z A n l) (hz : ∀ k, Z k → k < W.heap.size → X k ∧ k ≠ g5 ∧ k ≠ g) :
    ∃ X' Y' : Nat → Prop, GCW w W' c g5 C t v0 v1 vd deep slot X' Y' ∧ X' g ∧ Kd.F k67 W' Y' A n l := by
  refine ⟨X, fun k => Y k ∨ (Z k ∧ k < W.heap.size), ⟨h.ch.frX hF (fun k hk => by simp at hk; subst hk; exact .inl hx), (hF.block g5 h.box.lt (by simp; exact Ne.symm hne)).trans h.box, ?_, ?_, ?_, fun k hk => Nat.lt_of_lt_of_le (h.x k hk) hF.size, fun k hk => .inl (h.old k hk), h.g, h.fr.trans hF (fun k hk => by simp at hk; subst hk; exact .inr hg)⟩, hx, ?_⟩
  · exact VB.weak (Kd.V_step h.ks (fun k hk hl => hF.block k hl (by simp; exact hy k hk))) (fun k hk => .inl hk)
  · exact VB.weak (Kd.V_step h.wait (fun k hk hl => hF.block k hl (by simp; exact hy k hk))) (fun k hk => .inl hk)
  · rintro k (hk | hk)
    · exact h.y k hk
    · have h1 := hz k hk.1 hk.2
      exact ⟨h1.1, h1.2.1⟩
  · exact Kd.F_mono (Foot.step (Kd.F_bound hQ) (fun k hk hl => hF.block k hl (by simp; exact (hz k hk.1 hk.2).2.2))) (fun k hk => .inr hk)
end
theorem make_small (C : Ch) (me : Int) (txs : List S67) : (C.make me txs).1.f4.length ≤ 3 := by
  unfold Ch.make
  split
  · exact pick_len _ _ _ (by simp)
  · exact Nat.zero_le _
theorem make_rng {C : Ch} (hO : C.t.Ok) (me : Int) (txs : List S67) : rng (C.make me txs).1 := by
  unfold Ch.make
  split
  · exact tip_rng hO me txs
  · exact ⟨by show (-9223372036854775808 : Int) ≤ 0; decide, by show (0 : Int) ≤ 9223372036854775807; decide⟩
theorem ActIn.all {W : World} {g : Nat} {a : Ac} (h : ActIn W g a) : (W.cell? ⟨g, 0, none⟩ = some (.int .i64 a.kind) ∧ W.cell? ⟨g, 1, none⟩ = some (.int .i64 a.n)) ∧ W.cell? ⟨g, 7, none⟩ = some (.slice a.At a.txs.length a.ct) := by
  have e0 := cell_of h 0
  have e1 := cell_of h 1
  have e7 := cell_of h 7
  simp at e0 e1 e7
  exact ⟨⟨e0, e1⟩, e7⟩
end Go.Np.Tryz
