/- A text that the row of ChainTxs needs. (Pruned by tools/prune.py.) -/
import Derived.Test.YtlllhpnpgcphcaaQChainTxsDocB
set_option linter.unusedVariables false
set_option linter.unusedSimpArgs false
namespace Go.Np.Try
open Go.RowKit Go.Proofs Go.ChangeShapes Go.WideShapes Go.Proofs.Ytlllhpnpgcphcaa.PX Go.Proofs.YtlllhpnpgcphcaaW.PrintWords
structure Ac where
  kind : Int
  n : Int
  blk : Blk
  txs : List S52
  A4 : Option Addr
  c4 : Nat
  At : Option Addr
  ct : Nat
def Ac.cells (a : Ac) : List Value := [.int .i64 a.kind, .int .i64 a.n, .int .i64 a.blk.f0, .int .i64 a.blk.f1, .int .i64 a.blk.f2, .int .i64 a.blk.f3, .slice a.A4 a.blk.f4.length a.c4, .slice a.At a.txs.length a.ct]
structure Ac.Fine (W : World) (a : Ac) : Prop where
  l4 : a.blk.f4.length ≤ a.c4
  C4 : k52.C W a.A4 a.blk.f4.length a.blk.f4
  lt : a.txs.length ≤ a.ct
  Ct : k52.C W a.At a.txs.length a.txs
  rg : rng a.blk
theorem cells_act : Try.prog.cellsOf 69 = 8 := by kernel_rfl
set_option maxRecDepth 100000 in
theorem open_act {H : Type} {enc : TypeId × Value → H} {W : World} {base : Nat} {sp : Nat → Bool} {held : Bool} {n : Nat} {cs : List Value} {x : DataW H × List MemPlace} (hl : cs.length = 8)
    (h : DataW.trod enc Try.prog W base sp held n 69 cs = some x) : ∃ a : Ac, cs = a.cells ∧ a.Fine W ∧ (a.blk.f4.length = 0 ∨ ∃ m ∈ x.1.weights Try.prog 69, a.blk.f4.length * 16 ≤ m) := by
  obtain ⟨xs, m, _, hxx, _, hxl, hf⟩ := DataW.trod_struct Try.underlying69 h
  have hc : Try.prog.cellsOf 3 = 1 := by kernel_rfl
  have hc2 : Try.prog.cellsOf 30 = 1 := by kernel_rfl
  have hc3 : Try.prog.cellsOf 32 = 5 := by kernel_rfl
  match cs, hl with
  | [v0, v1, v2, v3, v4, v5, v6, v7], _ =>
    match xs, hxl with
    | [y0, y1, y2, y3], _ =>
      have h0 := hf 0 _ rfl
      have h1 := hf 1 _ rfl
      have h2 := hf 2 _ rfl
      have h3 := hf 3 _ rfl
      simp [hc, hc2, hc3] at h0 h1 h2 h3
      obtain ⟨k, ek, _, _⟩ := DataW.trod_int Try.underlying3 h0
      obtain ⟨z, ez, _, _⟩ := DataW.trod_int Try.underlying3 h1
      obtain ⟨q, hq, hrg, hsz⟩ := open_cellsR rfl h2
      obtain ⟨A4, c4, hcs, hl4, hC4⟩ := k32_open hq
      obtain ⟨At, ct, l, e7, hlt, hCt, _⟩ := open_txs h3
      simp at ek ez hcs
      obtain ⟨e2, e3, e4, e5, e6⟩ := hcs
      subst ek ez e2 e3 e4 e5 e6 e7
      refine ⟨⟨k, z, q, l, A4, c4, At, ct⟩, rfl, ⟨hl4, hC4, hlt, hCt, hrg⟩, hsz.imp id (fun ⟨m', h1, h2⟩ => ⟨m', ?_, h2⟩)⟩
      rw [hxx]
      simp only [DataW.weights, Try.underlying69, List.map_cons, List.map_nil, DataW.weightsEach, List.mem_append]
      simp [h1]
def ActsR (W : World) (v : Value) (l : List Ac) : Prop := ∃ A c, v = .slice A l.length c ∧ l.length ≤ maxLen ∧ (∀ (j : Nat) (a : Ac), l[j]? = some a → a.Fine W ∧ a.blk.f4.length ≤ 8796093022208 ∧ ∃ ad, A = some ad ∧ ∀ (i : Nat) (u : Value), a.cells[i]? = some u → W.cell? (ad.add (j * 8 + i)) = some u)
set_option maxRecDepth 100000 in
theorem open_acts {H : Type} {enc : TypeId × Value → H} {W : World} {base b0 : Nat} {sp : Nat → Bool} {held : Bool} {v : Value} {d : DataW H} {ps : List MemPlace} {ts : List TypeId} {ds : List (DataW H)} {j : Nat}
    (hs : (DataW.weightsEach Try.prog ts ds).all (· ≤ reachBytes) = true) (ht : ts[j]? = some 66) (hd : ds[j]? = some d)
    (hv : Value.okWide Try.prog W .any b0 66 v) (h : DataW.Trod enc Try.prog W base sp held 66 v d ps) : ∃ l : List Ac, ActsR W v l := by
  have hall : ∀ n ∈ d.weights Try.prog 66, n ≤ reachBytes := fun n hn => by
    have := List.all_eq_true.1 hs _ (DataW.weights_mem_each ht hd n hn)
    simpa using this
  obtain ⟨a, n, c, rfl⟩ := okWide_slice Try.underlying66 hv
  obtain ⟨fuel, hf⟩ := h
  rcases Go.Deep.open_slice Try.underlying66 hf with ⟨hcs, _⟩ | ⟨ad, len, cap, m, k, D, Pl, hcs, _, hlc, hcm, hm, hxx, hx⟩
  · simp [Value.cells] at hcs
    obtain ⟨rfl, rfl, rfl⟩ := hcs
    exact ⟨[], none, 0, rfl, Nat.zero_le _, fun j a h => by simp at h⟩
  · simp [Value.cells] at hcs
    obtain ⟨rfl, rfl, rfl⟩ := hcs
    have hlm : n ≤ m := by rw [hm]; split <;> omega
    have hdd : d = .slice ((List.range n).map D) ((List.range (m - n)).map fun j => D (n + j)) := congrArg Prod.fst hxx
    have each : ∀ j, j < n → ∃ a : Ac, a.Fine W ∧ a.blk.f4.length ≤ 8796093022208 ∧ ∀ (i : Nat) (u : Value), a.cells[i]? = some u → W.cell? (ad.add (j * 8 + i)) = some u := fun j hj => by
      obtain ⟨cs', h1, h2⟩ := hx j (by omega)
      rw [cells_act] at h1
      obtain ⟨_, hlen, hcell⟩ := World.cells?_some h1
      obtain ⟨a, hcs, hfine, hsz⟩ := open_act hlen h2
      refine ⟨a, hfine, ?_, fun i u hu => ?_⟩
      · rcases hsz with h0 | ⟨mm, hm1, hm2⟩
        · omega
        · have := hall mm (by
            rw [hdd]
            simp only [DataW.weights, Try.underlying66]
            refine List.mem_cons_of_mem _ (List.mem_append_left _ (weights_all (d := D j) (List.mem_map.2 ⟨j, by simpa using hj, rfl⟩) hm1)))
          unfold reachBytes at this
          omega
      · have hi : i < 8 := by have := (List.getElem?_eq_some_iff.1 hu).1; simpa [Ac.cells] using this
        have := hcell i (by omega)
        rw [Go.Deep.add_add] at this
        rw [hcs] at this
        exact this.trans hu
    have hq : ∃ f : Nat → Ac, ∀ j, j < n → (f j).Fine W ∧ (f j).blk.f4.length ≤ 8796093022208 ∧ ∀ (i : Nat) (u : Value), (f j).cells[i]? = some u → W.cell? (ad.add (j * 8 + i)) = some u :=
      ⟨fun j => if h : j < n then Classical.choose (each j h) else ⟨0, 0, z32, [], none, 0, none, 0⟩, fun j hj => by simp only [dif_pos hj]; exact Classical.choose_spec (each j hj)⟩
    obtain ⟨f, hf2⟩ := hq
    have hln : ((List.range n).map f).length = n := by simp
    refine ⟨(List.range n).map f, some ad, c, by rw [hln], by rw [hln]; omega, fun j a ha => ?_⟩
    have hj : j < n := by simpa using (List.getElem?_eq_some_iff.1 ha).1
    have haf : a = f j := by simpa [hj] using ha.symm
    subst haf
    obtain ⟨h1, h2, h3⟩ := hf2 j hj
    exact ⟨h1, h2, ad, rfl, h3⟩
end Go.Np.Try
