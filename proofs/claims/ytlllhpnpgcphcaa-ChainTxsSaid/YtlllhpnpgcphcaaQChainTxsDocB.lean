/- A text that the row of ChainTxs needs. (Pruned by tools/prune.py.) -/
import Derived.Test.YtlllhpnpgcphcaaQChainTxsDocA
import Derived.Test.YtlllhpnpgcphcaaProg
import Derived.KernelRfl
import Derived.OpenShut
import Derived.WideKeyArr2
set_option linter.unusedVariables false
set_option linter.unusedSimpArgs false
set_option linter.unusedVariables false
set_option linter.unusedSimpArgs false
set_option linter.unusedVariables false
set_option linter.unusedSimpArgs false
namespace Go.Np.Try
open Go.RowKit Go.Proofs Go.ChangeShapes Go.WideShapes Go.Proofs.Ytlllhpnpgcphcaa.PX Go.Proofs.YtlllhpnpgcphcaaW.PrintWords
theorem rng_of {a b c d : Int} {l : List S52} (h : (Lit.int .i64 d).wf = true) : rng ⟨a, b, c, d, l⟩ := by
  simp [Lit.wf, IntKind.min, IntKind.max, IntKind.signed, IntKind.bits] at h
  unfold rng
  show _ ≤ d ∧ d ≤ _
  omega
theorem txs_F {w : World} {A : Option Addr} {n : Nat} {l : List S52} (h : k52.C w A n l) : Kd.F k52 w (fun k => k < w.heap.size) A n l := by
  intro W' hW
  refine ⟨h.1, h.2.1, fun hp => ?_⟩
  obtain ⟨ad, rfl, hj⟩ := h.2.2 hp
  refine ⟨ad, rfl, fun j p hjp => ?_⟩
  obtain ⟨cs, h1, h2, h3⟩ := hj j p hjp
  refine ⟨cs, h1, h2, fun i u hu => ?_⟩
  have h4 := h3 i u hu
  have hlt : (ad.add (j * k52.sz + i)).block < w.heap.size := by
    rcases Nat.lt_or_ge (ad.add (j * k52.sz + i)).block w.heap.size with h5 | h5
    · exact h5
    · simp [World.cell?, Array.getElem?_eq_none h5] at h4
  exact (World.cell?_of_block (w := w) (hW _ hlt hlt)).trans h4
set_option maxRecDepth 100000 in
theorem open_cellsR {H : Type} {enc : TypeId × Value → H} {W : World} {base : Nat} {sp : Nat → Bool} {held : Bool} {n : Nat} {cs : List Value} {x : DataW H × List MemPlace} (hl : cs.length = 5)
    (h : DataW.trod enc Try.prog W base sp held n 32 cs = some x) : ∃ q : S32, k32.K W q cs ∧ rng q ∧ (q.f4.length = 0 ∨ ∃ m ∈ x.1.weights Try.prog 32, q.f4.length * 16 ≤ m) := by
  obtain ⟨xs, m, _, hxx, _, hxl, hf⟩ := DataW.trod_struct Try.underlying32 h
  have hc : Try.prog.cellsOf 3 = 1 := by kernel_rfl
  have hc2 : Try.prog.cellsOf 30 = 1 := by kernel_rfl
  match cs, hl with
  | [v0, v1, v2, v3, v4], _ =>
    match xs, hxl with
    | [y0, y1, y2, y3, y4], _ =>
      have h0 := hf 0 _ rfl
      have h1 := hf 1 _ rfl
      have h2 := hf 2 _ rfl
      have h3 := hf 3 _ rfl
      have h4 := hf 4 _ rfl
      simp [hc, hc2] at h0 h1 h2 h3 h4
      obtain ⟨a, ea, _, wa⟩ := DataW.trod_int Try.underlying3 h0
      obtain ⟨b, eb, _, wb⟩ := DataW.trod_int Try.underlying3 h1
      obtain ⟨c, ec, _, wc⟩ := DataW.trod_int Try.underlying3 h2
      obtain ⟨d, ed, _, wd⟩ := DataW.trod_int Try.underlying3 h3
      obtain ⟨A, cp, l, e4, hl4, hC4, hsz4⟩ := open_txs h4
      simp at ea eb ec ed
      subst ea eb ec ed e4
      refine ⟨⟨a, b, c, d, l⟩, k32_mk W ⟨a, b, c, d, l⟩ hl4 hC4, rng_of wd, hsz4.imp id (fun ⟨m', h1, h2⟩ => ⟨m', ?_, h2⟩)⟩
      rw [hxx]
      simp only [DataW.weights, Try.underlying32, List.map_cons, List.map_nil, DataW.weightsEach, List.mem_append]
      simp [h1]
end Go.Np.Try
set_option linter.unusedVariables false
set_option linter.unusedSimpArgs false
set_option linter.unusedVariables false
set_option linter.unusedSimpArgs false
set_option linter.unusedVariables false
set_option linter.unusedSimpArgs false
