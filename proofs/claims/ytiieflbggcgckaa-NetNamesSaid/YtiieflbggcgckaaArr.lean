/- Arrays of two, of three ints, as arguments: opened. -/
import Derived.Test.YtiieflbggcgckaaProg
import Derived.KernelRfl
import Derived.OpenShut
import Derived.WideKeyArr2
set_option linter.unusedVariables false
set_option linter.unusedSimpArgs false
namespace Go.Np.Try
open Go.RowKit Go.Proofs Go.ChangeShapes Go.WideShapes
theorem arr_cells {P : Program} {H : Type} {enc : TypeId × Value → H} {W : World} {base b0 : Nat} {sp : Nat → Bool} {held : Bool} {t e : TypeId} {n : Nat} {v : Value} {d : DataW H} {ps : List MemPlace}
    (ht : P.underlying t = some (.array n e)) (he : P.underlying e = some (.int .i64)) (hc : P.cellsOf e = 1) (hc2 : P.cellsOf t = n)
    (hv : Value.okWide P W .any b0 t v) (h : DataW.Trod enc P W base sp held t v d ps) :
    ∃ xs : Array Value, v = .agg xs ∧ xs.size = n ∧ ∀ i, i < n → ∃ x, xs[i]? = some (.int .i64 x) ∧ (Lit.int .i64 x).wf = true := by
  simp only [Value.okWide, ht] at hv
  obtain ⟨cs, rfl, h2, _⟩ := hv
  refine ⟨cs, rfl, by rw [h2, hc2], fun i hi => ?_⟩
  obtain ⟨fuel, hf⟩ := h
  obtain ⟨xs, m, _, _, hl, hn, hg⟩ := DataW.trod_array ht hf
  have hgi := hg i hi
  rw [hc, Nat.mul_one] at hgi
  have hi' : i < xs.length := by omega
  rw [List.getElem?_eq_getElem hi'] at hgi
  obtain ⟨a, ea, _, wa⟩ := DataW.trod_int he hgi
  refine ⟨a, ?_, wa⟩
  have h0 : (((Value.agg cs).cells.toList.drop i).take 1)[0]? = some (Value.int .i64 a) := by
    first | (rw [ea]; rfl) | (rw [show (Value.agg cs).cells.toList = cs.toList from rfl, ea]; rfl)
  rw [List.getElem?_take, List.getElem?_drop] at h0
  simpa [Value.cells] using h0
theorem open_arr2 {H : Type} {enc : TypeId × Value → H} {W : World} {base b0 : Nat} {sp : Nat → Bool} {held : Bool} {v : Value} {d : DataW H} {ps : List MemPlace}
    (hv : Value.okWide Try.prog W .any b0 55 v) (h : DataW.Trod enc Try.prog W base sp held 55 v d ps) :
    ∃ x : Int × Int, v = .agg #[.int .i64 x.1, .int .i64 x.2] ∧ (Lit.int .i64 x.1).wf = true ∧ (Lit.int .i64 x.2).wf = true := by
  obtain ⟨xs, rfl, hn, hx⟩ := arr_cells Try.underlying55 Try.underlying3 (by kernel_rfl) (by kernel_rfl) hv h
  obtain ⟨a, ha, wa⟩ := hx 0 (by omega)
  obtain ⟨b, hb, wb⟩ := hx 1 (by omega)
  refine ⟨(a, b), ?_, wa, wb⟩
  congr 1
  obtain ⟨l⟩ := xs
  match l, hn, ha, hb with
  | [y0, y1], _, ha, hb => simp at ha hb; subst ha hb; rfl
theorem open_arr3 {H : Type} {enc : TypeId × Value → H} {W : World} {base b0 : Nat} {sp : Nat → Bool} {held : Bool} {v : Value} {d : DataW H} {ps : List MemPlace}
    (hv : Value.okWide Try.prog W .any b0 56 v) (h : DataW.Trod enc Try.prog W base sp held 56 v d ps) :
    ∃ x : Int × Int × Int, v = .agg #[.int .i64 x.1, .int .i64 x.2.1, .int .i64 x.2.2] ∧ (Lit.int .i64 x.1).wf = true ∧ (Lit.int .i64 x.2.1).wf = true ∧ (Lit.int .i64 x.2.2).wf = true := by
  obtain ⟨xs, rfl, hn, hx⟩ := arr_cells Try.underlying56 Try.underlying3 (by kernel_rfl) (by kernel_rfl) hv h
  obtain ⟨a, ha, wa⟩ := hx 0 (by omega)
  obtain ⟨b, hb, wb⟩ := hx 1 (by omega)
  obtain ⟨c, hc, wc⟩ := hx 2 (by omega)
  refine ⟨(a, b, c), ?_, wa, wb, wc⟩
  congr 1
  obtain ⟨l⟩ := xs
  match l, hn, ha, hb, hc with
  | [y0, y1, y2], _, ha, hb, hc => simp at ha hb hc; subst ha hb hc; rfl
end Go.Np.Try
