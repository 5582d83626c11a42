/- What CheckTold needs. -/
import Derived.Test.YtgfiglcmhlbjjaaGreatQCheckToldClone
import Derived.RangeFuncBox
import Derived.RangeFuncLeaves
import Derived.Shelf.Abstract
import Derived.WalkKit
import Derived.OwnWalkIn
import Derived.TacticsInMore
import Derived.LoopNIn
import Derived.LoopIn
import Derived.Maps.AppendAt
import Derived.Sort.OwnSorted
import Derived.Sort.Grow
import Derived.Lib.OwnBridge
set_option linter.unusedVariables false
set_option linter.unusedSimpArgs false
namespace Go.Np.Tryz
open Go.RowKit Go.Proofs Go.Shelf
attribute [local go_sem] Oper.semAt_some
def vs_upto {α : Type} (f : Nat → α) (k : Nat) : List α := (List.range k).map f
theorem vs_upto_succ {α : Type} (f : Nat → α) (k : Nat) : vs_upto f (k + 1) = vs_upto f k ++ [f k] := by simp [vs_upto, List.range_succ]
theorem vs_upto_length {α : Type} (f : Nat → α) (k : Nat) : (vs_upto f k).length = k := by simp [vs_upto]
def VsInts (n₀ : Nat) (W : World) (sv : Value) (zs : List Int) : Prop :=
  (∃ (a : Option Addr) (cp : Nat), sv = .slice a 0 cp ∧ zs = []) ∨ ∃ b off cap, sv = .slice (some ⟨b, off, none⟩) zs.length cap ∧ b < n₀ ∧ ∀ j, j < zs.length → W.cell? ⟨b, off + j, none⟩ = some (.int .i64 (zs[j]?.getD 0))
theorem VsInts.below {n₀ : Nat} {A B : World} (h : Below n₀ A B) {sv : Value} {zs : List Int} : VsInts n₀ A sv zs → VsInts n₀ B sv zs
  | .inl e => .inl e
  | .inr ⟨b, off, cap, e, hb, hc⟩ => .inr ⟨b, off, cap, e, hb, fun j hj => (h.cell (p := ⟨b, off + j, none⟩) hb).trans (hc j hj)⟩
theorem infoZ : (Tryz.prog.info? 3).map (fun i => (i.zero, i.size, i.bytes)) = some (some (.int .i64 0), 1, 8) := by kernel_rfl
end Go.Np.Tryz
