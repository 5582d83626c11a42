/- Small laws on what a printed function comes to. -/
import Derived.Test.YtjpdhgajpldjbaaWWords
import Derived.Test.YtjpdhgajpldjbaaWMore
set_option linter.unusedVariables false
set_option linter.unusedSimpArgs false
namespace Go.Np
open Go.RowKit Go.Proofs Go.Proofs.YtjpdhgajpldjbaaW.PrintWords
theorem Ev.ite {α : Type} {c : Prop} [Decidable c] {g f : Nat → Option α} {r : α} (h : c → Ev g r) (k : ¬ c → Ev f r) : Ev (fun n => if c then g n else f n) r := by
  by_cases hc : c
  · simpa [hc] using h hc
  · simpa [hc] using k hc
theorem Ev.c {α : Type} {o : Option α} {r : α} (h : o = some r) : Ev (fun _ => o) r := ⟨0, fun _ _ => h⟩
theorem Ev.obind {α β : Type} {o : Option α} {f : Nat → α → Option β} {a : α} {r : β} (h : o = some a) (k : Ev (fun n => f n a) r) : Ev (fun n => o.bind (f n)) r := Ev.bind (Ev.c h) k
theorem rd_nat (l : List Int) (i : Nat) (h : i < l.length) : rd l i = l[i] := by
  simp [rd, List.getD_eq_getElem?_getD, List.getElem?_eq_getElem h]
theorem w64 (x : Int) (h0 : -9223372036854775808 ≤ x) (h1 : x ≤ 9223372036854775807) : wrap64 x = x := by unfold wrap64; omega
end Go.Np
