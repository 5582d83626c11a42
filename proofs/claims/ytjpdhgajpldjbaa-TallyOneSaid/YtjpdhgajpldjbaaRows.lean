/-
  No cell of these rows narrows 'for every input' (looked for: loops, veiled, ifaces, maps, wideKeys, modest, calm, conditions, laid).
  DERIVED. THE GIVEN ROWS OF THIS SEAT. 9 by the template 'for every input the law returns true; each argument reads behind the call as it read before'; 0 by the template 'total and deterministic' (their statements: YtjpdhgajpldjbaaTotals.lean).
  GIVEN WITH THE SEED: the statements are not yours to turn. If you find one false, say at which input.
  Laid BY PROGRAM, IN A SANDBOX (cutbox-rows.mjs): the forced cells as the released guide's own fill.sh prints them over the translation d6b9a0c8cde05ffa… (all of the seat's roots in one cut). By AI agents, Wed Nov 11 2026. No macro, syntax, notation, axiom, sorry.
-/
import Derived.Test.YtjpdhgajpldjbaaChecked
import GoSem.Claim
import GoSem.ClaimJoined
import GoSem.ClaimMapViews
import Derived.JoinedTies
import Derived.KernelRfl
namespace Go.Proofs.Ytjpdhgajpldjbaa
/- THE CELL 'sum', in the pinned program and in every row, IS THE sha256 OF THE DUMP (.gsa) THAT YtjpdhgajpldjbaaProg.lean LOADS. Nothing in Lean hashes anything: it is a label: what it is worth is what the hold of that sum in a sandbox is worth. -/
noncomputable def Try.pinned : Pinned := { name := "ytjpdhgajpldjbaa", sum := "d6b9a0c8cde05ffa310ccdb242d7ddce8461abadaec4f7ec7197409b681bf4c5", checked := Try.checked }
namespace Rows
def none {H : Type} : Left H := { results := [], args := [] }

/-- 'neaptidelaw22.WatchLists': WHATEVER THE INPUT: true; the input reads as it did. -/
def watchListsSpec : ChangeSpec := { name := "watchLists", fn := fun _ => fun
  | [d] => { results := [.lit (.bool true)], args := [d] }
  | _ => none }
def watchListsRow : OpenClaim := { program := "ytjpdhgajpldjbaa", sum := "d6b9a0c8cde05ffa310ccdb242d7ddce8461abadaec4f7ec7197409b681bf4c5", func := "neaptide/neaptidelaw22.WatchLists", spec := "watchLists", unfollowed := true, recurses := true, plainKeys := false, apart := false }
def WatchListsSaid : Prop := watchListsRow.holds Try.pinned (OpenSpec.ofChange watchListsSpec)

/-- ITS FALSE NEIGHBOUR: 'it returns false'. Refute it at one input. -/
def watchListsWrong : ChangeSpec := { name := "watchLists", fn := fun _ => fun
  | [d] => { results := [.lit (.bool false)], args := [d] }
  | _ => none }
def WatchListsWrongFalsely : Prop := watchListsRow.holds Try.pinned (OpenSpec.ofChange watchListsWrong)

/-- 'neaptidelaw22.WatchOrder': WHATEVER THE INPUT: true; the input reads as it did. -/
def watchOrderSpec : ChangeSpec := { name := "watchOrder", fn := fun _ => fun
  | [d1, d2, d3] => { results := [.lit (.bool true)], args := [d1, d2, d3] }
  | _ => none }
def watchOrderRow : OpenClaim := { program := "ytjpdhgajpldjbaa", sum := "d6b9a0c8cde05ffa310ccdb242d7ddce8461abadaec4f7ec7197409b681bf4c5", func := "neaptide/neaptidelaw22.WatchOrder", spec := "watchOrder", unfollowed := true, recurses := true, plainKeys := false, apart := false }
def WatchOrderSaid : Prop := watchOrderRow.holds Try.pinned (OpenSpec.ofChange watchOrderSpec)

/-- ITS FALSE NEIGHBOUR: 'it returns false'. Refute it at one input. -/
def watchOrderWrong : ChangeSpec := { name := "watchOrder", fn := fun _ => fun
  | [d1, d2, d3] => { results := [.lit (.bool false)], args := [d1, d2, d3] }
  | _ => none }
def WatchOrderWrongFalsely : Prop := watchOrderRow.holds Try.pinned (OpenSpec.ofChange watchOrderWrong)

/-- 'neaptidelaw22.WatchUnlikes': WHATEVER THE INPUT: true; the input reads as it did. -/
def watchUnlikesSpec : ChangeSpec := { name := "watchUnlikes", fn := fun _ => fun
  | [d] => { results := [.lit (.bool true)], args := [d] }
  | _ => none }
def watchUnlikesRow : OpenClaim := { program := "ytjpdhgajpldjbaa", sum := "d6b9a0c8cde05ffa310ccdb242d7ddce8461abadaec4f7ec7197409b681bf4c5", func := "neaptide/neaptidelaw22.WatchUnlikes", spec := "watchUnlikes", unfollowed := true, recurses := true, plainKeys := false, apart := false }
def WatchUnlikesSaid : Prop := watchUnlikesRow.holds Try.pinned (OpenSpec.ofChange watchUnlikesSpec)

/-- ITS FALSE NEIGHBOUR: 'it returns false'. Refute it at one input. -/
def watchUnlikesWrong : ChangeSpec := { name := "watchUnlikes", fn := fun _ => fun
  | [d] => { results := [.lit (.bool false)], args := [d] }
  | _ => none }
def WatchUnlikesWrongFalsely : Prop := watchUnlikesRow.holds Try.pinned (OpenSpec.ofChange watchUnlikesWrong)

/-- 'neaptidelaw13.TallyNames': WHATEVER THE INPUT: true; the input reads as it did. -/
def tallyNamesSpec : ChangeSpec := { name := "tallyNames", fn := fun _ => fun
  | [] => { results := [.lit (.bool true)], args := [] }
  | _ => none }
def tallyNamesRow : OpenClaim := { program := "ytjpdhgajpldjbaa", sum := "d6b9a0c8cde05ffa310ccdb242d7ddce8461abadaec4f7ec7197409b681bf4c5", func := "neaptide/neaptidelaw13.TallyNames", spec := "tallyNames", unfollowed := true, recurses := true, plainKeys := false, apart := false }
def TallyNamesSaid : Prop := tallyNamesRow.holds Try.pinned (OpenSpec.ofChange tallyNamesSpec)

/-- ITS FALSE NEIGHBOUR: 'it returns false'. Refute it at one input. -/
def tallyNamesWrong : ChangeSpec := { name := "tallyNames", fn := fun _ => fun
  | [] => { results := [.lit (.bool false)], args := [] }
  | _ => none }
def TallyNamesWrongFalsely : Prop := tallyNamesRow.holds Try.pinned (OpenSpec.ofChange tallyNamesWrong)

/-- 'neaptidelaw13.TallyCounts': WHATEVER THE INPUT: true; the input reads as it did. -/
def tallyCountsSpec : ChangeSpec := { name := "tallyCounts", fn := fun _ => fun
  | [d1, d2, d3] => { results := [.lit (.bool true)], args := [d1, d2, d3] }
  | _ => none }
def tallyCountsRow : OpenClaim := { program := "ytjpdhgajpldjbaa", sum := "d6b9a0c8cde05ffa310ccdb242d7ddce8461abadaec4f7ec7197409b681bf4c5", func := "neaptide/neaptidelaw13.TallyCounts", spec := "tallyCounts", unfollowed := true, recurses := true, plainKeys := false, apart := false }
def TallyCountsSaid : Prop := tallyCountsRow.holds Try.pinned (OpenSpec.ofChange tallyCountsSpec)

/-- ITS FALSE NEIGHBOUR: 'it returns false'. Refute it at one input. -/
def tallyCountsWrong : ChangeSpec := { name := "tallyCounts", fn := fun _ => fun
  | [d1, d2, d3] => { results := [.lit (.bool false)], args := [d1, d2, d3] }
  | _ => none }
def TallyCountsWrongFalsely : Prop := tallyCountsRow.holds Try.pinned (OpenSpec.ofChange tallyCountsWrong)

/-- 'neaptidelaw13.TallyTurns': WHATEVER THE INPUT: true; the input reads as it did. -/
def tallyTurnsSpec : ChangeSpec := { name := "tallyTurns", fn := fun _ => fun
  | [d1, d2, d3] => { results := [.lit (.bool true)], args := [d1, d2, d3] }
  | _ => none }
def tallyTurnsRow : OpenClaim := { program := "ytjpdhgajpldjbaa", sum := "d6b9a0c8cde05ffa310ccdb242d7ddce8461abadaec4f7ec7197409b681bf4c5", func := "neaptide/neaptidelaw13.TallyTurns", spec := "tallyTurns", unfollowed := true, recurses := true, plainKeys := false, apart := false }
def TallyTurnsSaid : Prop := tallyTurnsRow.holds Try.pinned (OpenSpec.ofChange tallyTurnsSpec)

/-- ITS FALSE NEIGHBOUR: 'it returns false'. Refute it at one input. -/
def tallyTurnsWrong : ChangeSpec := { name := "tallyTurns", fn := fun _ => fun
  | [d1, d2, d3] => { results := [.lit (.bool false)], args := [d1, d2, d3] }
  | _ => none }
def TallyTurnsWrongFalsely : Prop := tallyTurnsRow.holds Try.pinned (OpenSpec.ofChange tallyTurnsWrong)

/-- 'neaptidelaw13.TallyOne': WHATEVER THE INPUT: true; the input reads as it did. -/
def tallyOneSpec : ChangeSpec := { name := "tallyOne", fn := fun _ => fun
  | [d1, d2, d3] => { results := [.lit (.bool true)], args := [d1, d2, d3] }
  | _ => none }
def tallyOneRow : OpenClaim := { program := "ytjpdhgajpldjbaa", sum := "d6b9a0c8cde05ffa310ccdb242d7ddce8461abadaec4f7ec7197409b681bf4c5", func := "neaptide/neaptidelaw13.TallyOne", spec := "tallyOne", unfollowed := true, recurses := true, plainKeys := false, apart := false }
def TallyOneSaid : Prop := tallyOneRow.holds Try.pinned (OpenSpec.ofChange tallyOneSpec)

/-- ITS FALSE NEIGHBOUR: 'it returns false'. Refute it at one input. -/
def tallyOneWrong : ChangeSpec := { name := "tallyOne", fn := fun _ => fun
  | [d1, d2, d3] => { results := [.lit (.bool false)], args := [d1, d2, d3] }
  | _ => none }
def TallyOneWrongFalsely : Prop := tallyOneRow.holds Try.pinned (OpenSpec.ofChange tallyOneWrong)

/-- 'neaptidelaw13.TallyStays': WHATEVER THE INPUT: true; the input reads as it did. -/
def tallyStaysSpec : ChangeSpec := { name := "tallyStays", fn := fun _ => fun
  | [d1, d2, d3] => { results := [.lit (.bool true)], args := [d1, d2, d3] }
  | _ => none }
def tallyStaysRow : OpenClaim := { program := "ytjpdhgajpldjbaa", sum := "d6b9a0c8cde05ffa310ccdb242d7ddce8461abadaec4f7ec7197409b681bf4c5", func := "neaptide/neaptidelaw13.TallyStays", spec := "tallyStays", unfollowed := true, recurses := true, plainKeys := false, apart := false }
def TallyStaysSaid : Prop := tallyStaysRow.holds Try.pinned (OpenSpec.ofChange tallyStaysSpec)

/-- ITS FALSE NEIGHBOUR: 'it returns false'. Refute it at one input. -/
def tallyStaysWrong : ChangeSpec := { name := "tallyStays", fn := fun _ => fun
  | [d1, d2, d3] => { results := [.lit (.bool false)], args := [d1, d2, d3] }
  | _ => none }
def TallyStaysWrongFalsely : Prop := tallyStaysRow.holds Try.pinned (OpenSpec.ofChange tallyStaysWrong)

/-- 'neaptidelaw13.TallyFew': WHATEVER THE INPUT: true; the input reads as it did. -/
def tallyFewSpec : ChangeSpec := { name := "tallyFew", fn := fun _ => fun
  | [d1, d2, d3] => { results := [.lit (.bool true)], args := [d1, d2, d3] }
  | _ => none }
def tallyFewRow : OpenClaim := { program := "ytjpdhgajpldjbaa", sum := "d6b9a0c8cde05ffa310ccdb242d7ddce8461abadaec4f7ec7197409b681bf4c5", func := "neaptide/neaptidelaw13.TallyFew", spec := "tallyFew", unfollowed := true, recurses := true, plainKeys := false, apart := false }
def TallyFewSaid : Prop := tallyFewRow.holds Try.pinned (OpenSpec.ofChange tallyFewSpec)

/-- ITS FALSE NEIGHBOUR: 'it returns false'. Refute it at one input. -/
def tallyFewWrong : ChangeSpec := { name := "tallyFew", fn := fun _ => fun
  | [d1, d2, d3] => { results := [.lit (.bool false)], args := [d1, d2, d3] }
  | _ => none }
def TallyFewWrongFalsely : Prop := tallyFewRow.holds Try.pinned (OpenSpec.ofChange tallyFewWrong)

/- THE SECOND FORM. 'bulk': how many values and letters a reading holds, each counted each time it is reached (what is shared counts as often as it is met; a slice's spare places count too). A statement '..UptoSaid' is the law's where the arguments, and the package variables that the reading takes, are together of bulk at most 1048576: NARROWER than '..Said'. Prove '..Said' where nothing that the law and all that it calls make is longer than what came in: it says more and counts as full. Else prove '..UptoSaid'. A law counts once. -/
mutual
def uptoBulk {H : Type} : DataW H → Nat
  | .lit (.string bytes) => bytes.length + 1
  | .lit _ => 1
  | .nil => 1
  | .ptr d => uptoBulk d + 1
  | .slice elems spare => uptoBulkAll elems + uptoBulkAll spare + 1
  | .agg parts => uptoBulkAll parts + 1
  | .iface _ d => uptoBulk d + 1
  | .map entries => uptoBulkEntries entries + 1
  | .held _ => 1
def uptoBulkAll {H : Type} : List (DataW H) → Nat
  | [] => 0
  | d :: r => uptoBulk d + uptoBulkAll r
def uptoBulkEntries {H : Type} : List (Lit × DataW H) → Nat
  | [] => 0
  | x :: r => uptoBulkEntry x + uptoBulkEntries r
def uptoBulkEntry {H : Type} : Lit × DataW H → Nat
  | (.string bytes, d) => bytes.length + uptoBulk d + 1
  | (_, d) => uptoBulk d + 1
 end
def uptoSmall : (H : Type) → List (DataW H) → Bool := fun _ ds => decide (uptoBulkAll ds ≤ 1048576)
def OpenSpec.upto (s : _root_.Go.ChangeSpec) : _root_.Go.OpenSpec := { _root_.Go.OpenSpec.ofChange s with cond := some uptoSmall }

/-- 'neaptidelaw22.WatchLists', WHERE WHAT IT READS IS OF BULK AT MOST 1048576: true; the input reads as it did. -/
def watchListsUptoRow : OpenClaim := { program := "ytjpdhgajpldjbaa", sum := "d6b9a0c8cde05ffa310ccdb242d7ddce8461abadaec4f7ec7197409b681bf4c5", func := "neaptide/neaptidelaw22.WatchLists", spec := "watchLists", unfollowed := true, recurses := true, plainKeys := false, apart := false, narrowed := true }
def WatchListsUptoSaid : Prop := watchListsUptoRow.holds Try.pinned (OpenSpec.upto watchListsSpec)

/-- 'neaptidelaw22.WatchOrder', WHERE WHAT IT READS IS OF BULK AT MOST 1048576: true; the input reads as it did. -/
def watchOrderUptoRow : OpenClaim := { program := "ytjpdhgajpldjbaa", sum := "d6b9a0c8cde05ffa310ccdb242d7ddce8461abadaec4f7ec7197409b681bf4c5", func := "neaptide/neaptidelaw22.WatchOrder", spec := "watchOrder", unfollowed := true, recurses := true, plainKeys := false, apart := false, narrowed := true }
def WatchOrderUptoSaid : Prop := watchOrderUptoRow.holds Try.pinned (OpenSpec.upto watchOrderSpec)

/-- 'neaptidelaw22.WatchUnlikes', WHERE WHAT IT READS IS OF BULK AT MOST 1048576: true; the input reads as it did. -/
def watchUnlikesUptoRow : OpenClaim := { program := "ytjpdhgajpldjbaa", sum := "d6b9a0c8cde05ffa310ccdb242d7ddce8461abadaec4f7ec7197409b681bf4c5", func := "neaptide/neaptidelaw22.WatchUnlikes", spec := "watchUnlikes", unfollowed := true, recurses := true, plainKeys := false, apart := false, narrowed := true }
def WatchUnlikesUptoSaid : Prop := watchUnlikesUptoRow.holds Try.pinned (OpenSpec.upto watchUnlikesSpec)

/-- 'neaptidelaw13.TallyNames', WHERE WHAT IT READS IS OF BULK AT MOST 1048576: true; the input reads as it did. -/
def tallyNamesUptoRow : OpenClaim := { program := "ytjpdhgajpldjbaa", sum := "d6b9a0c8cde05ffa310ccdb242d7ddce8461abadaec4f7ec7197409b681bf4c5", func := "neaptide/neaptidelaw13.TallyNames", spec := "tallyNames", unfollowed := true, recurses := true, plainKeys := false, apart := false, narrowed := true }
def TallyNamesUptoSaid : Prop := tallyNamesUptoRow.holds Try.pinned (OpenSpec.upto tallyNamesSpec)

/-- 'neaptidelaw13.TallyCounts', WHERE WHAT IT READS IS OF BULK AT MOST 1048576: true; the input reads as it did. -/
def tallyCountsUptoRow : OpenClaim := { program := "ytjpdhgajpldjbaa", sum := "d6b9a0c8cde05ffa310ccdb242d7ddce8461abadaec4f7ec7197409b681bf4c5", func := "neaptide/neaptidelaw13.TallyCounts", spec := "tallyCounts", unfollowed := true, recurses := true, plainKeys := false, apart := false, narrowed := true }
def TallyCountsUptoSaid : Prop := tallyCountsUptoRow.holds Try.pinned (OpenSpec.upto tallyCountsSpec)

/-- 'neaptidelaw13.TallyTurns', WHERE WHAT IT READS IS OF BULK AT MOST 1048576: true; the input reads as it did. -/
def tallyTurnsUptoRow : OpenClaim := { program := "ytjpdhgajpldjbaa", sum := "d6b9a0c8cde05ffa310ccdb242d7ddce8461abadaec4f7ec7197409b681bf4c5", func := "neaptide/neaptidelaw13.TallyTurns", spec := "tallyTurns", unfollowed := true, recurses := true, plainKeys := false, apart := false, narrowed := true }
def TallyTurnsUptoSaid : Prop := tallyTurnsUptoRow.holds Try.pinned (OpenSpec.upto tallyTurnsSpec)

/-- 'neaptidelaw13.TallyOne', WHERE WHAT IT READS IS OF BULK AT MOST 1048576: true; the input reads as it did. -/
def tallyOneUptoRow : OpenClaim := { program := "ytjpdhgajpldjbaa", sum := "d6b9a0c8cde05ffa310ccdb242d7ddce8461abadaec4f7ec7197409b681bf4c5", func := "neaptide/neaptidelaw13.TallyOne", spec := "tallyOne", unfollowed := true, recurses := true, plainKeys := false, apart := false, narrowed := true }
def TallyOneUptoSaid : Prop := tallyOneUptoRow.holds Try.pinned (OpenSpec.upto tallyOneSpec)

/-- 'neaptidelaw13.TallyStays', WHERE WHAT IT READS IS OF BULK AT MOST 1048576: true; the input reads as it did. -/
def tallyStaysUptoRow : OpenClaim := { program := "ytjpdhgajpldjbaa", sum := "d6b9a0c8cde05ffa310ccdb242d7ddce8461abadaec4f7ec7197409b681bf4c5", func := "neaptide/neaptidelaw13.TallyStays", spec := "tallyStays", unfollowed := true, recurses := true, plainKeys := false, apart := false, narrowed := true }
def TallyStaysUptoSaid : Prop := tallyStaysUptoRow.holds Try.pinned (OpenSpec.upto tallyStaysSpec)

/-- 'neaptidelaw13.TallyFew', WHERE WHAT IT READS IS OF BULK AT MOST 1048576: true; the input reads as it did. -/
def tallyFewUptoRow : OpenClaim := { program := "ytjpdhgajpldjbaa", sum := "d6b9a0c8cde05ffa310ccdb242d7ddce8461abadaec4f7ec7197409b681bf4c5", func := "neaptide/neaptidelaw13.TallyFew", spec := "tallyFew", unfollowed := true, recurses := true, plainKeys := false, apart := false, narrowed := true }
def TallyFewUptoSaid : Prop := tallyFewUptoRow.holds Try.pinned (OpenSpec.upto tallyFewSpec)

end Rows
end Go.Proofs.Ytjpdhgajpldjbaa
