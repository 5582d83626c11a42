/-
  No cell of these rows narrows 'for every input' (looked for: loops, veiled, ifaces, maps, wideKeys, modest, calm, conditions, laid).
  DERIVED. THE GIVEN ROWS OF THIS SEAT. 12 by the template 'for every input the law returns true; each argument reads behind the call as it read before'; 0 by the template 'total and deterministic' (their statements: YtiieflbggcgckaaTotals.lean).
  GIVEN WITH THE SEED: the statements are not yours to turn. If you find one false, say at which input.
  Laid BY PROGRAM, IN A SANDBOX (cutbox-rows.mjs): the forced cells as the released guide's own fill.sh prints them over the translation d4ce20ed5cbfe203… (all of the seat's roots in one cut). By AI agents, Wed Nov 11 2026. No macro, syntax, notation, axiom, sorry.
-/
import Derived.Test.YtiieflbggcgckaaChecked
import GoSem.Claim
import GoSem.ClaimJoined
import GoSem.ClaimMapViews
import Derived.JoinedTies
import Derived.KernelRfl
namespace Go.Proofs.Ytiieflbggcgckaa
/- THE CELL 'sum', in the pinned program and in every row, IS THE sha256 OF THE DUMP (.gsa) THAT YtiieflbggcgckaaProg.lean LOADS. Nothing in Lean hashes anything: it is a label: what it is worth is what the hold of that sum in a sandbox is worth. -/
noncomputable def Try.pinned : Pinned := { name := "ytiieflbggcgckaa", sum := "d4ce20ed5cbfe203a08bb6e0cf8dd6486e4cde76e91e24f0141006752d20ea57", checked := Try.checked }
namespace Rows
def none {H : Type} : Left H := { results := [], args := [] }

/-- 'neaptidelaw03.StakeNames': WHATEVER THE INPUT: true; the input reads as it did. -/
def stakeNamesSpec : ChangeSpec := { name := "stakeNames", fn := fun _ => fun
  | [] => { results := [.lit (.bool true)], args := [] }
  | _ => none }
def stakeNamesRow : OpenClaim := { program := "ytiieflbggcgckaa", sum := "d4ce20ed5cbfe203a08bb6e0cf8dd6486e4cde76e91e24f0141006752d20ea57", func := "neaptide/neaptidelaw03.StakeNames", spec := "stakeNames", apart := false }
def StakeNamesSaid : Prop := stakeNamesRow.holds Try.pinned (OpenSpec.ofChange stakeNamesSpec)

/-- ITS FALSE NEIGHBOUR: 'it returns false'. Refute it at one input. -/
def stakeNamesWrong : ChangeSpec := { name := "stakeNames", fn := fun _ => fun
  | [] => { results := [.lit (.bool false)], args := [] }
  | _ => none }
def StakeNamesWrongFalsely : Prop := stakeNamesRow.holds Try.pinned (OpenSpec.ofChange stakeNamesWrong)

/-- 'neaptidelaw03.StakeSums': WHATEVER THE INPUT: true; the input reads as it did. -/
def stakeSumsSpec : ChangeSpec := { name := "stakeSums", fn := fun _ => fun
  | [d1, d2] => { results := [.lit (.bool true)], args := [d1, d2] }
  | _ => none }
def stakeSumsRow : OpenClaim := { program := "ytiieflbggcgckaa", sum := "d4ce20ed5cbfe203a08bb6e0cf8dd6486e4cde76e91e24f0141006752d20ea57", func := "neaptide/neaptidelaw03.StakeSums", spec := "stakeSums", apart := false }
def StakeSumsSaid : Prop := stakeSumsRow.holds Try.pinned (OpenSpec.ofChange stakeSumsSpec)

/-- ITS FALSE NEIGHBOUR: 'it returns false'. Refute it at one input. -/
def stakeSumsWrong : ChangeSpec := { name := "stakeSums", fn := fun _ => fun
  | [d1, d2] => { results := [.lit (.bool false)], args := [d1, d2] }
  | _ => none }
def StakeSumsWrongFalsely : Prop := stakeSumsRow.holds Try.pinned (OpenSpec.ofChange stakeSumsWrong)

/-- 'neaptidelaw03.StakeMeets': WHATEVER THE INPUT: true; the input reads as it did. -/
def stakeMeetsSpec : ChangeSpec := { name := "stakeMeets", fn := fun _ => fun
  | [d1, d2, d3] => { results := [.lit (.bool true)], args := [d1, d2, d3] }
  | _ => none }
def stakeMeetsRow : OpenClaim := { program := "ytiieflbggcgckaa", sum := "d4ce20ed5cbfe203a08bb6e0cf8dd6486e4cde76e91e24f0141006752d20ea57", func := "neaptide/neaptidelaw03.StakeMeets", spec := "stakeMeets", apart := false }
def StakeMeetsSaid : Prop := stakeMeetsRow.holds Try.pinned (OpenSpec.ofChange stakeMeetsSpec)

/-- ITS FALSE NEIGHBOUR: 'it returns false'. Refute it at one input. -/
def stakeMeetsWrong : ChangeSpec := { name := "stakeMeets", fn := fun _ => fun
  | [d1, d2, d3] => { results := [.lit (.bool false)], args := [d1, d2, d3] }
  | _ => none }
def StakeMeetsWrongFalsely : Prop := stakeMeetsRow.holds Try.pinned (OpenSpec.ofChange stakeMeetsWrong)

/-- 'neaptidelaw03.StakeRest': WHATEVER THE INPUT: true; the input reads as it did. -/
def stakeRestSpec : ChangeSpec := { name := "stakeRest", fn := fun _ => fun
  | [d1, d2] => { results := [.lit (.bool true)], args := [d1, d2] }
  | _ => none }
def stakeRestRow : OpenClaim := { program := "ytiieflbggcgckaa", sum := "d4ce20ed5cbfe203a08bb6e0cf8dd6486e4cde76e91e24f0141006752d20ea57", func := "neaptide/neaptidelaw03.StakeRest", spec := "stakeRest", apart := false }
def StakeRestSaid : Prop := stakeRestRow.holds Try.pinned (OpenSpec.ofChange stakeRestSpec)

/-- ITS FALSE NEIGHBOUR: 'it returns false'. Refute it at one input. -/
def stakeRestWrong : ChangeSpec := { name := "stakeRest", fn := fun _ => fun
  | [d1, d2] => { results := [.lit (.bool false)], args := [d1, d2] }
  | _ => none }
def StakeRestWrongFalsely : Prop := stakeRestRow.holds Try.pinned (OpenSpec.ofChange stakeRestWrong)

/-- 'neaptidelaw03.StakeOrder': WHATEVER THE INPUT: true; the input reads as it did. -/
def stakeOrderSpec : ChangeSpec := { name := "stakeOrder", fn := fun _ => fun
  | [d1, d2] => { results := [.lit (.bool true)], args := [d1, d2] }
  | _ => none }
def stakeOrderRow : OpenClaim := { program := "ytiieflbggcgckaa", sum := "d4ce20ed5cbfe203a08bb6e0cf8dd6486e4cde76e91e24f0141006752d20ea57", func := "neaptide/neaptidelaw03.StakeOrder", spec := "stakeOrder", apart := false }
def StakeOrderSaid : Prop := stakeOrderRow.holds Try.pinned (OpenSpec.ofChange stakeOrderSpec)

/-- ITS FALSE NEIGHBOUR: 'it returns false'. Refute it at one input. -/
def stakeOrderWrong : ChangeSpec := { name := "stakeOrder", fn := fun _ => fun
  | [d1, d2] => { results := [.lit (.bool false)], args := [d1, d2] }
  | _ => none }
def StakeOrderWrongFalsely : Prop := stakeOrderRow.holds Try.pinned (OpenSpec.ofChange stakeOrderWrong)

/-- 'neaptidelaw03.StakeGrows': WHATEVER THE INPUT: true; the input reads as it did. -/
def stakeGrowsSpec : ChangeSpec := { name := "stakeGrows", fn := fun _ => fun
  | [d1, d2, d3] => { results := [.lit (.bool true)], args := [d1, d2, d3] }
  | _ => none }
def stakeGrowsRow : OpenClaim := { program := "ytiieflbggcgckaa", sum := "d4ce20ed5cbfe203a08bb6e0cf8dd6486e4cde76e91e24f0141006752d20ea57", func := "neaptide/neaptidelaw03.StakeGrows", spec := "stakeGrows", apart := false }
def StakeGrowsSaid : Prop := stakeGrowsRow.holds Try.pinned (OpenSpec.ofChange stakeGrowsSpec)

/-- ITS FALSE NEIGHBOUR: 'it returns false'. Refute it at one input. -/
def stakeGrowsWrong : ChangeSpec := { name := "stakeGrows", fn := fun _ => fun
  | [d1, d2, d3] => { results := [.lit (.bool false)], args := [d1, d2, d3] }
  | _ => none }
def StakeGrowsWrongFalsely : Prop := stakeGrowsRow.holds Try.pinned (OpenSpec.ofChange stakeGrowsWrong)

/-- 'neaptidelaw19.NetTakes': WHATEVER THE INPUT: true; the input reads as it did. -/
def netTakesSpec : ChangeSpec := { name := "netTakes", fn := fun _ => fun
  | [d1, d2] => { results := [.lit (.bool true)], args := [d1, d2] }
  | _ => none }
def netTakesRow : OpenClaim := { program := "ytiieflbggcgckaa", sum := "d4ce20ed5cbfe203a08bb6e0cf8dd6486e4cde76e91e24f0141006752d20ea57", func := "neaptide/neaptidelaw19.NetTakes", spec := "netTakes", apart := false }
def NetTakesSaid : Prop := netTakesRow.holds Try.pinned (OpenSpec.ofChange netTakesSpec)

/-- ITS FALSE NEIGHBOUR: 'it returns false'. Refute it at one input. -/
def netTakesWrong : ChangeSpec := { name := "netTakes", fn := fun _ => fun
  | [d1, d2] => { results := [.lit (.bool false)], args := [d1, d2] }
  | _ => none }
def NetTakesWrongFalsely : Prop := netTakesRow.holds Try.pinned (OpenSpec.ofChange netTakesWrong)

/-- 'neaptidelaw19.NetBags': WHATEVER THE INPUT: true; the input reads as it did. -/
def netBagsSpec : ChangeSpec := { name := "netBags", fn := fun _ => fun
  | [d] => { results := [.lit (.bool true)], args := [d] }
  | _ => none }
def netBagsRow : OpenClaim := { program := "ytiieflbggcgckaa", sum := "d4ce20ed5cbfe203a08bb6e0cf8dd6486e4cde76e91e24f0141006752d20ea57", func := "neaptide/neaptidelaw19.NetBags", spec := "netBags", apart := false }
def NetBagsSaid : Prop := netBagsRow.holds Try.pinned (OpenSpec.ofChange netBagsSpec)

/-- ITS FALSE NEIGHBOUR: 'it returns false'. Refute it at one input. -/
def netBagsWrong : ChangeSpec := { name := "netBags", fn := fun _ => fun
  | [d] => { results := [.lit (.bool false)], args := [d] }
  | _ => none }
def NetBagsWrongFalsely : Prop := netBagsRow.holds Try.pinned (OpenSpec.ofChange netBagsWrong)

/-- 'neaptidelaw19.NetFull': WHATEVER THE INPUT: true; the input reads as it did. -/
def netFullSpec : ChangeSpec := { name := "netFull", fn := fun _ => fun
  | [d1, d2] => { results := [.lit (.bool true)], args := [d1, d2] }
  | _ => none }
def netFullRow : OpenClaim := { program := "ytiieflbggcgckaa", sum := "d4ce20ed5cbfe203a08bb6e0cf8dd6486e4cde76e91e24f0141006752d20ea57", func := "neaptide/neaptidelaw19.NetFull", spec := "netFull", apart := false }
def NetFullSaid : Prop := netFullRow.holds Try.pinned (OpenSpec.ofChange netFullSpec)

/-- ITS FALSE NEIGHBOUR: 'it returns false'. Refute it at one input. -/
def netFullWrong : ChangeSpec := { name := "netFull", fn := fun _ => fun
  | [d1, d2] => { results := [.lit (.bool false)], args := [d1, d2] }
  | _ => none }
def NetFullWrongFalsely : Prop := netFullRow.holds Try.pinned (OpenSpec.ofChange netFullWrong)

/-- 'neaptidelaw19.NetNames': WHATEVER THE INPUT: true; the input reads as it did. -/
def netNamesSpec : ChangeSpec := { name := "netNames", fn := fun _ => fun
  | [] => { results := [.lit (.bool true)], args := [] }
  | _ => none }
def netNamesRow : OpenClaim := { program := "ytiieflbggcgckaa", sum := "d4ce20ed5cbfe203a08bb6e0cf8dd6486e4cde76e91e24f0141006752d20ea57", func := "neaptide/neaptidelaw19.NetNames", spec := "netNames", apart := false }
def NetNamesSaid : Prop := netNamesRow.holds Try.pinned (OpenSpec.ofChange netNamesSpec)

/-- ITS FALSE NEIGHBOUR: 'it returns false'. Refute it at one input. -/
def netNamesWrong : ChangeSpec := { name := "netNames", fn := fun _ => fun
  | [] => { results := [.lit (.bool false)], args := [] }
  | _ => none }
def NetNamesWrongFalsely : Prop := netNamesRow.holds Try.pinned (OpenSpec.ofChange netNamesWrong)

/-- 'neaptidelaw19.NetSides': WHATEVER THE INPUT: true; the input reads as it did. -/
def netSidesSpec : ChangeSpec := { name := "netSides", fn := fun _ => fun
  | [d1, d2, d3] => { results := [.lit (.bool true)], args := [d1, d2, d3] }
  | _ => none }
def netSidesRow : OpenClaim := { program := "ytiieflbggcgckaa", sum := "d4ce20ed5cbfe203a08bb6e0cf8dd6486e4cde76e91e24f0141006752d20ea57", func := "neaptide/neaptidelaw19.NetSides", spec := "netSides", apart := false }
def NetSidesSaid : Prop := netSidesRow.holds Try.pinned (OpenSpec.ofChange netSidesSpec)

/-- ITS FALSE NEIGHBOUR: 'it returns false'. Refute it at one input. -/
def netSidesWrong : ChangeSpec := { name := "netSides", fn := fun _ => fun
  | [d1, d2, d3] => { results := [.lit (.bool false)], args := [d1, d2, d3] }
  | _ => none }
def NetSidesWrongFalsely : Prop := netSidesRow.holds Try.pinned (OpenSpec.ofChange netSidesWrong)

/-- 'neaptidelaw19.NetParts': WHATEVER THE INPUT: true; the input reads as it did. -/
def netPartsSpec : ChangeSpec := { name := "netParts", fn := fun _ => fun
  | [d1, d2, d3] => { results := [.lit (.bool true)], args := [d1, d2, d3] }
  | _ => none }
def netPartsRow : OpenClaim := { program := "ytiieflbggcgckaa", sum := "d4ce20ed5cbfe203a08bb6e0cf8dd6486e4cde76e91e24f0141006752d20ea57", func := "neaptide/neaptidelaw19.NetParts", spec := "netParts", apart := false }
def NetPartsSaid : Prop := netPartsRow.holds Try.pinned (OpenSpec.ofChange netPartsSpec)

/-- ITS FALSE NEIGHBOUR: 'it returns false'. Refute it at one input. -/
def netPartsWrong : ChangeSpec := { name := "netParts", fn := fun _ => fun
  | [d1, d2, d3] => { results := [.lit (.bool false)], args := [d1, d2, d3] }
  | _ => none }
def NetPartsWrongFalsely : Prop := netPartsRow.holds Try.pinned (OpenSpec.ofChange netPartsWrong)

/- THE SECOND FORM. 'bulk': how many values and letters a reading holds, each counted each time it is reached (what is shared counts as often as it is met; a slice's spare places count too). A statement '..UptoSaid' is the law's where the arguments, and the package variables that the reading takes, are together of bulk at most 1048576: NARROWER than '..Said'. Prove '..Said' where nothing that the law and all that it calls make is longer than what came in: it says more and counts as full. Else prove '..UptoSaid'. A law counts once. -/
mutual
def uptoBulk {H : Type} : DataW H → Nat
  | .lit (.string bytes) => bytes.length + 1
  | .lit _ => 1
  | .nil => 1
  | .ptr d => uptoBulk d + 1
  | .slice elems spare => uptoBulkAll elems + uptoBulkAll spare + 1
  | .agg parts => uptoBulkAll parts + 1
  | .iface _ d => uptoBulk d + 1
  | .map entries => uptoBulkEntries entries + 1
  | .held _ => 1
def uptoBulkAll {H : Type} : List (DataW H) → Nat
  | [] => 0
  | d :: r => uptoBulk d + uptoBulkAll r
def uptoBulkEntries {H : Type} : List (Lit × DataW H) → Nat
  | [] => 0
  | x :: r => uptoBulkEntry x + uptoBulkEntries r
def uptoBulkEntry {H : Type} : Lit × DataW H → Nat
  | (.string bytes, d) => bytes.length + uptoBulk d + 1
  | (_, d) => uptoBulk d + 1
 end
def uptoSmall : (H : Type) → List (DataW H) → Bool := fun _ ds => decide (uptoBulkAll ds ≤ 1048576)
def OpenSpec.upto (s : _root_.Go.ChangeSpec) : _root_.Go.OpenSpec := { _root_.Go.OpenSpec.ofChange s with cond := some uptoSmall }

/-- 'neaptidelaw03.StakeNames', WHERE WHAT IT READS IS OF BULK AT MOST 1048576: true; the input reads as it did. -/
def stakeNamesUptoRow : OpenClaim := { program := "ytiieflbggcgckaa", sum := "d4ce20ed5cbfe203a08bb6e0cf8dd6486e4cde76e91e24f0141006752d20ea57", func := "neaptide/neaptidelaw03.StakeNames", spec := "stakeNames", apart := false, narrowed := true }
def StakeNamesUptoSaid : Prop := stakeNamesUptoRow.holds Try.pinned (OpenSpec.upto stakeNamesSpec)

/-- 'neaptidelaw03.StakeSums', WHERE WHAT IT READS IS OF BULK AT MOST 1048576: true; the input reads as it did. -/
def stakeSumsUptoRow : OpenClaim := { program := "ytiieflbggcgckaa", sum := "d4ce20ed5cbfe203a08bb6e0cf8dd6486e4cde76e91e24f0141006752d20ea57", func := "neaptide/neaptidelaw03.StakeSums", spec := "stakeSums", apart := false, narrowed := true }
def StakeSumsUptoSaid : Prop := stakeSumsUptoRow.holds Try.pinned (OpenSpec.upto stakeSumsSpec)

/-- 'neaptidelaw03.StakeMeets', WHERE WHAT IT READS IS OF BULK AT MOST 1048576: true; the input reads as it did. -/
def stakeMeetsUptoRow : OpenClaim := { program := "ytiieflbggcgckaa", sum := "d4ce20ed5cbfe203a08bb6e0cf8dd6486e4cde76e91e24f0141006752d20ea57", func := "neaptide/neaptidelaw03.StakeMeets", spec := "stakeMeets", apart := false, narrowed := true }
def StakeMeetsUptoSaid : Prop := stakeMeetsUptoRow.holds Try.pinned (OpenSpec.upto stakeMeetsSpec)

/-- 'neaptidelaw03.StakeRest', WHERE WHAT IT READS IS OF BULK AT MOST 1048576: true; the input reads as it did. -/
def stakeRestUptoRow : OpenClaim := { program := "ytiieflbggcgckaa", sum := "d4ce20ed5cbfe203a08bb6e0cf8dd6486e4cde76e91e24f0141006752d20ea57", func := "neaptide/neaptidelaw03.StakeRest", spec := "stakeRest", apart := false, narrowed := true }
def StakeRestUptoSaid : Prop := stakeRestUptoRow.holds Try.pinned (OpenSpec.upto stakeRestSpec)

/-- 'neaptidelaw03.StakeOrder', WHERE WHAT IT READS IS OF BULK AT MOST 1048576: true; the input reads as it did. -/
def stakeOrderUptoRow : OpenClaim := { program := "ytiieflbggcgckaa", sum := "d4ce20ed5cbfe203a08bb6e0cf8dd6486e4cde76e91e24f0141006752d20ea57", func := "neaptide/neaptidelaw03.StakeOrder", spec := "stakeOrder", apart := false, narrowed := true }
def StakeOrderUptoSaid : Prop := stakeOrderUptoRow.holds Try.pinned (OpenSpec.upto stakeOrderSpec)

/-- 'neaptidelaw03.StakeGrows', WHERE WHAT IT READS IS OF BULK AT MOST 1048576: true; the input reads as it did. -/
def stakeGrowsUptoRow : OpenClaim := { program := "ytiieflbggcgckaa", sum := "d4ce20ed5cbfe203a08bb6e0cf8dd6486e4cde76e91e24f0141006752d20ea57", func := "neaptide/neaptidelaw03.StakeGrows", spec := "stakeGrows", apart := false, narrowed := true }
def StakeGrowsUptoSaid : Prop := stakeGrowsUptoRow.holds Try.pinned (OpenSpec.upto stakeGrowsSpec)

/-- 'neaptidelaw19.NetTakes', WHERE WHAT IT READS IS OF BULK AT MOST 1048576: true; the input reads as it did. -/
def netTakesUptoRow : OpenClaim := { program := "ytiieflbggcgckaa", sum := "d4ce20ed5cbfe203a08bb6e0cf8dd6486e4cde76e91e24f0141006752d20ea57", func := "neaptide/neaptidelaw19.NetTakes", spec := "netTakes", apart := false, narrowed := true }
def NetTakesUptoSaid : Prop := netTakesUptoRow.holds Try.pinned (OpenSpec.upto netTakesSpec)

/-- 'neaptidelaw19.NetBags', WHERE WHAT IT READS IS OF BULK AT MOST 1048576: true; the input reads as it did. -/
def netBagsUptoRow : OpenClaim := { program := "ytiieflbggcgckaa", sum := "d4ce20ed5cbfe203a08bb6e0cf8dd6486e4cde76e91e24f0141006752d20ea57", func := "neaptide/neaptidelaw19.NetBags", spec := "netBags", apart := false, narrowed := true }
def NetBagsUptoSaid : Prop := netBagsUptoRow.holds Try.pinned (OpenSpec.upto netBagsSpec)

/-- 'neaptidelaw19.NetFull', WHERE WHAT IT READS IS OF BULK AT MOST 1048576: true; the input reads as it did. -/
def netFullUptoRow : OpenClaim := { program := "ytiieflbggcgckaa", sum := "d4ce20ed5cbfe203a08bb6e0cf8dd6486e4cde76e91e24f0141006752d20ea57", func := "neaptide/neaptidelaw19.NetFull", spec := "netFull", apart := false, narrowed := true }
def NetFullUptoSaid : Prop := netFullUptoRow.holds Try.pinned (OpenSpec.upto netFullSpec)

/-- 'neaptidelaw19.NetNames', WHERE WHAT IT READS IS OF BULK AT MOST 1048576: true; the input reads as it did. -/
def netNamesUptoRow : OpenClaim := { program := "ytiieflbggcgckaa", sum := "d4ce20ed5cbfe203a08bb6e0cf8dd6486e4cde76e91e24f0141006752d20ea57", func := "neaptide/neaptidelaw19.NetNames", spec := "netNames", apart := false, narrowed := true }
def NetNamesUptoSaid : Prop := netNamesUptoRow.holds Try.pinned (OpenSpec.upto netNamesSpec)

/-- 'neaptidelaw19.NetSides', WHERE WHAT IT READS IS OF BULK AT MOST 1048576: true; the input reads as it did. -/
def netSidesUptoRow : OpenClaim := { program := "ytiieflbggcgckaa", sum := "d4ce20ed5cbfe203a08bb6e0cf8dd6486e4cde76e91e24f0141006752d20ea57", func := "neaptide/neaptidelaw19.NetSides", spec := "netSides", apart := false, narrowed := true }
def NetSidesUptoSaid : Prop := netSidesUptoRow.holds Try.pinned (OpenSpec.upto netSidesSpec)

/-- 'neaptidelaw19.NetParts', WHERE WHAT IT READS IS OF BULK AT MOST 1048576: true; the input reads as it did. -/
def netPartsUptoRow : OpenClaim := { program := "ytiieflbggcgckaa", sum := "d4ce20ed5cbfe203a08bb6e0cf8dd6486e4cde76e91e24f0141006752d20ea57", func := "neaptide/neaptidelaw19.NetParts", spec := "netParts", apart := false, narrowed := true }
def NetPartsUptoSaid : Prop := netPartsUptoRow.holds Try.pinned (OpenSpec.upto netPartsSpec)

end Rows
end Go.Proofs.Ytiieflbggcgckaa
