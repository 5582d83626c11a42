/-
  No cell of these rows narrows 'for every input' (looked for: loops, veiled, ifaces, maps, wideKeys, modest, calm, conditions, laid).
  DERIVED. THE GIVEN ROWS OF THIS SEAT. 10 by the template 'for every input the law returns true; each argument reads behind the call as it read before'; 0 by the template 'total and deterministic' (their statements: YtlllhpnpgcphcaaTotals.lean).
  GIVEN WITH THE SEED: the statements are not yours to turn. If you find one false, say at which input.
  Laid BY PROGRAM, IN A SANDBOX (cutbox-rows.mjs): the forced cells as the released guide's own fill.sh prints them over the translation c6d29c118770dab7… (all of the seat's roots in one cut). By AI agents, Wed Nov 11 2026. No macro, syntax, notation, axiom, sorry.
-/
import Derived.Test.YtlllhpnpgcphcaaChecked
import GoSem.Claim
import GoSem.ClaimJoined
import GoSem.ClaimMapViews
import Derived.JoinedTies
import Derived.KernelRfl
namespace Go.Proofs.Ytlllhpnpgcphcaa
/- THE CELL 'sum', in the pinned program and in every row, IS THE sha256 OF THE DUMP (.gsa) THAT YtlllhpnpgcphcaaProg.lean LOADS. Nothing in Lean hashes anything: it is a label: what it is worth is what the hold of that sum in a sandbox is worth. -/
noncomputable def Try.pinned : Pinned := { name := "ytlllhpnpgcphcaa", sum := "c6d29c118770dab7f1e9340bbd3eb3f954efa790b31884d8898d4edf5e3600f8", checked := Try.checked }
namespace Rows
def none {H : Type} : Left H := { results := [], args := [] }

/-- 'neaptidelaw08.TreeTells': WHATEVER THE INPUT: true; the input reads as it did. -/
def treeTellsSpec : ChangeSpec := { name := "treeTells", fn := fun _ => fun
  | [d1, d2, d3] => { results := [.lit (.bool true)], args := [d1, d2, d3] }
  | _ => none }
def treeTellsRow : OpenClaim := { program := "ytlllhpnpgcphcaa", sum := "c6d29c118770dab7f1e9340bbd3eb3f954efa790b31884d8898d4edf5e3600f8", func := "neaptide/neaptidelaw08.TreeTells", spec := "treeTells", unfollowed := true, recurses := true, apart := false }
def TreeTellsSaid : Prop := treeTellsRow.holds Try.pinned (OpenSpec.ofChange treeTellsSpec)

/-- ITS FALSE NEIGHBOUR: 'it returns false'. Refute it at one input. -/
def treeTellsWrong : ChangeSpec := { name := "treeTells", fn := fun _ => fun
  | [d1, d2, d3] => { results := [.lit (.bool false)], args := [d1, d2, d3] }
  | _ => none }
def TreeTellsWrongFalsely : Prop := treeTellsRow.holds Try.pinned (OpenSpec.ofChange treeTellsWrong)

/-- 'neaptidelaw08.TreeAdds': WHATEVER THE INPUT: true; the input reads as it did. -/
def treeAddsSpec : ChangeSpec := { name := "treeAdds", fn := fun _ => fun
  | [d] => { results := [.lit (.bool true)], args := [d] }
  | _ => none }
def treeAddsRow : OpenClaim := { program := "ytlllhpnpgcphcaa", sum := "c6d29c118770dab7f1e9340bbd3eb3f954efa790b31884d8898d4edf5e3600f8", func := "neaptide/neaptidelaw08.TreeAdds", spec := "treeAdds", unfollowed := true, recurses := true, apart := false }
def TreeAddsSaid : Prop := treeAddsRow.holds Try.pinned (OpenSpec.ofChange treeAddsSpec)

/-- ITS FALSE NEIGHBOUR: 'it returns false'. Refute it at one input. -/
def treeAddsWrong : ChangeSpec := { name := "treeAdds", fn := fun _ => fun
  | [d] => { results := [.lit (.bool false)], args := [d] }
  | _ => none }
def TreeAddsWrongFalsely : Prop := treeAddsRow.holds Try.pinned (OpenSpec.ofChange treeAddsWrong)

/-- 'neaptidelaw11.ChainNames': WHATEVER THE INPUT: true; the input reads as it did. -/
def chainNamesSpec : ChangeSpec := { name := "chainNames", fn := fun _ => fun
  | [] => { results := [.lit (.bool true)], args := [] }
  | _ => none }
def chainNamesRow : OpenClaim := { program := "ytlllhpnpgcphcaa", sum := "c6d29c118770dab7f1e9340bbd3eb3f954efa790b31884d8898d4edf5e3600f8", func := "neaptide/neaptidelaw11.ChainNames", spec := "chainNames", unfollowed := true, recurses := true, apart := false }
def ChainNamesSaid : Prop := chainNamesRow.holds Try.pinned (OpenSpec.ofChange chainNamesSpec)

/-- ITS FALSE NEIGHBOUR: 'it returns false'. Refute it at one input. -/
def chainNamesWrong : ChangeSpec := { name := "chainNames", fn := fun _ => fun
  | [] => { results := [.lit (.bool false)], args := [] }
  | _ => none }
def ChainNamesWrongFalsely : Prop := chainNamesRow.holds Try.pinned (OpenSpec.ofChange chainNamesWrong)

/-- 'neaptidelaw11.ChainTxs': WHATEVER THE INPUT: true; the input reads as it did. -/
def chainTxsSpec : ChangeSpec := { name := "chainTxs", fn := fun _ => fun
  | [d1, d2, d3] => { results := [.lit (.bool true)], args := [d1, d2, d3] }
  | _ => none }
def chainTxsRow : OpenClaim := { program := "ytlllhpnpgcphcaa", sum := "c6d29c118770dab7f1e9340bbd3eb3f954efa790b31884d8898d4edf5e3600f8", func := "neaptide/neaptidelaw11.ChainTxs", spec := "chainTxs", unfollowed := true, recurses := true, apart := false }
def ChainTxsSaid : Prop := chainTxsRow.holds Try.pinned (OpenSpec.ofChange chainTxsSpec)

/-- ITS FALSE NEIGHBOUR: 'it returns false'. Refute it at one input. -/
def chainTxsWrong : ChangeSpec := { name := "chainTxs", fn := fun _ => fun
  | [d1, d2, d3] => { results := [.lit (.bool false)], args := [d1, d2, d3] }
  | _ => none }
def ChainTxsWrongFalsely : Prop := chainTxsRow.holds Try.pinned (OpenSpec.ofChange chainTxsWrong)

/-- 'neaptidelaw11.ChainRefuses': WHATEVER THE INPUT: true; the input reads as it did. -/
def chainRefusesSpec : ChangeSpec := { name := "chainRefuses", fn := fun _ => fun
  | [d1, d2] => { results := [.lit (.bool true)], args := [d1, d2] }
  | _ => none }
def chainRefusesRow : OpenClaim := { program := "ytlllhpnpgcphcaa", sum := "c6d29c118770dab7f1e9340bbd3eb3f954efa790b31884d8898d4edf5e3600f8", func := "neaptide/neaptidelaw11.ChainRefuses", spec := "chainRefuses", unfollowed := true, recurses := true, apart := false }
def ChainRefusesSaid : Prop := chainRefusesRow.holds Try.pinned (OpenSpec.ofChange chainRefusesSpec)

/-- ITS FALSE NEIGHBOUR: 'it returns false'. Refute it at one input. -/
def chainRefusesWrong : ChangeSpec := { name := "chainRefuses", fn := fun _ => fun
  | [d1, d2] => { results := [.lit (.bool false)], args := [d1, d2] }
  | _ => none }
def ChainRefusesWrongFalsely : Prop := chainRefusesRow.holds Try.pinned (OpenSpec.ofChange chainRefusesWrong)

/-- 'neaptidelaw11.ChainGrows': WHATEVER THE INPUT: true; the input reads as it did. -/
def chainGrowsSpec : ChangeSpec := { name := "chainGrows", fn := fun _ => fun
  | [d1, d2] => { results := [.lit (.bool true)], args := [d1, d2] }
  | _ => none }
def chainGrowsRow : OpenClaim := { program := "ytlllhpnpgcphcaa", sum := "c6d29c118770dab7f1e9340bbd3eb3f954efa790b31884d8898d4edf5e3600f8", func := "neaptide/neaptidelaw11.ChainGrows", spec := "chainGrows", unfollowed := true, recurses := true, apart := false }
def ChainGrowsSaid : Prop := chainGrowsRow.holds Try.pinned (OpenSpec.ofChange chainGrowsSpec)

/-- ITS FALSE NEIGHBOUR: 'it returns false'. Refute it at one input. -/
def chainGrowsWrong : ChangeSpec := { name := "chainGrows", fn := fun _ => fun
  | [d1, d2] => { results := [.lit (.bool false)], args := [d1, d2] }
  | _ => none }
def ChainGrowsWrongFalsely : Prop := chainGrowsRow.holds Try.pinned (OpenSpec.ofChange chainGrowsWrong)

/-- 'neaptidelaw17.LedgerNames': WHATEVER THE INPUT: true; the input reads as it did. -/
def ledgerNamesSpec : ChangeSpec := { name := "ledgerNames", fn := fun _ => fun
  | [] => { results := [.lit (.bool true)], args := [] }
  | _ => none }
def ledgerNamesRow : OpenClaim := { program := "ytlllhpnpgcphcaa", sum := "c6d29c118770dab7f1e9340bbd3eb3f954efa790b31884d8898d4edf5e3600f8", func := "neaptide/neaptidelaw17.LedgerNames", spec := "ledgerNames", unfollowed := true, recurses := true, apart := false }
def LedgerNamesSaid : Prop := ledgerNamesRow.holds Try.pinned (OpenSpec.ofChange ledgerNamesSpec)

/-- ITS FALSE NEIGHBOUR: 'it returns false'. Refute it at one input. -/
def ledgerNamesWrong : ChangeSpec := { name := "ledgerNames", fn := fun _ => fun
  | [] => { results := [.lit (.bool false)], args := [] }
  | _ => none }
def LedgerNamesWrongFalsely : Prop := ledgerNamesRow.holds Try.pinned (OpenSpec.ofChange ledgerNamesWrong)

/-- 'neaptidelaw17.LedgerCleans': WHATEVER THE INPUT: true; the input reads as it did. -/
def ledgerCleansSpec : ChangeSpec := { name := "ledgerCleans", fn := fun _ => fun
  | [d] => { results := [.lit (.bool true)], args := [d] }
  | _ => none }
def ledgerCleansRow : OpenClaim := { program := "ytlllhpnpgcphcaa", sum := "c6d29c118770dab7f1e9340bbd3eb3f954efa790b31884d8898d4edf5e3600f8", func := "neaptide/neaptidelaw17.LedgerCleans", spec := "ledgerCleans", unfollowed := true, recurses := true, apart := false }
def LedgerCleansSaid : Prop := ledgerCleansRow.holds Try.pinned (OpenSpec.ofChange ledgerCleansSpec)

/-- ITS FALSE NEIGHBOUR: 'it returns false'. Refute it at one input. -/
def ledgerCleansWrong : ChangeSpec := { name := "ledgerCleans", fn := fun _ => fun
  | [d] => { results := [.lit (.bool false)], args := [d] }
  | _ => none }
def LedgerCleansWrongFalsely : Prop := ledgerCleansRow.holds Try.pinned (OpenSpec.ofChange ledgerCleansWrong)

/-- 'neaptidelaw17.LedgerOnce': WHATEVER THE INPUT: true; the input reads as it did. -/
def ledgerOnceSpec : ChangeSpec := { name := "ledgerOnce", fn := fun _ => fun
  | [d1, d2] => { results := [.lit (.bool true)], args := [d1, d2] }
  | _ => none }
def ledgerOnceRow : OpenClaim := { program := "ytlllhpnpgcphcaa", sum := "c6d29c118770dab7f1e9340bbd3eb3f954efa790b31884d8898d4edf5e3600f8", func := "neaptide/neaptidelaw17.LedgerOnce", spec := "ledgerOnce", unfollowed := true, recurses := true, apart := false }
def LedgerOnceSaid : Prop := ledgerOnceRow.holds Try.pinned (OpenSpec.ofChange ledgerOnceSpec)

/-- ITS FALSE NEIGHBOUR: 'it returns false'. Refute it at one input. -/
def ledgerOnceWrong : ChangeSpec := { name := "ledgerOnce", fn := fun _ => fun
  | [d1, d2] => { results := [.lit (.bool false)], args := [d1, d2] }
  | _ => none }
def LedgerOnceWrongFalsely : Prop := ledgerOnceRow.holds Try.pinned (OpenSpec.ofChange ledgerOnceWrong)

/-- 'neaptidelaw17.LedgerChain': WHATEVER THE INPUT: true; the input reads as it did. -/
def ledgerChainSpec : ChangeSpec := { name := "ledgerChain", fn := fun _ => fun
  | [d1, d2, d3] => { results := [.lit (.bool true)], args := [d1, d2, d3] }
  | _ => none }
def ledgerChainRow : OpenClaim := { program := "ytlllhpnpgcphcaa", sum := "c6d29c118770dab7f1e9340bbd3eb3f954efa790b31884d8898d4edf5e3600f8", func := "neaptide/neaptidelaw17.LedgerChain", spec := "ledgerChain", unfollowed := true, recurses := true, apart := false }
def LedgerChainSaid : Prop := ledgerChainRow.holds Try.pinned (OpenSpec.ofChange ledgerChainSpec)

/-- ITS FALSE NEIGHBOUR: 'it returns false'. Refute it at one input. -/
def ledgerChainWrong : ChangeSpec := { name := "ledgerChain", fn := fun _ => fun
  | [d1, d2, d3] => { results := [.lit (.bool false)], args := [d1, d2, d3] }
  | _ => none }
def LedgerChainWrongFalsely : Prop := ledgerChainRow.holds Try.pinned (OpenSpec.ofChange ledgerChainWrong)

/- THE SECOND FORM. 'bulk': how many values and letters a reading holds, each counted each time it is reached (what is shared counts as often as it is met; a slice's spare places count too). A statement '..UptoSaid' is the law's where the arguments, and the package variables that the reading takes, are together of bulk at most 1048576: NARROWER than '..Said'. Prove '..Said' where nothing that the law and all that it calls make is longer than what came in: it says more and counts as full. Else prove '..UptoSaid'. A law counts once. -/
mutual
def uptoBulk {H : Type} : DataW H → Nat
  | .lit (.string bytes) => bytes.length + 1
  | .lit _ => 1
  | .nil => 1
  | .ptr d => uptoBulk d + 1
  | .slice elems spare => uptoBulkAll elems + uptoBulkAll spare + 1
  | .agg parts => uptoBulkAll parts + 1
  | .iface _ d => uptoBulk d + 1
  | .map entries => uptoBulkEntries entries + 1
  | .held _ => 1
def uptoBulkAll {H : Type} : List (DataW H) → Nat
  | [] => 0
  | d :: r => uptoBulk d + uptoBulkAll r
def uptoBulkEntries {H : Type} : List (Lit × DataW H) → Nat
  | [] => 0
  | x :: r => uptoBulkEntry x + uptoBulkEntries r
def uptoBulkEntry {H : Type} : Lit × DataW H → Nat
  | (.string bytes, d) => bytes.length + uptoBulk d + 1
  | (_, d) => uptoBulk d + 1
 end
def uptoSmall : (H : Type) → List (DataW H) → Bool := fun _ ds => decide (uptoBulkAll ds ≤ 1048576)
def OpenSpec.upto (s : _root_.Go.ChangeSpec) : _root_.Go.OpenSpec := { _root_.Go.OpenSpec.ofChange s with cond := some uptoSmall }

/-- 'neaptidelaw08.TreeTells', WHERE WHAT IT READS IS OF BULK AT MOST 1048576: true; the input reads as it did. -/
def treeTellsUptoRow : OpenClaim := { program := "ytlllhpnpgcphcaa", sum := "c6d29c118770dab7f1e9340bbd3eb3f954efa790b31884d8898d4edf5e3600f8", func := "neaptide/neaptidelaw08.TreeTells", spec := "treeTells", unfollowed := true, recurses := true, apart := false, narrowed := true }
def TreeTellsUptoSaid : Prop := treeTellsUptoRow.holds Try.pinned (OpenSpec.upto treeTellsSpec)

/-- 'neaptidelaw08.TreeAdds', WHERE WHAT IT READS IS OF BULK AT MOST 1048576: true; the input reads as it did. -/
def treeAddsUptoRow : OpenClaim := { program := "ytlllhpnpgcphcaa", sum := "c6d29c118770dab7f1e9340bbd3eb3f954efa790b31884d8898d4edf5e3600f8", func := "neaptide/neaptidelaw08.TreeAdds", spec := "treeAdds", unfollowed := true, recurses := true, apart := false, narrowed := true }
def TreeAddsUptoSaid : Prop := treeAddsUptoRow.holds Try.pinned (OpenSpec.upto treeAddsSpec)

/-- 'neaptidelaw11.ChainNames', WHERE WHAT IT READS IS OF BULK AT MOST 1048576: true; the input reads as it did. -/
def chainNamesUptoRow : OpenClaim := { program := "ytlllhpnpgcphcaa", sum := "c6d29c118770dab7f1e9340bbd3eb3f954efa790b31884d8898d4edf5e3600f8", func := "neaptide/neaptidelaw11.ChainNames", spec := "chainNames", unfollowed := true, recurses := true, apart := false, narrowed := true }
def ChainNamesUptoSaid : Prop := chainNamesUptoRow.holds Try.pinned (OpenSpec.upto chainNamesSpec)

/-- 'neaptidelaw11.ChainTxs', WHERE WHAT IT READS IS OF BULK AT MOST 1048576: true; the input reads as it did. -/
def chainTxsUptoRow : OpenClaim := { program := "ytlllhpnpgcphcaa", sum := "c6d29c118770dab7f1e9340bbd3eb3f954efa790b31884d8898d4edf5e3600f8", func := "neaptide/neaptidelaw11.ChainTxs", spec := "chainTxs", unfollowed := true, recurses := true, apart := false, narrowed := true }
def ChainTxsUptoSaid : Prop := chainTxsUptoRow.holds Try.pinned (OpenSpec.upto chainTxsSpec)

/-- 'neaptidelaw11.ChainRefuses', WHERE WHAT IT READS IS OF BULK AT MOST 1048576: true; the input reads as it did. -/
def chainRefusesUptoRow : OpenClaim := { program := "ytlllhpnpgcphcaa", sum := "c6d29c118770dab7f1e9340bbd3eb3f954efa790b31884d8898d4edf5e3600f8", func := "neaptide/neaptidelaw11.ChainRefuses", spec := "chainRefuses", unfollowed := true, recurses := true, apart := false, narrowed := true }
def ChainRefusesUptoSaid : Prop := chainRefusesUptoRow.holds Try.pinned (OpenSpec.upto chainRefusesSpec)

/-- 'neaptidelaw11.ChainGrows', WHERE WHAT IT READS IS OF BULK AT MOST 1048576: true; the input reads as it did. -/
def chainGrowsUptoRow : OpenClaim := { program := "ytlllhpnpgcphcaa", sum := "c6d29c118770dab7f1e9340bbd3eb3f954efa790b31884d8898d4edf5e3600f8", func := "neaptide/neaptidelaw11.ChainGrows", spec := "chainGrows", unfollowed := true, recurses := true, apart := false, narrowed := true }
def ChainGrowsUptoSaid : Prop := chainGrowsUptoRow.holds Try.pinned (OpenSpec.upto chainGrowsSpec)

/-- 'neaptidelaw17.LedgerNames', WHERE WHAT IT READS IS OF BULK AT MOST 1048576: true; the input reads as it did. -/
def ledgerNamesUptoRow : OpenClaim := { program := "ytlllhpnpgcphcaa", sum := "c6d29c118770dab7f1e9340bbd3eb3f954efa790b31884d8898d4edf5e3600f8", func := "neaptide/neaptidelaw17.LedgerNames", spec := "ledgerNames", unfollowed := true, recurses := true, apart := false, narrowed := true }
def LedgerNamesUptoSaid : Prop := ledgerNamesUptoRow.holds Try.pinned (OpenSpec.upto ledgerNamesSpec)

/-- 'neaptidelaw17.LedgerCleans', WHERE WHAT IT READS IS OF BULK AT MOST 1048576: true; the input reads as it did. -/
def ledgerCleansUptoRow : OpenClaim := { program := "ytlllhpnpgcphcaa", sum := "c6d29c118770dab7f1e9340bbd3eb3f954efa790b31884d8898d4edf5e3600f8", func := "neaptide/neaptidelaw17.LedgerCleans", spec := "ledgerCleans", unfollowed := true, recurses := true, apart := false, narrowed := true }
def LedgerCleansUptoSaid : Prop := ledgerCleansUptoRow.holds Try.pinned (OpenSpec.upto ledgerCleansSpec)

/-- 'neaptidelaw17.LedgerOnce', WHERE WHAT IT READS IS OF BULK AT MOST 1048576: true; the input reads as it did. -/
def ledgerOnceUptoRow : OpenClaim := { program := "ytlllhpnpgcphcaa", sum := "c6d29c118770dab7f1e9340bbd3eb3f954efa790b31884d8898d4edf5e3600f8", func := "neaptide/neaptidelaw17.LedgerOnce", spec := "ledgerOnce", unfollowed := true, recurses := true, apart := false, narrowed := true }
def LedgerOnceUptoSaid : Prop := ledgerOnceUptoRow.holds Try.pinned (OpenSpec.upto ledgerOnceSpec)

/-- 'neaptidelaw17.LedgerChain', WHERE WHAT IT READS IS OF BULK AT MOST 1048576: true; the input reads as it did. -/
def ledgerChainUptoRow : OpenClaim := { program := "ytlllhpnpgcphcaa", sum := "c6d29c118770dab7f1e9340bbd3eb3f954efa790b31884d8898d4edf5e3600f8", func := "neaptide/neaptidelaw17.LedgerChain", spec := "ledgerChain", unfollowed := true, recurses := true, apart := false, narrowed := true }
def LedgerChainUptoSaid : Prop := ledgerChainUptoRow.holds Try.pinned (OpenSpec.upto ledgerChainSpec)

end Rows
end Go.Proofs.Ytlllhpnpgcphcaa
