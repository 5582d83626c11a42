/-
  No cell of these rows narrows 'for every input' (looked for: loops, veiled, ifaces, maps, wideKeys, modest, calm, conditions, laid).
  DERIVED. THE GIVEN ROWS OF THIS SEAT. 3 by the template 'for every input the law returns true; each argument reads behind the call as it read before'; 0 by the template 'total and deterministic' (their statements: YtgfiglcmhlbjjaaGreatTotals.lean).
  GIVEN WITH THE SEED: the statements are not yours to turn. If you find one false, say at which input.
  Laid BY PROGRAM, IN A SANDBOX (cutbox-rows.mjs): the forced cells as the released guide's own fill.sh prints them over the translation edf5de153ad1d366… (all of the seat's roots in one cut). By AI agents, Wed Nov 11 2026. No macro, syntax, notation, axiom, sorry.
-/
import Derived.Test.YtgfiglcmhlbjjaaGreatChecked
import GoSem.Claim
import GoSem.ClaimJoined
import GoSem.ClaimMapViews
import Derived.JoinedTies
import Derived.KernelRfl
namespace Go.Proofs.YtgfiglcmhlbjjaaGreat
/- THE CELL 'sum', in the pinned program and in every row, IS THE sha256 OF THE DUMP (.gsa) THAT YtgfiglcmhlbjjaaGreatProg.lean LOADS. Nothing in Lean hashes anything: it is a label: what it is worth is what the hold of that sum in a sandbox is worth. -/
noncomputable def Tryz.pinned : Pinned := { name := "ytgfiglcmhlbjjaagreat", sum := "edf5de153ad1d3660b3c0edc09370425bbff8ff8c375348aae2b3614581b29ad", checked := Tryz.checked }
namespace Rows
def none {H : Type} : Left H := { results := [], args := [] }

/-- 'neaptidelaw15.CheckTold': WHATEVER THE INPUT: true; the input reads as it did. -/
def checkToldSpec : ChangeSpec := { name := "checkTold", fn := fun _ => fun
  | [d1, d2, d3] => { results := [.lit (.bool true)], args := [d1, d2, d3] }
  | _ => none }
def checkToldRow : OpenClaim := { program := "ytgfiglcmhlbjjaagreat", sum := "edf5de153ad1d3660b3c0edc09370425bbff8ff8c375348aae2b3614581b29ad", func := "neaptide/neaptidelaw15.CheckTold", spec := "checkTold", unfollowed := true, recurses := true, plainKeys := false, apart := false }
def CheckToldSaid : Prop := checkToldRow.holds Tryz.pinned (OpenSpec.ofChange checkToldSpec)

/-- ITS FALSE NEIGHBOUR: 'it returns false'. Refute it at one input. -/
def checkToldWrong : ChangeSpec := { name := "checkTold", fn := fun _ => fun
  | [d1, d2, d3] => { results := [.lit (.bool false)], args := [d1, d2, d3] }
  | _ => none }
def CheckToldWrongFalsely : Prop := checkToldRow.holds Tryz.pinned (OpenSpec.ofChange checkToldWrong)

/-- 'neaptidelaw15.CheckSpeaks': WHATEVER THE INPUT: true; the input reads as it did. -/
def checkSpeaksSpec : ChangeSpec := { name := "checkSpeaks", fn := fun _ => fun
  | [d1, d2, d3] => { results := [.lit (.bool true)], args := [d1, d2, d3] }
  | _ => none }
def checkSpeaksRow : OpenClaim := { program := "ytgfiglcmhlbjjaagreat", sum := "edf5de153ad1d3660b3c0edc09370425bbff8ff8c375348aae2b3614581b29ad", func := "neaptide/neaptidelaw15.CheckSpeaks", spec := "checkSpeaks", unfollowed := true, recurses := true, plainKeys := false, apart := false }
def CheckSpeaksSaid : Prop := checkSpeaksRow.holds Tryz.pinned (OpenSpec.ofChange checkSpeaksSpec)

/-- ITS FALSE NEIGHBOUR: 'it returns false'. Refute it at one input. -/
def checkSpeaksWrong : ChangeSpec := { name := "checkSpeaks", fn := fun _ => fun
  | [d1, d2, d3] => { results := [.lit (.bool false)], args := [d1, d2, d3] }
  | _ => none }
def CheckSpeaksWrongFalsely : Prop := checkSpeaksRow.holds Tryz.pinned (OpenSpec.ofChange checkSpeaksWrong)

/-- 'neaptidelaw15.CheckAgrees': WHATEVER THE INPUT: true; the input reads as it did. -/
def checkAgreesSpec : ChangeSpec := { name := "checkAgrees", fn := fun _ => fun
  | [d1, d2, d3] => { results := [.lit (.bool true)], args := [d1, d2, d3] }
  | _ => none }
def checkAgreesRow : OpenClaim := { program := "ytgfiglcmhlbjjaagreat", sum := "edf5de153ad1d3660b3c0edc09370425bbff8ff8c375348aae2b3614581b29ad", func := "neaptide/neaptidelaw15.CheckAgrees", spec := "checkAgrees", unfollowed := true, recurses := true, plainKeys := false, apart := false }
def CheckAgreesSaid : Prop := checkAgreesRow.holds Tryz.pinned (OpenSpec.ofChange checkAgreesSpec)

/-- ITS FALSE NEIGHBOUR: 'it returns false'. Refute it at one input. -/
def checkAgreesWrong : ChangeSpec := { name := "checkAgrees", fn := fun _ => fun
  | [d1, d2, d3] => { results := [.lit (.bool false)], args := [d1, d2, d3] }
  | _ => none }
def CheckAgreesWrongFalsely : Prop := checkAgreesRow.holds Tryz.pinned (OpenSpec.ofChange checkAgreesWrong)

/- THE SECOND FORM. 'bulk': how many values and letters a reading holds, each counted each time it is reached (what is shared counts as often as it is met; a slice's spare places count too). A statement '..UptoSaid' is the law's where the arguments, and the package variables that the reading takes, are together of bulk at most 1048576: NARROWER than '..Said'. Prove '..Said' where nothing that the law and all that it calls make is longer than what came in: it says more and counts as full. Else prove '..UptoSaid'. A law counts once. -/
mutual
def uptoBulk {H : Type} : DataW H → Nat
  | .lit (.string bytes) => bytes.length + 1
  | .lit _ => 1
  | .nil => 1
  | .ptr d => uptoBulk d + 1
  | .slice elems spare => uptoBulkAll elems + uptoBulkAll spare + 1
  | .agg parts => uptoBulkAll parts + 1
  | .iface _ d => uptoBulk d + 1
  | .map entries => uptoBulkEntries entries + 1
  | .held _ => 1
def uptoBulkAll {H : Type} : List (DataW H) → Nat
  | [] => 0
  | d :: r => uptoBulk d + uptoBulkAll r
def uptoBulkEntries {H : Type} : List (Lit × DataW H) → Nat
  | [] => 0
  | x :: r => uptoBulkEntry x + uptoBulkEntries r
def uptoBulkEntry {H : Type} : Lit × DataW H → Nat
  | (.string bytes, d) => bytes.length + uptoBulk d + 1
  | (_, d) => uptoBulk d + 1
 end
def uptoSmall : (H : Type) → List (DataW H) → Bool := fun _ ds => decide (uptoBulkAll ds ≤ 1048576)
def OpenSpec.upto (s : _root_.Go.ChangeSpec) : _root_.Go.OpenSpec := { _root_.Go.OpenSpec.ofChange s with cond := some uptoSmall }

/-- 'neaptidelaw15.CheckTold', WHERE WHAT IT READS IS OF BULK AT MOST 1048576: true; the input reads as it did. -/
def checkToldUptoRow : OpenClaim := { program := "ytgfiglcmhlbjjaagreat", sum := "edf5de153ad1d3660b3c0edc09370425bbff8ff8c375348aae2b3614581b29ad", func := "neaptide/neaptidelaw15.CheckTold", spec := "checkTold", unfollowed := true, recurses := true, plainKeys := false, apart := false, narrowed := true }
def CheckToldUptoSaid : Prop := checkToldUptoRow.holds Tryz.pinned (OpenSpec.upto checkToldSpec)

/-- 'neaptidelaw15.CheckSpeaks', WHERE WHAT IT READS IS OF BULK AT MOST 1048576: true; the input reads as it did. -/
def checkSpeaksUptoRow : OpenClaim := { program := "ytgfiglcmhlbjjaagreat", sum := "edf5de153ad1d3660b3c0edc09370425bbff8ff8c375348aae2b3614581b29ad", func := "neaptide/neaptidelaw15.CheckSpeaks", spec := "checkSpeaks", unfollowed := true, recurses := true, plainKeys := false, apart := false, narrowed := true }
def CheckSpeaksUptoSaid : Prop := checkSpeaksUptoRow.holds Tryz.pinned (OpenSpec.upto checkSpeaksSpec)

/-- 'neaptidelaw15.CheckAgrees', WHERE WHAT IT READS IS OF BULK AT MOST 1048576: true; the input reads as it did. -/
def checkAgreesUptoRow : OpenClaim := { program := "ytgfiglcmhlbjjaagreat", sum := "edf5de153ad1d3660b3c0edc09370425bbff8ff8c375348aae2b3614581b29ad", func := "neaptide/neaptidelaw15.CheckAgrees", spec := "checkAgrees", unfollowed := true, recurses := true, plainKeys := false, apart := false, narrowed := true }
def CheckAgreesUptoSaid : Prop := checkAgreesUptoRow.holds Tryz.pinned (OpenSpec.upto checkAgreesSpec)

end Rows
end Go.Proofs.YtgfiglcmhlbjjaaGreat
