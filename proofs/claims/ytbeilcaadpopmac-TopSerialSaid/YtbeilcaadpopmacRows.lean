/-
  No cell of these rows narrows 'for every input' (looked for: loops, veiled, ifaces, maps, wideKeys, modest, calm, conditions, laid).
  DERIVED. THE GIVEN ROWS OF THIS SEAT. 4 by the template 'for every input the law returns true; each argument reads behind the call as it read before'; 0 by the template 'total and deterministic' (their statements: YtbeilcaadpopmacTotals.lean).
  GIVEN WITH THE SEED: the statements are not yours to turn. If you find one false, say at which input.
  Laid BY PROGRAM, IN A SANDBOX (cutbox-rows.mjs): the forced cells as the released guide's own fill.sh prints them over the translation 15283a63b75b7f9c… (all of the seat's roots in one cut). By AI agents, Wed Nov 11 2026. No macro, syntax, notation, axiom, sorry.
-/
import Derived.Test.YtbeilcaadpopmacChecked
import GoSem.Claim
import GoSem.ClaimJoined
import GoSem.ClaimMapViews
import Derived.JoinedTies
import Derived.KernelRfl
namespace Go.Proofs.Ytbeilcaadpopmac
/- THE CELL 'sum', in the pinned program and in every row, IS THE sha256 OF THE DUMP (.gsa) THAT YtbeilcaadpopmacProg.lean LOADS. Nothing in Lean hashes anything: it is a label: what it is worth is what the hold of that sum in a sandbox is worth. -/
noncomputable def Try.pinned : Pinned := { name := "ytbeilcaadpopmac", sum := "15283a63b75b7f9cbbffd6ca0c33f0e2a754f35a4d77f30ebe94c0eef86aff48", checked := Try.checked }
namespace Rows
def none {H : Type} : Left H := { results := [], args := [] }

/-- 'limewashtop.TopSerial': WHATEVER THE INPUT: true; the input reads as it did. -/
def topSerialSpec : ChangeSpec := { name := "topSerial", fn := fun _ => fun
  | [d] => { results := [.lit (.bool true)], args := [d] }
  | _ => none }
def topSerialRow : OpenClaim := { program := "ytbeilcaadpopmac", sum := "15283a63b75b7f9cbbffd6ca0c33f0e2a754f35a4d77f30ebe94c0eef86aff48", func := "limewash/limewashtop.TopSerial", spec := "topSerial", unfollowed := true, recurses := true, apart := false }
def TopSerialSaid : Prop := topSerialRow.holds Try.pinned (OpenSpec.ofChange topSerialSpec)

/-- ITS FALSE NEIGHBOUR: 'it returns false'. Refute it at one input. -/
def topSerialWrong : ChangeSpec := { name := "topSerial", fn := fun _ => fun
  | [d] => { results := [.lit (.bool false)], args := [d] }
  | _ => none }
def TopSerialWrongFalsely : Prop := topSerialRow.holds Try.pinned (OpenSpec.ofChange topSerialWrong)

/-- 'limewashtop.TopCollected': WHATEVER THE INPUT: true; the input reads as it did. -/
def topCollectedSpec : ChangeSpec := { name := "topCollected", fn := fun _ => fun
  | [d] => { results := [.lit (.bool true)], args := [d] }
  | _ => none }
def topCollectedRow : OpenClaim := { program := "ytbeilcaadpopmac", sum := "15283a63b75b7f9cbbffd6ca0c33f0e2a754f35a4d77f30ebe94c0eef86aff48", func := "limewash/limewashtop.TopCollected", spec := "topCollected", unfollowed := true, recurses := true, apart := false }
def TopCollectedSaid : Prop := topCollectedRow.holds Try.pinned (OpenSpec.ofChange topCollectedSpec)

/-- ITS FALSE NEIGHBOUR: 'it returns false'. Refute it at one input. -/
def topCollectedWrong : ChangeSpec := { name := "topCollected", fn := fun _ => fun
  | [d] => { results := [.lit (.bool false)], args := [d] }
  | _ => none }
def TopCollectedWrongFalsely : Prop := topCollectedRow.holds Try.pinned (OpenSpec.ofChange topCollectedWrong)

/-- 'limewashtop.TopTwice': WHATEVER THE INPUT: true; the input reads as it did. -/
def topTwiceSpec : ChangeSpec := { name := "topTwice", fn := fun _ => fun
  | [d1, d2, d3] => { results := [.lit (.bool true)], args := [d1, d2, d3] }
  | _ => none }
def topTwiceRow : OpenClaim := { program := "ytbeilcaadpopmac", sum := "15283a63b75b7f9cbbffd6ca0c33f0e2a754f35a4d77f30ebe94c0eef86aff48", func := "limewash/limewashtop.TopTwice", spec := "topTwice", unfollowed := true, recurses := true, apart := false }
def TopTwiceSaid : Prop := topTwiceRow.holds Try.pinned (OpenSpec.ofChange topTwiceSpec)

/-- ITS FALSE NEIGHBOUR: 'it returns false'. Refute it at one input. -/
def topTwiceWrong : ChangeSpec := { name := "topTwice", fn := fun _ => fun
  | [d1, d2, d3] => { results := [.lit (.bool false)], args := [d1, d2, d3] }
  | _ => none }
def TopTwiceWrongFalsely : Prop := topTwiceRow.holds Try.pinned (OpenSpec.ofChange topTwiceWrong)

/-- 'limewashtop.TopUndone': WHATEVER THE INPUT: true; the input reads as it did. -/
def topUndoneSpec : ChangeSpec := { name := "topUndone", fn := fun _ => fun
  | [d1, d2] => { results := [.lit (.bool true)], args := [d1, d2] }
  | _ => none }
def topUndoneRow : OpenClaim := { program := "ytbeilcaadpopmac", sum := "15283a63b75b7f9cbbffd6ca0c33f0e2a754f35a4d77f30ebe94c0eef86aff48", func := "limewash/limewashtop.TopUndone", spec := "topUndone", unfollowed := true, recurses := true, apart := false }
def TopUndoneSaid : Prop := topUndoneRow.holds Try.pinned (OpenSpec.ofChange topUndoneSpec)

/-- ITS FALSE NEIGHBOUR: 'it returns false'. Refute it at one input. -/
def topUndoneWrong : ChangeSpec := { name := "topUndone", fn := fun _ => fun
  | [d1, d2] => { results := [.lit (.bool false)], args := [d1, d2] }
  | _ => none }
def TopUndoneWrongFalsely : Prop := topUndoneRow.holds Try.pinned (OpenSpec.ofChange topUndoneWrong)

/- THE SECOND FORM. 'bulk': how many values and letters a reading holds, each counted each time it is reached (what is shared counts as often as it is met; a slice's spare places count too). A statement '..UptoSaid' is the law's where the arguments, and the package variables that the reading takes, are together of bulk at most 1048576: NARROWER than '..Said'. Prove '..Said' where nothing that the law and all that it calls make is longer than what came in: it says more and counts as full. Else prove '..UptoSaid'. A law counts once. -/
mutual
def uptoBulk {H : Type} : DataW H → Nat
  | .lit (.string bytes) => bytes.length + 1
  | .lit _ => 1
  | .nil => 1
  | .ptr d => uptoBulk d + 1
  | .slice elems spare => uptoBulkAll elems + uptoBulkAll spare + 1
  | .agg parts => uptoBulkAll parts + 1
  | .iface _ d => uptoBulk d + 1
  | .map entries => uptoBulkEntries entries + 1
  | .held _ => 1
def uptoBulkAll {H : Type} : List (DataW H) → Nat
  | [] => 0
  | d :: r => uptoBulk d + uptoBulkAll r
def uptoBulkEntries {H : Type} : List (Lit × DataW H) → Nat
  | [] => 0
  | x :: r => uptoBulkEntry x + uptoBulkEntries r
def uptoBulkEntry {H : Type} : Lit × DataW H → Nat
  | (.string bytes, d) => bytes.length + uptoBulk d + 1
  | (_, d) => uptoBulk d + 1
 end
def uptoSmall : (H : Type) → List (DataW H) → Bool := fun _ ds => decide (uptoBulkAll ds ≤ 1048576)
def OpenSpec.upto (s : _root_.Go.ChangeSpec) : _root_.Go.OpenSpec := { _root_.Go.OpenSpec.ofChange s with cond := some uptoSmall }

/-- 'limewashtop.TopSerial', WHERE WHAT IT READS IS OF BULK AT MOST 1048576: true; the input reads as it did. -/
def topSerialUptoRow : OpenClaim := { program := "ytbeilcaadpopmac", sum := "15283a63b75b7f9cbbffd6ca0c33f0e2a754f35a4d77f30ebe94c0eef86aff48", func := "limewash/limewashtop.TopSerial", spec := "topSerial", unfollowed := true, recurses := true, apart := false, narrowed := true }
def TopSerialUptoSaid : Prop := topSerialUptoRow.holds Try.pinned (OpenSpec.upto topSerialSpec)

/-- 'limewashtop.TopCollected', WHERE WHAT IT READS IS OF BULK AT MOST 1048576: true; the input reads as it did. -/
def topCollectedUptoRow : OpenClaim := { program := "ytbeilcaadpopmac", sum := "15283a63b75b7f9cbbffd6ca0c33f0e2a754f35a4d77f30ebe94c0eef86aff48", func := "limewash/limewashtop.TopCollected", spec := "topCollected", unfollowed := true, recurses := true, apart := false, narrowed := true }
def TopCollectedUptoSaid : Prop := topCollectedUptoRow.holds Try.pinned (OpenSpec.upto topCollectedSpec)

/-- 'limewashtop.TopTwice', WHERE WHAT IT READS IS OF BULK AT MOST 1048576: true; the input reads as it did. -/
def topTwiceUptoRow : OpenClaim := { program := "ytbeilcaadpopmac", sum := "15283a63b75b7f9cbbffd6ca0c33f0e2a754f35a4d77f30ebe94c0eef86aff48", func := "limewash/limewashtop.TopTwice", spec := "topTwice", unfollowed := true, recurses := true, apart := false, narrowed := true }
def TopTwiceUptoSaid : Prop := topTwiceUptoRow.holds Try.pinned (OpenSpec.upto topTwiceSpec)

/-- 'limewashtop.TopUndone', WHERE WHAT IT READS IS OF BULK AT MOST 1048576: true; the input reads as it did. -/
def topUndoneUptoRow : OpenClaim := { program := "ytbeilcaadpopmac", sum := "15283a63b75b7f9cbbffd6ca0c33f0e2a754f35a4d77f30ebe94c0eef86aff48", func := "limewash/limewashtop.TopUndone", spec := "topUndone", unfollowed := true, recurses := true, apart := false, narrowed := true }
def TopUndoneUptoSaid : Prop := topUndoneUptoRow.holds Try.pinned (OpenSpec.upto topUndoneSpec)

end Rows
end Go.Proofs.Ytbeilcaadpopmac
