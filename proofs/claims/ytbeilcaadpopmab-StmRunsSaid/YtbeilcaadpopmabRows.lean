/-
  No cell of these rows narrows 'for every input' (looked for: loops, veiled, ifaces, maps, wideKeys, modest, calm, conditions, laid).
  DERIVED. THE GIVEN ROWS OF THIS SEAT. 12 by the template 'for every input the law returns true; each argument reads behind the call as it read before'; 0 by the template 'total and deterministic' (their statements: YtbeilcaadpopmabTotals.lean).
  GIVEN WITH THE SEED: the statements are not yours to turn. If you find one false, say at which input.
  Laid BY PROGRAM, IN A SANDBOX (cutbox-rows.mjs): the forced cells as the released guide's own fill.sh prints them over the translation f5f43f7101d50561… (all of the seat's roots in one cut). By AI agents, Wed Nov 11 2026. No macro, syntax, notation, axiom, sorry.
-/
import Derived.Test.YtbeilcaadpopmabChecked
import GoSem.Claim
import GoSem.ClaimJoined
import GoSem.ClaimMapViews
import Derived.JoinedTies
import Derived.KernelRfl
namespace Go.Proofs.Ytbeilcaadpopmab
/- THE CELL 'sum', in the pinned program and in every row, IS THE sha256 OF THE DUMP (.gsa) THAT YtbeilcaadpopmabProg.lean LOADS. Nothing in Lean hashes anything: it is a label: what it is worth is what the hold of that sum in a sandbox is worth. -/
noncomputable def Try.pinned : Pinned := { name := "ytbeilcaadpopmab", sum := "f5f43f7101d505618df5073beeaf03aa6f53668e1f614f54d5ef55a9938c61b8", checked := Try.checked }
namespace Rows
def none {H : Type} : Left H := { results := [], args := [] }

/-- 'limewashkeep.AllocsGrow': WHATEVER THE INPUT: true; the input reads as it did. -/
def allocsGrowSpec : ChangeSpec := { name := "allocsGrow", fn := fun _ => fun
  | [d1, d2] => { results := [.lit (.bool true)], args := [d1, d2] }
  | _ => none }
def allocsGrowRow : OpenClaim := { program := "ytbeilcaadpopmab", sum := "f5f43f7101d505618df5073beeaf03aa6f53668e1f614f54d5ef55a9938c61b8", func := "limewash/limewashkeep.AllocsGrow", spec := "allocsGrow", apart := false }
def AllocsGrowSaid : Prop := allocsGrowRow.holds Try.pinned (OpenSpec.ofChange allocsGrowSpec)

/-- ITS FALSE NEIGHBOUR: 'it returns false'. Refute it at one input. -/
def allocsGrowWrong : ChangeSpec := { name := "allocsGrow", fn := fun _ => fun
  | [d1, d2] => { results := [.lit (.bool false)], args := [d1, d2] }
  | _ => none }
def AllocsGrowWrongFalsely : Prop := allocsGrowRow.holds Try.pinned (OpenSpec.ofChange allocsGrowWrong)

/-- 'limewashlaw.HeapStores': WHATEVER THE INPUT: true; the input reads as it did. -/
def heapStoresSpec : ChangeSpec := { name := "heapStores", fn := fun _ => fun
  | [d1, d2, d3, d4] => { results := [.lit (.bool true)], args := [d1, d2, d3, d4] }
  | _ => none }
def heapStoresRow : OpenClaim := { program := "ytbeilcaadpopmab", sum := "f5f43f7101d505618df5073beeaf03aa6f53668e1f614f54d5ef55a9938c61b8", func := "limewash/limewashlaw.HeapStores", spec := "heapStores", apart := false }
def HeapStoresSaid : Prop := heapStoresRow.holds Try.pinned (OpenSpec.ofChange heapStoresSpec)

/-- ITS FALSE NEIGHBOUR: 'it returns false'. Refute it at one input. -/
def heapStoresWrong : ChangeSpec := { name := "heapStores", fn := fun _ => fun
  | [d1, d2, d3, d4] => { results := [.lit (.bool false)], args := [d1, d2, d3, d4] }
  | _ => none }
def HeapStoresWrongFalsely : Prop := heapStoresRow.holds Try.pinned (OpenSpec.ofChange heapStoresWrong)

/-- 'limewashtop.TopHeld': WHATEVER THE INPUT: true; the input reads as it did. -/
def topHeldSpec : ChangeSpec := { name := "topHeld", fn := fun _ => fun
  | [d] => { results := [.lit (.bool true)], args := [d] }
  | _ => none }
def topHeldRow : OpenClaim := { program := "ytbeilcaadpopmab", sum := "f5f43f7101d505618df5073beeaf03aa6f53668e1f614f54d5ef55a9938c61b8", func := "limewash/limewashtop.TopHeld", spec := "topHeld", unfollowed := true, recurses := true, apart := false }
def TopHeldSaid : Prop := topHeldRow.holds Try.pinned (OpenSpec.ofChange topHeldSpec)

/-- ITS FALSE NEIGHBOUR: 'it returns false'. Refute it at one input. -/
def topHeldWrong : ChangeSpec := { name := "topHeld", fn := fun _ => fun
  | [d] => { results := [.lit (.bool false)], args := [d] }
  | _ => none }
def TopHeldWrongFalsely : Prop := topHeldRow.holds Try.pinned (OpenSpec.ofChange topHeldWrong)

/-- 'limewashlaw.GcCompacts': WHATEVER THE INPUT: true; the input reads as it did. -/
def gcCompactsSpec : ChangeSpec := { name := "gcCompacts", fn := fun _ => fun
  | [d1, d2] => { results := [.lit (.bool true)], args := [d1, d2] }
  | _ => none }
def gcCompactsRow : OpenClaim := { program := "ytbeilcaadpopmab", sum := "f5f43f7101d505618df5073beeaf03aa6f53668e1f614f54d5ef55a9938c61b8", func := "limewash/limewashlaw.GcCompacts", spec := "gcCompacts", apart := false }
def GcCompactsSaid : Prop := gcCompactsRow.holds Try.pinned (OpenSpec.ofChange gcCompactsSpec)

/-- ITS FALSE NEIGHBOUR: 'it returns false'. Refute it at one input. -/
def gcCompactsWrong : ChangeSpec := { name := "gcCompacts", fn := fun _ => fun
  | [d1, d2] => { results := [.lit (.bool false)], args := [d1, d2] }
  | _ => none }
def GcCompactsWrongFalsely : Prop := gcCompactsRow.holds Try.pinned (OpenSpec.ofChange gcCompactsWrong)

/-- 'limewashlaw.GcReaches': WHATEVER THE INPUT: true; the input reads as it did. -/
def gcReachesSpec : ChangeSpec := { name := "gcReaches", fn := fun _ => fun
  | [d1, d2] => { results := [.lit (.bool true)], args := [d1, d2] }
  | _ => none }
def gcReachesRow : OpenClaim := { program := "ytbeilcaadpopmab", sum := "f5f43f7101d505618df5073beeaf03aa6f53668e1f614f54d5ef55a9938c61b8", func := "limewash/limewashlaw.GcReaches", spec := "gcReaches", unfollowed := true, recurses := true, apart := false }
def GcReachesSaid : Prop := gcReachesRow.holds Try.pinned (OpenSpec.ofChange gcReachesSpec)

/-- ITS FALSE NEIGHBOUR: 'it returns false'. Refute it at one input. -/
def gcReachesWrong : ChangeSpec := { name := "gcReaches", fn := fun _ => fun
  | [d1, d2] => { results := [.lit (.bool false)], args := [d1, d2] }
  | _ => none }
def GcReachesWrongFalsely : Prop := gcReachesRow.holds Try.pinned (OpenSpec.ofChange gcReachesWrong)

/-- 'limewashkeep.StoresLoad': WHATEVER THE INPUT: true; the input reads as it did. -/
def storesLoadSpec : ChangeSpec := { name := "storesLoad", fn := fun _ => fun
  | [d1, d2] => { results := [.lit (.bool true)], args := [d1, d2] }
  | _ => none }
def storesLoadRow : OpenClaim := { program := "ytbeilcaadpopmab", sum := "f5f43f7101d505618df5073beeaf03aa6f53668e1f614f54d5ef55a9938c61b8", func := "limewash/limewashkeep.StoresLoad", spec := "storesLoad", apart := false }
def StoresLoadSaid : Prop := storesLoadRow.holds Try.pinned (OpenSpec.ofChange storesLoadSpec)

/-- ITS FALSE NEIGHBOUR: 'it returns false'. Refute it at one input. -/
def storesLoadWrong : ChangeSpec := { name := "storesLoad", fn := fun _ => fun
  | [d1, d2] => { results := [.lit (.bool false)], args := [d1, d2] }
  | _ => none }
def StoresLoadWrongFalsely : Prop := storesLoadRow.holds Try.pinned (OpenSpec.ofChange storesLoadWrong)

/-- 'limewashkeep.HeapsBad': WHATEVER THE INPUT: true; the input reads as it did. -/
def heapsBadSpec : ChangeSpec := { name := "heapsBad", fn := fun _ => fun
  | [d1, d2, d3] => { results := [.lit (.bool true)], args := [d1, d2, d3] }
  | _ => none }
def heapsBadRow : OpenClaim := { program := "ytbeilcaadpopmab", sum := "f5f43f7101d505618df5073beeaf03aa6f53668e1f614f54d5ef55a9938c61b8", func := "limewash/limewashkeep.HeapsBad", spec := "heapsBad", unfollowed := true, recurses := true, apart := false }
def HeapsBadSaid : Prop := heapsBadRow.holds Try.pinned (OpenSpec.ofChange heapsBadSpec)

/-- ITS FALSE NEIGHBOUR: 'it returns false'. Refute it at one input. -/
def heapsBadWrong : ChangeSpec := { name := "heapsBad", fn := fun _ => fun
  | [d1, d2, d3] => { results := [.lit (.bool false)], args := [d1, d2, d3] }
  | _ => none }
def HeapsBadWrongFalsely : Prop := heapsBadRow.holds Try.pinned (OpenSpec.ofChange heapsBadWrong)

/-- 'limewashkeep.ReachesAll': WHATEVER THE INPUT: true; the input reads as it did. -/
def reachesAllSpec : ChangeSpec := { name := "reachesAll", fn := fun _ => fun
  | [d1, d2] => { results := [.lit (.bool true)], args := [d1, d2] }
  | _ => none }
def reachesAllRow : OpenClaim := { program := "ytbeilcaadpopmab", sum := "f5f43f7101d505618df5073beeaf03aa6f53668e1f614f54d5ef55a9938c61b8", func := "limewash/limewashkeep.ReachesAll", spec := "reachesAll", unfollowed := true, recurses := true, apart := false }
def ReachesAllSaid : Prop := reachesAllRow.holds Try.pinned (OpenSpec.ofChange reachesAllSpec)

/-- ITS FALSE NEIGHBOUR: 'it returns false'. Refute it at one input. -/
def reachesAllWrong : ChangeSpec := { name := "reachesAll", fn := fun _ => fun
  | [d1, d2] => { results := [.lit (.bool false)], args := [d1, d2] }
  | _ => none }
def ReachesAllWrongFalsely : Prop := reachesAllRow.holds Try.pinned (OpenSpec.ofChange reachesAllWrong)

/-- 'limewashkeep.CompactsSame': WHATEVER THE INPUT: true; the input reads as it did. -/
def compactsSameSpec : ChangeSpec := { name := "compactsSame", fn := fun _ => fun
  | [d1, d2] => { results := [.lit (.bool true)], args := [d1, d2] }
  | _ => none }
def compactsSameRow : OpenClaim := { program := "ytbeilcaadpopmab", sum := "f5f43f7101d505618df5073beeaf03aa6f53668e1f614f54d5ef55a9938c61b8", func := "limewash/limewashkeep.CompactsSame", spec := "compactsSame", unfollowed := true, recurses := true, apart := false }
def CompactsSameSaid : Prop := compactsSameRow.holds Try.pinned (OpenSpec.ofChange compactsSameSpec)

/-- ITS FALSE NEIGHBOUR: 'it returns false'. Refute it at one input. -/
def compactsSameWrong : ChangeSpec := { name := "compactsSame", fn := fun _ => fun
  | [d1, d2] => { results := [.lit (.bool false)], args := [d1, d2] }
  | _ => none }
def CompactsSameWrongFalsely : Prop := compactsSameRow.holds Try.pinned (OpenSpec.ofChange compactsSameWrong)

/-- 'limewashlaw.StmRuns': WHATEVER THE INPUT: true; the input reads as it did. -/
def stmRunsSpec : ChangeSpec := { name := "stmRuns", fn := fun _ => fun
  | [d1, d2] => { results := [.lit (.bool true)], args := [d1, d2] }
  | _ => none }
def stmRunsRow : OpenClaim := { program := "ytbeilcaadpopmab", sum := "f5f43f7101d505618df5073beeaf03aa6f53668e1f614f54d5ef55a9938c61b8", func := "limewash/limewashlaw.StmRuns", spec := "stmRuns", unfollowed := true, recurses := true, apart := false }
def StmRunsSaid : Prop := stmRunsRow.holds Try.pinned (OpenSpec.ofChange stmRunsSpec)

/-- ITS FALSE NEIGHBOUR: 'it returns false'. Refute it at one input. -/
def stmRunsWrong : ChangeSpec := { name := "stmRuns", fn := fun _ => fun
  | [d1, d2] => { results := [.lit (.bool false)], args := [d1, d2] }
  | _ => none }
def StmRunsWrongFalsely : Prop := stmRunsRow.holds Try.pinned (OpenSpec.ofChange stmRunsWrong)

/-- 'limewashkeep.TransactionsEnd': WHATEVER THE INPUT: true; the input reads as it did. -/
def transactionsEndSpec : ChangeSpec := { name := "transactionsEnd", fn := fun _ => fun
  | [d1, d2] => { results := [.lit (.bool true)], args := [d1, d2] }
  | _ => none }
def transactionsEndRow : OpenClaim := { program := "ytbeilcaadpopmab", sum := "f5f43f7101d505618df5073beeaf03aa6f53668e1f614f54d5ef55a9938c61b8", func := "limewash/limewashkeep.TransactionsEnd", spec := "transactionsEnd", unfollowed := true, recurses := true, apart := false }
def TransactionsEndSaid : Prop := transactionsEndRow.holds Try.pinned (OpenSpec.ofChange transactionsEndSpec)

/-- ITS FALSE NEIGHBOUR: 'it returns false'. Refute it at one input. -/
def transactionsEndWrong : ChangeSpec := { name := "transactionsEnd", fn := fun _ => fun
  | [d1, d2] => { results := [.lit (.bool false)], args := [d1, d2] }
  | _ => none }
def TransactionsEndWrongFalsely : Prop := transactionsEndRow.holds Try.pinned (OpenSpec.ofChange transactionsEndWrong)

/-- 'limewashkeep.MachinesGood': WHATEVER THE INPUT: true; the input reads as it did. -/
def machinesGoodSpec : ChangeSpec := { name := "machinesGood", fn := fun _ => fun
  | [d1, d2, d3] => { results := [.lit (.bool true)], args := [d1, d2, d3] }
  | _ => none }
def machinesGoodRow : OpenClaim := { program := "ytbeilcaadpopmab", sum := "f5f43f7101d505618df5073beeaf03aa6f53668e1f614f54d5ef55a9938c61b8", func := "limewash/limewashkeep.MachinesGood", spec := "machinesGood", unfollowed := true, recurses := true, apart := false }
def MachinesGoodSaid : Prop := machinesGoodRow.holds Try.pinned (OpenSpec.ofChange machinesGoodSpec)

/-- ITS FALSE NEIGHBOUR: 'it returns false'. Refute it at one input. -/
def machinesGoodWrong : ChangeSpec := { name := "machinesGood", fn := fun _ => fun
  | [d1, d2, d3] => { results := [.lit (.bool false)], args := [d1, d2, d3] }
  | _ => none }
def MachinesGoodWrongFalsely : Prop := machinesGoodRow.holds Try.pinned (OpenSpec.ofChange machinesGoodWrong)

/- THE SECOND FORM. 'bulk': how many values and letters a reading holds, each counted each time it is reached (what is shared counts as often as it is met; a slice's spare places count too). A statement '..UptoSaid' is the law's where the arguments, and the package variables that the reading takes, are together of bulk at most 1048576: NARROWER than '..Said'. Prove '..Said' where nothing that the law and all that it calls make is longer than what came in: it says more and counts as full. Else prove '..UptoSaid'. A law counts once. -/
mutual
def uptoBulk {H : Type} : DataW H → Nat
  | .lit (.string bytes) => bytes.length + 1
  | .lit _ => 1
  | .nil => 1
  | .ptr d => uptoBulk d + 1
  | .slice elems spare => uptoBulkAll elems + uptoBulkAll spare + 1
  | .agg parts => uptoBulkAll parts + 1
  | .iface _ d => uptoBulk d + 1
  | .map entries => uptoBulkEntries entries + 1
  | .held _ => 1
def uptoBulkAll {H : Type} : List (DataW H) → Nat
  | [] => 0
  | d :: r => uptoBulk d + uptoBulkAll r
def uptoBulkEntries {H : Type} : List (Lit × DataW H) → Nat
  | [] => 0
  | x :: r => uptoBulkEntry x + uptoBulkEntries r
def uptoBulkEntry {H : Type} : Lit × DataW H → Nat
  | (.string bytes, d) => bytes.length + uptoBulk d + 1
  | (_, d) => uptoBulk d + 1
 end
def uptoSmall : (H : Type) → List (DataW H) → Bool := fun _ ds => decide (uptoBulkAll ds ≤ 1048576)
def OpenSpec.upto (s : _root_.Go.ChangeSpec) : _root_.Go.OpenSpec := { _root_.Go.OpenSpec.ofChange s with cond := some uptoSmall }

/-- 'limewashkeep.AllocsGrow', WHERE WHAT IT READS IS OF BULK AT MOST 1048576: true; the input reads as it did. -/
def allocsGrowUptoRow : OpenClaim := { program := "ytbeilcaadpopmab", sum := "f5f43f7101d505618df5073beeaf03aa6f53668e1f614f54d5ef55a9938c61b8", func := "limewash/limewashkeep.AllocsGrow", spec := "allocsGrow", apart := false, narrowed := true }
def AllocsGrowUptoSaid : Prop := allocsGrowUptoRow.holds Try.pinned (OpenSpec.upto allocsGrowSpec)

/-- 'limewashlaw.HeapStores', WHERE WHAT IT READS IS OF BULK AT MOST 1048576: true; the input reads as it did. -/
def heapStoresUptoRow : OpenClaim := { program := "ytbeilcaadpopmab", sum := "f5f43f7101d505618df5073beeaf03aa6f53668e1f614f54d5ef55a9938c61b8", func := "limewash/limewashlaw.HeapStores", spec := "heapStores", apart := false, narrowed := true }
def HeapStoresUptoSaid : Prop := heapStoresUptoRow.holds Try.pinned (OpenSpec.upto heapStoresSpec)

/-- 'limewashtop.TopHeld', WHERE WHAT IT READS IS OF BULK AT MOST 1048576: true; the input reads as it did. -/
def topHeldUptoRow : OpenClaim := { program := "ytbeilcaadpopmab", sum := "f5f43f7101d505618df5073beeaf03aa6f53668e1f614f54d5ef55a9938c61b8", func := "limewash/limewashtop.TopHeld", spec := "topHeld", unfollowed := true, recurses := true, apart := false, narrowed := true }
def TopHeldUptoSaid : Prop := topHeldUptoRow.holds Try.pinned (OpenSpec.upto topHeldSpec)

/-- 'limewashlaw.GcCompacts', WHERE WHAT IT READS IS OF BULK AT MOST 1048576: true; the input reads as it did. -/
def gcCompactsUptoRow : OpenClaim := { program := "ytbeilcaadpopmab", sum := "f5f43f7101d505618df5073beeaf03aa6f53668e1f614f54d5ef55a9938c61b8", func := "limewash/limewashlaw.GcCompacts", spec := "gcCompacts", apart := false, narrowed := true }
def GcCompactsUptoSaid : Prop := gcCompactsUptoRow.holds Try.pinned (OpenSpec.upto gcCompactsSpec)

/-- 'limewashlaw.GcReaches', WHERE WHAT IT READS IS OF BULK AT MOST 1048576: true; the input reads as it did. -/
def gcReachesUptoRow : OpenClaim := { program := "ytbeilcaadpopmab", sum := "f5f43f7101d505618df5073beeaf03aa6f53668e1f614f54d5ef55a9938c61b8", func := "limewash/limewashlaw.GcReaches", spec := "gcReaches", unfollowed := true, recurses := true, apart := false, narrowed := true }
def GcReachesUptoSaid : Prop := gcReachesUptoRow.holds Try.pinned (OpenSpec.upto gcReachesSpec)

/-- 'limewashkeep.StoresLoad', WHERE WHAT IT READS IS OF BULK AT MOST 1048576: true; the input reads as it did. -/
def storesLoadUptoRow : OpenClaim := { program := "ytbeilcaadpopmab", sum := "f5f43f7101d505618df5073beeaf03aa6f53668e1f614f54d5ef55a9938c61b8", func := "limewash/limewashkeep.StoresLoad", spec := "storesLoad", apart := false, narrowed := true }
def StoresLoadUptoSaid : Prop := storesLoadUptoRow.holds Try.pinned (OpenSpec.upto storesLoadSpec)

/-- 'limewashkeep.HeapsBad', WHERE WHAT IT READS IS OF BULK AT MOST 1048576: true; the input reads as it did. -/
def heapsBadUptoRow : OpenClaim := { program := "ytbeilcaadpopmab", sum := "f5f43f7101d505618df5073beeaf03aa6f53668e1f614f54d5ef55a9938c61b8", func := "limewash/limewashkeep.HeapsBad", spec := "heapsBad", unfollowed := true, recurses := true, apart := false, narrowed := true }
def HeapsBadUptoSaid : Prop := heapsBadUptoRow.holds Try.pinned (OpenSpec.upto heapsBadSpec)

/-- 'limewashkeep.ReachesAll', WHERE WHAT IT READS IS OF BULK AT MOST 1048576: true; the input reads as it did. -/
def reachesAllUptoRow : OpenClaim := { program := "ytbeilcaadpopmab", sum := "f5f43f7101d505618df5073beeaf03aa6f53668e1f614f54d5ef55a9938c61b8", func := "limewash/limewashkeep.ReachesAll", spec := "reachesAll", unfollowed := true, recurses := true, apart := false, narrowed := true }
def ReachesAllUptoSaid : Prop := reachesAllUptoRow.holds Try.pinned (OpenSpec.upto reachesAllSpec)

/-- 'limewashkeep.CompactsSame', WHERE WHAT IT READS IS OF BULK AT MOST 1048576: true; the input reads as it did. -/
def compactsSameUptoRow : OpenClaim := { program := "ytbeilcaadpopmab", sum := "f5f43f7101d505618df5073beeaf03aa6f53668e1f614f54d5ef55a9938c61b8", func := "limewash/limewashkeep.CompactsSame", spec := "compactsSame", unfollowed := true, recurses := true, apart := false, narrowed := true }
def CompactsSameUptoSaid : Prop := compactsSameUptoRow.holds Try.pinned (OpenSpec.upto compactsSameSpec)

/-- 'limewashlaw.StmRuns', WHERE WHAT IT READS IS OF BULK AT MOST 1048576: true; the input reads as it did. -/
def stmRunsUptoRow : OpenClaim := { program := "ytbeilcaadpopmab", sum := "f5f43f7101d505618df5073beeaf03aa6f53668e1f614f54d5ef55a9938c61b8", func := "limewash/limewashlaw.StmRuns", spec := "stmRuns", unfollowed := true, recurses := true, apart := false, narrowed := true }
def StmRunsUptoSaid : Prop := stmRunsUptoRow.holds Try.pinned (OpenSpec.upto stmRunsSpec)

/-- 'limewashkeep.TransactionsEnd', WHERE WHAT IT READS IS OF BULK AT MOST 1048576: true; the input reads as it did. -/
def transactionsEndUptoRow : OpenClaim := { program := "ytbeilcaadpopmab", sum := "f5f43f7101d505618df5073beeaf03aa6f53668e1f614f54d5ef55a9938c61b8", func := "limewash/limewashkeep.TransactionsEnd", spec := "transactionsEnd", unfollowed := true, recurses := true, apart := false, narrowed := true }
def TransactionsEndUptoSaid : Prop := transactionsEndUptoRow.holds Try.pinned (OpenSpec.upto transactionsEndSpec)

/-- 'limewashkeep.MachinesGood', WHERE WHAT IT READS IS OF BULK AT MOST 1048576: true; the input reads as it did. -/
def machinesGoodUptoRow : OpenClaim := { program := "ytbeilcaadpopmab", sum := "f5f43f7101d505618df5073beeaf03aa6f53668e1f614f54d5ef55a9938c61b8", func := "limewash/limewashkeep.MachinesGood", spec := "machinesGood", unfollowed := true, recurses := true, apart := false, narrowed := true }
def MachinesGoodUptoSaid : Prop := machinesGoodUptoRow.holds Try.pinned (OpenSpec.upto machinesGoodSpec)

end Rows
end Go.Proofs.Ytbeilcaadpopmab
