/-
  No cell of these rows narrows 'for every input' (looked for: loops, veiled, ifaces, maps, wideKeys, modest, calm, conditions, laid).
  DERIVED. THE GIVEN ROWS OF THIS SEAT. 12 by the template 'for every input the law returns true; each argument reads behind the call as it read before'; 0 by the template 'total and deterministic' (their statements: YtbeilcaadpopmaaTotals.lean).
  GIVEN WITH THE SEED: the statements are not yours to turn. If you find one false, say at which input.
  Laid BY PROGRAM, IN A SANDBOX (cutbox-rows.mjs): the forced cells as the released guide's own fill.sh prints them over the translation 86024f7871b31acd… (all of the seat's roots in one cut). By AI agents, Wed Nov 11 2026. No macro, syntax, notation, axiom, sorry.
-/
import Derived.Test.YtbeilcaadpopmaaChecked
import GoSem.Claim
import GoSem.ClaimJoined
import GoSem.ClaimMapViews
import Derived.JoinedTies
import Derived.KernelRfl
namespace Go.Proofs.Ytbeilcaadpopmaa
/- THE CELL 'sum', in the pinned program and in every row, IS THE sha256 OF THE DUMP (.gsa) THAT YtbeilcaadpopmaaProg.lean LOADS. Nothing in Lean hashes anything: it is a label: what it is worth is what the hold of that sum in a sandbox is worth. -/
noncomputable def Try.pinned : Pinned := { name := "ytbeilcaadpopmaa", sum := "86024f7871b31acd279c211ed2f282ba037548e978140415e665a3118b3dc3d9", checked := Try.checked }
namespace Rows
def none {H : Type} : Left H := { results := [], args := [] }

/-- 'limewashlaw.Names': WHATEVER THE INPUT: true; the input reads as it did. -/
def namesSpec : ChangeSpec := { name := "names", fn := fun _ => fun
  | [] => { results := [.lit (.bool true)], args := [] }
  | _ => none }
def namesRow : OpenClaim := { program := "ytbeilcaadpopmaa", sum := "86024f7871b31acd279c211ed2f282ba037548e978140415e665a3118b3dc3d9", func := "limewash/limewashlaw.Names", spec := "names", apart := false }
def NamesSaid : Prop := namesRow.holds Try.pinned (OpenSpec.ofChange namesSpec)

/-- ITS FALSE NEIGHBOUR: 'it returns false'. Refute it at one input. -/
def namesWrong : ChangeSpec := { name := "names", fn := fun _ => fun
  | [] => { results := [.lit (.bool false)], args := [] }
  | _ => none }
def NamesWrongFalsely : Prop := namesRow.holds Try.pinned (OpenSpec.ofChange namesWrong)

/-- 'limewashlaw.HeapNews': WHATEVER THE INPUT: true; the input reads as it did. -/
def heapNewsSpec : ChangeSpec := { name := "heapNews", fn := fun _ => fun
  | [d] => { results := [.lit (.bool true)], args := [d] }
  | _ => none }
def heapNewsRow : OpenClaim := { program := "ytbeilcaadpopmaa", sum := "86024f7871b31acd279c211ed2f282ba037548e978140415e665a3118b3dc3d9", func := "limewash/limewashlaw.HeapNews", spec := "heapNews", apart := false }
def HeapNewsSaid : Prop := heapNewsRow.holds Try.pinned (OpenSpec.ofChange heapNewsSpec)

/-- ITS FALSE NEIGHBOUR: 'it returns false'. Refute it at one input. -/
def heapNewsWrong : ChangeSpec := { name := "heapNews", fn := fun _ => fun
  | [d] => { results := [.lit (.bool false)], args := [d] }
  | _ => none }
def HeapNewsWrongFalsely : Prop := heapNewsRow.holds Try.pinned (OpenSpec.ofChange heapNewsWrong)

/-- 'limewashlaw.HeapWords': WHATEVER THE INPUT: true; the input reads as it did. -/
def heapWordsSpec : ChangeSpec := { name := "heapWords", fn := fun _ => fun
  | [d] => { results := [.lit (.bool true)], args := [d] }
  | _ => none }
def heapWordsRow : OpenClaim := { program := "ytbeilcaadpopmaa", sum := "86024f7871b31acd279c211ed2f282ba037548e978140415e665a3118b3dc3d9", func := "limewash/limewashlaw.HeapWords", spec := "heapWords", apart := false }
def HeapWordsSaid : Prop := heapWordsRow.holds Try.pinned (OpenSpec.ofChange heapWordsSpec)

/-- ITS FALSE NEIGHBOUR: 'it returns false'. Refute it at one input. -/
def heapWordsWrong : ChangeSpec := { name := "heapWords", fn := fun _ => fun
  | [d] => { results := [.lit (.bool false)], args := [d] }
  | _ => none }
def HeapWordsWrongFalsely : Prop := heapWordsRow.holds Try.pinned (OpenSpec.ofChange heapWordsWrong)

/-- 'limewashlaw.HeapOfs': WHATEVER THE INPUT: true; the input reads as it did. -/
def heapOfsSpec : ChangeSpec := { name := "heapOfs", fn := fun _ => fun
  | [d] => { results := [.lit (.bool true)], args := [d] }
  | _ => none }
def heapOfsRow : OpenClaim := { program := "ytbeilcaadpopmaa", sum := "86024f7871b31acd279c211ed2f282ba037548e978140415e665a3118b3dc3d9", func := "limewash/limewashlaw.HeapOfs", spec := "heapOfs", apart := false }
def HeapOfsSaid : Prop := heapOfsRow.holds Try.pinned (OpenSpec.ofChange heapOfsSpec)

/-- ITS FALSE NEIGHBOUR: 'it returns false'. Refute it at one input. -/
def heapOfsWrong : ChangeSpec := { name := "heapOfs", fn := fun _ => fun
  | [d] => { results := [.lit (.bool false)], args := [d] }
  | _ => none }
def HeapOfsWrongFalsely : Prop := heapOfsRow.holds Try.pinned (OpenSpec.ofChange heapOfsWrong)

/-- 'limewashkeep.WordsBack': WHATEVER THE INPUT: true; the input reads as it did. -/
def wordsBackSpec : ChangeSpec := { name := "wordsBack", fn := fun _ => fun
  | [d1, d2] => { results := [.lit (.bool true)], args := [d1, d2] }
  | _ => none }
def wordsBackRow : OpenClaim := { program := "ytbeilcaadpopmaa", sum := "86024f7871b31acd279c211ed2f282ba037548e978140415e665a3118b3dc3d9", func := "limewash/limewashkeep.WordsBack", spec := "wordsBack", apart := false }
def WordsBackSaid : Prop := wordsBackRow.holds Try.pinned (OpenSpec.ofChange wordsBackSpec)

/-- ITS FALSE NEIGHBOUR: 'it returns false'. Refute it at one input. -/
def wordsBackWrong : ChangeSpec := { name := "wordsBack", fn := fun _ => fun
  | [d1, d2] => { results := [.lit (.bool false)], args := [d1, d2] }
  | _ => none }
def WordsBackWrongFalsely : Prop := wordsBackRow.holds Try.pinned (OpenSpec.ofChange wordsBackWrong)

/-- 'limewashlaw.HeapCopies': WHATEVER THE INPUT: true; the input reads as it did. -/
def heapCopiesSpec : ChangeSpec := { name := "heapCopies", fn := fun _ => fun
  | [d] => { results := [.lit (.bool true)], args := [d] }
  | _ => none }
def heapCopiesRow : OpenClaim := { program := "ytbeilcaadpopmaa", sum := "86024f7871b31acd279c211ed2f282ba037548e978140415e665a3118b3dc3d9", func := "limewash/limewashlaw.HeapCopies", spec := "heapCopies", apart := false }
def HeapCopiesSaid : Prop := heapCopiesRow.holds Try.pinned (OpenSpec.ofChange heapCopiesSpec)

/-- ITS FALSE NEIGHBOUR: 'it returns false'. Refute it at one input. -/
def heapCopiesWrong : ChangeSpec := { name := "heapCopies", fn := fun _ => fun
  | [d] => { results := [.lit (.bool false)], args := [d] }
  | _ => none }
def HeapCopiesWrongFalsely : Prop := heapCopiesRow.holds Try.pinned (OpenSpec.ofChange heapCopiesWrong)

/-- 'limewashlaw.HeapChecks': WHATEVER THE INPUT: true; the input reads as it did. -/
def heapChecksSpec : ChangeSpec := { name := "heapChecks", fn := fun _ => fun
  | [d] => { results := [.lit (.bool true)], args := [d] }
  | _ => none }
def heapChecksRow : OpenClaim := { program := "ytbeilcaadpopmaa", sum := "86024f7871b31acd279c211ed2f282ba037548e978140415e665a3118b3dc3d9", func := "limewash/limewashlaw.HeapChecks", spec := "heapChecks", apart := false }
def HeapChecksSaid : Prop := heapChecksRow.holds Try.pinned (OpenSpec.ofChange heapChecksSpec)

/-- ITS FALSE NEIGHBOUR: 'it returns false'. Refute it at one input. -/
def heapChecksWrong : ChangeSpec := { name := "heapChecks", fn := fun _ => fun
  | [d] => { results := [.lit (.bool false)], args := [d] }
  | _ => none }
def HeapChecksWrongFalsely : Prop := heapChecksRow.holds Try.pinned (OpenSpec.ofChange heapChecksWrong)

/-- 'limewashtop.TopSteps': WHATEVER THE INPUT: true; the input reads as it did. -/
def topStepsSpec : ChangeSpec := { name := "topSteps", fn := fun _ => fun
  | [d1, d2, d3] => { results := [.lit (.bool true)], args := [d1, d2, d3] }
  | _ => none }
def topStepsRow : OpenClaim := { program := "ytbeilcaadpopmaa", sum := "86024f7871b31acd279c211ed2f282ba037548e978140415e665a3118b3dc3d9", func := "limewash/limewashtop.TopSteps", spec := "topSteps", unfollowed := true, recurses := true, apart := false }
def TopStepsSaid : Prop := topStepsRow.holds Try.pinned (OpenSpec.ofChange topStepsSpec)

/-- ITS FALSE NEIGHBOUR: 'it returns false'. Refute it at one input. -/
def topStepsWrong : ChangeSpec := { name := "topSteps", fn := fun _ => fun
  | [d1, d2, d3] => { results := [.lit (.bool false)], args := [d1, d2, d3] }
  | _ => none }
def TopStepsWrongFalsely : Prop := topStepsRow.holds Try.pinned (OpenSpec.ofChange topStepsWrong)

/-- 'limewashlaw.HeapPlaces': WHATEVER THE INPUT: true; the input reads as it did. -/
def heapPlacesSpec : ChangeSpec := { name := "heapPlaces", fn := fun _ => fun
  | [d] => { results := [.lit (.bool true)], args := [d] }
  | _ => none }
def heapPlacesRow : OpenClaim := { program := "ytbeilcaadpopmaa", sum := "86024f7871b31acd279c211ed2f282ba037548e978140415e665a3118b3dc3d9", func := "limewash/limewashlaw.HeapPlaces", spec := "heapPlaces", apart := false }
def HeapPlacesSaid : Prop := heapPlacesRow.holds Try.pinned (OpenSpec.ofChange heapPlacesSpec)

/-- ITS FALSE NEIGHBOUR: 'it returns false'. Refute it at one input. -/
def heapPlacesWrong : ChangeSpec := { name := "heapPlaces", fn := fun _ => fun
  | [d] => { results := [.lit (.bool false)], args := [d] }
  | _ => none }
def HeapPlacesWrongFalsely : Prop := heapPlacesRow.holds Try.pinned (OpenSpec.ofChange heapPlacesWrong)

/-- 'limewashlaw.HeapLoads': WHATEVER THE INPUT: true; the input reads as it did. -/
def heapLoadsSpec : ChangeSpec := { name := "heapLoads", fn := fun _ => fun
  | [d1, d2, d3] => { results := [.lit (.bool true)], args := [d1, d2, d3] }
  | _ => none }
def heapLoadsRow : OpenClaim := { program := "ytbeilcaadpopmaa", sum := "86024f7871b31acd279c211ed2f282ba037548e978140415e665a3118b3dc3d9", func := "limewash/limewashlaw.HeapLoads", spec := "heapLoads", apart := false }
def HeapLoadsSaid : Prop := heapLoadsRow.holds Try.pinned (OpenSpec.ofChange heapLoadsSpec)

/-- ITS FALSE NEIGHBOUR: 'it returns false'. Refute it at one input. -/
def heapLoadsWrong : ChangeSpec := { name := "heapLoads", fn := fun _ => fun
  | [d1, d2, d3] => { results := [.lit (.bool false)], args := [d1, d2, d3] }
  | _ => none }
def HeapLoadsWrongFalsely : Prop := heapLoadsRow.holds Try.pinned (OpenSpec.ofChange heapLoadsWrong)

/-- 'limewashtop.TopFree': WHATEVER THE INPUT: true; the input reads as it did. -/
def topFreeSpec : ChangeSpec := { name := "topFree", fn := fun _ => fun
  | [d] => { results := [.lit (.bool true)], args := [d] }
  | _ => none }
def topFreeRow : OpenClaim := { program := "ytbeilcaadpopmaa", sum := "86024f7871b31acd279c211ed2f282ba037548e978140415e665a3118b3dc3d9", func := "limewash/limewashtop.TopFree", spec := "topFree", unfollowed := true, recurses := true, apart := false }
def TopFreeSaid : Prop := topFreeRow.holds Try.pinned (OpenSpec.ofChange topFreeSpec)

/-- ITS FALSE NEIGHBOUR: 'it returns false'. Refute it at one input. -/
def topFreeWrong : ChangeSpec := { name := "topFree", fn := fun _ => fun
  | [d] => { results := [.lit (.bool false)], args := [d] }
  | _ => none }
def TopFreeWrongFalsely : Prop := topFreeRow.holds Try.pinned (OpenSpec.ofChange topFreeWrong)

/-- 'limewashlaw.HeapAllocs': WHATEVER THE INPUT: true; the input reads as it did. -/
def heapAllocsSpec : ChangeSpec := { name := "heapAllocs", fn := fun _ => fun
  | [d1, d2] => { results := [.lit (.bool true)], args := [d1, d2] }
  | _ => none }
def heapAllocsRow : OpenClaim := { program := "ytbeilcaadpopmaa", sum := "86024f7871b31acd279c211ed2f282ba037548e978140415e665a3118b3dc3d9", func := "limewash/limewashlaw.HeapAllocs", spec := "heapAllocs", apart := false }
def HeapAllocsSaid : Prop := heapAllocsRow.holds Try.pinned (OpenSpec.ofChange heapAllocsSpec)

/-- ITS FALSE NEIGHBOUR: 'it returns false'. Refute it at one input. -/
def heapAllocsWrong : ChangeSpec := { name := "heapAllocs", fn := fun _ => fun
  | [d1, d2] => { results := [.lit (.bool false)], args := [d1, d2] }
  | _ => none }
def HeapAllocsWrongFalsely : Prop := heapAllocsRow.holds Try.pinned (OpenSpec.ofChange heapAllocsWrong)

/- THE SECOND FORM. 'bulk': how many values and letters a reading holds, each counted each time it is reached (what is shared counts as often as it is met; a slice's spare places count too). A statement '..UptoSaid' is the law's where the arguments, and the package variables that the reading takes, are together of bulk at most 1048576: NARROWER than '..Said'. Prove '..Said' where nothing that the law and all that it calls make is longer than what came in: it says more and counts as full. Else prove '..UptoSaid'. A law counts once. -/
mutual
def uptoBulk {H : Type} : DataW H → Nat
  | .lit (.string bytes) => bytes.length + 1
  | .lit _ => 1
  | .nil => 1
  | .ptr d => uptoBulk d + 1
  | .slice elems spare => uptoBulkAll elems + uptoBulkAll spare + 1
  | .agg parts => uptoBulkAll parts + 1
  | .iface _ d => uptoBulk d + 1
  | .map entries => uptoBulkEntries entries + 1
  | .held _ => 1
def uptoBulkAll {H : Type} : List (DataW H) → Nat
  | [] => 0
  | d :: r => uptoBulk d + uptoBulkAll r
def uptoBulkEntries {H : Type} : List (Lit × DataW H) → Nat
  | [] => 0
  | x :: r => uptoBulkEntry x + uptoBulkEntries r
def uptoBulkEntry {H : Type} : Lit × DataW H → Nat
  | (.string bytes, d) => bytes.length + uptoBulk d + 1
  | (_, d) => uptoBulk d + 1
 end
def uptoSmall : (H : Type) → List (DataW H) → Bool := fun _ ds => decide (uptoBulkAll ds ≤ 1048576)
def OpenSpec.upto (s : _root_.Go.ChangeSpec) : _root_.Go.OpenSpec := { _root_.Go.OpenSpec.ofChange s with cond := some uptoSmall }

/-- 'limewashlaw.Names', WHERE WHAT IT READS IS OF BULK AT MOST 1048576: true; the input reads as it did. -/
def namesUptoRow : OpenClaim := { program := "ytbeilcaadpopmaa", sum := "86024f7871b31acd279c211ed2f282ba037548e978140415e665a3118b3dc3d9", func := "limewash/limewashlaw.Names", spec := "names", apart := false, narrowed := true }
def NamesUptoSaid : Prop := namesUptoRow.holds Try.pinned (OpenSpec.upto namesSpec)

/-- 'limewashlaw.HeapNews', WHERE WHAT IT READS IS OF BULK AT MOST 1048576: true; the input reads as it did. -/
def heapNewsUptoRow : OpenClaim := { program := "ytbeilcaadpopmaa", sum := "86024f7871b31acd279c211ed2f282ba037548e978140415e665a3118b3dc3d9", func := "limewash/limewashlaw.HeapNews", spec := "heapNews", apart := false, narrowed := true }
def HeapNewsUptoSaid : Prop := heapNewsUptoRow.holds Try.pinned (OpenSpec.upto heapNewsSpec)

/-- 'limewashlaw.HeapWords', WHERE WHAT IT READS IS OF BULK AT MOST 1048576: true; the input reads as it did. -/
def heapWordsUptoRow : OpenClaim := { program := "ytbeilcaadpopmaa", sum := "86024f7871b31acd279c211ed2f282ba037548e978140415e665a3118b3dc3d9", func := "limewash/limewashlaw.HeapWords", spec := "heapWords", apart := false, narrowed := true }
def HeapWordsUptoSaid : Prop := heapWordsUptoRow.holds Try.pinned (OpenSpec.upto heapWordsSpec)

/-- 'limewashlaw.HeapOfs', WHERE WHAT IT READS IS OF BULK AT MOST 1048576: true; the input reads as it did. -/
def heapOfsUptoRow : OpenClaim := { program := "ytbeilcaadpopmaa", sum := "86024f7871b31acd279c211ed2f282ba037548e978140415e665a3118b3dc3d9", func := "limewash/limewashlaw.HeapOfs", spec := "heapOfs", apart := false, narrowed := true }
def HeapOfsUptoSaid : Prop := heapOfsUptoRow.holds Try.pinned (OpenSpec.upto heapOfsSpec)

/-- 'limewashkeep.WordsBack', WHERE WHAT IT READS IS OF BULK AT MOST 1048576: true; the input reads as it did. -/
def wordsBackUptoRow : OpenClaim := { program := "ytbeilcaadpopmaa", sum := "86024f7871b31acd279c211ed2f282ba037548e978140415e665a3118b3dc3d9", func := "limewash/limewashkeep.WordsBack", spec := "wordsBack", apart := false, narrowed := true }
def WordsBackUptoSaid : Prop := wordsBackUptoRow.holds Try.pinned (OpenSpec.upto wordsBackSpec)

/-- 'limewashlaw.HeapCopies', WHERE WHAT IT READS IS OF BULK AT MOST 1048576: true; the input reads as it did. -/
def heapCopiesUptoRow : OpenClaim := { program := "ytbeilcaadpopmaa", sum := "86024f7871b31acd279c211ed2f282ba037548e978140415e665a3118b3dc3d9", func := "limewash/limewashlaw.HeapCopies", spec := "heapCopies", apart := false, narrowed := true }
def HeapCopiesUptoSaid : Prop := heapCopiesUptoRow.holds Try.pinned (OpenSpec.upto heapCopiesSpec)

/-- 'limewashlaw.HeapChecks', WHERE WHAT IT READS IS OF BULK AT MOST 1048576: true; the input reads as it did. -/
def heapChecksUptoRow : OpenClaim := { program := "ytbeilcaadpopmaa", sum := "86024f7871b31acd279c211ed2f282ba037548e978140415e665a3118b3dc3d9", func := "limewash/limewashlaw.HeapChecks", spec := "heapChecks", apart := false, narrowed := true }
def HeapChecksUptoSaid : Prop := heapChecksUptoRow.holds Try.pinned (OpenSpec.upto heapChecksSpec)

/-- 'limewashtop.TopSteps', WHERE WHAT IT READS IS OF BULK AT MOST 1048576: true; the input reads as it did. -/
def topStepsUptoRow : OpenClaim := { program := "ytbeilcaadpopmaa", sum := "86024f7871b31acd279c211ed2f282ba037548e978140415e665a3118b3dc3d9", func := "limewash/limewashtop.TopSteps", spec := "topSteps", unfollowed := true, recurses := true, apart := false, narrowed := true }
def TopStepsUptoSaid : Prop := topStepsUptoRow.holds Try.pinned (OpenSpec.upto topStepsSpec)

/-- 'limewashlaw.HeapPlaces', WHERE WHAT IT READS IS OF BULK AT MOST 1048576: true; the input reads as it did. -/
def heapPlacesUptoRow : OpenClaim := { program := "ytbeilcaadpopmaa", sum := "86024f7871b31acd279c211ed2f282ba037548e978140415e665a3118b3dc3d9", func := "limewash/limewashlaw.HeapPlaces", spec := "heapPlaces", apart := false, narrowed := true }
def HeapPlacesUptoSaid : Prop := heapPlacesUptoRow.holds Try.pinned (OpenSpec.upto heapPlacesSpec)

/-- 'limewashlaw.HeapLoads', WHERE WHAT IT READS IS OF BULK AT MOST 1048576: true; the input reads as it did. -/
def heapLoadsUptoRow : OpenClaim := { program := "ytbeilcaadpopmaa", sum := "86024f7871b31acd279c211ed2f282ba037548e978140415e665a3118b3dc3d9", func := "limewash/limewashlaw.HeapLoads", spec := "heapLoads", apart := false, narrowed := true }
def HeapLoadsUptoSaid : Prop := heapLoadsUptoRow.holds Try.pinned (OpenSpec.upto heapLoadsSpec)

/-- 'limewashtop.TopFree', WHERE WHAT IT READS IS OF BULK AT MOST 1048576: true; the input reads as it did. -/
def topFreeUptoRow : OpenClaim := { program := "ytbeilcaadpopmaa", sum := "86024f7871b31acd279c211ed2f282ba037548e978140415e665a3118b3dc3d9", func := "limewash/limewashtop.TopFree", spec := "topFree", unfollowed := true, recurses := true, apart := false, narrowed := true }
def TopFreeUptoSaid : Prop := topFreeUptoRow.holds Try.pinned (OpenSpec.upto topFreeSpec)

/-- 'limewashlaw.HeapAllocs', WHERE WHAT IT READS IS OF BULK AT MOST 1048576: true; the input reads as it did. -/
def heapAllocsUptoRow : OpenClaim := { program := "ytbeilcaadpopmaa", sum := "86024f7871b31acd279c211ed2f282ba037548e978140415e665a3118b3dc3d9", func := "limewash/limewashlaw.HeapAllocs", spec := "heapAllocs", apart := false, narrowed := true }
def HeapAllocsUptoSaid : Prop := heapAllocsUptoRow.holds Try.pinned (OpenSpec.upto heapAllocsSpec)

end Rows
end Go.Proofs.Ytbeilcaadpopmaa
