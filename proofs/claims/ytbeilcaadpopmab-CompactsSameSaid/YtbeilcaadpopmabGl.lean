/- Plain: what a marker's look comes to; no program is named. -/
import Derived.Test.YtbeilcaadpopmabPl
import Derived.Test.YtbeilcaadpopmabGp
set_option linter.unusedVariables false
set_option linter.unusedSimpArgs false
namespace Go.Proofs.Ytbeilcaadpopmab
open Go.RowKit

/-- A field's word is looked at: a place is pushed. -/
def seeW (s : List Int × List Int) (x : Int) : List Int × List Int := if x % 2 = 1 then (pushG (x / 2) s.1 s.2, pushS (x / 2) s.2) else s
/-- The words of the fields of the object at p. -/
def fieldsOf (xs : List Int) (p : Nat) : List Int := (xs.drop (p + 2)).take (nf xs p)
/-- So many objects that are gray are looked at. -/
def lookF (xs : List Int) : Nat → List Int × List Int → List Int × List Int
  | 0, s => s
  | f + 1, s => if s.1 = [] then s else lookF xs f ((fieldsOf xs (s.1.getLastD 0).toNat).foldl seeW (s.1.dropLast, s.2))

theorem lookF_nil {xs : List Int} {S : List Int} : ∀ f, lookF xs f ([], S) = ([], S)
  | 0 => rfl
  | f + 1 => by simp [lookF]
end Go.Proofs.Ytbeilcaadpopmab
