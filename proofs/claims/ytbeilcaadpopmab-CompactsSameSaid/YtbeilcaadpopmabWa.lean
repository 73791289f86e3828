/- Walks of the small functions: heap.Word, heap.Of, picked, the reference's In, odd, half, has. -/
import Derived.Test.YtbeilcaadpopmabLib
set_option linter.unusedVariables false
set_option linter.unusedSimpArgs false
namespace Go.Proofs.Ytbeilcaadpopmab
open Go.RowKit

/-- The word for a value. -/
def wordOf (k n : Int) : Int := if k = 0 then 2 * n else 2 * n + 1

set_option maxHeartbeats 400000 in
theorem word_any (k n : Int) (w : World) (h0 : -4611686018427387904 ≤ n) (h1 : n < 4611686018427387904) :
    Calls Try.prog 53 #[.agg #[.int .i64 k, .int .i64 n]] w fun e w' => e = .returned (.int .i64 (wordOf k n)) ∧ Below w.heap.size w w' := by
  by_cases hk : k = 0
  · subst hk
    go_enter Try.func53, Try.ntmps53
    go_wp2
    go_ret
    exact ⟨ret_int (by simp [wordOf]), (Below.refl _ _).alloc (Nat.le_refl _) _⟩
  · have hk' : (k == 0) = false := by simpa using hk
    have H := Lib.hid hk; clear hk
    go_enter Try.func53, Try.ntmps53
    go_wp2
    go_ret
    exact ⟨ret_int (by rw [wordOf, if_neg H.out]), (Below.refl _ _).alloc (Nat.le_refl _) _⟩

/-- What a word says: kind and number. -/
def ofK (x : Int) : Int := x % 2
def ofN (x : Int) : Int := x / 2
theorem ofK_even {x : Int} (h : x % 2 = 0) : ofK x = 0 := h
theorem ofK_odd {x : Int} (h : x % 2 ≠ 0) : ofK x = 1 := by unfold ofK; omega
theorem tdiv_even (x : Int) (h : x % 2 = 0) : x.tdiv 2 = ofN x := by
  unfold ofN; rcases Int.le_total 0 x with h0 | h0
  · rw [Int.tdiv_eq_ediv_of_nonneg h0]
  · have : x = -(-x) := by omega
    rw [this, Int.neg_tdiv, Int.tdiv_eq_ediv_of_nonneg (by omega)]; omega

set_option maxHeartbeats 400000 in
theorem of_any (x : Int) (w : World) (h0 : -9223372036854775808 ≤ x) (h1 : x ≤ 9223372036854775807) :
    Calls Try.prog 37 #[.int .i64 x] w fun e w' => e = .returned (.agg #[.int .i64 (ofK x), .int .i64 (ofN x)]) ∧ Below w.heap.size w w' := by
  have hb := and_one_i64 x
  by_cases hx : x % 2 = 0
  · have e0 : (bits BinOp.and IntKind.i64 x 1 == 0) = true := by rw [hb, hx]; rfl
    have H := Lib.hid (And.intro (ofK_even hx) (tdiv_even x hx)); clear hx hb
    go_enter Try.func37, Try.ntmps37
    go_wp2
    refine bodyPost_ret (v := .agg #[.int .i64 0, .int .i64 (x.tdiv 2)]) (by simp [results, Try.results37, go_sem]) rfl ⟨?_, (Below.refl _ _).alloc (Nat.le_refl _) _⟩
    rw [H.out.1, H.out.2]
  · have e0 : (bits BinOp.and IntKind.i64 x 1 == 0) = false := by rw [hb]; simpa using hx
    have H := Lib.hid (ofK_odd hx); clear hx hb
    go_enter Try.func37, Try.ntmps37
    go_wp2
    refine bodyPost_ret (v := .agg #[.int .i64 1, .int .i64 (x / 2)]) (by simp [results, Try.results37, go_sem]) rfl ⟨?_, (Below.refl _ _).alloc (Nat.le_refl _) _⟩
    rw [H.out, ofN]

theorem tmod_neg (n m : Int) (h : n < 0) : -((n + 1).tmod m) = (-(n + 1)) % m := by
  rw [← Int.neg_tmod, Int.tmod_eq_emod_of_nonneg (by omega)]
/-- A number from 0 to m - 1. -/
def pick (n m : Int) : Int := (if n < 0 then -(n + 1) else n) % m
theorem pick_lo (n m : Int) (h : 1 ≤ m) : 0 ≤ pick n m := Int.emod_nonneg _ (by omega)
theorem pick_hi (n m : Int) (h : 1 ≤ m) : pick n m < m := Int.emod_lt_of_pos _ (by omega)

set_option maxHeartbeats 400000 in
theorem picked_any (n m : Int) (w : World) (h0 : -9223372036854775808 ≤ n) (h1 : n ≤ 9223372036854775807) (h2 : 1 ≤ m) (h3 : m ≤ 9223372036854775807) :
    Calls Try.prog 15 #[.int .i64 n, .int .i64 m] w fun e w' => e = .returned (.int .i64 (pick n m)) ∧ w = w' := by
  by_cases hn : n < 0
  · have e := tmod_neg n m hn
    have He := Lib.hid e; clear e
    go_enter Try.func15, Try.ntmps15
    go_wp2
    go_ret
    exact ⟨ret_int (by rw [pick, if_pos hn, ← He.out]), rfl⟩
  · go_enter Try.func15, Try.ntmps15
    go_wp2
    go_ret
    exact ⟨ret_int (by rw [pick, if_neg (by omega)]), rfl⟩
end Go.Proofs.Ytbeilcaadpopmab
