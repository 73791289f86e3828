/- Walks of the reference's In, odd, half. -/
import Derived.Test.YtbeilcaadpopmabWa
set_option linter.unusedVariables false
set_option linter.unusedSimpArgs false
namespace Go.Proofs.Ytbeilcaadpopmab
open Go.RowKit

/-- low ≤ n ≤ high. -/
def inB (n lo hi : Int) : Bool := decide (lo ≤ n) && decide (n ≤ hi)
theorem inB_true {n lo hi : Int} (h1 : lo ≤ n) (h2 : n ≤ hi) : inB n lo hi = true := by simp [inB, h1, h2]
theorem inB_lo {n lo hi : Int} (h1 : ¬ lo ≤ n) : inB n lo hi = false := by simp [inB, h1]
theorem inB_hi {n lo hi : Int} (h1 : ¬ n ≤ hi) : inB n lo hi = false := by simp [inB, h1]

set_option maxHeartbeats 400000 in
theorem in_any (n lo hi : Int) (w : World) :
    Calls Try.prog 56 #[.int .i64 n, .int .i64 lo, .int .i64 hi] w fun e w' => e = .returned (.bool (inB n lo hi)) ∧ w = w' := by
  by_cases h1 : lo ≤ n
  · by_cases h2 : n ≤ hi
    · have e := inB_true h1 h2
      have H := Lib.hid e; clear e
      go_enter Try.func56, Try.ntmps56
      go_wp2
      go_ret
      exact ⟨ret_bool H.out.symm, rfl⟩
    · have e := inB_hi (lo := lo) h2
      have H := Lib.hid e; clear e
      go_enter Try.func56, Try.ntmps56
      go_wp2
      go_ret
      exact ⟨ret_bool H.out.symm, rfl⟩
  · have e := inB_lo (hi := hi) h1
    have H := Lib.hid e; clear e
    go_enter Try.func56, Try.ntmps56
    go_wp2
    go_ret
    exact ⟨ret_bool H.out.symm, rfl⟩

theorem odd_tmod (x : Int) : (x.tmod 2 != 0) = (x % 2 != 0) := by
  have : x.tmod 2 = 0 ↔ x % 2 = 0 := by
    constructor <;> intro h
    · exact Int.emod_eq_zero_of_dvd (Int.dvd_of_tmod_eq_zero h)
    · exact Int.tmod_eq_zero_of_dvd (Int.dvd_of_emod_eq_zero h)
  by_cases h : x % 2 = 0
  · rw [h, this.2 h]
  · rw [bne_iff_ne.2 h, bne_iff_ne.2 (fun e => h (this.1 e))]
/-- Is a word odd? -/
def oddB (x : Int) : Bool := x % 2 != 0

set_option maxHeartbeats 400000 in
theorem odd_any (x : Int) (w : World) (h0 : -9223372036854775808 ≤ x) (h1 : x ≤ 9223372036854775807) :
    Calls Try.prog 68 #[.int .i64 x] w fun e w' => e = .returned (.bool (oddB x)) ∧ w = w' := by
  have H := Lib.hid (odd_tmod x)
  go_enter Try.func68, Try.ntmps68
  go_wp2
  go_ret
  exact ⟨ret_bool H.out, rfl⟩

theorem half_neg (x : Int) (h : ¬ x % 2 = 0) (h0 : x < 0) : (x - 1).tdiv 2 = ofN x := by
  rw [tdiv_even (x - 1) (by omega)]; unfold ofN; omega

set_option maxHeartbeats 400000 in
theorem half_any (x : Int) (w : World) (h0 : -9223372036854775808 ≤ x) (h1 : x ≤ 9223372036854775807) :
    Calls Try.prog 69 #[.int .i64 x] w fun e w' => e = .returned (.int .i64 (ofN x)) ∧ w = w' := by
  by_cases hx : x < 0
  · by_cases ho : x % 2 = 0
    · have H := Lib.hid (tdiv_even x ho)
      have e : oddB x = false := by simp [oddB, ho]
      clear ho
      go_enter Try.func69, Try.ntmps69
      go_wp2_with (go_at_call 68; refine (odd_any _ _ (by omega) (by omega)).mono ?_; rintro e w' ⟨rfl, rfl⟩)
      go_ret
      exact ⟨ret_int H.out, rfl⟩
    · have H := Lib.hid (half_neg x ho hx)
      have e : oddB x = true := by simp [oddB]; omega
      have hl : -9223372036854775807 ≤ x := by omega
      clear ho
      go_enter Try.func69, Try.ntmps69
      go_wp2_with (go_at_call 68; refine (odd_any _ _ (by omega) (by omega)).mono ?_; rintro e w' ⟨rfl, rfl⟩)
      go_ret
      exact ⟨ret_int H.out, rfl⟩
  · go_enter Try.func69, Try.ntmps69
    go_wp2
    go_ret
    exact ⟨rfl, rfl⟩
end Go.Proofs.Ytbeilcaadpopmab
