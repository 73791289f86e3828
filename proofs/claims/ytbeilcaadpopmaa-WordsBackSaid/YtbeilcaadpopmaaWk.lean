/- The law WordsBack. -/
import Derived.Test.YtbeilcaadpopmaaWa
import Derived.Deep.RegionHeld3
set_option linter.unusedVariables false
set_option linter.unusedSimpArgs false
namespace Go.Proofs.Ytbeilcaadpopmaa
open Go.RowKit

set_option maxHeartbeats 400000 in
theorem wordsBack_num (n : Int) (w : World) (hn : I64 n) :
    Calls Try.prog 7 #[.int .i64 n, .bool false] w fun e w' => e = .returned (.bool true) ∧ Below w.heap.size w w' := by
  unfold I64 at hn
  obtain ⟨h1, h2⟩ := hn
  have hq : ∃ q, q = n.tmod 1099511627776 ∧ -1099511627776 < q ∧ q < 1099511627776 := ⟨_, rfl, by have := Int.lt_tmod_of_pos n (b := 1099511627776) (by decide); omega, by have := Int.tmod_lt_of_pos n (b := 1099511627776) (by decide); omega⟩
  obtain ⟨q, hq, hq1, hq2⟩ := hq
  have e1 : wordOf 0 q = 2 * q := by simp [wordOf]
  have e2 : ofK (2 * q) = 0 := by unfold ofK; omega
  have e3 : ofN (2 * q) = q := by unfold ofN; omega
  have e4 : wordOf 1 0 = 1 := by simp [wordOf]
  have Q := Lib.hid hq; clear hq
  have E := Lib.hid (And.intro e1 (And.intro e2 (And.intro e3 e4))); clear e1 e2 e3 e4
  go_enter Try.func7, Try.ntmps7
  go_wp2_with fail
  rw [← Q.out]
  go_region_held3 (fun w' => w'.cell? ⟨w.heap.size, 0, none⟩ = some (.int .i64 0) ∧ w'.cell? ⟨w.heap.size, 1, none⟩ = some (.int .i64 q) ∧ Below w.heap.size w w')
    (first | exact keep_two hb (by assumption) | exact ⟨by simp, by simp, (by repeat (first | exact Below.refl _ _ | with_reducible refine below_drewN ?_ _ | with_reducible refine Below.drew ?_ | with_reducible refine Below.alloc ?_ (by first | exact Nat.le_refl _ | (simp; done) | omega | (simp; omega)) _ | with_reducible refine Below.setCell ?_ (by first | exact Nat.le_refl _ | (simp; done) | omega | (simp; omega)) _))⟩)
    (first | (go_at_call 18; refine (word_any _ _ _ (by omega) (by omega)).mono ?_; rintro e w1 ⟨rfl, hb⟩; first | rw [E.out.1] | rw [E.out.2.2.2]) | (go_at_call 19; refine (of_any _ _ (by omega) (by omega)).mono ?_; rintro e w1 ⟨rfl, hb⟩; rw [E.out.2.1, E.out.2.2.1]))
  rename_i hh
  have HH := Lib.hid hh; clear hh
  go_wp2
  go_ret
  exact ⟨rfl, HH.out.2.2⟩

set_option maxHeartbeats 400000 in
theorem wordsBack_obj (n : Int) (w : World) (hn : I64 n) :
    Calls Try.prog 7 #[.int .i64 n, .bool true] w fun e w' => e = .returned (.bool true) ∧ Below w.heap.size w w' := by
  unfold I64 at hn
  obtain ⟨h1, h2⟩ := hn
  have hq : ∃ q, q = pick n 400 ∧ 0 ≤ q ∧ q < 400 := ⟨_, rfl, pick_lo n 400 (by decide), pick_hi n 400 (by decide)⟩
  obtain ⟨q, hq, hq1, hq2⟩ := hq
  have e1 : wordOf 1 q = 2 * q + 1 := by simp [wordOf]
  have e2 : ofK (2 * q + 1) = 1 := by unfold ofK; omega
  have e3 : ofN (2 * q + 1) = q := by unfold ofN; omega
  have e4 : wordOf 1 0 = 1 := by simp [wordOf]
  have Q := Lib.hid hq; clear hq
  have E := Lib.hid (And.intro e1 (And.intro e2 (And.intro e3 e4))); clear e1 e2 e3 e4
  have H := Lib.hid (Int.tmod_lt_of_pos n (b := 1099511627776) (by decide))
  go_enter Try.func7, Try.ntmps7
  go_wp2_with (go_at_call 20; refine (picked_any _ _ _ (by omega) (by omega) (by omega) (by omega)).mono ?_; rintro e w' ⟨rfl, rfl⟩; rw [← Q.out])
  go_region_held3 (fun w' => w'.cell? ⟨w.heap.size, 0, none⟩ = some (.int .i64 1) ∧ w'.cell? ⟨w.heap.size, 1, none⟩ = some (.int .i64 q) ∧ Below w.heap.size w w')
    (first | exact keep_two hb (by assumption) | exact ⟨by simp, by simp, (by repeat (first | exact Below.refl _ _ | with_reducible refine below_drewN ?_ _ | with_reducible refine Below.drew ?_ | with_reducible refine Below.alloc ?_ (by first | exact Nat.le_refl _ | (simp; done) | omega | (simp; omega)) _ | with_reducible refine Below.setCell ?_ (by first | exact Nat.le_refl _ | (simp; done) | omega | (simp; omega)) _))⟩)
    (first | (go_at_call 18; refine (word_any _ _ _ (by omega) (by omega)).mono ?_; rintro e w1 ⟨rfl, hb⟩; first | rw [E.out.1] | rw [E.out.2.2.2]) | (go_at_call 19; refine (of_any _ _ (by omega) (by omega)).mono ?_; rintro e w1 ⟨rfl, hb⟩; rw [E.out.2.1, E.out.2.2.1]))
  rename_i hh
  have HH := Lib.hid hh; clear hh
  go_wp2
  go_ret
  exact ⟨rfl, HH.out.2.2⟩

theorem wordsBack_any (n : Int) (o : Bool) (w : World) (hn : I64 n) :
    Calls Try.prog 7 #[.int .i64 n, .bool o] w fun e w' => e = .returned (.bool true) ∧ Below w.heap.size w w' := by
  cases o
  · exact wordsBack_num n w hn
  · exact wordsBack_obj n w hn
end Go.Proofs.Ytbeilcaadpopmaa
