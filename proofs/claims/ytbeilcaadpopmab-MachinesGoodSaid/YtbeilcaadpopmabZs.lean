/- Texts on the machine of threads, put together: Eq. -/
import Derived.Test.YtbeilcaadpopmabZ1
set_option linter.unusedVariables false
set_option linter.unusedSimpArgs false
/- Walks: slices.Equal at slices that read alike, slices.Index and slices.Contains at []int. -/
namespace Go.Proofs.Ytbeilcaadpopmab
open Go.RowKit

set_option maxHeartbeats 400000 in
theorem equalInts_same (a b : Value) (xs : List Int) (w : World) (ha : Ints w a xs) (hb : Ints w b xs) :
    Calls Try.prog 35 #[a, b] w fun e w' => e = .returned (.bool true) ∧ Below w.heap.size w w' := by
  obtain ⟨aa, ac, rfl, hac, hacm, _⟩ := ha.len
  obtain ⟨ba, bc, rfl, hbc, hbcm, _⟩ := hb.len
  have hle := ha.le
  have HA := Lib.hid ha; clear ha
  have HB := Lib.hid hb; clear hb
  go_enter Try.func35, Try.ntmps35
  go_wp2
  go_loopw [13] (fun i wr => ∃ k : Nat, k ≤ xs.length ∧ i = .int .i64 k ∧ Below w.heap.size w wr) (fun i _ => xs.length - (intOf i).toNat)
  case atStart => exact ⟨0, Nat.zero_le _, rfl, Below.refl _ _⟩
  case round =>
    obtain ⟨k, hk, rfl, hbel⟩ := hrel
    by_cases hlt : k < xs.length
    · obtain ⟨ab, ao, rfl, _, c1⟩ := Ints.at (HA.out.below (Nat.le_refl _) hbel) (by omega)
      obtain ⟨bb, bo, rfl, _, c2⟩ := Ints.at (HB.out.below (Nat.le_refl _) hbel) (by omega)
      replace c1 := c1 k hlt
      replace c2 := c2 k hlt
      generalize xs.getD k 0 = x at c1 c2
      go_wp2
      go_quiet (fail)
      go_wp2
      go_roundw
      case rel => exact ⟨k + 1, by omega, by go_num, below_drewN hbel _⟩
      case measure => simp [intOf]; omega
    · go_wp2
      go_ret
      exact ⟨rfl, hbel⟩

set_option maxHeartbeats 400000 in
theorem indexInts_any (a : Value) (xs : List Int) (v : Int) (w : World) (ha : Ints w a xs) :
    Calls Try.prog 64 #[a, .int .i64 v] w fun e w' => (∃ k : Int, e = .returned (.int .i64 k) ∧ ((k = -1 ∧ v ∉ xs) ∨ (0 ≤ k ∧ v ∈ xs))) ∧ w = w' := by
  obtain ⟨aa, ac, rfl, hac, hacm, _⟩ := ha.len
  have hle := ha.le
  have HA := Lib.hid ha; clear ha
  go_enter Try.func64, Try.ntmps64
  go_wp2
  go_loopw [8] (fun i wr => ∃ k : Nat, k ≤ xs.length ∧ i = .int .i64 k ∧ (∀ j, j < k → xs.getD j 0 ≠ v) ∧ w = wr) (fun i _ => xs.length - (intOf i).toNat)
  case atStart => exact ⟨0, Nat.zero_le _, rfl, fun j hj => by omega, rfl⟩
  case round =>
    obtain ⟨k, hk, rfl, hno, rfl⟩ := hrel
    have HNO := Lib.hid hno; clear hno
    by_cases hlt : k < xs.length
    · obtain ⟨ab, ao, rfl, _, c1⟩ := Ints.at HA.out (by omega)
      replace c1 := c1 k hlt
      by_cases hx : v = xs.getD k 0
      · have HMEM : Hid (v ∈ xs) := by rw [Hid, hx, List.getD_eq_getElem?_getD, List.getElem?_eq_getElem hlt]; exact List.getElem_mem hlt
        have hb : (v == xs.getD k 0) = true := by simpa using hx
        generalize xs.getD k 0 = x at c1 hb
        clear hx
        go_wp2
        go_ret
        exact ⟨⟨k, rfl, .inr ⟨by omega, HMEM.out⟩⟩, rfl⟩
      · have hb : (v == xs.getD k 0) = false := by simpa using hx
        have HX := Lib.hid hx
        have HN2 : Hid (∀ j, j < k + 1 → xs.getD j 0 ≠ v) := fun j hj => by
          by_cases e : j = k
          · subst e; exact fun e => HX.out e.symm
          · exact HNO.out j (by omega)
        generalize xs.getD k 0 = x at c1 hb
        clear hx
        go_wp2
        go_roundw
        case rel => exact ⟨k + 1, by omega, by go_num, HN2.out, by trivial⟩
        case measure => simp [intOf]; omega
    · obtain rfl : k = xs.length := by omega
      have HN2 : Hid (v ∉ xs) := fun h => by
        obtain ⟨j, hj, e⟩ := List.mem_iff_getElem.1 h
        exact HNO.out j hj (by rw [List.getD_eq_getElem?_getD, List.getElem?_eq_getElem hj]; exact e)
      go_wp2
      go_ret
      exact ⟨⟨-1, rfl, .inl ⟨rfl, HN2.out⟩⟩, by trivial⟩

set_option maxHeartbeats 400000 in
theorem containsInts_any (a : Value) (xs : List Int) (v : Int) (w : World) (ha : Ints w a xs) :
    Calls Try.prog 38 #[a, .int .i64 v] w fun e w' => e = .returned (.bool (decide (v ∈ xs))) ∧ w = w' := by
  have HA := Lib.hid ha; clear ha
  by_cases h : v ∈ xs
  · have HH := Lib.hid h
    rw [decide_eq_true h]
    clear h
    go_enter Try.func38, Try.ntmps38
    go_wp2_with (go_at_call 64; refine (indexInts_any _ xs _ _ HA.out).mono ?_; rintro e w' ⟨⟨k, rfl, ⟨_, hn⟩ | ⟨h0, _⟩⟩, rfl⟩; (exact absurd HH.out hn))
    go_ret
    exact ⟨ret_bool (by simp), rfl⟩
  · have HH := Lib.hid h
    rw [decide_eq_false h]
    clear h
    go_enter Try.func38, Try.ntmps38
    go_wp2_with (go_at_call 64; refine (indexInts_any _ xs _ _ HA.out).mono ?_; rintro e w' ⟨⟨k, rfl, ⟨rfl, _⟩ | ⟨_, hy⟩⟩, rfl⟩; rotate_left; (exact absurd hy HH.out))
    go_ret
    exact ⟨ret_bool (by simp), rfl⟩
end Go.Proofs.Ytbeilcaadpopmab
