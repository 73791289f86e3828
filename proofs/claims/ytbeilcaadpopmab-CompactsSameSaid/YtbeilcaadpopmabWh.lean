/- Walks: slices.BinarySearch at integers. -/
import Derived.Test.YtbeilcaadpopmabLib
set_option linter.unusedVariables false
set_option linter.unusedSimpArgs false
namespace Go.Proofs.Ytbeilcaadpopmab
open Go.RowKit

/-- Is n among l? -/
def hasB (l : List Int) (n : Int) : Bool := l.contains n
theorem hasB_of {l : List Int} {n : Int} {k : Nat} (hk : k < l.length) (h : (l.getD k 0 == n) = true) : hasB l n = true := by
  simp [List.getD, hk] at h
  simp only [hasB, List.contains_iff_mem, ← h]
  exact List.getElem_mem _
theorem hasB_not {l : List Int} {n : Int} (h : ∀ j, j < l.length → l.getD j 0 ≠ n) : hasB l n = false := by
  rw [hasB, Bool.eq_false_iff]
  intro hc
  rw [List.contains_iff_mem] at hc
  obtain ⟨i, hi, e⟩ := List.getElem_of_mem hc
  exact h i hi (by simp [List.getD, hi, e])

theorem notnot (x : Int) : (x != x) = false := by simp

set_option maxHeartbeats 400000 in
theorem cmpNaN_any (x : Int) (w : World) : Calls Try.prog 90 #[.int .i64 x] w fun e w' => e = .returned (.bool false) ∧ w = w' := by
  have h := notnot x
  go_enter Try.func90, Try.ntmps90
  go_wp2
  go_ret
  exact ⟨rfl, rfl⟩

set_option maxHeartbeats 400000 in
theorem isNaN_any (x : Int) (w : World) : Calls Try.prog 72 #[.int .i64 x] w fun e w' => e = .returned (.bool false) ∧ w = w' := by
  have h := notnot x
  go_enter Try.func72, Try.ntmps72
  go_wp2
  go_ret
  exact ⟨rfl, rfl⟩

set_option maxHeartbeats 400000 in
theorem less_any (x y : Int) (w : World) : Calls Try.prog 71 #[.int .i64 x, .int .i64 y] w fun e w' => e = .returned (.bool (decide (x < y))) ∧ w = w' := by
  go_enter Try.func71, Try.ntmps71
  go_wp2_with (go_at_call 90; refine (cmpNaN_any _ _).mono ?_; rintro e w' ⟨rfl, rfl⟩)
  go_ret
  exact ⟨rfl, rfl⟩

/-- It rises. -/
def Rises (l : List Int) : Prop := ∀ i j, i < j → j < l.length → l.getD i 0 < l.getD j 0

/-- What a round of the search knows. -/
def BsInv (l : List Int) (t : Int) (i j : Nat) : Prop := i ≤ j ∧ j ≤ l.length ∧ (∀ a, a < i → l.getD a 0 < t) ∧ ∀ b, j ≤ b → b < l.length → t ≤ l.getD b 0

theorem BsInv.up {l : List Int} {t : Int} {i j h : Nat} (hr : Rises l) (hi : BsInv l t i j) (h1 : i ≤ h) (h2 : h < j) (hx : l.getD h 0 < t) : BsInv l t (h + 1) j := by
  obtain ⟨a1, a2, a3, a4⟩ := hi
  refine ⟨by omega, a2, fun a ha => ?_, a4⟩
  by_cases e : a = h
  · rw [e]; exact hx
  · have := hr a h (by omega) (by omega)
    omega
theorem BsInv.down {l : List Int} {t : Int} {i j h : Nat} (hr : Rises l) (hi : BsInv l t i j) (h1 : i ≤ h) (h2 : h < j) (hx : ¬ l.getD h 0 < t) : BsInv l t i h := by
  obtain ⟨a1, a2, a3, a4⟩ := hi
  refine ⟨h1, by omega, a3, fun b hb hl => ?_⟩
  by_cases e : b = h
  · rw [e]; omega
  · have := hr h b (by omega) hl
    omega
theorem BsInv.found {l : List Int} {t : Int} {i : Nat} (hl : i < l.length) (hx : l.getD i 0 = t) : hasB l t = true := hasB_of hl (by rw [hx]; simp)
theorem BsInv.not {l : List Int} {t : Int} {i j : Nat} (hr : Rises l) (hi : BsInv l t i j) (hij : ¬ i < j) (hx : i < l.length → l.getD i 0 ≠ t) : hasB l t = false := by
  obtain ⟨a1, a2, a3, a4⟩ := hi
  refine hasB_not fun k hk => ?_
  by_cases h1 : k < i
  · have := a3 k h1; omega
  · by_cases h2 : k = i
    · subst h2; exact hx hk
    · have h3 := hr i k (by omega) hk
      have h4 := a4 i (by omega) (by omega)
      omega

/-- It returned some place, and whether it is there. -/
def RetFound (w : World) (r : Bool) (e : Ending) (w' : World) : Prop := ∃ i : Int, e = .returned (.tuple #[.int .i64 i, .bool r]) ∧ w = w'

theorem RetFound.mk {w : World} {r r' : Bool} {i : Int} (h : r = r') : RetFound w r (.returned (.tuple #[.int .i64 i, .bool r'])) w := ⟨i, by rw [h], rfl⟩

set_option maxHeartbeats 1000000 in
set_option maxRecDepth 1000000 in
theorem search_any (v : Value) (l : List Int) (t : Int) (w : World) (h : Ints w v l) (hr : Rises l) :
    Calls Try.prog 50 #[v, .int .i64 t] w (RetFound w (hasB l t)) := by
  obtain ⟨a, c, rfl, hc, hcm, _⟩ := h.len
  have hle := h.le
  have H := Lib.hid h; clear h
  have HR := Lib.hid hr; clear hr
  go_enter Try.func50, Try.ntmps50
  go_wp2_with fail
  go_loop [7, 8] (fun u v => ∃ i j : Nat, u = .int .i64 i ∧ v = .int .i64 j ∧ BsInv l t i j) (fun u v => (intOf v - intOf u).toNat)
  case atStart => exact ⟨0, l.length, rfl, rfl, Nat.zero_le _, Nat.le_refl _, by omega, by omega⟩
  case round =>
    obtain ⟨i, j, rfl, rfl, hinv⟩ := hrel
    have hij := hinv.1
    have hjl := hinv.2.1
    have HI := Lib.hid hinv; clear hinv
    by_cases hlt : i < j
    · obtain ⟨b, o, rfl, _, hc1⟩ := H.out.at (by omega)
      replace hc1 := hc1 ((i + j) / 2) (by omega)
      obtain ⟨x, hx⟩ : ∃ x, x = l.getD ((i + j) / 2) 0 := ⟨_, rfl⟩
      rw [← hx] at hc1
      have h1 : i ≤ (i + j) / 2 := by omega
      have h2 : (i + j) / 2 < j := by omega
      by_cases hxt : x < t
      · have HX := Lib.hid (HI.out.up HR.out h1 h2 (by rw [← hx]; exact hxt)); clear hx
        go_wp2_with (go_at_call 71; refine (less_any _ _ _).mono ?_; rintro e w' ⟨rfl, rfl⟩)
        go_round
        case rel => exact ⟨(i + j) / 2 + 1, j, int_eq (by omega), rfl, HX.out⟩
        case measure => simp [intOf]; omega
      · have HX := Lib.hid (HI.out.down HR.out h1 h2 (by rw [← hx]; exact hxt)); clear hx
        go_wp2_with (go_at_call 71; refine (less_any _ _ _).mono ?_; rintro e w' ⟨rfl, rfl⟩)
        go_round
        case rel => exact ⟨i, (i + j) / 2, rfl, int_eq (by omega), HX.out⟩
        case measure => simp [intOf]; omega
    · by_cases hil : i < l.length
      · obtain ⟨b, o, rfl, _, hc1⟩ := H.out.at (by omega)
        replace hc1 := hc1 i hil
        obtain ⟨x, hx⟩ : ∃ x, x = l.getD i 0 := ⟨_, rfl⟩
        rw [← hx] at hc1
        by_cases hxt : x = t
        · subst hxt
          have HX := Lib.hid (BsInv.found hil hx.symm); clear hx
          have hb : (x == x) = true := by simp
          go_wp2_with (go_at_call 72; refine (isNaN_any _ _).mono ?_; rintro e w' ⟨rfl, rfl⟩)
          go_ret2
          exact RetFound.mk HX.out
        · have HX := Lib.hid (HI.out.not HR.out hlt (fun _ => by rw [← hx]; exact hxt)); clear hx
          have hb : (x == t) = false := by simpa using hxt
          clear hxt
          go_wp2_with (go_at_call 72; refine (isNaN_any _ _).mono ?_; rintro e w' ⟨rfl, rfl⟩)
          go_ret2
          exact RetFound.mk HX.out
      · have HX := Lib.hid (HI.out.not HR.out hlt (fun h => absurd h hil))
        go_wp2_with (go_at_call 72; refine (isNaN_any _ _).mono ?_; rintro e w' ⟨rfl, rfl⟩)
        go_ret2
        exact RetFound.mk HX.out
end Go.Proofs.Ytbeilcaadpopmab
