/- Walks: sameInts. -/
import Derived.Test.YtbeilcaadpopmabLib
set_option linter.unusedVariables false
set_option linter.unusedSimpArgs false
namespace Go.Proofs.Ytbeilcaadpopmab
open Go.RowKit

theorem getD_ne {xs ys : List Int} {k : Nat} (hk : k < xs.length) (hk2 : k < ys.length) (h : (xs[k] != ys[k]) = true) : xs ≠ ys := by
  intro e; subst e; simp at h
theorem getD_step {xs ys : List Int} {k : Nat} (hk : k < xs.length) (hk2 : k < ys.length) (hs : ∀ j, j < k → xs.getD j 0 = ys.getD j 0) (h : (xs[k] != ys[k]) = false) : ∀ j, j < k + 1 → xs.getD j 0 = ys.getD j 0 := by
  intro j hj
  by_cases e : j = k
  · subst e; simpa [List.getD, hk, hk2] using h
  · exact hs j (by omega)
theorem eq_of_getD {xs ys : List Int} (hl : xs.length = ys.length) (h : ∀ j, j < xs.length → xs.getD j 0 = ys.getD j 0) : xs = ys := by
  apply List.ext_getElem hl
  intro i h1 h2
  have := h i h1
  simpa [List.getD, h1, h2] using this

set_option maxHeartbeats 400000 in
theorem sameInts_any (a b : Value) (xs ys : List Int) (w : World) (ha : Ints w a xs) (hb : Ints w b ys) :
    Calls Try.prog 32 #[a, b] w fun e w' => e = .returned (.bool (decide (xs = ys))) ∧ Below w.heap.size w w' := by
  obtain ⟨aa, ac, rfl, hac, hacm, _⟩ := ha.len
  obtain ⟨ba, bc, rfl, hbc, hbcm, _⟩ := hb.len
  have ha2 := ha.le
  have hb2 := hb.le
  by_cases hlen : xs.length = ys.length
  · have hlb : ((xs.length : Int) != (ys.length : Int)) = false := by simp [hlen]
    have Hl := Lib.hid hlen; clear hlen
    have HA := Lib.hid ha; clear ha
    have HB := Lib.hid hb; clear hb
    go_enter Try.func32, Try.ntmps32
    go_wp2
    go_loopw [5] (fun i wr => ∃ k : Nat, k ≤ xs.length ∧ i = .int .i64 k ∧ (∀ j, j < k → xs.getD j 0 = ys.getD j 0) ∧ Below w.heap.size w wr) (fun i _ => xs.length - (intOf i).toNat)
    case atStart => exact ⟨0, Nat.zero_le _, rfl, by omega, Below.refl _ _⟩
    case round =>
      obtain ⟨k, hk, rfl, hsame, hbel⟩ := hrel
      have Hs := Lib.hid hsame; clear hsame
      by_cases hlt : k < xs.length
      · have hlt2 : k < ys.length := by rw [← Hl.out]; exact hlt
        obtain ⟨ab, ao, rfl, _, c1⟩ := Ints.at (HA.out.below (Nat.le_refl _) hbel) (by omega)
        obtain ⟨bb, bo, rfl, _, c2⟩ := Ints.at (HB.out.below (Nat.le_refl _) hbel) (by omega)
        replace c1 := c1 k hlt
        replace c2 := c2 k hlt2
        go_wp2
        go_quiet (fail)
        go_wp2
        · have hne : (xs[k] != ys[k]) = true := by assumption
          go_ret
          exact ⟨ret_bool (decide_eq_false (getD_ne hlt hlt2 hne)).symm, below_drewN hbel _⟩
        · have hne : (xs[k] != ys[k]) = false := by assumption
          go_roundw
          case rel => exact ⟨k + 1, by omega, by go_num, getD_step hlt hlt2 Hs.out hne, below_drewN hbel _⟩
          case measure => simp [intOf]; omega
      · go_wp2
        go_ret
        exact ⟨ret_bool (decide_eq_true (eq_of_getD Hl.out (fun j hj => Hs.out j (by omega)))).symm, hbel⟩
  · have hlb : ((xs.length : Int) != (ys.length : Int)) = true := by simp; omega
    have hne : ¬ xs = ys := fun e => hlen (by rw [e])
    have Hl := Lib.hid hlen; clear hlen
    have Hn := Lib.hid hne; clear hne
    clear ha hb
    go_enter Try.func32, Try.ntmps32
    go_wp2
    go_ret
    exact ⟨ret_bool (decide_eq_false Hn.out).symm, Below.refl _ _⟩
end Go.Proofs.Ytbeilcaadpopmab
