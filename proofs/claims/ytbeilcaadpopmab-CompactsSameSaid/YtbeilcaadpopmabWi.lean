/- Walk: the reference's has. -/
import Derived.Test.YtbeilcaadpopmabWh
set_option linter.unusedVariables false
set_option linter.unusedSimpArgs false
namespace Go.Proofs.Ytbeilcaadpopmab
open Go.RowKit

set_option maxHeartbeats 400000 in
theorem has_any (v : Value) (l : List Int) (n : Int) (w : World) (h : Ints w v l) :
    Calls Try.prog 57 #[v, .int .i64 n] w fun e w' => e = .returned (.bool (hasB l n)) ∧ w = w' := by
  obtain ⟨a, c, rfl, hc, hcm, _⟩ := h.len
  have hle := h.le
  have H := Lib.hid h; clear h
  go_enter Try.func57, Try.ntmps57
  go_wp2_with fail
  go_loop [5] (fun i => ∃ k : Nat, k ≤ l.length ∧ i = .int .i64 k ∧ ∀ j, j < k → l.getD j 0 ≠ n) (fun i => l.length - (intOf i).toNat)
  case atStart => exact ⟨0, Nat.zero_le _, rfl, by omega⟩
  case round =>
    obtain ⟨k, hk, rfl, hno⟩ := hrel
    have HN := Lib.hid hno; clear hno
    by_cases hlt : k < l.length
    · obtain ⟨b, o, rfl, _, hc1⟩ := H.out.at (by omega)
      replace hc1 := hc1 k hlt
      obtain ⟨x, hx⟩ : ∃ x, x = l.getD k 0 := ⟨_, rfl⟩
      rw [← hx] at hc1
      by_cases hxn : x = n
      · subst hxn
        have HX := Lib.hid (hasB_of (n := x) hlt (by rw [← hx]; simp)); clear hx
        have hb : (x == x) = true := by simp
        go_wp2
        go_ret
        exact ⟨ret_bool HX.out.symm, rfl⟩
      · have hb : (x == n) = false := by simpa using hxn
        have HX := Lib.hid (show ∀ j, j < k + 1 → l.getD j 0 ≠ n from fun j hj => by
          by_cases e : j = k
          · subst e; rw [← hx]; exact hxn
          · exact HN.out j (by omega))
        clear hx hxn
        go_wp2
        go_round
        case rel => exact ⟨k + 1, by omega, by go_num, HX.out⟩
        case measure => simp [intOf]; omega
    · have HX := Lib.hid (hasB_not (fun j hj => HN.out j (by omega)))
      go_wp2
      go_ret
      exact ⟨ret_bool HX.out.symm, rfl⟩

end Go.Proofs.Ytbeilcaadpopmab
