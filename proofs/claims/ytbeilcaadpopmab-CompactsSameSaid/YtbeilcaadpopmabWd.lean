/- Walks: sameHeap, the reference's HeapCopy. -/
import Derived.Test.YtbeilcaadpopmabWc
import Derived.Test.YtbeilcaadpopmabWb
set_option linter.unusedVariables false
set_option linter.unusedSimpArgs false
namespace Go.Proofs.Ytbeilcaadpopmab
open Go.RowKit

/-- Are two heaps the same? -/
def sameH (xs : List Int) (s : Int) (ys : List Int) (t : Int) : Bool := decide (s = t) && decide (xs = ys)

set_option maxHeartbeats 400000 in
theorem sameHeap_any (a b : Value) (xs ys : List Int) (s t : Int) (w : World) (ha : Ints w a xs) (hb : Ints w b ys) :
    Calls Try.prog 23 #[.agg #[a, .int .i64 s], .agg #[b, .int .i64 t]] w fun e w' => e = .returned (.bool (sameH xs s ys t)) ∧ Below w.heap.size w w' := by
  obtain ⟨aa, ac, rfl, hac, hacm, _⟩ := ha.len
  obtain ⟨ba, bc, rfl, hbc, hbcm, _⟩ := hb.len
  have hin := (((Below.refl _ w).alloc (Nat.le_refl _) (.cells #[.slice aa xs.length ac, .int .i64 s] 25)).alloc (by simp) (.cells #[.slice ba ys.length bc, .int .i64 t] 25))
  have HA := Lib.hid (ha.below (Nat.le_refl _) hin); clear ha
  have HB := Lib.hid (hb.below (Nat.le_refl _) hin); clear hb hin
  by_cases hst : s = t
  · subst hst
    go_enter Try.func23, Try.ntmps23
    go_wp2_with (go_at_call 32; refine (sameInts_any _ _ _ _ _ HA.out HB.out).mono ?_; rintro e w1 ⟨rfl, hb⟩)
    go_ret
    exact ⟨ret_bool (by simp [sameH]), (by repeat (first | exact Below.refl _ _ | with_reducible refine Below.trans ?_ (Below.mono hb (by first | exact Nat.le_refl _ | (simp; done) | omega | (simp; omega) | (have z0 := Below.size hb; omega) | (have z0 := Below.size hb; simp at *; omega))) | with_reducible refine below_drewN ?_ _ | with_reducible refine Below.drew ?_ | with_reducible refine Below.alloc ?_ (by first | exact Nat.le_refl _ | (simp; done) | omega | (simp; omega) | (have z0 := Below.size hb; omega) | (have z0 := Below.size hb; simp at *; omega)) _ | with_reducible refine Below.setCell ?_ (by first | exact Nat.le_refl _ | (simp; done) | omega | (simp; omega) | (have z0 := Below.size hb; omega) | (have z0 := Below.size hb; simp at *; omega)) _))⟩
  · have e : (s == t) = false := by simpa using hst
    have H := Lib.hid hst; clear hst
    go_enter Try.func23, Try.ntmps23
    go_wp2_with fail
    go_ret
    exact ⟨ret_bool (by simp [sameH, H.out]), (by repeat (first | exact Below.refl _ _ | with_reducible refine below_drewN ?_ _ | with_reducible refine Below.drew ?_ | with_reducible refine Below.alloc ?_ (by first | exact Nat.le_refl _ | (simp; done) | omega | (simp; omega)) _ | with_reducible refine Below.setCell ?_ (by first | exact Nat.le_refl _ | (simp; done) | omega | (simp; omega)) _))⟩

set_option maxHeartbeats 400000 in
theorem refCopy_any (v : Value) (xs : List Int) (top : Int) (w : World) (h : Ints w v xs) :
    Calls Try.prog 20 #[.agg #[v, .int .i64 top]] w (RetHeap w xs top) := by
  obtain ⟨a, c, rfl, hc, hcm, hn⟩ := h.len
  have hle := h.le
  have H := Lib.hid (fun m => Ints.below (w' := ((w.alloc (.cells #[.slice a xs.length c, .int .i64 top] 25)).alloc (.cells #[.slice none 0 0, .int .i64 0] 25)).drewN m) h (Nat.le_refl _) (by repeat (first | exact Below.refl _ _ | with_reducible refine below_drewN ?_ _ | with_reducible refine Below.drew ?_ | with_reducible refine Below.alloc ?_ (by first | exact Nat.le_refl _ | (simp; done) | omega | (simp; omega)) _ | with_reducible refine Below.setCell ?_ (by first | exact Nat.le_refl _ | (simp; done) | omega | (simp; omega)) _))); clear h hn
  go_enter Try.func20, Try.ntmps20
  go_wp2_with fail
  go_region_law ((refine step_append_ints rfl _ _ rfl (w.heap.size + 2) (.slice none 0 0) [] rfl ⟨⟨by simp, by simp⟩, World.ownsRow_nil _ _ _ _⟩ (.slice a xs.length c) xs rfl (H.out 1) (by simp; omega) (by simp) ?_); intro v' w' hv' hg hmv; rw [List.nil_append] at hv'; obtain ⟨a1, c1, rfl⟩ := hv'.shape; have hb := Below.grown (Below.refl _ _) hg (Nat.le_refl _) (by simp [Value.ownBlock]); have zc1 := Nat.lt_of_lt_of_le (show w.heap.size < _ from (by first | (simp; done) | omega | (simp; omega))) (Below.size hb); have fc1_0 := Below.cell hb (p := ⟨w.heap.size, 0, none⟩) (by first | (simp; done) | omega | (simp; omega)); have gc1_0 := Below.frozen hb (p := ⟨w.heap.size, 0, none⟩) (by first | (simp; done) | omega | (simp; omega)); have fc1_1 := Below.cell hb (p := ⟨w.heap.size, 1, none⟩) (by first | (simp; done) | omega | (simp; omega)); have gc1_1 := Below.frozen hb (p := ⟨w.heap.size, 1, none⟩) (by first | (simp; done) | omega | (simp; omega)); (try simp at fc1_0 gc1_0 fc1_1 gc1_1); have zc2 := Nat.lt_of_lt_of_le (show w.heap.size + 1 < _ from (by first | (simp; done) | omega | (simp; omega))) (Below.size hb); have fc2_0 := Below.cell hb (p := ⟨w.heap.size + 1, 0, none⟩) (by first | (simp; done) | omega | (simp; omega)); have gc2_0 := Below.frozen hb (p := ⟨w.heap.size + 1, 0, none⟩) (by first | (simp; done) | omega | (simp; omega)); have fc2_1 := Below.cell hb (p := ⟨w.heap.size + 1, 1, none⟩) (by first | (simp; done) | omega | (simp; omega)); have gc2_1 := Below.frozen hb (p := ⟨w.heap.size + 1, 1, none⟩) (by first | (simp; done) | omega | (simp; omega)); (try simp at fc2_0 gc2_0 fc2_1 gc2_1))
  all_goals
    go_wp2
    refine bodyPost_ret (v := .agg #[.slice a1 xs.length c1, .int .i64 top]) (by simp [results, Try.results20, go_sem, *]) rfl ⟨a1, c1, rfl, ?_, (by repeat (first | exact Below.refl _ _ | with_reducible refine Below.trans ?_ (Below.mono hb (by first | exact Nat.le_refl _ | (simp; done) | omega | (simp; omega) | (have z0 := Below.size hb; omega) | (have z0 := Below.size hb; simp at *; omega))) | with_reducible refine below_drewN ?_ _ | with_reducible refine Below.drew ?_ | with_reducible refine Below.alloc ?_ (by first | exact Nat.le_refl _ | (simp; done) | omega | (simp; omega) | (have z0 := Below.size hb; omega) | (have z0 := Below.size hb; simp at *; omega)) _ | with_reducible refine Below.setCell ?_ (by first | exact Nat.le_refl _ | (simp; done) | omega | (simp; omega) | (have z0 := Below.size hb; omega) | (have z0 := Below.size hb; simp at *; omega)) _))⟩
    exact ((hv'.setBelow (by simp) _).setBelow (by simp) _).mono (by omega)

end Go.Proofs.Ytbeilcaadpopmab
