/- Walks: slices.Clone at integers, heap.Copy, sameHeap, the reference's HeapCopy. -/
import Derived.Test.YtbeilcaadpopmabAp
set_option linter.unusedVariables false
set_option linter.unusedSimpArgs false
namespace Go.Proofs.Ytbeilcaadpopmab
open Go.RowKit

/-- It returned a new slice that reads as xs. -/
def RetInts (w : World) (xs : List Int) (e : Ending) (w' : World) : Prop := ∃ a c, e = .returned (.slice a xs.length c) ∧ OwnInts w' w.heap.size (.slice a xs.length c) xs ∧ Below w.heap.size w w'
theorem RetInts.mk {w w' : World} {xs : List Int} {v : Value} (h : OwnInts w' w.heap.size v xs) (hb : Below w.heap.size w w') : RetInts w xs (.returned v) w' := by
  obtain ⟨a, c, rfl⟩ := h.shape
  exact ⟨a, c, rfl, h, hb⟩

set_option maxHeartbeats 400000 in
theorem clone_any (v : Value) (xs : List Int) (w : World) (h : Ints w v xs) : Calls Try.prog 70 #[v] w (RetInts w xs) := by
  obtain ⟨a, c, rfl, hc, hcm, hn⟩ := h.len
  have hle := h.le
  cases a with
  | none =>
    have := hn rfl
    subst this
    have hx : xs = [] := List.eq_nil_of_length_eq_zero (by omega)
    subst hx
    clear h hn
    have hq := @Lib.run_eql_slice_nil Try.prog
    go_enter Try.func70, Try.ntmps70
    go_wp2
    go_ret
    exact RetInts.mk ⟨⟨by simp, by simp⟩, World.ownsRow_nil _ _ _ _⟩ (by repeat (first | exact Below.refl _ _ | with_reducible refine below_drewN ?_ _ | with_reducible refine Below.drew ?_ | with_reducible refine Below.alloc ?_ (by first | exact Nat.le_refl _ | (simp; done) | omega | (simp; omega)) _ | with_reducible refine Below.setCell ?_ (by first | exact Nat.le_refl _ | (simp; done) | omega | (simp; omega)) _))
  | some ad =>
    have H := Lib.hid h; clear h hn
    have hq := @Lib.run_eql_slice_nil Try.prog
    have hown : OwnInts (w.alloc (.cells #[] 3)) w.heap.size (.slice (some ⟨w.heap.size, 0, none⟩) 0 0) [] := ⟨⟨by simp, by simp⟩, World.ownsRow_made w #[] 0 (Nat.le_refl _) (Nat.zero_le _) rfl⟩
    have hin : Ints (w.alloc (.cells #[] 3)) (.slice (some ad) xs.length c) xs := H.out.below (Nat.le_refl _) (by repeat (first | exact Below.refl _ _ | with_reducible refine below_drewN ?_ _ | with_reducible refine Below.drew ?_ | with_reducible refine Below.alloc ?_ (by first | exact Nat.le_refl _ | (simp; done) | omega | (simp; omega)) _ | with_reducible refine Below.setCell ?_ (by first | exact Nat.le_refl _ | (simp; done) | omega | (simp; omega)) _))
    have HO := Lib.hid hown; clear hown
    have HI := Lib.hid hin; clear hin
    go_enter Try.func70, Try.ntmps70
    go_wp2_with (at_builtin; refine wpl_append_ints rfl _ _ rfl w.heap.size (.slice (some ⟨w.heap.size, 0, none⟩) 0 0) [] rfl HO.out _ xs rfl HI.out (by simp; omega) (by simp) ?_; intro v' w' hv' hg hmv)
    go_ret
    exact RetInts.mk (by simpa using hv') (((Below.refl _ _).alloc (Nat.le_refl _) _).grown hg (by simp) (by simp [Value.ownBlock]))

/-- It returned a new heap that reads as xs, top. -/
def RetHeap (w : World) (xs : List Int) (top : Int) (e : Ending) (w' : World) : Prop := ∃ a c, e = .returned (.agg #[.slice a xs.length c, .int .i64 top]) ∧ OwnInts w' w.heap.size (.slice a xs.length c) xs ∧ Below w.heap.size w w'

set_option maxHeartbeats 400000 in
theorem heapCopy_any (v : Value) (xs : List Int) (top : Int) (w : World) (h : Ints w v xs) :
    Calls Try.prog 48 #[.agg #[v, .int .i64 top]] w (RetHeap w xs top) := by
  obtain ⟨a, c, rfl, hc, hcm, hn⟩ := h.len
  have hle := h.le
  have H := Lib.hid (h.below (Nat.le_refl _) ((((Below.refl _ w).alloc (Nat.le_refl _) (.cells #[.slice a xs.length c, .int .i64 top] 25)).alloc (by simp) (.cells #[.slice none 0 0, .int .i64 0] 25)))); clear h hn
  go_enter Try.func48, Try.ntmps48
  go_wp2_with (go_at_call 70; refine (clone_any _ _ _ H.out).mono ?_; rintro e w1 ⟨a1, c1, rfl, hv1, hb⟩; have zc1 := Nat.lt_of_lt_of_le (show w.heap.size < _ from (by first | (simp; done) | omega | (simp; omega))) (Below.size hb); have fc1_0 := Below.cell hb (p := ⟨w.heap.size, 0, none⟩) (by first | (simp; done) | omega | (simp; omega)); have gc1_0 := Below.frozen hb (p := ⟨w.heap.size, 0, none⟩) (by first | (simp; done) | omega | (simp; omega)); have fc1_1 := Below.cell hb (p := ⟨w.heap.size, 1, none⟩) (by first | (simp; done) | omega | (simp; omega)); have gc1_1 := Below.frozen hb (p := ⟨w.heap.size, 1, none⟩) (by first | (simp; done) | omega | (simp; omega)); (try simp at fc1_0 gc1_0 fc1_1 gc1_1); have zc2 := Nat.lt_of_lt_of_le (show w.heap.size + 1 < _ from (by first | (simp; done) | omega | (simp; omega))) (Below.size hb); have fc2_0 := Below.cell hb (p := ⟨w.heap.size + 1, 0, none⟩) (by first | (simp; done) | omega | (simp; omega)); have gc2_0 := Below.frozen hb (p := ⟨w.heap.size + 1, 0, none⟩) (by first | (simp; done) | omega | (simp; omega)); have fc2_1 := Below.cell hb (p := ⟨w.heap.size + 1, 1, none⟩) (by first | (simp; done) | omega | (simp; omega)); have gc2_1 := Below.frozen hb (p := ⟨w.heap.size + 1, 1, none⟩) (by first | (simp; done) | omega | (simp; omega)); (try simp at fc2_0 gc2_0 fc2_1 gc2_1))
  refine bodyPost_ret (v := .agg #[.slice a1 xs.length c1, .int .i64 top]) (by simp [results, Try.results48, go_sem, *]) rfl ⟨a1, c1, rfl, ?_, (by repeat (first | exact Below.refl _ _ | with_reducible refine Below.trans ?_ (Below.mono hb (by first | exact Nat.le_refl _ | (simp; done) | omega | (simp; omega) | (have z0 := Below.size hb; omega) | (have z0 := Below.size hb; simp at *; omega))) | with_reducible refine below_drewN ?_ _ | with_reducible refine Below.drew ?_ | with_reducible refine Below.alloc ?_ (by first | exact Nat.le_refl _ | (simp; done) | omega | (simp; omega) | (have z0 := Below.size hb; omega) | (have z0 := Below.size hb; simp at *; omega)) _ | with_reducible refine Below.setCell ?_ (by first | exact Nat.le_refl _ | (simp; done) | omega | (simp; omega) | (have z0 := Below.size hb; omega) | (have z0 := Below.size hb; simp at *; omega)) _))⟩
  exact ((((hv1.setBelow (by simp; omega) _).setBelow (by simp) _).setBelow (by simp) _).mono (by simp; omega))
end Go.Proofs.Ytbeilcaadpopmab
