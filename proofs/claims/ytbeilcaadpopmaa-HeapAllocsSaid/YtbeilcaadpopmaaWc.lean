/- Walks: slices.Clone at integers, heap.Copy, sameHeap, the reference's HeapCopy. -/
import Derived.Test.YtbeilcaadpopmaaAp
import Derived.Test.YtbeilcaadpopmaaWb
set_option linter.unusedVariables false
set_option linter.unusedSimpArgs false
namespace Go.Proofs.Ytbeilcaadpopmaa
open Go.RowKit

/-- It returned a new slice that reads as xs. -/
def RetInts (w : World) (xs : List Int) (e : Ending) (w' : World) : Prop := ∃ a c, e = .returned (.slice a xs.length c) ∧ OwnInts w' w.heap.size (.slice a xs.length c) xs ∧ Below w.heap.size w w'
theorem RetInts.mk {w w' : World} {xs : List Int} {v : Value} (h : OwnInts w' w.heap.size v xs) (hb : Below w.heap.size w w') : RetInts w xs (.returned v) w' := by
  obtain ⟨a, c, rfl⟩ := h.shape
  exact ⟨a, c, rfl, h, hb⟩

set_option maxHeartbeats 400000 in
theorem clone_any (v : Value) (xs : List Int) (w : World) (h : Ints w v xs) : Calls Try.prog 40 #[v] w (RetInts w xs) := by
  obtain ⟨a, c, rfl, hc, hcm, hn⟩ := h.len
  have hle := h.le
  cases a with
  | none =>
    have := hn rfl
    subst this
    have hx : xs = [] := List.eq_nil_of_length_eq_zero (by omega)
    subst hx
    clear h hn
    have hq := @Lib.run_eql_slice_nil Try.prog
    go_enter Try.func40, Try.ntmps40
    go_wp2
    go_ret
    exact RetInts.mk ⟨⟨by simp, by simp⟩, World.ownsRow_nil _ _ _ _⟩ (by repeat (first | exact Below.refl _ _ | with_reducible refine below_drewN ?_ _ | with_reducible refine Below.drew ?_ | with_reducible refine Below.alloc ?_ (by first | exact Nat.le_refl _ | (simp; done) | omega | (simp; omega)) _ | with_reducible refine Below.setCell ?_ (by first | exact Nat.le_refl _ | (simp; done) | omega | (simp; omega)) _))
  | some ad =>
    have H := Lib.hid h; clear h hn
    have hq := @Lib.run_eql_slice_nil Try.prog
    have hown : OwnInts (w.alloc (.cells #[] 3)) w.heap.size (.slice (some ⟨w.heap.size, 0, none⟩) 0 0) [] := ⟨⟨by simp, by simp⟩, World.ownsRow_made w #[] 0 (Nat.le_refl _) (Nat.zero_le _) rfl⟩
    have hin : Ints (w.alloc (.cells #[] 3)) (.slice (some ad) xs.length c) xs := H.out.below (Nat.le_refl _) (by repeat (first | exact Below.refl _ _ | with_reducible refine below_drewN ?_ _ | with_reducible refine Below.drew ?_ | with_reducible refine Below.alloc ?_ (by first | exact Nat.le_refl _ | (simp; done) | omega | (simp; omega)) _ | with_reducible refine Below.setCell ?_ (by first | exact Nat.le_refl _ | (simp; done) | omega | (simp; omega)) _))
    have HO := Lib.hid hown; clear hown
    have HI := Lib.hid hin; clear hin
    go_enter Try.func40, Try.ntmps40
    go_wp2_with (at_builtin; refine wpl_append_ints rfl _ _ rfl w.heap.size (.slice (some ⟨w.heap.size, 0, none⟩) 0 0) [] rfl HO.out _ xs rfl HI.out (by simp; omega) (by simp) ?_; intro v' w' hv' hg hmv)
    go_ret
    exact RetInts.mk (by simpa using hv') (((Below.refl _ _).alloc (Nat.le_refl _) _).grown hg (by simp) (by simp [Value.ownBlock]))

/-- It returned a new heap that reads as xs, top. -/
def RetHeap (w : World) (xs : List Int) (top : Int) (e : Ending) (w' : World) : Prop := ∃ a c, e = .returned (.agg #[.slice a xs.length c, .int .i64 top]) ∧ OwnInts w' w.heap.size (.slice a xs.length c) xs ∧ Below w.heap.size w w'

set_option maxHeartbeats 400000 in
theorem heapCopy_any (v : Value) (xs : List Int) (top : Int) (w : World) (h : Ints w v xs) :
    Calls Try.prog 21 #[.agg #[v, .int .i64 top]] w (RetHeap w xs top) := by
  obtain ⟨a, c, rfl, hc, hcm, hn⟩ := h.len
  have hle := h.le
  have H := Lib.hid (h.below (Nat.le_refl _) ((((Below.refl _ w).alloc (Nat.le_refl _) (.cells #[.slice a xs.length c, .int .i64 top] 27)).alloc (by simp) (.cells #[.slice none 0 0, .int .i64 0] 27)))); clear h hn
  go_enter Try.func21, Try.ntmps21
  go_wp2_with (go_at_call 40; refine (clone_any _ _ _ H.out).mono ?_; rintro e w1 ⟨a1, c1, rfl, hv1, hb⟩; have zc1 := Nat.lt_of_lt_of_le (show w.heap.size < _ from (by first | (simp; done) | omega | (simp; omega))) (Below.size hb); have fc1_0 := Below.cell hb (p := ⟨w.heap.size, 0, none⟩) (by first | (simp; done) | omega | (simp; omega)); have gc1_0 := Below.frozen hb (p := ⟨w.heap.size, 0, none⟩) (by first | (simp; done) | omega | (simp; omega)); have fc1_1 := Below.cell hb (p := ⟨w.heap.size, 1, none⟩) (by first | (simp; done) | omega | (simp; omega)); have gc1_1 := Below.frozen hb (p := ⟨w.heap.size, 1, none⟩) (by first | (simp; done) | omega | (simp; omega)); (try simp at fc1_0 gc1_0 fc1_1 gc1_1); have zc2 := Nat.lt_of_lt_of_le (show w.heap.size + 1 < _ from (by first | (simp; done) | omega | (simp; omega))) (Below.size hb); have fc2_0 := Below.cell hb (p := ⟨w.heap.size + 1, 0, none⟩) (by first | (simp; done) | omega | (simp; omega)); have gc2_0 := Below.frozen hb (p := ⟨w.heap.size + 1, 0, none⟩) (by first | (simp; done) | omega | (simp; omega)); have fc2_1 := Below.cell hb (p := ⟨w.heap.size + 1, 1, none⟩) (by first | (simp; done) | omega | (simp; omega)); have gc2_1 := Below.frozen hb (p := ⟨w.heap.size + 1, 1, none⟩) (by first | (simp; done) | omega | (simp; omega)); (try simp at fc2_0 gc2_0 fc2_1 gc2_1))
  refine bodyPost_ret (v := .agg #[.slice a1 xs.length c1, .int .i64 top]) (by simp [results, Try.results21, go_sem, *]) rfl ⟨a1, c1, rfl, ?_, (by repeat (first | exact Below.refl _ _ | with_reducible refine Below.trans ?_ (Below.mono hb (by first | exact Nat.le_refl _ | (simp; done) | omega | (simp; omega) | (have z0 := Below.size hb; omega) | (have z0 := Below.size hb; simp at *; omega))) | with_reducible refine below_drewN ?_ _ | with_reducible refine Below.drew ?_ | with_reducible refine Below.alloc ?_ (by first | exact Nat.le_refl _ | (simp; done) | omega | (simp; omega) | (have z0 := Below.size hb; omega) | (have z0 := Below.size hb; simp at *; omega)) _ | with_reducible refine Below.setCell ?_ (by first | exact Nat.le_refl _ | (simp; done) | omega | (simp; omega) | (have z0 := Below.size hb; omega) | (have z0 := Below.size hb; simp at *; omega)) _))⟩
  exact ((((hv1.setBelow (by simp; omega) _).setBelow (by simp) _).setBelow (by simp) _).mono (by simp; omega))

/-- Are two heaps the same? -/
def sameH (xs : List Int) (s : Int) (ys : List Int) (t : Int) : Bool := decide (s = t) && decide (xs = ys)

set_option maxHeartbeats 400000 in
theorem sameHeap_any (a b : Value) (xs ys : List Int) (s t : Int) (w : World) (ha : Ints w a xs) (hb : Ints w b ys) :
    Calls Try.prog 17 #[.agg #[a, .int .i64 s], .agg #[b, .int .i64 t]] w fun e w' => e = .returned (.bool (sameH xs s ys t)) ∧ Below w.heap.size w w' := by
  obtain ⟨aa, ac, rfl, hac, hacm, _⟩ := ha.len
  obtain ⟨ba, bc, rfl, hbc, hbcm, _⟩ := hb.len
  have hin := (((Below.refl _ w).alloc (Nat.le_refl _) (.cells #[.slice aa xs.length ac, .int .i64 s] 27)).alloc (by simp) (.cells #[.slice ba ys.length bc, .int .i64 t] 27))
  have HA := Lib.hid (ha.below (Nat.le_refl _) hin); clear ha
  have HB := Lib.hid (hb.below (Nat.le_refl _) hin); clear hb hin
  by_cases hst : s = t
  · subst hst
    go_enter Try.func17, Try.ntmps17
    go_wp2_with (go_at_call 32; refine (sameInts_any _ _ _ _ _ HA.out HB.out).mono ?_; rintro e w1 ⟨rfl, hb⟩)
    go_ret
    exact ⟨ret_bool (by simp [sameH]), (by repeat (first | exact Below.refl _ _ | with_reducible refine Below.trans ?_ (Below.mono hb (by first | exact Nat.le_refl _ | (simp; done) | omega | (simp; omega) | (have z0 := Below.size hb; omega) | (have z0 := Below.size hb; simp at *; omega))) | with_reducible refine below_drewN ?_ _ | with_reducible refine Below.drew ?_ | with_reducible refine Below.alloc ?_ (by first | exact Nat.le_refl _ | (simp; done) | omega | (simp; omega) | (have z0 := Below.size hb; omega) | (have z0 := Below.size hb; simp at *; omega)) _ | with_reducible refine Below.setCell ?_ (by first | exact Nat.le_refl _ | (simp; done) | omega | (simp; omega) | (have z0 := Below.size hb; omega) | (have z0 := Below.size hb; simp at *; omega)) _))⟩
  · have e : (s == t) = false := by simpa using hst
    have H := Lib.hid hst; clear hst
    go_enter Try.func17, Try.ntmps17
    go_wp2_with fail
    go_ret
    exact ⟨ret_bool (by simp [sameH, H.out]), (by repeat (first | exact Below.refl _ _ | with_reducible refine below_drewN ?_ _ | with_reducible refine Below.drew ?_ | with_reducible refine Below.alloc ?_ (by first | exact Nat.le_refl _ | (simp; done) | omega | (simp; omega)) _ | with_reducible refine Below.setCell ?_ (by first | exact Nat.le_refl _ | (simp; done) | omega | (simp; omega)) _))⟩

set_option maxHeartbeats 400000 in
theorem refCopy_any (v : Value) (xs : List Int) (top : Int) (w : World) (h : Ints w v xs) :
    Calls Try.prog 36 #[.agg #[v, .int .i64 top]] w (RetHeap w xs top) := by
  obtain ⟨a, c, rfl, hc, hcm, hn⟩ := h.len
  have hle := h.le
  have H := Lib.hid (fun m => Ints.below (w' := ((w.alloc (.cells #[.slice a xs.length c, .int .i64 top] 27)).alloc (.cells #[.slice none 0 0, .int .i64 0] 27)).drewN m) h (Nat.le_refl _) (by repeat (first | exact Below.refl _ _ | with_reducible refine below_drewN ?_ _ | with_reducible refine Below.drew ?_ | with_reducible refine Below.alloc ?_ (by first | exact Nat.le_refl _ | (simp; done) | omega | (simp; omega)) _ | with_reducible refine Below.setCell ?_ (by first | exact Nat.le_refl _ | (simp; done) | omega | (simp; omega)) _))); clear h hn
  go_enter Try.func36, Try.ntmps36
  go_wp2_with fail
  go_region_law ((refine step_append_ints rfl _ _ rfl (w.heap.size + 2) (.slice none 0 0) [] rfl ⟨⟨by simp, by simp⟩, World.ownsRow_nil _ _ _ _⟩ (.slice a xs.length c) xs rfl (H.out 1) (by simp; omega) (by simp) ?_); intro v' w' hv' hg hmv; rw [List.nil_append] at hv'; obtain ⟨a1, c1, rfl⟩ := hv'.shape; have hb := Below.grown (Below.refl _ _) hg (Nat.le_refl _) (by simp [Value.ownBlock]); have zc3 := Nat.lt_of_lt_of_le (show w.heap.size < _ from (by first | (simp; done) | omega | (simp; omega))) (Below.size hb); have fc3_0 := Below.cell hb (p := ⟨w.heap.size, 0, none⟩) (by first | (simp; done) | omega | (simp; omega)); have gc3_0 := Below.frozen hb (p := ⟨w.heap.size, 0, none⟩) (by first | (simp; done) | omega | (simp; omega)); have fc3_1 := Below.cell hb (p := ⟨w.heap.size, 1, none⟩) (by first | (simp; done) | omega | (simp; omega)); have gc3_1 := Below.frozen hb (p := ⟨w.heap.size, 1, none⟩) (by first | (simp; done) | omega | (simp; omega)); (try simp at fc3_0 gc3_0 fc3_1 gc3_1); have zc4 := Nat.lt_of_lt_of_le (show w.heap.size + 1 < _ from (by first | (simp; done) | omega | (simp; omega))) (Below.size hb); have fc4_0 := Below.cell hb (p := ⟨w.heap.size + 1, 0, none⟩) (by first | (simp; done) | omega | (simp; omega)); have gc4_0 := Below.frozen hb (p := ⟨w.heap.size + 1, 0, none⟩) (by first | (simp; done) | omega | (simp; omega)); have fc4_1 := Below.cell hb (p := ⟨w.heap.size + 1, 1, none⟩) (by first | (simp; done) | omega | (simp; omega)); have gc4_1 := Below.frozen hb (p := ⟨w.heap.size + 1, 1, none⟩) (by first | (simp; done) | omega | (simp; omega)); (try simp at fc4_0 gc4_0 fc4_1 gc4_1))
  all_goals
    go_wp2
    refine bodyPost_ret (v := .agg #[.slice a1 xs.length c1, .int .i64 top]) (by simp [results, Try.results36, go_sem, *]) rfl ⟨a1, c1, rfl, ?_, (by repeat (first | exact Below.refl _ _ | with_reducible refine Below.trans ?_ (Below.mono hb (by first | exact Nat.le_refl _ | (simp; done) | omega | (simp; omega) | (have z0 := Below.size hb; omega) | (have z0 := Below.size hb; simp at *; omega))) | with_reducible refine below_drewN ?_ _ | with_reducible refine Below.drew ?_ | with_reducible refine Below.alloc ?_ (by first | exact Nat.le_refl _ | (simp; done) | omega | (simp; omega) | (have z0 := Below.size hb; omega) | (have z0 := Below.size hb; simp at *; omega)) _ | with_reducible refine Below.setCell ?_ (by first | exact Nat.le_refl _ | (simp; done) | omega | (simp; omega) | (have z0 := Below.size hb; omega) | (have z0 := Below.size hb; simp at *; omega)) _))⟩
    exact ((hv'.setBelow (by simp) _).setBelow (by simp) _).mono (by omega)

set_option maxHeartbeats 400000 in
theorem heapCopies_any (v : Value) (xs : List Int) (top : Int) (w : World) (h : Ints w v xs) :
    Calls Try.prog 8 #[.agg #[v, .int .i64 top]] w fun e w' => e = .returned (.bool true) ∧ Below w.heap.size w w' := by
  obtain ⟨a, c, rfl, hc, hcm, hn⟩ := h.len
  have H := Lib.hid h; clear h hn
  have H1 := Lib.hid (H.out.below (Nat.le_refl _) ((Below.refl _ w).alloc (Nat.le_refl _) (.cells #[.slice a xs.length c, .int .i64 top] 27)))
  go_enter Try.func8, Try.ntmps8
  have Hfin : ∀ w2, Below w.heap.size w w2 → Ints w2 (.slice a xs.length c) xs := fun w2 hb2 => H.out.below (Nat.le_refl _) hb2
  have HF := Lib.hid Hfin; clear Hfin
  go_wp2_with (first | (go_at_call 21; refine (heapCopy_any _ _ _ _ H1.out).mono ?_; rintro e w1 ⟨a1, c1, rfl, hv1, hb⟩; have zc5 := Nat.lt_of_lt_of_le (show w.heap.size < _ from (by first | (simp; done) | omega | (simp; omega))) (Below.size hb); have fc5_0 := Below.cell hb (p := ⟨w.heap.size, 0, none⟩) (by first | (simp; done) | omega | (simp; omega)); have gc5_0 := Below.frozen hb (p := ⟨w.heap.size, 0, none⟩) (by first | (simp; done) | omega | (simp; omega)); have fc5_1 := Below.cell hb (p := ⟨w.heap.size, 1, none⟩) (by first | (simp; done) | omega | (simp; omega)); have gc5_1 := Below.frozen hb (p := ⟨w.heap.size, 1, none⟩) (by first | (simp; done) | omega | (simp; omega)); (try simp at fc5_0 gc5_0 fc5_1 gc5_1); have HV := Lib.hid hv1; clear hv1) | (go_at_call 17; refine (sameHeap_any _ _ xs xs top top _ (HV.out.below (by repeat (first | exact Below.refl _ _ | with_reducible refine below_drewN ?_ _ | with_reducible refine Below.drew ?_ | with_reducible refine Below.alloc ?_ (by first | exact Nat.le_refl _ | (simp; done) | omega | (simp; omega)) _ | with_reducible refine Below.setCell ?_ (by first | exact Nat.le_refl _ | (simp; done) | omega | (simp; omega)) _))).ints (HF.out _ (by repeat (first | exact Below.refl _ _ | with_reducible refine Below.trans ?_ (Below.mono hb (by first | exact Nat.le_refl _ | (simp; done) | omega | (simp; omega) | (have z0 := Below.size hb; omega) | (have z0 := Below.size hb; simp at *; omega))) | with_reducible refine below_drewN ?_ _ | with_reducible refine Below.drew ?_ | with_reducible refine Below.alloc ?_ (by first | exact Nat.le_refl _ | (simp; done) | omega | (simp; omega) | (have z0 := Below.size hb; omega) | (have z0 := Below.size hb; simp at *; omega)) _ | with_reducible refine Below.setCell ?_ (by first | exact Nat.le_refl _ | (simp; done) | omega | (simp; omega) | (have z0 := Below.size hb; omega) | (have z0 := Below.size hb; simp at *; omega)) _)))).mono ?_; rintro e w2 ⟨rfl, hb2⟩))
  go_ret
  exact ⟨ret_bool (by simp [sameH]), (by repeat (first | exact Below.refl _ _ | with_reducible refine Below.trans ?_ (Below.mono hb2 (by first | exact Nat.le_refl _ | (simp; done) | omega | (simp; omega) | (have z0 := Below.size hb2; have z1 := Below.size hb; omega) | (have z0 := Below.size hb2; have z1 := Below.size hb; simp at *; omega))) | with_reducible refine Below.trans ?_ (Below.mono hb (by first | exact Nat.le_refl _ | (simp; done) | omega | (simp; omega) | (have z0 := Below.size hb2; have z1 := Below.size hb; omega) | (have z0 := Below.size hb2; have z1 := Below.size hb; simp at *; omega))) | with_reducible refine below_drewN ?_ _ | with_reducible refine Below.drew ?_ | with_reducible refine Below.alloc ?_ (by first | exact Nat.le_refl _ | (simp; done) | omega | (simp; omega) | (have z0 := Below.size hb2; have z1 := Below.size hb; omega) | (have z0 := Below.size hb2; have z1 := Below.size hb; simp at *; omega)) _ | with_reducible refine Below.setCell ?_ (by first | exact Nat.le_refl _ | (simp; done) | omega | (simp; omega) | (have z0 := Below.size hb2; have z1 := Below.size hb; omega) | (have z0 := Below.size hb2; have z1 := Below.size hb; simp at *; omega)) _))⟩
end Go.Proofs.Ytbeilcaadpopmaa
