/- Walk: heap.Places. -/
import Derived.Test.YtbeilcaadpopmabCk
set_option linter.unusedVariables false
set_option linter.unusedSimpArgs false
namespace Go.Proofs.Ytbeilcaadpopmab
open Go.RowKit

/-- It returned the places of a heap that may be, or ErrState. -/
def RetPl (w : World) (xs : List Int) (top : Int) (e : Ending) (w' : World) : Prop :=
  Below w.heap.size w w' ∧ ((∃ (t : Nat) (l : List Nat) (a : Option Addr) (c : Nat), top = (t : Int) ∧ HeapIs xs t l ∧ e = .returned (.tuple #[.slice a l.length c, .int .i64 0]) ∧ OwnInts w' w.heap.size (.slice a l.length c) (intsOf l)) ∨
    (¬ HeapOk xs top ∧ e = .returned (.tuple #[.slice none 0 0, .int .i64 5])))

set_option maxHeartbeats 1000000 in
theorem Places_any (v : Value) (xs : List Int) (top : Int) (w : World) (h : Ints w v xs) :
    Calls Try.prog 18 #[.agg #[v, .int .i64 top]] w (RetPl w xs top) := by
  obtain ⟨a, c, rfl, hc, hcm, _⟩ := h.len
  have HF : Hid (∀ w2, Below w.heap.size w w2 → Ints w2 (.slice a xs.length c) xs) := fun w2 hb2 => h.below (Nat.le_refl _) hb2
  clear h
  by_cases hok : HeapOk xs top
  · obtain ⟨t, l, rfl, his⟩ := hok
    have HI := Lib.hid his
    obtain ⟨i1, i2, i3, i4, _⟩ := his
    have HP := Lib.hid i4; clear i4
    go_enter Try.func18, Try.ntmps18
    go_wp2_with (first | (go_at_call 19; refine (check_any _ _ _ _ (HF.out _ (by repeat (first | exact Below.refl _ _ | with_reducible refine below_drewN ?_ _ | with_reducible refine Below.drew ?_ | with_reducible refine Below.alloc ?_ (by first | exact Nat.le_refl _ | (simp; done) | omega | (simp; omega)) _ | with_reducible refine Below.setCell ?_ (by first | exact Nat.le_refl _ | (simp; done) | omega | (simp; omega)) _)))).mono ?_; rintro e w1 ⟨hb, ⟨_, rfl⟩ | ⟨hno, rfl⟩⟩; rotate_left; exact absurd ⟨t, l, rfl, HI.out⟩ hno; have zc1 := Nat.lt_of_lt_of_le (show w.heap.size < _ from (by first | (simp; done) | omega | (simp; omega))) (Below.size hb); have fc1_0 := Below.cell hb (p := ⟨w.heap.size, 0, none⟩) (by first | (simp; done) | omega | (simp; omega)); have gc1_0 := Below.frozen hb (p := ⟨w.heap.size, 0, none⟩) (by first | (simp; done) | omega | (simp; omega)); have fc1_1 := Below.cell hb (p := ⟨w.heap.size, 1, none⟩) (by first | (simp; done) | omega | (simp; omega)); have gc1_1 := Below.frozen hb (p := ⟨w.heap.size, 1, none⟩) (by first | (simp; done) | omega | (simp; omega)); (try simp at fc1_0 gc1_0 fc1_1 gc1_1)) | (go_at_call 49; refine (places_any _ _ _ _ (HF.out _ (by repeat (first | exact Below.refl _ _ | with_reducible refine Below.trans ?_ (Below.mono hb (by first | exact Nat.le_refl _ | (simp; done) | omega | (simp; omega) | (have z0 := Below.size hb; omega) | (have z0 := Below.size hb; simp at *; omega))) | with_reducible refine below_drewN ?_ _ | with_reducible refine Below.drew ?_ | with_reducible refine Below.alloc ?_ (by first | exact Nat.le_refl _ | (simp; done) | omega | (simp; omega) | (have z0 := Below.size hb; omega) | (have z0 := Below.size hb; simp at *; omega)) _ | with_reducible refine Below.setCell ?_ (by first | exact Nat.le_refl _ | (simp; done) | omega | (simp; omega) | (have z0 := Below.size hb; omega) | (have z0 := Below.size hb; simp at *; omega)) _))) i2 i3 i1).mono ?_; rintro e w2 ⟨hb2, ⟨l', a1, c1, hl, rfl, hv1⟩ | ⟨hl, rfl⟩⟩; rotate_left; (exfalso; rw [HP.out] at hl; cases hl); rw [HP.out] at hl; obtain rfl := Option.some.inj hl; clear hl; have HV := Lib.hid hv1; clear hv1))
    go_ret2
    exact ⟨(by repeat (first | exact Below.refl _ _ | with_reducible refine Below.trans ?_ (Below.mono hb2 (by first | exact Nat.le_refl _ | (simp; done) | omega | (simp; omega) | (have z := Below.size hb2; omega) | (have z := Below.size hb; omega) | (have z0 := Below.size hb2; have z1 := Below.size hb; omega) | (have z0 := Below.size hb2; have z1 := Below.size hb; simp at *; omega))) | with_reducible refine Below.trans ?_ (Below.mono hb (by first | exact Nat.le_refl _ | (simp; done) | omega | (simp; omega) | (have z := Below.size hb2; omega) | (have z := Below.size hb; omega) | (have z0 := Below.size hb2; have z1 := Below.size hb; omega) | (have z0 := Below.size hb2; have z1 := Below.size hb; simp at *; omega))) | with_reducible refine below_drewN ?_ _ | with_reducible refine Below.drew ?_ | with_reducible refine Below.alloc ?_ (by first | exact Nat.le_refl _ | (simp; done) | omega | (simp; omega) | (have z := Below.size hb2; omega) | (have z := Below.size hb; omega) | (have z0 := Below.size hb2; have z1 := Below.size hb; omega) | (have z0 := Below.size hb2; have z1 := Below.size hb; simp at *; omega)) _ | with_reducible refine Below.setCell ?_ (by first | exact Nat.le_refl _ | (simp; done) | omega | (simp; omega) | (have z := Below.size hb2; omega) | (have z := Below.size hb; omega) | (have z0 := Below.size hb2; have z1 := Below.size hb; omega) | (have z0 := Below.size hb2; have z1 := Below.size hb; simp at *; omega)) _)), .inl ⟨t, l, a1, c1, rfl, HI.out, rfl, (by refine OwnInts.via HV.out (base' := w.heap.size) ?_ ?_; (repeat (first | exact HV.out | with_reducible refine OwnInts.setBelow ?_ ?_ _ | with_reducible refine OwnInts.below ?_ (Below.drew (Below.refl _ _)) | with_reducible refine OwnInts.below ?_ (below_drewN (Below.refl _ _) _) | with_reducible refine OwnInts.below ?_ (Below.alloc (Below.refl _ _) (Nat.le_refl _) _) | with_reducible refine OwnInts.below ?_ hb)); all_goals (first | exact Nat.le_refl _ | (simp; done) | omega | (simp; omega) | (have z0 := Below.size hb; omega) | (have z0 := Below.size hb; simp at *; omega)))⟩⟩
  · have HO := Lib.hid hok; clear hok
    go_enter Try.func18, Try.ntmps18
    go_wp2_with (go_at_call 19; refine (check_any _ _ _ _ (HF.out _ (by repeat (first | exact Below.refl _ _ | with_reducible refine below_drewN ?_ _ | with_reducible refine Below.drew ?_ | with_reducible refine Below.alloc ?_ (by first | exact Nat.le_refl _ | (simp; done) | omega | (simp; omega)) _ | with_reducible refine Below.setCell ?_ (by first | exact Nat.le_refl _ | (simp; done) | omega | (simp; omega)) _)))).mono ?_; rintro e w1 ⟨hb, ⟨hyes, rfl⟩ | ⟨_, rfl⟩⟩; exact absurd hyes HO.out)
    go_ret2
    exact ⟨(by repeat (first | exact Below.refl _ _ | with_reducible refine Below.trans ?_ (Below.mono hb (by first | exact Nat.le_refl _ | (simp; done) | omega | (simp; omega) | (have z0 := Below.size hb; omega) | (have z0 := Below.size hb; simp at *; omega))) | with_reducible refine below_drewN ?_ _ | with_reducible refine Below.drew ?_ | with_reducible refine Below.alloc ?_ (by first | exact Nat.le_refl _ | (simp; done) | omega | (simp; omega) | (have z0 := Below.size hb; omega) | (have z0 := Below.size hb; simp at *; omega)) _ | with_reducible refine Below.setCell ?_ (by first | exact Nat.le_refl _ | (simp; done) | omega | (simp; omega) | (have z0 := Below.size hb; omega) | (have z0 := Below.size hb; simp at *; omega)) _)), .inr ⟨HO.out, rfl⟩⟩

theorem HeapIs.uniq {xs : List Int} {t : Nat} {l l' : List Nat} (h : HeapIs xs t l) (h' : HeapIs xs t l') : l = l' := by
  have h1 := h.2.2.2.1
  rw [h'.2.2.2.1] at h1
  exact (Option.some.inj h1).symm

end Go.Proofs.Ytbeilcaadpopmab
