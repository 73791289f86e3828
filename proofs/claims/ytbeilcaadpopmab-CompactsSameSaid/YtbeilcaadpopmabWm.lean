/- Walk: heap.Load. -/
import Derived.Test.YtbeilcaadpopmabWl
import Derived.Test.YtbeilcaadpopmabWa
set_option linter.unusedVariables false
set_option linter.unusedSimpArgs false
namespace Go.Proofs.Ytbeilcaadpopmab
open Go.RowKit

def valE (k n e : Int) : Ending := .returned (.tuple #[.agg #[.int .i64 k, .int .i64 n], .int .i64 e])

/-- It returned the field, or an error. -/
def RetLoad (w : World) (xs : List Int) (top p n : Int) (e : Ending) (w' : World) : Prop :=
  Below w.heap.size w w' ∧ ((¬ HeapOk xs top ∧ e = valE 0 0 5) ∨
    ∃ (t : Nat) (l : List Nat), top = (t : Int) ∧ HeapIs xs t l ∧ ((∃ q k, FieldAt xs l p n q k ∧ e = valE (ofK (xs.getD (q + 2 + k) 0)) (ofN (xs.getD (q + 2 + k) 0)) 0) ∨
      ((¬ ∃ q k, FieldAt xs l p n q k) ∧ e = valE 0 0 4)))

theorem FieldAt.uniq {xs : List Int} {l : List Nat} {p n : Int} {q k q' k' : Nat} (h : FieldAt xs l p n q k) (h' : FieldAt xs l p n q' k') : q = q' ∧ k = k' := by
  obtain ⟨_, h1, h2, _⟩ := h
  obtain ⟨_, h3, h4, _⟩ := h'
  omega

theorem fieldAt_bound {xs : List Int} {t : Nat} {l : List Nat} (his : HeapIs xs t l) {p n : Int} {q k : Nat} (h : FieldAt xs l p n q k) : q + 2 + k < t ∧ 1 ≤ q := by
  have ho := places_obj his.2.2.2.1 q h.1
  have := h.2.2.2
  obtain ⟨h1, h2, h3, h4⟩ := ho
  omega

set_option maxHeartbeats 1000000 in
theorem load_any (v : Value) (xs : List Int) (top p n : Int) (w : World) (h : Ints w v xs) :
    Calls Try.prog 34 #[.agg #[v, .int .i64 top], .int .i64 p, .int .i64 n] w (RetLoad w xs top p n) := by
  obtain ⟨a, c, rfl, hc, hcm, _⟩ := h.len
  have HF : Hid (∀ w2, Below w.heap.size w w2 → Ints w2 (.slice a xs.length c) xs) := fun w2 hb2 => h.below (Nat.le_refl _) hb2
  have HH := Lib.hid h; clear h
  by_cases hok : HeapOk xs top
  · obtain ⟨t, l, rfl, his⟩ := hok
    have HI := Lib.hid his; clear his
    by_cases hf : ∃ q k, FieldAt xs l p n q k
    · obtain ⟨q, k, hf⟩ := hf
      obtain ⟨b1, b2⟩ := fieldAt_bound HI.out hf
      have b3 := HI.out.1
      have b4 := HI.out.2.2.1
      obtain ⟨b, o, rfl, hbs, hcell⟩ := HH.out.at (by omega)
      have hcl := hcell (q + 2 + k) (by omega)
      obtain ⟨x, hx⟩ : ∃ x, x = xs.getD (q + 2 + k) 0 := ⟨_, rfl⟩
      have hxr := HH.out.range (q + 2 + k)
      rw [← hx] at hcl hxr
      obtain ⟨hxr1, hxr2⟩ := hxr
      have HX := Lib.hid hx; clear hx hcell
      have HCN : Hid (∀ w2, Below w.heap.size w w2 → w2.cell? ⟨b, o + (q + 2 + k), none⟩ = some (.int .i64 x)) := fun w2 hb2 => (hb2.cell (p := ⟨b, o + (q + 2 + k), none⟩) hbs).trans hcl
      clear hcl
      have HFA := Lib.hid hf; clear hf
      go_enter Try.func34, Try.ntmps34
      go_wp2_with (first | (go_at_call 51; refine (field_any _ _ _ _ _ _ (HF.out _ (by repeat (first | exact Below.refl _ _ | with_reducible refine below_drewN ?_ _ | with_reducible refine Below.drew ?_ | with_reducible refine Below.alloc ?_ (by first | exact Nat.le_refl _ | (simp; done) | omega | (simp; omega)) _ | with_reducible refine Below.setCell ?_ (by first | exact Nat.le_refl _ | (simp; done) | omega | (simp; omega)) _)))).mono ?_; rintro e w1 ⟨hb, ⟨hno, rfl⟩ | ⟨t1, l1, ht, hi, ⟨q1, k1, hf1, rfl⟩ | ⟨hno, rfl⟩⟩⟩; exact absurd ⟨t, l, rfl, HI.out⟩ hno; rotate_left; (exfalso; obtain rfl := Int.ofNat_inj.1 ht; obtain rfl := HI.out.uniq hi; exact hno ⟨q, k, HFA.out⟩); obtain rfl := Int.ofNat_inj.1 ht; clear ht; obtain rfl := HI.out.uniq hi; clear hi; obtain ⟨rfl, rfl⟩ := HFA.out.uniq hf1; clear hf1; have zc1 := Nat.lt_of_lt_of_le (show w.heap.size < _ from (by first | (simp; done) | omega | (simp; omega))) (Below.size hb); have fc1_0 := Below.cell hb (p := ⟨w.heap.size, 0, none⟩) (by first | (simp; done) | omega | (simp; omega)); have gc1_0 := Below.frozen hb (p := ⟨w.heap.size, 0, none⟩) (by first | (simp; done) | omega | (simp; omega)); have fc1_1 := Below.cell hb (p := ⟨w.heap.size, 1, none⟩) (by first | (simp; done) | omega | (simp; omega)); have gc1_1 := Below.frozen hb (p := ⟨w.heap.size, 1, none⟩) (by first | (simp; done) | omega | (simp; omega)); (try simp at fc1_0 gc1_0 fc1_1 gc1_1); have zc2 := Nat.lt_of_lt_of_le (show w.heap.size + 1 < _ from (by first | (simp; done) | omega | (simp; omega))) (Below.size hb); have fc2_0 := Below.cell hb (p := ⟨w.heap.size + 1, 0, none⟩) (by first | (simp; done) | omega | (simp; omega)); have gc2_0 := Below.frozen hb (p := ⟨w.heap.size + 1, 0, none⟩) (by first | (simp; done) | omega | (simp; omega)); have fc2_1 := Below.cell hb (p := ⟨w.heap.size + 1, 1, none⟩) (by first | (simp; done) | omega | (simp; omega)); have gc2_1 := Below.frozen hb (p := ⟨w.heap.size + 1, 1, none⟩) (by first | (simp; done) | omega | (simp; omega)); (try simp at fc2_0 gc2_0 fc2_1 gc2_1); have hcn := HCN.out w1 (by repeat (first | exact Below.refl _ _ | with_reducible refine Below.trans ?_ (Below.mono hb (by first | exact Nat.le_refl _ | (simp; done) | omega | (simp; omega) | (have z0 := Below.size hb; omega) | (have z0 := Below.size hb; simp at *; omega))) | with_reducible refine below_drewN ?_ _ | with_reducible refine Below.drew ?_ | with_reducible refine Below.alloc ?_ (by first | exact Nat.le_refl _ | (simp; done) | omega | (simp; omega) | (have z0 := Below.size hb; omega) | (have z0 := Below.size hb; simp at *; omega)) _ | with_reducible refine Below.setCell ?_ (by first | exact Nat.le_refl _ | (simp; done) | omega | (simp; omega) | (have z0 := Below.size hb; omega) | (have z0 := Below.size hb; simp at *; omega)) _))) | (go_at_call 37; refine (of_any _ _ (by omega) (by omega)).mono ?_; rintro e w2 ⟨rfl, hb2⟩; have zc3 := Nat.lt_of_lt_of_le (show w.heap.size + 1 < _ from (by first | (simp; done) | omega | (simp; omega))) (Below.size hb2); have fc3_0 := Below.cell hb2 (p := ⟨w.heap.size + 1, 0, none⟩) (by first | (simp; done) | omega | (simp; omega)); have gc3_0 := Below.frozen hb2 (p := ⟨w.heap.size + 1, 0, none⟩) (by first | (simp; done) | omega | (simp; omega)); have fc3_1 := Below.cell hb2 (p := ⟨w.heap.size + 1, 1, none⟩) (by first | (simp; done) | omega | (simp; omega)); have gc3_1 := Below.frozen hb2 (p := ⟨w.heap.size + 1, 1, none⟩) (by first | (simp; done) | omega | (simp; omega)); (try simp at fc3_0 gc3_0 fc3_1 gc3_1)))
      refine bodyPost_ret (v := .tuple #[.agg #[.int .i64 (ofK x), .int .i64 (ofN x)], .int .i64 0]) (by simp [results, Try.results34, go_sem, *]) rfl ⟨(by repeat (first | exact Below.refl _ _ | with_reducible refine Below.trans ?_ (Below.mono hb2 (by first | exact Nat.le_refl _ | (simp; done) | omega | (simp; omega) | (have z := Below.size hb2; omega) | (have z := Below.size hb; omega) | (have z0 := Below.size hb2; have z1 := Below.size hb; omega) | (have z0 := Below.size hb2; have z1 := Below.size hb; simp at *; omega))) | with_reducible refine Below.trans ?_ (Below.mono hb (by first | exact Nat.le_refl _ | (simp; done) | omega | (simp; omega) | (have z := Below.size hb2; omega) | (have z := Below.size hb; omega) | (have z0 := Below.size hb2; have z1 := Below.size hb; omega) | (have z0 := Below.size hb2; have z1 := Below.size hb; simp at *; omega))) | with_reducible refine below_drewN ?_ _ | with_reducible refine Below.drew ?_ | with_reducible refine Below.alloc ?_ (by first | exact Nat.le_refl _ | (simp; done) | omega | (simp; omega) | (have z := Below.size hb2; omega) | (have z := Below.size hb; omega) | (have z0 := Below.size hb2; have z1 := Below.size hb; omega) | (have z0 := Below.size hb2; have z1 := Below.size hb; simp at *; omega)) _ | with_reducible refine Below.setCell ?_ (by first | exact Nat.le_refl _ | (simp; done) | omega | (simp; omega) | (have z := Below.size hb2; omega) | (have z := Below.size hb; omega) | (have z0 := Below.size hb2; have z1 := Below.size hb; omega) | (have z0 := Below.size hb2; have z1 := Below.size hb; simp at *; omega)) _)), .inr ⟨t, l, rfl, HI.out, .inl ⟨q, k, HFA.out, ?_⟩⟩⟩
      rw [HX.out]; rfl
    · have HFA := Lib.hid hf; clear hf
      go_enter Try.func34, Try.ntmps34
      go_wp2_with (go_at_call 51; refine (field_any _ _ _ _ _ _ (HF.out _ (by repeat (first | exact Below.refl _ _ | with_reducible refine below_drewN ?_ _ | with_reducible refine Below.drew ?_ | with_reducible refine Below.alloc ?_ (by first | exact Nat.le_refl _ | (simp; done) | omega | (simp; omega)) _ | with_reducible refine Below.setCell ?_ (by first | exact Nat.le_refl _ | (simp; done) | omega | (simp; omega)) _)))).mono ?_; rintro e w1 ⟨hb, ⟨hno, rfl⟩ | ⟨t1, l1, ht, hi, ⟨q1, k1, hf1, rfl⟩ | ⟨hno, rfl⟩⟩⟩; exact absurd ⟨t, l, rfl, HI.out⟩ hno; (exfalso; obtain rfl := Int.ofNat_inj.1 ht; obtain rfl := HI.out.uniq hi; exact HFA.out ⟨q1, k1, hf1⟩); clear ht hi hno; have zc4 := Nat.lt_of_lt_of_le (show w.heap.size < _ from (by first | (simp; done) | omega | (simp; omega))) (Below.size hb); have fc4_0 := Below.cell hb (p := ⟨w.heap.size, 0, none⟩) (by first | (simp; done) | omega | (simp; omega)); have gc4_0 := Below.frozen hb (p := ⟨w.heap.size, 0, none⟩) (by first | (simp; done) | omega | (simp; omega)); have fc4_1 := Below.cell hb (p := ⟨w.heap.size, 1, none⟩) (by first | (simp; done) | omega | (simp; omega)); have gc4_1 := Below.frozen hb (p := ⟨w.heap.size, 1, none⟩) (by first | (simp; done) | omega | (simp; omega)); (try simp at fc4_0 gc4_0 fc4_1 gc4_1); have zc5 := Nat.lt_of_lt_of_le (show w.heap.size + 1 < _ from (by first | (simp; done) | omega | (simp; omega))) (Below.size hb); have fc5_0 := Below.cell hb (p := ⟨w.heap.size + 1, 0, none⟩) (by first | (simp; done) | omega | (simp; omega)); have gc5_0 := Below.frozen hb (p := ⟨w.heap.size + 1, 0, none⟩) (by first | (simp; done) | omega | (simp; omega)); have fc5_1 := Below.cell hb (p := ⟨w.heap.size + 1, 1, none⟩) (by first | (simp; done) | omega | (simp; omega)); have gc5_1 := Below.frozen hb (p := ⟨w.heap.size + 1, 1, none⟩) (by first | (simp; done) | omega | (simp; omega)); (try simp at fc5_0 gc5_0 fc5_1 gc5_1))
      refine bodyPost_ret (v := .tuple #[.agg #[.int .i64 0, .int .i64 0], .int .i64 4]) (by simp [results, Try.results34, go_sem, *]) rfl ⟨(by repeat (first | exact Below.refl _ _ | with_reducible refine Below.trans ?_ (Below.mono hb (by first | exact Nat.le_refl _ | (simp; done) | omega | (simp; omega) | (have z0 := Below.size hb; omega) | (have z0 := Below.size hb; simp at *; omega))) | with_reducible refine below_drewN ?_ _ | with_reducible refine Below.drew ?_ | with_reducible refine Below.alloc ?_ (by first | exact Nat.le_refl _ | (simp; done) | omega | (simp; omega) | (have z0 := Below.size hb; omega) | (have z0 := Below.size hb; simp at *; omega)) _ | with_reducible refine Below.setCell ?_ (by first | exact Nat.le_refl _ | (simp; done) | omega | (simp; omega) | (have z0 := Below.size hb; omega) | (have z0 := Below.size hb; simp at *; omega)) _)), .inr ⟨t, l, rfl, HI.out, .inr ⟨HFA.out, rfl⟩⟩⟩
  · have HO := Lib.hid hok; clear hok
    go_enter Try.func34, Try.ntmps34
    go_wp2_with (go_at_call 51; refine (field_any _ _ _ _ _ _ (HF.out _ (by repeat (first | exact Below.refl _ _ | with_reducible refine below_drewN ?_ _ | with_reducible refine Below.drew ?_ | with_reducible refine Below.alloc ?_ (by first | exact Nat.le_refl _ | (simp; done) | omega | (simp; omega)) _ | with_reducible refine Below.setCell ?_ (by first | exact Nat.le_refl _ | (simp; done) | omega | (simp; omega)) _)))).mono ?_; rintro e w1 ⟨hb, ⟨hno, rfl⟩ | ⟨t1, l1, ht, hi, _⟩⟩; rotate_left; exact absurd ⟨t1, l1, ht, hi⟩ HO.out; clear hno; have zc6 := Nat.lt_of_lt_of_le (show w.heap.size < _ from (by first | (simp; done) | omega | (simp; omega))) (Below.size hb); have fc6_0 := Below.cell hb (p := ⟨w.heap.size, 0, none⟩) (by first | (simp; done) | omega | (simp; omega)); have gc6_0 := Below.frozen hb (p := ⟨w.heap.size, 0, none⟩) (by first | (simp; done) | omega | (simp; omega)); have fc6_1 := Below.cell hb (p := ⟨w.heap.size, 1, none⟩) (by first | (simp; done) | omega | (simp; omega)); have gc6_1 := Below.frozen hb (p := ⟨w.heap.size, 1, none⟩) (by first | (simp; done) | omega | (simp; omega)); (try simp at fc6_0 gc6_0 fc6_1 gc6_1); have zc7 := Nat.lt_of_lt_of_le (show w.heap.size + 1 < _ from (by first | (simp; done) | omega | (simp; omega))) (Below.size hb); have fc7_0 := Below.cell hb (p := ⟨w.heap.size + 1, 0, none⟩) (by first | (simp; done) | omega | (simp; omega)); have gc7_0 := Below.frozen hb (p := ⟨w.heap.size + 1, 0, none⟩) (by first | (simp; done) | omega | (simp; omega)); have fc7_1 := Below.cell hb (p := ⟨w.heap.size + 1, 1, none⟩) (by first | (simp; done) | omega | (simp; omega)); have gc7_1 := Below.frozen hb (p := ⟨w.heap.size + 1, 1, none⟩) (by first | (simp; done) | omega | (simp; omega)); (try simp at fc7_0 gc7_0 fc7_1 gc7_1))
    refine bodyPost_ret (v := .tuple #[.agg #[.int .i64 0, .int .i64 0], .int .i64 5]) (by simp [results, Try.results34, go_sem, *]) rfl ⟨(by repeat (first | exact Below.refl _ _ | with_reducible refine Below.trans ?_ (Below.mono hb (by first | exact Nat.le_refl _ | (simp; done) | omega | (simp; omega) | (have z0 := Below.size hb; omega) | (have z0 := Below.size hb; simp at *; omega))) | with_reducible refine below_drewN ?_ _ | with_reducible refine Below.drew ?_ | with_reducible refine Below.alloc ?_ (by first | exact Nat.le_refl _ | (simp; done) | omega | (simp; omega) | (have z0 := Below.size hb; omega) | (have z0 := Below.size hb; simp at *; omega)) _ | with_reducible refine Below.setCell ?_ (by first | exact Nat.le_refl _ | (simp; done) | omega | (simp; omega) | (have z0 := Below.size hb; omega) | (have z0 := Below.size hb; simp at *; omega)) _)), .inl ⟨HO.out, rfl⟩⟩


/-- What a load comes to. -/
def LoadRes (xs : List Int) (top p n k v er : Int) : Prop :=
  (¬ HeapOk xs top ∧ k = 0 ∧ v = 0 ∧ er = 5) ∨ ∃ (t : Nat) (l : List Nat), top = (t : Int) ∧ HeapIs xs t l ∧
    ((∃ q i, FieldAt xs l p n q i ∧ k = ofK (xs.getD (q + 2 + i) 0) ∧ v = ofN (xs.getD (q + 2 + i) 0) ∧ er = 0) ∨ ((¬ ∃ q i, FieldAt xs l p n q i) ∧ k = 0 ∧ v = 0 ∧ er = 4))
theorem LoadRes.uniq {xs : List Int} {top p n k v er k' v' er' : Int} (h : LoadRes xs top p n k v er) (h' : LoadRes xs top p n k' v' er') : k = k' ∧ v = v' ∧ er = er' := by
  rcases h with ⟨h0, rfl, rfl, rfl⟩ | ⟨t, l, rfl, hi, h⟩
  · rcases h' with ⟨_, rfl, rfl, rfl⟩ | ⟨t, l, e, hi, _⟩
    · exact ⟨rfl, rfl, rfl⟩
    · exact absurd ⟨t, l, e, hi⟩ h0
  · rcases h' with ⟨h0, _⟩ | ⟨t', l', e, hi', h'⟩
    · exact absurd ⟨t, l, rfl, hi⟩ h0
    · obtain rfl := Int.ofNat_inj.1 e
      obtain rfl := hi.uniq hi'
      rcases h with ⟨q, i, h1, rfl, rfl, rfl⟩ | ⟨h1, rfl, rfl, rfl⟩
      · rcases h' with ⟨q', i', h2, rfl, rfl, rfl⟩ | ⟨h2, _⟩
        · obtain ⟨rfl, rfl⟩ := h1.uniq h2
          exact ⟨rfl, rfl, rfl⟩
        · exact absurd ⟨q, i, h1⟩ h2
      · rcases h' with ⟨q', i', h2, _⟩ | ⟨_, rfl, rfl, rfl⟩
        · exact absurd ⟨q', i', h2⟩ h1
        · exact ⟨rfl, rfl, rfl⟩
theorem RetLoad.res {w w' : World} {xs : List Int} {top p n : Int} {e : Ending} (h : RetLoad w xs top p n e w') : Below w.heap.size w w' ∧ ∃ k v er, LoadRes xs top p n k v er ∧ e = valE k v er := by
  obtain ⟨hb, h⟩ := h
  refine ⟨hb, ?_⟩
  rcases h with ⟨h0, rfl⟩ | ⟨t, l, rfl, hi, ⟨q, i, h1, rfl⟩ | ⟨h1, rfl⟩⟩
  · exact ⟨0, 0, 5, .inl ⟨h0, rfl, rfl, rfl⟩, rfl⟩
  · exact ⟨_, _, 0, .inr ⟨t, l, rfl, hi, .inl ⟨q, i, h1, rfl, rfl, rfl⟩⟩, rfl⟩
  · exact ⟨0, 0, 4, .inr ⟨t, l, rfl, hi, .inr ⟨h1, rfl, rfl, rfl⟩⟩, rfl⟩

end Go.Proofs.Ytbeilcaadpopmab
