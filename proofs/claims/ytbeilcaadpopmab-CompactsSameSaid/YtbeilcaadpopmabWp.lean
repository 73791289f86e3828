/- The walk of heap.places. -/
import Derived.Test.YtbeilcaadpopmabAp
import Derived.Test.YtbeilcaadpopmabPl
set_option linter.unusedVariables false
set_option linter.unusedSimpArgs false
namespace Go.Proofs.Ytbeilcaadpopmab
open Go.RowKit

def intsOf (l : List Nat) : List Int := l.map (fun n : Nat => (n : Int))
theorem intsOf_snoc (l : List Nat) (n : Nat) : intsOf (l ++ [n]) = intsOf l ++ [(n : Int)] := by simp [intsOf]
theorem intsOf_length (l : List Nat) : (intsOf l).length = l.length := by simp [intsOf]

/-- It returned these places, or none. -/
def RetPlaces (w : World) (r : Option (List Nat)) (e : Ending) (w' : World) : Prop :=
  Below w.heap.size w w' ∧ ((∃ (l : List Nat) (a : Option Addr) (c : Nat), r = some l ∧ e = .returned (.tuple #[.slice a l.length c, .bool true]) ∧ OwnInts w' w.heap.size (.slice a l.length c) (intsOf l)) ∨
    (r = none ∧ e = .returned (.tuple #[.slice none 0 0, .bool false])))

theorem RetPlaces.bad {w w' : World} {r : Option (List Nat)} (h : r = none) (hb : Below w.heap.size w w') : RetPlaces w r (.returned (.tuple #[.slice none 0 0, .bool false])) w' := ⟨hb, .inr ⟨h, rfl⟩⟩
theorem RetPlaces.good {w w' : World} {r : Option (List Nat)} {l : List Nat} {v : Value} {B : Nat} (h : r = some l) (hb : Below w.heap.size w w') (hv : OwnInts w' B v (intsOf l)) (hB : w.heap.size ≤ B) :
    RetPlaces w r (.returned (.tuple #[v, .bool true])) w' := by
  obtain ⟨a, c, rfl⟩ := hv.shape
  rw [intsOf_length] at hv ⊢
  exact ⟨hb, .inl ⟨l, a, c, h, rfl, hv.mono hB⟩⟩

set_option maxHeartbeats 1000000 in
theorem places_any (v : Value) (xs : List Int) (top : Nat) (w : World) (h : Ints w v xs) (h1 : 1 ≤ top) (h2 : top ≤ xs.length) (h3 : xs.length ≤ 400) :
    Calls Try.prog 49 #[.agg #[v, .int .i64 top]] w (RetPlaces w (places xs top)) := by
  obtain ⟨a, c, rfl, hc, hcm, _⟩ := h.len
  obtain ⟨b, o, rfl, hbs, hcell⟩ := h.at (by omega)
  have HC := Lib.hid hcell; clear hcell
  have HH := Lib.hid h; clear h
  have hb0 : Below (w.heap.size + 1) (w.alloc (.cells #[.slice (some ⟨b, o, none⟩) xs.length c, .int .i64 top] 25)) (w.alloc (.cells #[.slice (some ⟨b, o, none⟩) xs.length c, .int .i64 top] 25)) := Below.refl _ _
  have HB0 := Lib.hid hb0; clear hb0
  go_enter Try.func49, Try.ntmps49
  go_wp2_with fail
  go_loopw [4, 5] (fun l i wr => ∃ (p : Nat) (acc : List Nat), i = .int .i64 p ∧ PlInv xs top p acc ∧ OwnInts wr (w.heap.size + 1) l (intsOf acc) ∧ Below (w.heap.size + 1) (w.alloc (.cells #[.slice (some ⟨b, o, none⟩) xs.length c, .int .i64 top] 25)) wr) (fun _ i _ => top - (intOf i).toNat)
  case atStart => exact ⟨1, [], rfl, PlInv.start h1 (by omega), ⟨⟨by simp [intsOf], by simp [intsOf]⟩, World.ownsRow_nil _ _ _ _⟩, HB0.out⟩
  case round =>
    obtain ⟨p, acc, rfl, hinv, hown, hbel⟩ := hrel
    have hsz := hbel.size
    rw [World.size_alloc] at hsz
    have hp400 : p ≤ top := by obtain ⟨f, _, _, h, _⟩ := hinv; exact h
    have hacc : acc.length * 2 + 1 ≤ p := by obtain ⟨f, _, _, _, _, h, _⟩ := hinv; exact h
    have f0 := hbel.cell (p := ⟨w.heap.size, 0, none⟩) (by first | exact Nat.le_refl _ | (simp; done) | omega | (simp; omega))
    have f1 := hbel.cell (p := ⟨w.heap.size, 1, none⟩) (by first | exact Nat.le_refl _ | (simp; done) | omega | (simp; omega))
    simp at f0 f1
    have HBEL : Below w.heap.size w wr := ((Below.refl _ w).alloc (Nat.le_refl _) _).trans (hbel.mono (by omega))
    have HO := Lib.hid hown; clear hown
    have HI := Lib.hid hinv; clear hinv
    have HB := Lib.hid hbel; clear hbel
    have HW := Lib.hid HBEL; clear HBEL HB0
    by_cases hp : p < top
    · by_cases hs : top < p + 2
      · go_wp2
        go_ret2
        exact RetPlaces.bad (HI.out.short hp hs) HW.out
      · have hcl := HC.out (p + 1) (by omega)
        have hcl2 := (HW.out.cell (p := ⟨b, o + (p + 1), none⟩) hbs).trans hcl
        clear hcl
        have hrg := HH.out.range (p + 1)
        obtain ⟨n, hn⟩ : ∃ n, n = xs.getD (p + 1) 0 := ⟨_, rfl⟩
        rw [← hn] at hcl2 hrg
        obtain ⟨hr1, hr2⟩ := hrg
        have HN := Lib.hid hn; clear hn
        by_cases hn0 : n < 0
        · have HX := Lib.hid (HI.out.bad hp (by rw [← HN.out]; omega))
          go_wp2
          go_ret2
          exact RetPlaces.bad HX.out HW.out
        · by_cases hn6 : 6 < n
          · have HX := Lib.hid (HI.out.bad hp (by rw [← HN.out]; omega))
            go_wp2
            go_ret2
            exact RetPlaces.bad HX.out HW.out
          · obtain ⟨m, rfl⟩ := Int.eq_ofNat_of_zero_le (show 0 ≤ n by omega)
            by_cases ht : p + 2 + m ≤ top
            · have HX := Lib.hid (HI.out.step hp hs HN.out.symm (by omega) ht)
              go_wp2_with (at_builtin; refine wpl_append_ints rfl _ _ rfl (w.heap.size + 1) _ (intsOf acc) rfl (HO.out.below (Below.alloc (Below.refl _ _) (Nat.le_refl _) _)) _ [(p : Int)] rfl (built_one _ _ (by unfold I64; omega)) (by simp [intsOf]; omega) (by first | exact Nat.le_refl _ | (simp; done) | omega | (simp; omega)) ?_; intro v2 w2 hv2 hg2 hm2)
              have hlt5 : ∀ j, u4.ownBlock = some j → w.heap.size + 1 ≤ j := fun j hj => (HO.out.lt hj).1
              go_roundw
              case rel => exact ⟨p + 2 + m, acc ++ [p], int_eq (by omega), HX.out, by rw [intsOf_snoc]; exact hv2, (HB.out.alloc hsz _).grown hg2 (by first | exact Nat.le_refl _ | (simp; done) | omega | (simp; omega)) hlt5⟩
              case measure => simp [intOf]; omega
            · have HX := Lib.hid (HI.out.bad hp (by rw [← HN.out]; omega))
              go_wp2
              go_ret2
              exact RetPlaces.bad HX.out HW.out
    · go_wp2
      go_ret2
      exact RetPlaces.good (HI.out.done hp) HW.out HO.out (by omega)
end Go.Proofs.Ytbeilcaadpopmab
