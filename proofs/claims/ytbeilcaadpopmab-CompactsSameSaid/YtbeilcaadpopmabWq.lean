/- The walk of the reference's placesOf. -/
import Derived.Test.YtbeilcaadpopmabWp
import Derived.Test.YtbeilcaadpopmabWr
set_option linter.unusedVariables false
set_option linter.unusedSimpArgs false
namespace Go.Proofs.Ytbeilcaadpopmab
open Go.RowKit

theorem in_same (n lo hi : Int) (w : World) : Calls Try.prog 56 #[.int .i64 n, .int .i64 lo, .int .i64 hi] w fun e w' => e = .returned (.bool (inB n lo hi)) ∧ w' = w :=
  (in_any n lo hi w).mono fun _ _ ⟨h1, h2⟩ => ⟨h1, h2.symm⟩

set_option maxHeartbeats 1000000 in
theorem refPlaces_any (v : Value) (xs : List Int) (top : Nat) (w : World) (h : Ints w v xs) (h1 : 1 ≤ top) (h2 : top ≤ xs.length) (h3 : xs.length ≤ 400) :
    Calls Try.prog 55 #[.agg #[v, .int .i64 top]] w (RetPlaces w (places xs top)) := by
  obtain ⟨a, c, rfl, hc, hcm, _⟩ := h.len
  obtain ⟨b, o, rfl, hbs, hcell⟩ := h.at (by omega)
  have HC := Lib.hid hcell; clear hcell
  have HH := Lib.hid h; clear h
  have hb0 : Below (w.heap.size + 1) (w.alloc (.cells #[.slice (some ⟨b, o, none⟩) xs.length c, .int .i64 top] 25)) (w.alloc (.cells #[.slice (some ⟨b, o, none⟩) xs.length c, .int .i64 top] 25)) := Below.refl _ _
  have HB0 := Lib.hid hb0; clear hb0
  go_enter Try.func55, Try.ntmps55
  go_wp2_with fail
  go_loopw [4, 5] (fun l i wr => ∃ (p : Nat) (acc : List Nat), i = .int .i64 p ∧ PlInv xs top p acc ∧ OwnInts wr (w.heap.size + 1) l (intsOf acc) ∧ Below (w.heap.size + 1) (w.alloc (.cells #[.slice (some ⟨b, o, none⟩) xs.length c, .int .i64 top] 25)) wr) (fun _ i _ => top - (intOf i).toNat)
  case atStart => exact ⟨1, [], rfl, PlInv.start h1 (by omega), ⟨⟨by simp [intsOf], by simp [intsOf]⟩, World.ownsRow_nil _ _ _ _⟩, HB0.out⟩
  case round =>
    obtain ⟨p, acc, rfl, hinv, hown, hbel⟩ := hrel
    have hsz := hbel.size
    rw [World.size_alloc] at hsz
    have hp400 : p ≤ top := by obtain ⟨f, _, _, h, _⟩ := hinv; exact h
    have hacc : acc.length * 2 + 1 ≤ p := by obtain ⟨f, _, _, _, _, h, _⟩ := hinv; exact h
    have f0 := hbel.cell (p := ⟨w.heap.size, 0, none⟩) (by first | exact Nat.le_refl _ | (simp; done) | omega | (simp; omega))
    have f1 := hbel.cell (p := ⟨w.heap.size, 1, none⟩) (by first | exact Nat.le_refl _ | (simp; done) | omega | (simp; omega))
    simp at f0 f1
    have HBEL : Below w.heap.size w wr := ((Below.refl _ w).alloc (Nat.le_refl _) _).trans (hbel.mono (by omega))
    have HO := Lib.hid hown; clear hown
    have HI := Lib.hid hinv; clear hinv
    have HB := Lib.hid hbel; clear hbel
    have HW := Lib.hid HBEL; clear HBEL HB0
    by_cases hp : p < top
    · by_cases hs : top < p + 2
      · have hd : decide ((top : Int) < (p : Int) + 2) = true := decide_eq_true (by omega)
        go_wp2
        go_quiet ((go_at_call 56; exact Calls.quiet_of_same (in_same _ _ _ _)))
        go_wp2
        go_ret2
        exact RetPlaces.bad (HI.out.short hp hs) (below_drewN HW.out _)
      · have hcl := HC.out (p + 1) (by omega)
        have hcl2 := (HW.out.cell (p := ⟨b, o + (p + 1), none⟩) hbs).trans hcl
        clear hcl
        have hrg := HH.out.range (p + 1)
        obtain ⟨n, hn⟩ : ∃ n, n = xs.getD (p + 1) 0 := ⟨_, rfl⟩
        rw [← hn] at hcl2 hrg
        obtain ⟨hr1, hr2⟩ := hrg
        have HN := Lib.hid hn; clear hn
        have hd : decide ((top : Int) < (p : Int) + 2) = false := decide_eq_false (by omega)
        by_cases hn6 : 0 ≤ n ∧ n ≤ 6
        · obtain ⟨hn0, hn6⟩ := hn6
          obtain ⟨m, rfl⟩ := Int.eq_ofNat_of_zero_le hn0
          have hin := inB_true hn0 hn6
          by_cases ht : p + 2 + m ≤ top
          · have HX := Lib.hid (HI.out.step hp hs HN.out.symm (by omega) ht)
            have hd2 : decide ((top : Int) < (p : Int) + 2 + (m : Int)) = false := decide_eq_false (by omega)
            go_wp2
            go_quiet ((go_at_call 56; exact Calls.quiet_of_same (in_same _ _ _ _)))
            go_wp2_with (at_builtin; refine wpl_append_ints rfl _ _ rfl (w.heap.size + 1) _ (intsOf acc) rfl ((HO.out.below (below_drewN (Below.refl _ _) _)).below (Below.alloc (Below.refl _ _) (Nat.le_refl _) _)) _ [(p : Int)] rfl (built_one _ _ (by unfold I64; omega)) (by simp [intsOf]; omega) (by first | exact Nat.le_refl _ | (simp; done) | omega | (simp; omega)) ?_; intro v2 w2 hv2 hg2 hm2; have hB2 := ((below_drewN HB.out _).alloc hsz _).grown hg2 (by first | exact Nat.le_refl _ | (simp; done) | omega | (simp; omega)) (fun j hj => (HO.out.lt hj).1); have f2 := hB2.cell (p := ⟨w.heap.size, 0, none⟩) (by first | exact Nat.le_refl _ | (simp; done) | omega | (simp; omega)); have f3 := hB2.cell (p := ⟨w.heap.size, 1, none⟩) (by first | exact Nat.le_refl _ | (simp; done) | omega | (simp; omega)); simp at f2 f3; have hW2 : Below w.heap.size w w2 := ((Below.refl _ w).alloc (Nat.le_refl _) _).trans (hB2.mono (by omega)); have hcl3 := (hW2.cell (p := ⟨b, o + (p + 1), none⟩) hbs).trans ((HW.out.cell (p := ⟨b, o + (p + 1), none⟩) hbs).symm.trans hcl2); have HB2 := Lib.hid hB2; have HV2 := Lib.hid hv2; clear hB2 hW2 hg2 hm2 hv2)
            go_roundw
            case rel => exact ⟨p + 2 + m, acc ++ [p], int_eq (by omega), HX.out, by rw [intsOf_snoc]; exact HV2.out, HB2.out⟩
            case measure => simp [intOf]; omega
          · have HX := Lib.hid (HI.out.bad hp (by rw [← HN.out]; omega))
            have hd2 : decide ((top : Int) < (p : Int) + 2 + (m : Int)) = true := decide_eq_true (by omega)
            go_wp2
            go_quiet ((go_at_call 56; exact Calls.quiet_of_same (in_same _ _ _ _)))
            go_wp2
            go_ret2
            exact RetPlaces.bad HX.out (below_drewN HW.out _)
        · have hin : inB n 0 6 = false := by
            by_cases h0 : 0 ≤ n
            · exact inB_hi (by omega)
            · exact inB_lo h0
          have HX := Lib.hid (HI.out.bad hp (by rw [← HN.out]; omega))
          go_wp2
          go_quiet ((go_at_call 56; exact Calls.quiet_of_same (in_same _ _ _ _)))
          go_wp2
          go_ret2
          exact RetPlaces.bad HX.out (below_drewN HW.out _)
    · go_wp2
      go_ret2
      exact RetPlaces.good (HI.out.done hp) HW.out HO.out (by omega)
end Go.Proofs.Ytbeilcaadpopmab
