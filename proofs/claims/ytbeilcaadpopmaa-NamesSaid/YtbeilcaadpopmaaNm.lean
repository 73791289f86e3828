/- The law Names. -/
import Derived.Test.YtbeilcaadpopmaaAp
set_option linter.unusedVariables false
set_option linter.unusedSimpArgs false
namespace Go.Proofs.Ytbeilcaadpopmaa
open Go.RowKit

def allA : List Int := [400, 6, 4, 4, 1099511627776, 1073741824, 400, 2, 1, 0, 1]
def allB : List Int := [1, 2, 3, 4, 5, 6, 7, 8, 9, 10, 11, 12]
def wantN (k : Nat) : List Int := allA ++ allB.take k
theorem wantN_succ (k : Nat) (h : k < 12) : wantN (k + 1) = wantN k ++ [(k : Int) + 1] := by
  unfold wantN
  rw [List.append_assoc]
  congr 1
  match k, h with
  | 0, _ | 1, _ | 2, _ | 3, _ | 4, _ | 5, _ | 6, _ | 7, _ | 8, _ | 9, _ | 10, _ | 11, _ => rfl
theorem wantN_all : wantN 12 = allA ++ allB := rfl
theorem allA_I : ∀ x ∈ allA, I64 x := by unfold allA I64; simp
theorem allB_I : ∀ x ∈ allB, I64 x := by unfold allB I64; simp
theorem errs_at (w : World) (t : TypeId) (k : Nat) (h : k < 8) : (w.alloc (.cells #[.int .i64 0, .int .i64 1, .int .i64 2, .int .i64 3, .int .i64 4, .int .i64 5, .int .i64 6, .int .i64 7] t)).cell? ⟨w.heap.size, k, none⟩ = some (.int .i64 k) := by
  match k, h with
  | 0, _ | 1, _ | 2, _ | 3, _ | 4, _ | 5, _ | 6, _ | 7, _ => simp

/-- The facts at the first append. -/
theorem names_start (w : World) (e : Obj) :
    OwnInts ((((w.alloc e).alloc (.cells (allA.map (Value.int .i64)).toArray 3)).alloc (.cells (allA.map (Value.int .i64)).toArray 3)).alloc (.cells (allB.map (Value.int .i64)).toArray 3)) (w.heap.size + 1) (.slice (some ⟨w.heap.size + 1, 0, none⟩) 11 11) allA ∧
    OwnInts ((((w.alloc e).alloc (.cells (allA.map (Value.int .i64)).toArray 3)).alloc (.cells (allA.map (Value.int .i64)).toArray 3)).alloc (.cells (allB.map (Value.int .i64)).toArray 3)) (w.heap.size + 1 + 1) (.slice (some ⟨w.heap.size + 1 + 1, 0, none⟩) 11 11) (wantN 0) ∧
    Ints ((((w.alloc e).alloc (.cells (allA.map (Value.int .i64)).toArray 3)).alloc (.cells (allA.map (Value.int .i64)).toArray 3)).alloc (.cells (allB.map (Value.int .i64)).toArray 3)) (.slice (some ⟨w.heap.size + 1 + 1 + 1, 0, none⟩) 12 12) allB := by
  have h1 := OwnInts.built (w.alloc e) allA allA_I (by decide)
  have h2 := OwnInts.built ((w.alloc e).alloc (.cells (allA.map (Value.int .i64)).toArray 3)) allA allA_I (by decide)
  have h3 := OwnInts.built (((w.alloc e).alloc (.cells (allA.map (Value.int .i64)).toArray 3)).alloc (.cells (allA.map (Value.int .i64)).toArray 3)) allB allB_I (by decide)
  simp only [World.size_alloc] at h1 h2 h3
  have hw : wantN 0 = allA := rfl
  refine ⟨(h1.below (Below.alloc (Below.refl _ _) (Nat.le_refl _) _)).below (Below.alloc (Below.refl _ _) (Nat.le_refl _) _), ?_, h3.ints⟩
  rw [hw]
  exact h2.below (Below.alloc (Below.refl _ _) (Nat.le_refl _) _)

theorem built_one (w : World) (x : Int) (hx : I64 x) : Ints (w.alloc (.cells #[.int .i64 x] 3)) (.slice (some ⟨w.heap.size, 0, none⟩) 1 1) [x] :=
  (OwnInts.built w [x] (by simpa using hx) (by simp)).ints

theorem moved_ne {w w' : World} {v v' : Value} {xs : List Int} {g : Nat} (hm : Moved w w' v v' xs) (hg : g < w.heap.size) (hne : v.ownBlock ≠ some g) : v'.ownBlock ≠ some g := by
  rcases hm with hm | ⟨hm, _⟩
  · rw [hm]; exact hne
  · intro e
    have := (hm.lt e).1
    omega
theorem moved_ne' {w w' : World} {base : Nat} {u v v' : Value} {xs ys : List Int} (hm : Moved w w' v v' xs) (hu : OwnInts w base u ys) (hne : u.ownBlock = none ∨ u.ownBlock ≠ v.ownBlock) : u.ownBlock = none ∨ u.ownBlock ≠ v'.ownBlock := by
  cases hb : u.ownBlock with
  | none => exact .inl rfl
  | some g => exact .inr (fun e => moved_ne hm (hu.lt hb).2 (fun e' => by rcases hne with h | h; (rw [hb] at h; cases h); exact h (by rw [hb, e'])) e.symm)

set_option maxHeartbeats 1000000 in
theorem names_any (w : World) : Calls Try.prog 3 #[] w fun e w' => e = .returned (.bool true) ∧ Below w.heap.size w w' := by
  have hst := names_start w (.cells #[.int .i64 0, .int .i64 1, .int .i64 2, .int .i64 3, .int .i64 4, .int .i64 5, .int .i64 6, .int .i64 7] 22)
  obtain ⟨hs1, hs2, hs3⟩ := hst
  have S1 := Lib.hid hs1; clear hs1
  have S2 := Lib.hid hs2; clear hs2
  have S3 := Lib.hid hs3; clear hs3
  go_enter Try.func3, Try.ntmps3
  go_wp2_with fail
  go_loop [2] (fun i => ∃ k : Nat, k ≤ 8 ∧ i = .int .i64 k) (fun i => 8 - (intOf i).toNat)
  case atStart => exact ⟨0, by omega, rfl⟩
  case round =>
    obtain ⟨k, hk, rfl⟩ := hrel
    by_cases hlt : k < 8
    · have hc := errs_at w 22 k hlt
      go_wp2
      go_round
      case rel => exact ⟨k + 1, by omega, by go_num⟩
      case measure => simp [intOf]; omega
    · obtain rfl : k = 8 := by omega
      go_wp2_with (at_builtin; refine wpl_append_ints rfl _ _ rfl (w.heap.size + 1) (.slice (some ⟨w.heap.size + 1, 0, none⟩) 11 11) allA rfl S1.out _ allB rfl S3.out (by decide) (by first | exact Nat.le_refl _ | (simp; done) | omega | (simp; omega)) ?_; intro v1 w1 hv1 hg1 hm1; have hb1 : Below w.heap.size w w1 := Below.grown (by repeat (first | exact Below.refl _ _ | with_reducible refine below_drewN ?_ _ | with_reducible refine Below.drew ?_ | with_reducible refine Below.alloc ?_ (by first | exact Nat.le_refl _ | (simp; done) | omega | (simp; omega)) _ | with_reducible refine Below.setCell ?_ (by first | exact Nat.le_refl _ | (simp; done) | omega | (simp; omega)) _)) hg1 (by first | exact Nat.le_refl _ | (simp; done) | omega | (simp; omega)) (by simp [Value.ownBlock]); have hz := hg1.size; simp at hz; have hv2 := S2.out.grown hg1 (.inr (by simp [Value.ownBlock])); have hne := moved_ne (g := w.heap.size + 1 + 1) hm1 (by first | exact Nat.le_refl _ | (simp; done) | omega | (simp; omega)) (by simp [Value.ownBlock]); have T1 := Lib.hid hv1; have T2 := Lib.hid hv2; have T3 := Lib.hid hne; have T4 := Lib.hid hb1; clear hv1 hv2 hm1 hb1 hg1 hne)
      clear S1 S2 S3
      obtain ⟨a1, c1, hs⟩ := T1.out.shape
      rw [show (allA ++ allB).length = 23 from rfl] at hs
      subst hs
      go_loopw [4, 5] (fun v i wr => ∃ k : Nat, k ≤ 12 ∧ i = .int .i64 (k + 1) ∧ OwnInts wr (w.heap.size + 1 + 1) v (wantN k) ∧ OwnInts wr (w.heap.size + 1) (.slice a1 23 c1) (allA ++ allB) ∧ ((Value.slice a1 23 c1).ownBlock = none ∨ (Value.slice a1 23 c1).ownBlock ≠ v.ownBlock) ∧ Below w.heap.size w wr ∧ w.heap.size + 1 + 1 ≤ wr.heap.size) (fun _ i _ => 13 - (intOf i).toNat)
      case atStart => exact ⟨0, by omega, rfl, T2.out, T1.out, .inr T3.out, T4.out, by omega⟩
      case round =>
        obtain ⟨k, hk, rfl, hv, hall, hne, hbel, hz⟩ := hrel
        have hlr : (wantN k).length ≤ 1000 := by unfold wantN allA; simp; omega
        have T5 := Lib.hid hv; clear hv
        have T6 := Lib.hid hall; clear hall
        have T7 := Lib.hid hne; clear hne
        have T8 := Lib.hid hbel; clear hbel
        clear T1 T2 T3 T4
        by_cases hk12 : k < 12
        · go_wp2_with (at_builtin; refine wpl_append_ints rfl _ _ rfl (w.heap.size + 1 + 1) _ (wantN k) rfl (T5.out.below (Below.alloc (Below.refl _ _) (Nat.le_refl _) _)) _ [(k : Int) + 1] rfl (built_one _ _ (by unfold I64; omega)) (by simp; omega) (by first | exact Nat.le_refl _ | (simp; done) | omega | (simp; omega)) ?_; intro v2 w2 hv2 hg2 hm2)
          have ha2 : OwnInts (wr.alloc (.cells #[.int .i64 ((k : Int) + 1)] 3)) (w.heap.size + 1) (.slice a1 23 c1) (allA ++ allB) := T6.out.below (Below.alloc (Below.refl _ _) (Nat.le_refl _) _)
          have hz2 := hg2.size
          rw [World.size_alloc] at hz2
          have hlt5 : ∀ j, u4.ownBlock = some j → w.heap.size ≤ j := fun j hj => by
            have := (T5.out.lt hj).1
            omega
          have hne2 := T7.out
          go_roundw
          case rel => exact ⟨k + 1, by omega, by go_num, by rw [wantN_succ k hk12]; exact hv2, ha2.grown hg2 hne2, moved_ne' hm2 ha2 hne2, (T8.out.alloc (by omega) _).grown hg2 (by simp; omega) hlt5, by omega⟩
          case measure => simp [intOf]; omega
        · obtain rfl : k = 12 := by omega
          have hw := T5.out
          rw [wantN_all] at hw
          obtain ⟨a2, c2, hs⟩ := hw.shape
          rw [show (allA ++ allB).length = 23 from rfl] at hs
          subst hs
          have T9 := Lib.hid hw; clear hw T5 T7
          go_wp2_with fail
          go_loopw [6] (fun i wx => ∃ k : Nat, k ≤ 23 ∧ i = .int .i64 k ∧ OwnInts wx (w.heap.size + 1) (.slice a1 23 c1) (allA ++ allB) ∧ OwnInts wx (w.heap.size + 1 + 1) (.slice a2 23 c2) (allA ++ allB) ∧ Below w.heap.size w wx) (fun i _ => 23 - (intOf i).toNat)
          case atStart => exact ⟨0, by omega, rfl, T6.out, T9.out, T8.out⟩
          case round =>
            obtain ⟨k, hk, rfl, hall, hw, hbel⟩ := hrel
            by_cases hlt : k < 23
            · obtain ⟨b1, o1, rfl, _, hc1⟩ := Ints.at hall.ints (by decide)
              obtain ⟨b2, o2, rfl, _, hc2⟩ := Ints.at hw.ints (by decide)
              replace hc1 := hc1 k hlt
              replace hc2 := hc2 k hlt
              generalize (allA ++ allB).getD k 0 = x at hc1 hc2
              have T5 := Lib.hid hall; clear hall
              have T7 := Lib.hid hw; clear hw
              have T10 := Lib.hid hbel; clear hbel
              clear T6 T8 T9
              go_wp2
              go_quiet (fail)
              go_wp2
              go_roundw
              case rel => exact ⟨k + 1, by omega, by go_num, T5.out.below (below_drewN (Below.refl _ _) _), T7.out.below (below_drewN (Below.refl _ _) _), below_drewN T10.out _⟩
              case measure => simp [intOf]; omega
            · go_wp2
              go_ret
              exact ⟨rfl, hbel⟩
end Go.Proofs.Ytbeilcaadpopmaa
