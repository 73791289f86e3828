/- The walk of the reference's HeapMay. -/
import Derived.Test.YtbeilcaadpopmabCk
import Derived.Test.YtbeilcaadpopmabWq
import Derived.Test.YtbeilcaadpopmabWi
set_option linter.unusedVariables false
set_option linter.unusedSimpArgs false
namespace Go.Proofs.Ytbeilcaadpopmab
open Go.RowKit

/-- It returned whether the heap may be. -/
def RetMay (w : World) (xs : List Int) (top : Int) (e : Ending) (w' : World) : Prop :=
  Below w.heap.size w w' ∧ ((HeapOk xs top ∧ e = .returned (.bool true)) ∨ (¬ HeapOk xs top ∧ e = .returned (.bool false)))
theorem RetMay.bad {w w' : World} {xs : List Int} {top : Int} (h : ¬ HeapOk xs top) (hb : Below w.heap.size w w') : RetMay w xs top (.returned (.bool false)) w' := ⟨hb, .inr ⟨h, rfl⟩⟩

theorem inB_not {n lo hi : Int} (h : ¬ (lo ≤ n ∧ n ≤ hi)) : inB n lo hi = false := by
  by_cases h1 : lo ≤ n
  · exact inB_hi (by omega)
  · exact inB_lo h1

set_option maxHeartbeats 1000000 in
set_option maxRecDepth 100000 in
theorem may_limits (v : Value) (xs : List Int) (top : Int) (w : World) (h : Ints w v xs) (hl : ¬ (1 ≤ xs.length ∧ xs.length ≤ 400 ∧ 1 ≤ top ∧ top ≤ xs.length)) :
    Calls Try.prog 45 #[.agg #[v, .int .i64 top]] w (RetMay w xs top) := by
  obtain ⟨a, c, rfl, hc, hcm, _⟩ := h.len
  have hle := h.le
  have HN := Lib.hid (not_ok_len hl)
  clear h
  by_cases h1 : 1 ≤ xs.length ∧ xs.length ≤ 400
  · have e1 : inB (xs.length : Int) 1 400 = true := inB_true (by omega) (by omega)
    have e2 : inB top 1 (xs.length : Int) = false := inB_not (by omega)
    clear hl h1
    go_enter Try.func45, Try.ntmps45
    go_wp2_with (go_at_call 56; refine (in_any _ _ _ _).mono ?_; rintro e w' ⟨rfl, rfl⟩)
    go_ret
    exact RetMay.bad HN.out (by repeat (first | exact Below.refl _ _ | with_reducible refine below_drewN ?_ _ | with_reducible refine Below.drew ?_ | with_reducible refine Below.alloc ?_ (by first | exact Nat.le_refl _ | (simp; done) | omega | (simp; omega)) _ | with_reducible refine Below.setCell ?_ (by first | exact Nat.le_refl _ | (simp; done) | omega | (simp; omega)) _))
  · have e1 : inB (xs.length : Int) 1 400 = false := inB_not (by omega)
    clear hl h1
    go_enter Try.func45, Try.ntmps45
    go_wp2_with (go_at_call 56; refine (in_any _ _ _ _).mono ?_; rintro e w' ⟨rfl, rfl⟩)
    go_ret
    exact RetMay.bad HN.out (by repeat (first | exact Below.refl _ _ | with_reducible refine below_drewN ?_ _ | with_reducible refine Below.drew ?_ | with_reducible refine Below.alloc ?_ (by first | exact Nat.le_refl _ | (simp; done) | omega | (simp; omega)) _ | with_reducible refine Below.setCell ?_ (by first | exact Nat.le_refl _ | (simp; done) | omega | (simp; omega)) _))

set_option maxHeartbeats 4000000 in
set_option maxRecDepth 100000 in
theorem may_main (v : Value) (xs : List Int) (top : Nat) (w : World) (h : Ints w v xs) (h1 : 1 ≤ top) (h2 : top ≤ xs.length) (h3 : xs.length ≤ 400) :
    Calls Try.prog 45 #[.agg #[v, .int .i64 top]] w (RetMay w xs top) := by
  obtain ⟨a, c, rfl, hc, hcm, _⟩ := h.len
  obtain ⟨b, o, rfl, hbs, hcell⟩ := h.at (by omega)
  have HC := Lib.hid hcell; clear hcell
  have HH := Lib.hid h; clear h
  have hx1 : Ints (w.alloc (.cells #[.slice (some ⟨b, o, none⟩) xs.length c, .int .i64 top] 25)) (.slice (some ⟨b, o, none⟩) xs.length c) xs := HH.out.below (Nat.le_refl _) (by repeat (first | exact Below.refl _ _ | with_reducible refine below_drewN ?_ _ | with_reducible refine Below.drew ?_ | with_reducible refine Below.alloc ?_ (by first | exact Nat.le_refl _ | (simp; done) | omega | (simp; omega)) _ | with_reducible refine Below.setCell ?_ (by first | exact Nat.le_refl _ | (simp; done) | omega | (simp; omega)) _))
  have HX1 := Lib.hid hx1; clear hx1
  have e1 : inB (xs.length : Int) 1 400 = true := inB_true (by omega) (by omega)
  have e2 : inB (top : Int) 1 (xs.length : Int) = true := inB_true (by omega) (by omega)
  cases hpl : places xs top with
  | none =>
    have HP := Lib.hid hpl; clear hpl
    have HN : Hid (¬ HeapOk xs (top : Int)) := fun ⟨t, l, e, _, _, _, h, _⟩ => by
      have := Int.ofNat_inj.1 e
      subst this
      rw [HP.out] at h; cases h
    go_enter Try.func45, Try.ntmps45
    go_wp2_with (first | (go_at_call 56; refine (in_any _ _ _ _).mono ?_; rintro e w' ⟨rfl, rfl⟩) | (go_at_call 55; refine (refPlaces_any _ _ _ _ HX1.out h1 h2 h3).mono ?_; rintro e w1 ⟨hb, ⟨l, a1, c1, hl, rfl, hv1⟩ | ⟨hl, rfl⟩⟩; (exfalso; rw [HP.out] at hl; cases hl)))
    go_ret
    exact RetMay.bad HN.out (by repeat (first | exact Below.refl _ _ | with_reducible refine Below.trans ?_ (Below.mono hb (by first | exact Nat.le_refl _ | (simp; done) | omega | (simp; omega) | (have z0 := Below.size hb; omega) | (have z0 := Below.size hb; simp at *; omega))) | with_reducible refine below_drewN ?_ _ | with_reducible refine Below.drew ?_ | with_reducible refine Below.alloc ?_ (by first | exact Nat.le_refl _ | (simp; done) | omega | (simp; omega) | (have z0 := Below.size hb; omega) | (have z0 := Below.size hb; simp at *; omega)) _ | with_reducible refine Below.setCell ?_ (by first | exact Nat.le_refl _ | (simp; done) | omega | (simp; omega) | (have z0 := Below.size hb; omega) | (have z0 := Below.size hb; simp at *; omega)) _))
  | some l =>
    have hll := places_len hpl h1
    have HP := Lib.hid hpl; clear hpl
    go_enter Try.func45, Try.ntmps45
    go_wp2_with (first | (go_at_call 56; refine (in_any _ _ _ _).mono ?_; rintro e w' ⟨rfl, rfl⟩) | (go_at_call 55; refine (refPlaces_any _ _ _ _ HX1.out h1 h2 h3).mono ?_; rintro e w1 ⟨hb, ⟨l', a1, c1, hl, rfl, hv1⟩ | ⟨hl, rfl⟩⟩; rotate_left; (exfalso; rw [HP.out] at hl; cases hl); rw [HP.out] at hl; obtain rfl := Option.some.inj hl; clear hl; have zc1 := Nat.lt_of_lt_of_le (show w.heap.size < _ from (by first | (simp; done) | omega | (simp; omega))) (Below.size hb); have fc1_0 := Below.cell hb (p := ⟨w.heap.size, 0, none⟩) (by first | (simp; done) | omega | (simp; omega)); have gc1_0 := Below.frozen hb (p := ⟨w.heap.size, 0, none⟩) (by first | (simp; done) | omega | (simp; omega)); have fc1_1 := Below.cell hb (p := ⟨w.heap.size, 1, none⟩) (by first | (simp; done) | omega | (simp; omega)); have gc1_1 := Below.frozen hb (p := ⟨w.heap.size, 1, none⟩) (by first | (simp; done) | omega | (simp; omega)); (try simp at fc1_0 gc1_0 fc1_1 gc1_1); have HV := Lib.hid hv1; have HB := Lib.hid hb; clear hv1 hb))
    have HW0 : Below w.heap.size w w1 := ((Below.refl _ w).alloc (Nat.le_refl _) _).trans (HB.out.mono (by first | exact Nat.le_refl _ | (simp; done) | omega | (simp; omega)))
    have HW := Lib.hid HW0; clear HW0 e1 e2 gc1_0 gc1_1 HX1
    have HV2 : Hid (Ints w1 (.slice a1 l.length c1) (intsOf l)) := HV.out.ints
    go_loop [5] (fun u => ∃ k : Nat, k ≤ l.length ∧ u = .int .i64 k ∧ (∀ j, j < k → ObjOk xs l (l.getD j 0))) (fun u => l.length - (intOf u).toNat)
    case atStart => exact ⟨0, Nat.zero_le _, rfl, by omega⟩
    case round =>
      obtain ⟨k, hk, rfl, hok⟩ := hrel
      have HK := Lib.hid hok; clear hok
      by_cases hlt : k < l.length
      · obtain ⟨lb, lo, rfl, hlb, hlc⟩ := Ints.at HV.out.ints (by rw [intsOf_length]; omega)
        replace hlc := hlc k (by rw [intsOf_length]; omega)
        obtain ⟨p, hp⟩ : ∃ p, p = l.getD k 0 := ⟨_, rfl⟩
        rw [show (intsOf l).getD k 0 = (p : Int) by rw [hp]; simp [intsOf, List.getD, hlt]] at hlc
        have hmem : p ∈ l := by rw [hp]; simp [List.getD, hlt]
        obtain ⟨hp1, hpn, hp6, hpt⟩ := places_obj HP.out p hmem
        obtain ⟨m, hm⟩ : ∃ m, m = nf xs p := ⟨_, rfl⟩
        rw [← hm] at hpn hp6 hpt
        have HM := Lib.hid hm; clear hm
        have HPP := Lib.hid hp; clear hp
        have HMEM := Lib.hid hmem; clear hmem
        have cst := (HW.out.cell (p := ⟨b, o + p, none⟩) hbs).trans (HC.out p (by omega))
        have cnf := (HW.out.cell (p := ⟨b, o + (p + 1), none⟩) hbs).trans (HC.out (p + 1) (by omega))
        rw [hpn] at cnf
        clear hpn
        have hsr := HH.out.range p
        obtain ⟨s, hs⟩ : ∃ s, s = xs.getD p 0 := ⟨_, rfl⟩
        rw [← hs] at cst hsr
        obtain ⟨hsr1, hsr2⟩ := hsr
        have HS := Lib.hid hs; clear hs
        have HNB : Hid (¬ ObjOk xs l p → ¬ HeapOk xs (top : Int)) := fun hno ⟨t, l', e, _, _, _, hpl, hall, _⟩ => by
          obtain rfl := Int.ofNat_inj.1 e
          rw [HP.out] at hpl
          obtain rfl := Option.some.inj hpl
          exact hno (hall p HMEM.out)
        by_cases hs0 : 0 ≤ s ∧ s ≤ 2147483648
        · have e3 := inB_true hs0.1 hs0.2
          have HS2 : Hid (0 ≤ xs.getD p 0 ∧ xs.getD p 0 ≤ 2147483648) := by rw [Hid, ← HS.out]; omega
          have HOK : Hid ((∀ j, j < m → WordOk l (xs.getD (p + 2 + j) 0)) → ∀ j, j < k + 1 → ObjOk xs l (l.getD j 0)) := fun hw j hj => by
            by_cases e : j = k
            · rw [e, ← HPP.out]
              exact ⟨HS2.out.1, HS2.out.2, fun i hi => hw i (by rw [HM.out]; exact hi)⟩
            · exact HK.out j (by omega)
          have HNW : Hid (∀ j, j < m → ¬ WordOk l (xs.getD (p + 2 + j) 0) → ¬ HeapOk xs (top : Int)) := fun j hj hw => HNB.out (fun h => hw (h.2.2 j (by rw [← HM.out]; exact hj)))
          clear HS HNB HPP HMEM HM hs0
          go_wp2_with (go_at_call 56; refine (in_any _ _ _ _).mono ?_; rintro e w' ⟨rfl, rfl⟩)
          go_loop [7] (fun u => ∃ j : Nat, u = .int .i64 ((p : Int) + 2 + j) ∧ j ≤ m ∧ ∀ i, i < j → WordOk l (xs.getD (p + 2 + i) 0)) (fun u => m + p + 2 - (intOf u).toNat)
          case atStart => exact ⟨0, int_eq (by omega), Nat.zero_le _, by omega⟩
          case round =>
            obtain ⟨j, rfl, hj, hw⟩ := hrel
            have HWK := Lib.hid hw; clear hw
            by_cases hjm : j < m
            · have hc1 := (HW.out.cell (p := ⟨b, o + (p + 2 + j), none⟩) hbs).trans (HC.out (p + 2 + j) (by omega))
              have hxr := HH.out.range (p + 2 + j)
              obtain ⟨x, hx⟩ : ∃ x, x = xs.getD (p + 2 + j) 0 := ⟨_, rfl⟩
              rw [← hx] at hc1 hxr
              obtain ⟨hxr1, hxr2⟩ := hxr
              have HX := Lib.hid hx; clear hx
              have hst : Hid (WordOk l x → ∀ i, i < j + 1 → WordOk l (xs.getD (p + 2 + i) 0)) := fun h i hi => by
                by_cases e : i = j
                · rw [e, ← HX.out]; exact h
                · exact HWK.out i (by omega)
              have htn : ((p : Int) + 2 + (j : Int)).toNat = p + 2 + j := by omega
              by_cases hx2 : x % 2 = 0
              · have e4 : oddB x = false := by simp [oddB, hx2]
                have HX2 := Lib.hid hx2; clear hx2
                by_cases hxr : -2199023255552 ≤ x ∧ x ≤ 2199023255552
                · have e5 := inB_true hxr.1 hxr.2
                  have HY := Lib.hid (hst.out ⟨fun _ => hxr, fun h => by have := HX2.out; omega⟩)
                  clear hxr
                  go_wp2_with (first | (go_at_call 68; refine (odd_any _ _ (by omega) (by omega)).mono ?_; rintro e w' ⟨rfl, rfl⟩) | (go_at_call 56; refine (in_any _ _ _ _).mono ?_; rintro e w' ⟨rfl, rfl⟩))
                  go_round
                  case rel => exact ⟨j + 1, int_eq (by omega), by omega, HY.out⟩
                  case measure => simp [intOf]; omega
                · have e5 : inB x (-2199023255552) 2199023255552 = false := inB_not hxr
                  have HN := Lib.hid (HNW.out j hjm (fun h => by have := h.1; rw [← HX.out] at this; have := this HX2.out; omega))
                  clear hxr
                  go_wp2_with (first | (go_at_call 68; refine (odd_any _ _ (by omega) (by omega)).mono ?_; rintro e w' ⟨rfl, rfl⟩) | (go_at_call 56; refine (in_any _ _ _ _).mono ?_; rintro e w' ⟨rfl, rfl⟩))
                  go_ret
                  exact RetMay.bad HN.out HW.out
              · have e4 : oddB x = true := by simp [oddB]; omega
                have HX2 := Lib.hid hx2; clear hx2
                by_cases hx1 : x = 1
                · subst hx1
                  have HY := Lib.hid (hst.out ⟨fun h => by omega, fun _ h => absurd rfl h⟩)
                  have e5 : ((1 : Int) != 1) = false := rfl
                  go_wp2_with (go_at_call 68; refine (odd_any _ _ (by omega) (by omega)).mono ?_; rintro e w' ⟨rfl, rfl⟩)
                  go_round
                  case rel => exact ⟨j + 1, int_eq (by omega), by omega, HY.out⟩
                  case measure => simp [intOf]; omega
                · have e5 : (x != 1) = true := by simpa using hx1
                  by_cases hh : hasB (intsOf l) (ofN x) = true
                  · have HY := Lib.hid (hst.out ⟨fun h => absurd h HX2.out, fun _ _ => hasB_places.1 hh⟩)
                    go_wp2_with (first | (go_at_call 68; refine (odd_any _ _ (by omega) (by omega)).mono ?_; rintro e w' ⟨rfl, rfl⟩) | (go_at_call 69; refine (half_any _ _ (by omega) (by omega)).mono ?_; rintro e w' ⟨rfl, rfl⟩) | (go_at_call 57; refine (has_any _ (intsOf l) _ _ HV2.out).mono ?_; rintro e w' ⟨rfl, rfl⟩))
                    go_round
                    case rel => exact ⟨j + 1, int_eq (by omega), by omega, HY.out⟩
                    case measure => simp [intOf]; omega
                  · have hh : hasB (intsOf l) (ofN x) = false := by simpa using hh
                    have HN := Lib.hid (HNW.out j hjm (fun h => by
                      have := h.2
                      rw [← HX.out] at this
                      have := hasB_places.2 (this (by have := HX2.out; omega) hx1)
                      rw [ofN, this] at hh; cases hh))
                    go_wp2_with (first | (go_at_call 68; refine (odd_any _ _ (by omega) (by omega)).mono ?_; rintro e w' ⟨rfl, rfl⟩) | (go_at_call 69; refine (half_any _ _ (by omega) (by omega)).mono ?_; rintro e w' ⟨rfl, rfl⟩) | (go_at_call 57; refine (has_any _ (intsOf l) _ _ HV2.out).mono ?_; rintro e w' ⟨rfl, rfl⟩))
                    go_ret
                    exact RetMay.bad HN.out HW.out
            · obtain rfl : j = m := by omega
              have HY := Lib.hid (HOK.out HWK.out)
              go_wp2_with fail
              go_round
              case rel => exact ⟨k + 1, by omega, by go_num, HY.out⟩
              case measure => simp [intOf]; omega
        · have e3 : inB s 0 2147483648 = false := inB_not hs0
          have HN := Lib.hid (HNB.out (fun h => hs0 (by have h1 := h.1; have h2 := h.2.1; rw [← HS.out] at h1 h2; exact ⟨h1, h2⟩)))
          clear hs0
          go_wp2_with (go_at_call 56; refine (in_any _ _ _ _).mono ?_; rintro e w' ⟨rfl, rfl⟩)
          go_ret
          exact RetMay.bad HN.out HW.out
      · have HALL : Hid (∀ p ∈ l, ObjOk xs l p) := fun p hp => by
          obtain ⟨j, hj, e⟩ := List.getElem_of_mem hp
          have := HK.out j (by omega)
          simpa [List.getD, hj, e] using this
        clear HK
        go_wp2_with fail
        go_loop [9] (fun u => ∃ i : Nat, u = .int .i64 i ∧ top ≤ i ∧ i ≤ xs.length ∧ ∀ j, top ≤ j → j < i → xs.getD j 0 = 0) (fun u => xs.length - (intOf u).toNat)
        case atStart => exact ⟨top, rfl, Nat.le_refl _, h2, by omega⟩
        case round =>
          obtain ⟨i, rfl, hti, hi, hz⟩ := hrel
          have HZ := Lib.hid hz; clear hz
          by_cases hil : i < xs.length
          · have hc1 := (HW.out.cell (p := ⟨b, o + i, none⟩) hbs).trans (HC.out i hil)
            obtain ⟨x, hx⟩ : ∃ x, x = xs.getD i 0 := ⟨_, rfl⟩
            rw [← hx] at hc1
            by_cases hx0 : x = 0
            · subst hx0
              have HX := Lib.hid (show ∀ j, top ≤ j → j < i + 1 → xs.getD j 0 = 0 from fun j h1 hj => by
                by_cases e : j = i
                · rw [e]; exact hx.symm
                · exact HZ.out j h1 (by omega))
              clear hx
              go_wp2
              go_round
              case rel => exact ⟨i + 1, by go_num, by omega, by omega, HX.out⟩
              case measure => simp [intOf]; omega
            · have hb : (x != 0) = true := by simpa using hx0
              have HN : Hid (¬ HeapOk xs (top : Int)) := fun ⟨t, l', e, _, _, _, _, _, h⟩ => by
                obtain rfl := Int.ofNat_inj.1 e
                exact hx0 (by rw [hx]; exact h i hti hil)
              clear hx hx0
              go_wp2
              go_ret
              exact RetMay.bad HN.out HW.out
          · have HF : Hid (HeapOk xs (top : Int)) := ⟨top, l, rfl, by omega, h1, h2, HP.out, HALL.out, fun j hj hl => HZ.out j hj (by omega)⟩
            go_wp2
            go_ret
            exact ⟨HW.out, .inl ⟨HF.out, rfl⟩⟩

theorem may_any (v : Value) (xs : List Int) (top : Int) (w : World) (h : Ints w v xs) : Calls Try.prog 45 #[.agg #[v, .int .i64 top]] w (RetMay w xs top) := by
  by_cases hl : 1 ≤ xs.length ∧ xs.length ≤ 400 ∧ 1 ≤ top ∧ top ≤ xs.length
  · obtain ⟨t, rfl⟩ := Int.eq_ofNat_of_zero_le (show 0 ≤ top by omega)
    exact may_main v xs t w h (by omega) (by omega) (by omega)
  · exact may_limits v xs top w h hl
end Go.Proofs.Ytbeilcaadpopmab
