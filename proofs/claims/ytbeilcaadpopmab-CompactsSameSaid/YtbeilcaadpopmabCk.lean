/- The walk of heap.Check. -/
import Derived.Test.YtbeilcaadpopmabWp
import Derived.Test.YtbeilcaadpopmabWh
set_option linter.unusedVariables false
set_option linter.unusedSimpArgs false
namespace Go.Proofs.Ytbeilcaadpopmab
open Go.RowKit

theorem hasB_places {l : List Nat} {x : Int} : hasB (intsOf l) x = true ↔ ∃ q ∈ l, x = (q : Int) := by
  simp only [hasB, List.contains_iff_mem, intsOf, List.mem_map]
  exact ⟨fun ⟨q, h, e⟩ => ⟨q, h, e.symm⟩, fun ⟨q, h, e⟩ => ⟨q, h, e.symm⟩⟩
theorem rises_places {xs : List Int} {top : Nat} {l : List Nat} (h : places xs top = some l) : Rises (intsOf l) := by
  intro i j hij hj
  rw [intsOf_length] at hj
  have := List.pairwise_iff_getElem.1 (places_pair h) i j (by omega) hj hij
  simp [intsOf, List.getD, hj, show i < l.length by omega]
  omega

/-- It returned OK or ErrState. -/
def RetCheck (w : World) (xs : List Int) (top : Int) (e : Ending) (w' : World) : Prop :=
  Below w.heap.size w w' ∧ ((HeapOk xs top ∧ e = .returned (.int .i64 0)) ∨ (¬ HeapOk xs top ∧ e = .returned (.int .i64 5)))
theorem RetCheck.bad {w w' : World} {xs : List Int} {top : Int} (h : ¬ HeapOk xs top) (hb : Below w.heap.size w w') : RetCheck w xs top (.returned (.int .i64 5)) w' := ⟨hb, .inr ⟨h, rfl⟩⟩

theorem not_ok_len {xs : List Int} {top : Int} (h : ¬ (1 ≤ xs.length ∧ xs.length ≤ 400 ∧ 1 ≤ top ∧ top ≤ xs.length)) : ¬ HeapOk xs top := fun h' => h (heapOk_bounds h')

set_option maxHeartbeats 1000000 in
set_option maxRecDepth 100000 in
theorem check_limits (v : Value) (xs : List Int) (top : Int) (w : World) (h : Ints w v xs) (hl : ¬ (1 ≤ xs.length ∧ xs.length ≤ 400 ∧ 1 ≤ top ∧ top ≤ xs.length)) :
    Calls Try.prog 19 #[.agg #[v, .int .i64 top]] w (RetCheck w xs top) := by
  obtain ⟨a, c, rfl, hc, hcm, _⟩ := h.len
  have hle := h.le
  have HN := Lib.hid (not_ok_len hl)
  clear h
  by_cases h1 : xs.length < 1
  · clear hl
    go_enter Try.func19, Try.ntmps19
    go_wp2
    go_ret
    exact RetCheck.bad HN.out (by repeat (first | exact Below.refl _ _ | with_reducible refine below_drewN ?_ _ | with_reducible refine Below.drew ?_ | with_reducible refine Below.alloc ?_ (by first | exact Nat.le_refl _ | (simp; done) | omega | (simp; omega)) _ | with_reducible refine Below.setCell ?_ (by first | exact Nat.le_refl _ | (simp; done) | omega | (simp; omega)) _))
  by_cases h2 : 400 < xs.length
  · clear hl
    go_enter Try.func19, Try.ntmps19
    go_wp2
    go_ret
    exact RetCheck.bad HN.out (by repeat (first | exact Below.refl _ _ | with_reducible refine below_drewN ?_ _ | with_reducible refine Below.drew ?_ | with_reducible refine Below.alloc ?_ (by first | exact Nat.le_refl _ | (simp; done) | omega | (simp; omega)) _ | with_reducible refine Below.setCell ?_ (by first | exact Nat.le_refl _ | (simp; done) | omega | (simp; omega)) _))
  by_cases h3 : top < 1
  · clear hl
    go_enter Try.func19, Try.ntmps19
    go_wp2
    go_ret
    exact RetCheck.bad HN.out (by repeat (first | exact Below.refl _ _ | with_reducible refine below_drewN ?_ _ | with_reducible refine Below.drew ?_ | with_reducible refine Below.alloc ?_ (by first | exact Nat.le_refl _ | (simp; done) | omega | (simp; omega)) _ | with_reducible refine Below.setCell ?_ (by first | exact Nat.le_refl _ | (simp; done) | omega | (simp; omega)) _))
  · have h4 : (xs.length : Int) < top := by omega
    clear hl
    go_enter Try.func19, Try.ntmps19
    go_wp2
    go_ret
    exact RetCheck.bad HN.out (by repeat (first | exact Below.refl _ _ | with_reducible refine below_drewN ?_ _ | with_reducible refine Below.drew ?_ | with_reducible refine Below.alloc ?_ (by first | exact Nat.le_refl _ | (simp; done) | omega | (simp; omega)) _ | with_reducible refine Below.setCell ?_ (by first | exact Nat.le_refl _ | (simp; done) | omega | (simp; omega)) _))

set_option maxHeartbeats 4000000 in
set_option maxRecDepth 100000 in
theorem check_main (v : Value) (xs : List Int) (top : Nat) (w : World) (h : Ints w v xs) (h1 : 1 ≤ top) (h2 : top ≤ xs.length) (h3 : xs.length ≤ 400) :
    Calls Try.prog 19 #[.agg #[v, .int .i64 top]] w (RetCheck w xs top) := by
  obtain ⟨a, c, rfl, hc, hcm, _⟩ := h.len
  obtain ⟨b, o, rfl, hbs, hcell⟩ := h.at (by omega)
  have HC := Lib.hid hcell; clear hcell
  have HH := Lib.hid h; clear h
  have hx1 : Ints (w.alloc (.cells #[.slice (some ⟨b, o, none⟩) xs.length c, .int .i64 top] 25)) (.slice (some ⟨b, o, none⟩) xs.length c) xs := HH.out.below (Nat.le_refl _) (by repeat (first | exact Below.refl _ _ | with_reducible refine below_drewN ?_ _ | with_reducible refine Below.drew ?_ | with_reducible refine Below.alloc ?_ (by first | exact Nat.le_refl _ | (simp; done) | omega | (simp; omega)) _ | with_reducible refine Below.setCell ?_ (by first | exact Nat.le_refl _ | (simp; done) | omega | (simp; omega)) _))
  have HX1 := Lib.hid hx1; clear hx1
  have hd1 : decide ((xs.length : Int) < 1) = false := decide_eq_false (by omega)
  have hd2 : decide ((400 : Int) < (xs.length : Int)) = false := decide_eq_false (by omega)
  have hd3 : decide ((top : Int) < 1) = false := decide_eq_false (by omega)
  have hd4 : decide (xs.length < top) = false := decide_eq_false (by omega)
  cases hpl : places xs top with
  | none =>
    have HP := Lib.hid hpl; clear hpl
    have HN : Hid (¬ HeapOk xs (top : Int)) := fun ⟨t, l, e, _, _, _, h, _⟩ => by
      have := Int.ofNat_inj.1 e
      subst this
      rw [HP.out] at h; cases h
    go_enter Try.func19, Try.ntmps19
    go_wp2_with (go_at_call 49; refine (places_any _ _ _ _ HX1.out h1 h2 h3).mono ?_; rintro e w1 ⟨hb, ⟨l, a1, c1, hl, rfl, hv1⟩ | ⟨hl, rfl⟩⟩; (exfalso; rw [HP.out] at hl; cases hl))
    go_ret
    exact RetCheck.bad HN.out (by repeat (first | exact Below.refl _ _ | with_reducible refine Below.trans ?_ (Below.mono hb (by first | exact Nat.le_refl _ | (simp; done) | omega | (simp; omega) | (have z0 := Below.size hb; omega) | (have z0 := Below.size hb; simp at *; omega))) | with_reducible refine below_drewN ?_ _ | with_reducible refine Below.drew ?_ | with_reducible refine Below.alloc ?_ (by first | exact Nat.le_refl _ | (simp; done) | omega | (simp; omega) | (have z0 := Below.size hb; omega) | (have z0 := Below.size hb; simp at *; omega)) _ | with_reducible refine Below.setCell ?_ (by first | exact Nat.le_refl _ | (simp; done) | omega | (simp; omega) | (have z0 := Below.size hb; omega) | (have z0 := Below.size hb; simp at *; omega)) _))
  | some l =>
    have hll := places_len hpl h1
    have HP := Lib.hid hpl; clear hpl
    go_enter Try.func19, Try.ntmps19
    go_wp2_with (go_at_call 49; refine (places_any _ _ _ _ HX1.out h1 h2 h3).mono ?_; rintro e w1 ⟨hb, ⟨l', a1, c1, hl, rfl, hv1⟩ | ⟨hl, rfl⟩⟩; rotate_left; (exfalso; rw [HP.out] at hl; cases hl); rw [HP.out] at hl; obtain rfl := Option.some.inj hl; clear hl; have zc1 := Nat.lt_of_lt_of_le (show w.heap.size < _ from (by first | (simp; done) | omega | (simp; omega))) (Below.size hb); have fc1_0 := Below.cell hb (p := ⟨w.heap.size, 0, none⟩) (by first | (simp; done) | omega | (simp; omega)); have gc1_0 := Below.frozen hb (p := ⟨w.heap.size, 0, none⟩) (by first | (simp; done) | omega | (simp; omega)); have fc1_1 := Below.cell hb (p := ⟨w.heap.size, 1, none⟩) (by first | (simp; done) | omega | (simp; omega)); have gc1_1 := Below.frozen hb (p := ⟨w.heap.size, 1, none⟩) (by first | (simp; done) | omega | (simp; omega)); (try simp at fc1_0 gc1_0 fc1_1 gc1_1); have HV := Lib.hid hv1; have HB := Lib.hid hb; clear hv1 hb)
    clear hd1 hd2 hd3 hd4
    go_loopw [45] (fun u wr => ∃ k : Nat, k ≤ l.length ∧ u = .int .i64 k ∧ (∀ j, j < k → ObjOk xs l (l.getD j 0)) ∧ Below w1.heap.size w1 wr) (fun u _ => l.length - (intOf u).toNat)
    case atStart => exact ⟨0, Nat.zero_le _, rfl, by omega, Below.refl _ _⟩
    case round =>
      obtain ⟨k, hk, rfl, hok, hbel⟩ := hrel
      have HK := Lib.hid hok; clear hok
      have f0 := (hbel.cell (p := ⟨w.heap.size, 0, none⟩) zc1).trans fc1_0
      have f1 := (hbel.cell (p := ⟨w.heap.size, 1, none⟩) zc1).trans fc1_1
      have hle1 : Below w.heap.size w wr := ((Below.refl _ w).alloc (Nat.le_refl _) _).trans ((HB.out.mono (by first | exact Nat.le_refl _ | (simp; done) | omega | (simp; omega))).trans (hbel.mono (by omega)))
      have HW := Lib.hid hle1; clear hle1
      have HBE := Lib.hid hbel; clear hbel
      clear fc1_0 gc1_0 fc1_1 gc1_1 HX1
      by_cases hlt : k < l.length
      · obtain ⟨lb, lo, rfl, hlb, hlc⟩ := Ints.at HV.out.ints (by rw [intsOf_length]; omega)
        replace hlc := (HBE.out.cell (p := ⟨lb, lo + k, none⟩) hlb).trans (hlc k (by rw [intsOf_length]; omega))
        obtain ⟨p, hp⟩ : ∃ p, p = l.getD k 0 := ⟨_, rfl⟩
        rw [show (intsOf l).getD k 0 = (p : Int) by rw [hp]; simp [intsOf, List.getD, hlt]] at hlc
        have hmem : p ∈ l := by rw [hp]; simp [List.getD, hlt]
        obtain ⟨hp1, hpn, hp6, hpt⟩ := places_obj HP.out p hmem
        obtain ⟨m, hm⟩ : ∃ m, m = nf xs p := ⟨_, rfl⟩
        rw [← hm] at hpn hp6 hpt
        have HM := Lib.hid hm; clear hm
        have HPP := Lib.hid hp; clear hp
        have HMEM := Lib.hid hmem; clear hmem
        have cst := (HW.out.cell (p := ⟨b, o + p, none⟩) hbs).trans (HC.out p (by omega))
        have cnf := (HW.out.cell (p := ⟨b, o + (p + 1), none⟩) hbs).trans (HC.out (p + 1) (by omega))
        rw [hpn] at cnf
        clear hpn
        have hsr := HH.out.range p
        obtain ⟨s, hs⟩ : ∃ s, s = xs.getD p 0 := ⟨_, rfl⟩
        rw [← hs] at cst hsr
        obtain ⟨hsr1, hsr2⟩ := hsr
        have HS := Lib.hid hs; clear hs
        have HNB : Hid (¬ ObjOk xs l p → ¬ HeapOk xs (top : Int)) := fun hno ⟨t, l', e, _, _, _, hpl, hall, _⟩ => by
          obtain rfl := Int.ofNat_inj.1 e
          rw [HP.out] at hpl
          obtain rfl := Option.some.inj hpl
          exact hno (hall p HMEM.out)
        by_cases hs0 : s < 0
        · have HN := Lib.hid (HNB.out (fun h => by have := h.1; rw [← HS.out] at this; omega))
          go_wp2
          go_ret
          exact RetCheck.bad HN.out HW.out
        by_cases hs1 : 2147483648 < s
        · have HN := Lib.hid (HNB.out (fun h => by have := h.2.1; rw [← HS.out] at this; omega))
          go_wp2
          go_ret
          exact RetCheck.bad HN.out HW.out
        have hd0 : decide (s < 0) = false := decide_eq_false hs0
        have hd1 : decide (2147483648 < s) = false := decide_eq_false hs1
        have HS2 : Hid (0 ≤ xs.getD p 0 ∧ xs.getD p 0 ≤ 2147483648) := by rw [Hid, ← HS.out]; omega
        have HOK : Hid ((∀ j, j < m → WordOk l (xs.getD (p + 2 + j) 0)) → ∀ j, j < k + 1 → ObjOk xs l (l.getD j 0)) := fun hw j hj => by
          by_cases e : j = k
          · rw [e, ← HPP.out]
            exact ⟨HS2.out.1, HS2.out.2, fun i hi => hw i (by rw [HM.out]; exact hi)⟩
          · exact HK.out j (by omega)
        have HNW : Hid (∀ j, j < m → ¬ WordOk l (xs.getD (p + 2 + j) 0) → ¬ HeapOk xs (top : Int)) := fun j hj hw => HNB.out (fun h => hw (h.2.2 j (by rw [← HM.out]; exact hj)))
        clear HS HNB HPP HMEM HM
        by_cases hcp : c = p + 2
        · have hm0 : m = 0 := by omega
          subst hm0
          subst hcp
          go_wp2
          go_quiet (fail)
          go_wp2_with fail
          go_loop [78] (fun u => u = .int .i64 0) (fun _ => 0)
          case atStart => rfl
          case round =>
            subst hrel
            go_wp2_with fail
            go_roundw
            case rel => exact ⟨k + 1, by omega, by go_num, HOK.out (by omega), below_drewN HBE.out _⟩
            case measure => simp [intOf]; omega
        · go_wp2
          go_quiet (fail)
          go_wp2_with fail
          rw [Nat.add_sub_cancel_left]
          go_loop [78] (fun u => ∃ j : Nat, u = .int .i64 j ∧ j ≤ m ∧ ∀ i, i < j → WordOk l (xs.getD (p + 2 + i) 0)) (fun u => m - (intOf u).toNat)
          case atStart => exact ⟨0, rfl, Nat.zero_le _, by omega⟩
          case round =>
            obtain ⟨j, rfl, hj, hw⟩ := hrel
            have HWK := Lib.hid hw; clear hw
            by_cases hjm : j < m
            · have hc0 := HC.out (p + 2 + j) (by omega)
              rw [← Nat.add_assoc] at hc0
              have hc1 := (HW.out.cell (p := ⟨b, o + (p + 2) + j, none⟩) hbs).trans hc0
              clear hc0
              have hxr := HH.out.range (p + 2 + j)
              obtain ⟨x, hx⟩ : ∃ x, x = xs.getD (p + 2 + j) 0 := ⟨_, rfl⟩
              rw [← hx] at hc1 hxr
              obtain ⟨hxr1, hxr2⟩ := hxr
              have HX := Lib.hid hx; clear hx
              have hst : Hid (WordOk l x → ∀ i, i < j + 1 → WordOk l (xs.getD (p + 2 + i) 0)) := fun h i hi => by
                by_cases e : i = j
                · rw [e, ← HX.out]; exact h
                · exact HWK.out i (by omega)
              by_cases hx2 : x % 2 = 0
              · have e1 : (bits BinOp.and IntKind.i64 x 1 == 0) = true := by rw [and_one_i64, hx2]; rfl
                have e2 : (bits BinOp.and IntKind.i64 x 1 == 1) = false := by rw [and_one_i64, hx2]; rfl
                have HX2 := Lib.hid hx2; clear hx2
                by_cases hxlo : x < -2199023255552
                · have HN := Lib.hid (HNW.out j hjm (fun h => by have := h.1; rw [← HX.out] at this; have := this HX2.out; omega))
                  go_wp2
                  go_ret
                  exact RetCheck.bad HN.out (below_drewN HW.out _)
                by_cases hxhi : 2199023255552 < x
                · have HN := Lib.hid (HNW.out j hjm (fun h => by have := h.1; rw [← HX.out] at this; have := this HX2.out; omega))
                  go_wp2
                  go_ret
                  exact RetCheck.bad HN.out (below_drewN HW.out _)
                have HY := Lib.hid (hst.out ⟨fun _ => by omega, fun h => by have := HX2.out; omega⟩)
                go_wp2
                go_round
                case rel => exact ⟨j + 1, by go_num, by omega, HY.out⟩
                case measure => simp [intOf]; omega
              · have e1 : (bits BinOp.and IntKind.i64 x 1 == 0) = false := by rw [and_one_i64]; simpa using hx2
                have e2 : (bits BinOp.and IntKind.i64 x 1 == 1) = true := by rw [and_one_i64]; simp; omega
                have HX2 := Lib.hid hx2; clear hx2
                by_cases hx1 : x = 1
                · subst hx1
                  have HY := Lib.hid (hst.out ⟨fun h => by omega, fun _ h => absurd rfl h⟩)
                  have e3 : ((1 : Int) != 1) = false := rfl
                  go_wp2
                  go_round
                  case rel => exact ⟨j + 1, by go_num, by omega, HY.out⟩
                  case measure => simp [intOf]; omega
                · have e3 : (x != 1) = true := by simpa using hx1
                  have HL : Hid (Ints (wr.drewN nq) (.slice (some ⟨lb, lo, none⟩) l.length c1) (intsOf l)) := HV.out.ints.below (Nat.le_refl _) (below_drewN HBE.out _)
                  by_cases hh : hasB (intsOf l) (x / 2) = true
                  · have HY := Lib.hid (hst.out ⟨fun h => absurd h HX2.out, fun _ _ => hasB_places.1 hh⟩)
                    go_wp2_with (go_at_call 50; refine (search_any _ (intsOf l) _ _ HL.out (rises_places HP.out)).mono ?_; rintro e w2 ⟨i2, rfl, rfl⟩)
                    go_round
                    case rel => exact ⟨j + 1, by go_num, by omega, HY.out⟩
                    case measure => simp [intOf]; omega
                  · have hh : hasB (intsOf l) (x / 2) = false := by simpa using hh
                    have HN := Lib.hid (HNW.out j hjm (fun h => by
                      have := h.2
                      rw [← HX.out] at this
                      have := hasB_places.2 (this (by have := HX2.out; omega) hx1)
                      rw [this] at hh; cases hh))
                    go_wp2_with (go_at_call 50; refine (search_any _ (intsOf l) _ _ HL.out (rises_places HP.out)).mono ?_; rintro e w2 ⟨i2, rfl, rfl⟩)
                    go_ret
                    exact RetCheck.bad HN.out (below_drewN HW.out _)
            · obtain rfl : j = m := by omega
              have HY := Lib.hid (HOK.out HWK.out)
              go_wp2_with fail
              go_roundw
              case rel => exact ⟨k + 1, by omega, by go_num, HY.out, below_drewN HBE.out _⟩
              case measure => simp [intOf]; omega
      · have HALL : Hid (∀ p ∈ l, ObjOk xs l p) := fun p hp => by
          obtain ⟨j, hj, e⟩ := List.getElem_of_mem hp
          have := HK.out j (by omega)
          simpa [List.getD, hj, e] using this
        clear HK
        by_cases hct : c = top
        · obtain rfl : xs.length = c := by omega
          have HF : Hid (HeapOk xs (top : Int)) := ⟨top, l, rfl, by omega, h1, h2, HP.out, HALL.out, fun i hi hl => by omega⟩
          subst hct
          go_wp2_with fail
          go_loop [117] (fun u => u = .int .i64 0) (fun _ => 0)
          case atStart => rfl
          case round =>
            subst hrel
            go_wp2
            go_ret
            exact ⟨HW.out, .inl ⟨HF.out, rfl⟩⟩
        · go_wp2_with fail
          go_loop [117] (fun u => ∃ i : Nat, u = .int .i64 i ∧ i ≤ xs.length - top ∧ ∀ j, j < i → xs.getD (top + j) 0 = 0) (fun u => xs.length - top - (intOf u).toNat)
          case atStart => exact ⟨0, rfl, Nat.zero_le _, by omega⟩
          case round =>
            obtain ⟨i, rfl, hi, hz⟩ := hrel
            have HZ := Lib.hid hz; clear hz
            by_cases hil : i < xs.length - top
            · have hc0 := HC.out (top + i) (by omega)
              rw [← Nat.add_assoc] at hc0
              have hc1 := (HW.out.cell (p := ⟨b, o + top + i, none⟩) hbs).trans hc0
              clear hc0
              obtain ⟨x, hx⟩ : ∃ x, x = xs.getD (top + i) 0 := ⟨_, rfl⟩
              rw [← hx] at hc1
              by_cases hx0 : x = 0
              · subst hx0
                have HX := Lib.hid (show ∀ j, j < i + 1 → xs.getD (top + j) 0 = 0 from fun j hj => by
                  by_cases e : j = i
                  · rw [e]; exact hx.symm
                  · exact HZ.out j (by omega))
                clear hx
                go_wp2
                go_round
                case rel => exact ⟨i + 1, by go_num, by omega, HX.out⟩
                case measure => simp [intOf]; omega
              · have hb : (x != 0) = true := by simpa using hx0
                have HN : Hid (¬ HeapOk xs (top : Int)) := fun ⟨t, l', e, _, _, _, _, _, h⟩ => by
                  obtain rfl := Int.ofNat_inj.1 e
                  exact hx0 (by rw [hx]; exact h (top + i) (by omega) (by omega))
                clear hx hx0
                go_wp2
                go_ret
                exact RetCheck.bad HN.out HW.out
            · have HF : Hid (HeapOk xs (top : Int)) := ⟨top, l, rfl, by omega, h1, h2, HP.out, HALL.out, fun j hj hl => by
                have := HZ.out (j - top) (by omega)
                rwa [Nat.add_sub_cancel' hj] at this⟩
              go_wp2
              go_ret
              exact ⟨HW.out, .inl ⟨HF.out, rfl⟩⟩

theorem check_any (v : Value) (xs : List Int) (top : Int) (w : World) (h : Ints w v xs) : Calls Try.prog 19 #[.agg #[v, .int .i64 top]] w (RetCheck w xs top) := by
  by_cases hl : 1 ≤ xs.length ∧ xs.length ≤ 400 ∧ 1 ≤ top ∧ top ≤ xs.length
  · obtain ⟨t, rfl⟩ := Int.eq_ofNat_of_zero_le (show 0 ≤ top by omega)
    exact check_main v xs t w h (by omega) (by omega) (by omega)
  · exact check_limits v xs top w h hl
end Go.Proofs.Ytbeilcaadpopmab
