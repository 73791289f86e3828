/- Walk: the law GcReaches. -/
import Derived.Test.YtbeilcaadpopmabGs
import Derived.Test.YtbeilcaadpopmabWb
set_option linter.unusedVariables false
set_option linter.unusedSimpArgs false
namespace Go.Proofs.Ytbeilcaadpopmab
open Go.RowKit

/-- What is reached, or why it is not told. -/
def ReachRes (xs : List Int) (top : Int) (roots ys : List Int) (er : Int) : Prop :=
  (¬ HeapOk xs top ∧ ys = [] ∧ er = 5) ∨ ∃ (t : Nat) (l : List Nat), top = (t : Int) ∧ HeapIs xs t l ∧ ((¬ RootsOk l roots ∧ ys = [] ∧ er = 4) ∨ (RootsOk l roots ∧ ys = (intsOf l).filter (fun x => decide (x ∈ seenAll xs l roots)) ∧ er = 0))

theorem ReachRes.uniq {xs roots ys ys' : List Int} {top er er' : Int} (h : ReachRes xs top roots ys er) (h' : ReachRes xs top roots ys' er') : ys = ys' ∧ er = er' := by
  rcases h with ⟨h0, rfl, rfl⟩ | ⟨t, l, rfl, hi, h⟩
  · rcases h' with ⟨_, rfl, rfl⟩ | ⟨t, l, e, hi, _⟩
    · exact ⟨rfl, rfl⟩
    · exact absurd ⟨t, l, e, hi⟩ h0
  · rcases h' with ⟨h0, _⟩ | ⟨t', l', e, hi', h'⟩
    · exact absurd ⟨t, l, rfl, hi⟩ h0
    · obtain rfl := Int.ofNat_inj.1 e
      obtain rfl := hi.uniq hi'
      rcases h with ⟨h1, rfl, rfl⟩ | ⟨h1, rfl, rfl⟩ <;> rcases h' with ⟨h2, rfl, rfl⟩ | ⟨h2, rfl, rfl⟩
      · exact ⟨rfl, rfl⟩
      · exact absurd h2 h1
      · exact absurd h1 h2
      · exact ⟨rfl, rfl⟩

theorem RetReach.res {w w' : World} {xs roots : List Int} {top : Int} {e : Ending} (h : RetReach w xs top roots e w') : Below w.heap.size w w' ∧ ∃ v ys er, ReachRes xs top roots ys er ∧ e = .returned (.tuple #[v, .int .i64 er]) ∧ Ints w' v ys := by
  obtain ⟨hb, h⟩ := h
  refine ⟨hb, ?_⟩
  rcases h with ⟨h0, rfl⟩ | ⟨t, l, rfl, hi, ⟨h1, rfl⟩ | ⟨h1, v, rfl, hv⟩⟩
  · exact ⟨_, [], 5, .inl ⟨h0, rfl, rfl⟩, rfl, ints_nil _⟩
  · exact ⟨_, [], 4, .inr ⟨t, l, rfl, hi, .inl ⟨h1, rfl, rfl⟩⟩, rfl, ints_nil _⟩
  · exact ⟨v, _, 0, .inr ⟨t, l, rfl, hi, .inr ⟨h1, rfl, rfl⟩⟩, rfl, hv.ints⟩

theorem leads_in {xs : List Int} {t : Nat} {l : List Nat} (hi : HeapIs xs t l) : ∀ p ∈ l, ∀ x, leads (fieldsOf xs p) x → ∃ q ∈ l, x = (q : Int) := by
  intro p hp x ⟨w, hw, h1, h2, h3⟩
  obtain ⟨k, hk, e⟩ := List.mem_iff_getElem.1 hw
  have ho := places_obj hi.2.2.2.1 p hp
  have hlen := hi.2.2.1
  obtain ⟨o1, o2, o3, o4⟩ := ho
  have hk2 : k < nf xs p := by
    unfold fieldsOf at hk
    simp at hk
    omega
  have := (hi.2.2.2.2.1 p hp).2.2 k hk2
  have e2 : w = xs.getD (p + 2 + k) 0 := by
    rw [← e]
    simp only [fieldsOf, List.getElem_take, List.getElem_drop]
    rw [List.getD_eq_getElem?_getD, List.getElem?_eq_getElem (by omega)]
    rfl
  rw [← e2] at this
  rw [h2]
  exact this.2 h1 (by omega)

theorem seen_same {xs : List Int} {t : Nat} {l : List Nat} {roots : List Int} (hi : HeapIs xs t l) (hr : RootsOk l roots) :
    (intsOf l).filter (fun x => decide (x ∈ roundsR xs l l.length roots)) = (intsOf l).filter (fun x => decide (x ∈ seenAll xs l roots)) := by
  have hz : ∀ p ∈ l, p ≠ 0 := fun p hp => by have := (places_obj hi.2.2.2.1 p hp).1; omega
  have h1 := roundsR_reached xs roots l hz (leads_in hi) hr
  obtain ⟨S, h2, h3⟩ := look_reached xs roots (intsOf l) (fun p hp x hx => by
    obtain ⟨q, hq, rfl⟩ := List.mem_map.1 hp
    obtain ⟨q', hq', rfl⟩ := leads_in hi q hq x (by simpa using hx)
    exact List.mem_map.2 ⟨q', hq', rfl⟩) (fun p hp h0 => by
    obtain ⟨q, hq, rfl⟩ := hr p hp h0
    exact List.mem_map.2 ⟨q, hq, rfl⟩)
  rw [intsOf_length] at h2
  apply List.filter_congr
  intro x hx
  obtain ⟨q, hq, rfl⟩ := List.mem_map.1 hx
  have e : seenAll xs l roots = S := by unfold seenAll; rw [h2]
  rw [e]
  exact decide_eq_decide.2 ((h1 q hq).trans (h3 q).symm)

theorem RetReachOf.res {w w' : World} {xs roots : List Int} {top : Int} {e : Ending} (h : RetReachOf w xs top roots e w') : Below w.heap.size w w' ∧ ∃ v ys er, ReachRes xs top roots ys er ∧ e = .returned (.tuple #[v, .int .i64 er]) ∧ Ints w' v ys := by
  obtain ⟨hb, h⟩ := h
  refine ⟨hb, ?_⟩
  rcases h with ⟨h0, rfl⟩ | ⟨t, l, rfl, hi, ⟨h1, rfl⟩ | ⟨h1, v, rfl, hv⟩⟩
  · exact ⟨_, [], 5, .inl ⟨h0, rfl, rfl⟩, rfl, ints_nil _⟩
  · exact ⟨_, [], 4, .inr ⟨t, l, rfl, hi, .inl ⟨h1, rfl, rfl⟩⟩, rfl, ints_nil _⟩
  · exact ⟨v, _, 0, .inr ⟨t, l, rfl, hi, .inr ⟨h1, rfl, rfl⟩⟩, rfl, by have := hv.ints; rwa [seen_same hi h1] at this⟩

set_option maxHeartbeats 1000000 in
theorem gcReaches_any (v rv : Value) (xs : List Int) (top : Int) (roots : List Int) (w : World) (h : Ints w v xs) (hr : Ints w rv roots) (hrb : roots.length ≤ 17592186043904) :
    Calls Try.prog 7 #[.agg #[v, .int .i64 top], rv] w fun e w' => e = .returned (.bool true) ∧ Below w.heap.size w w' := by
  obtain ⟨a, c, rfl, hc, hcm, _⟩ := h.len
  have HF : Hid (∀ w2, Below w.heap.size w w2 → Ints w2 (.slice a xs.length c) xs) := fun w2 hb2 => h.below (Nat.le_refl _) hb2
  have HR : Hid (∀ w2, Below w.heap.size w w2 → Ints w2 rv roots) := fun w2 hb2 => hr.below (Nat.le_refl _) hb2
  clear h hr
  go_enter Try.func7, Try.ntmps7
  go_wp2_with (first
    | (go_at_call 30; refine (reach_any _ _ xs roots _ _ (HF.out _ (by repeat (first | exact Below.refl _ _ | with_reducible refine below_drewN ?_ _ | with_reducible refine Below.drew ?_ | with_reducible refine Below.alloc ?_ (by first | exact Nat.le_refl _ | (simp; done) | omega | (simp; omega)) _ | with_reducible refine Below.setCell ?_ (by first | exact Nat.le_refl _ | (simp; done) | omega | (simp; omega)) _))) (HR.out _ (by repeat (first | exact Below.refl _ _ | with_reducible refine below_drewN ?_ _ | with_reducible refine Below.drew ?_ | with_reducible refine Below.alloc ?_ (by first | exact Nat.le_refl _ | (simp; done) | omega | (simp; omega)) _ | with_reducible refine Below.setCell ?_ (by first | exact Nat.le_refl _ | (simp; done) | omega | (simp; omega)) _)))).mono ?_; intro e w1 hret; obtain ⟨hb, v1, ys1, er1, hr1, rfl, hv1⟩ := hret.res; clear hret; have HR1 := Lib.hid hr1; have HV1 := Lib.hid hv1; clear hr1 hv1; have zc1 := Nat.lt_of_lt_of_le (show w.heap.size < _ from (by first | (simp; done) | omega | (simp; omega))) (Below.size hb); have fc1_0 := Below.cell hb (p := ⟨w.heap.size, 0, none⟩) (by first | (simp; done) | omega | (simp; omega)); have gc1_0 := Below.frozen hb (p := ⟨w.heap.size, 0, none⟩) (by first | (simp; done) | omega | (simp; omega)); have fc1_1 := Below.cell hb (p := ⟨w.heap.size, 1, none⟩) (by first | (simp; done) | omega | (simp; omega)); have gc1_1 := Below.frozen hb (p := ⟨w.heap.size, 1, none⟩) (by first | (simp; done) | omega | (simp; omega)); (try simp at fc1_0 gc1_0 fc1_1 gc1_1))
    | (go_at_call 31; refine (reachedOf_any _ _ xs roots _ _ (HF.out _ (by repeat (first | exact Below.refl _ _ | with_reducible refine Below.trans ?_ (Below.mono hb (by first | exact Nat.le_refl _ | (simp; done) | omega | (simp; omega) | (have z0 := Below.size hb; omega) | (have z0 := Below.size hb; simp at *; omega))) | with_reducible refine below_drewN ?_ _ | with_reducible refine Below.drew ?_ | with_reducible refine Below.alloc ?_ (by first | exact Nat.le_refl _ | (simp; done) | omega | (simp; omega) | (have z0 := Below.size hb; omega) | (have z0 := Below.size hb; simp at *; omega)) _ | with_reducible refine Below.setCell ?_ (by first | exact Nat.le_refl _ | (simp; done) | omega | (simp; omega) | (have z0 := Below.size hb; omega) | (have z0 := Below.size hb; simp at *; omega)) _))) (HR.out _ (by repeat (first | exact Below.refl _ _ | with_reducible refine Below.trans ?_ (Below.mono hb (by first | exact Nat.le_refl _ | (simp; done) | omega | (simp; omega) | (have z0 := Below.size hb; omega) | (have z0 := Below.size hb; simp at *; omega))) | with_reducible refine below_drewN ?_ _ | with_reducible refine Below.drew ?_ | with_reducible refine Below.alloc ?_ (by first | exact Nat.le_refl _ | (simp; done) | omega | (simp; omega) | (have z0 := Below.size hb; omega) | (have z0 := Below.size hb; simp at *; omega)) _ | with_reducible refine Below.setCell ?_ (by first | exact Nat.le_refl _ | (simp; done) | omega | (simp; omega) | (have z0 := Below.size hb; omega) | (have z0 := Below.size hb; simp at *; omega)) _))) hrb).mono ?_; intro e w2 hret; obtain ⟨hb2, v2, ys2, er2, hr2, rfl, hv2⟩ := hret.res; clear hret; obtain ⟨rfl, rfl⟩ := HR1.out.uniq hr2; have HV2 := Lib.hid hv2; clear hr2 hv2)
    | (go_at_call 32; refine (sameInts_any _ _ _ _ _ (HV1.out.below (Nat.le_refl _) (by repeat (first | exact Below.refl _ _ | with_reducible refine Below.trans ?_ (Below.mono hb2 (by first | exact Nat.le_refl _ | (simp; done) | omega | (simp; omega) | (have z0 := Below.size hb2; omega) | (have z0 := Below.size hb2; simp at *; omega))) | with_reducible refine below_drewN ?_ _ | with_reducible refine Below.drew ?_ | with_reducible refine Below.alloc ?_ (by first | exact Nat.le_refl _ | (simp; done) | omega | (simp; omega) | (have z0 := Below.size hb2; omega) | (have z0 := Below.size hb2; simp at *; omega)) _ | with_reducible refine Below.setCell ?_ (by first | exact Nat.le_refl _ | (simp; done) | omega | (simp; omega) | (have z0 := Below.size hb2; omega) | (have z0 := Below.size hb2; simp at *; omega)) _))) (HV2.out.below (Nat.le_refl _) (by repeat (first | exact Below.refl _ _ | with_reducible refine below_drewN ?_ _ | with_reducible refine Below.drew ?_ | with_reducible refine Below.alloc ?_ (by first | exact Nat.le_refl _ | (simp; done) | omega | (simp; omega)) _ | with_reducible refine Below.setCell ?_ (by first | exact Nat.le_refl _ | (simp; done) | omega | (simp; omega)) _)))).mono ?_; rintro e w3 ⟨rfl, hb3⟩))
  go_ret
  exact ⟨ret_bool (by simp), (by repeat (first | exact Below.refl _ _ | with_reducible refine Below.trans ?_ (Below.mono hb3 (by first | exact Nat.le_refl _ | (simp; done) | omega | (simp; omega) | (have z := Below.size hb3; omega) | (have z := Below.size hb2; omega) | (have z := Below.size hb; omega) | (have z0 := Below.size hb3; have z1 := Below.size hb2; have z2 := Below.size hb; omega) | (have z0 := Below.size hb3; have z1 := Below.size hb2; have z2 := Below.size hb; simp at *; omega))) | with_reducible refine Below.trans ?_ (Below.mono hb2 (by first | exact Nat.le_refl _ | (simp; done) | omega | (simp; omega) | (have z := Below.size hb3; omega) | (have z := Below.size hb2; omega) | (have z := Below.size hb; omega) | (have z0 := Below.size hb3; have z1 := Below.size hb2; have z2 := Below.size hb; omega) | (have z0 := Below.size hb3; have z1 := Below.size hb2; have z2 := Below.size hb; simp at *; omega))) | with_reducible refine Below.trans ?_ (Below.mono hb (by first | exact Nat.le_refl _ | (simp; done) | omega | (simp; omega) | (have z := Below.size hb3; omega) | (have z := Below.size hb2; omega) | (have z := Below.size hb; omega) | (have z0 := Below.size hb3; have z1 := Below.size hb2; have z2 := Below.size hb; omega) | (have z0 := Below.size hb3; have z1 := Below.size hb2; have z2 := Below.size hb; simp at *; omega))) | with_reducible refine below_drewN ?_ _ | with_reducible refine Below.drew ?_ | with_reducible refine Below.alloc ?_ (by first | exact Nat.le_refl _ | (simp; done) | omega | (simp; omega) | (have z := Below.size hb3; omega) | (have z := Below.size hb2; omega) | (have z := Below.size hb; omega) | (have z0 := Below.size hb3; have z1 := Below.size hb2; have z2 := Below.size hb; omega) | (have z0 := Below.size hb3; have z1 := Below.size hb2; have z2 := Below.size hb; simp at *; omega)) _ | with_reducible refine Below.setCell ?_ (by first | exact Nat.le_refl _ | (simp; done) | omega | (simp; omega) | (have z := Below.size hb3; omega) | (have z := Below.size hb2; omega) | (have z := Below.size hb; omega) | (have z0 := Below.size hb3; have z1 := Below.size hb2; have z2 := Below.size hb; omega) | (have z0 := Below.size hb3; have z1 := Below.size hb2; have z2 := Below.size hb; simp at *; omega)) _))⟩
end Go.Proofs.Ytbeilcaadpopmab
