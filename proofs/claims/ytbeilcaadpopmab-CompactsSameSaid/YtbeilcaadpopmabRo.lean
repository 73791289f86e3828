/- Walk: limewashkeep.Roots. -/
import Derived.Test.YtbeilcaadpopmabKh
import Derived.Test.YtbeilcaadpopmabWs
set_option linter.unusedVariables false
set_option linter.unusedSimpArgs false
namespace Go.Proofs.Ytbeilcaadpopmab
open Go.RowKit

/-- At most three places. -/
def RetRoots (w : World) (l : List Nat) (e : Ending) (w' : World) : Prop := ∃ (ks : List Nat) (ov : Value), ks.length ≤ 3 ∧ (∀ k ∈ ks, k ∈ l) ∧ e = .returned ov ∧ OwnInts w' w.heap.size ov (intsOf ks) ∧ Below w.heap.size w w'

set_option maxRecDepth 100000 in
set_option maxHeartbeats 1000000 in
theorem keepRoots_any (v rv : Value) (xs : List Int) (t : Nat) (l : List Nat) (rs : List Raw4) (w : World) (h : Ints w v xs) (hr : Raws w rv rs) (his : HeapIs xs t l) :
    Calls Try.prog 36 #[.agg #[v, .int .i64 t], rv] w (RetRoots w l) := by
  obtain ⟨a, c, rfl, hc, hcm, _⟩ := h.len
  obtain ⟨ra, rc, rfl, hrc, hrcm, _⟩ := hr.len
  have hle := hr.le
  have HF : Hid (∀ W, Below w.heap.size w W → Ints W (.slice a xs.length c) xs) := fun W hW => h.below (Nat.le_refl _) hW
  have HR : Hid (∀ W, Below w.heap.size w W → Raws W (.slice ra rs.length rc) rs) := fun W hW => hr.below (Nat.le_refl _) hW
  have HI := Lib.hid his
  have i1 := his.1
  have i3 := his.2.2.1
  have ill := places_len his.2.2.2.1 his.2.1
  clear h hr his
  go_enter Try.func36, Try.ntmps36
  go_wp2_with (go_at_call 18; refine (Places_any _ xs _ _ (HF.out _ (by repeat (first | exact Below.refl _ _ | with_reducible refine below_drewN ?_ _ | with_reducible refine Below.drew ?_ | with_reducible refine Below.alloc ?_ (by first | exact Nat.le_refl _ | (simp; done) | omega | (simp; omega)) _ | with_reducible refine Below.setCell ?_ (by first | exact Nat.le_refl _ | (simp; done) | omega | (simp; omega)) _)))).mono ?_; rintro e w1 ⟨hb, ⟨t', l', la, lc, ht, hi, rfl, hv⟩ | ⟨hno, rfl⟩⟩; rotate_left; (exact absurd ⟨t, l, rfl, HI.out⟩ hno); obtain rfl := Int.ofNat_inj.1 ht; obtain rfl := HI.out.uniq hi; have HB := Lib.hid hb; have HV := Lib.hid hv; clear ht hi hb hv)
  have HBW : Hid (Below w.heap.size w w1) := by show Below _ _ _; exact (by repeat (first | exact Below.refl _ _ | with_reducible refine Below.trans ?_ (Below.mono HB.out (by first | exact Nat.le_refl _ | (simp; done) | omega | (simp; omega) | (have z0 := Below.size HB.out; omega) | (have z0 := Below.size HB.out; simp at *; omega))) | with_reducible refine below_drewN ?_ _ | with_reducible refine Below.drew ?_ | with_reducible refine Below.alloc ?_ (by first | exact Nat.le_refl _ | (simp; done) | omega | (simp; omega) | (have z0 := Below.size HB.out; omega) | (have z0 := Below.size HB.out; simp at *; omega)) _ | with_reducible refine Below.setCell ?_ (by first | exact Nat.le_refl _ | (simp; done) | omega | (simp; omega) | (have z0 := Below.size HB.out; omega) | (have z0 := Below.size HB.out; simp at *; omega)) _))
  clear HB
  go_loopw [7, 8] (fun sv u wr => ∃ (i : Nat) (ks : List Nat), u = .int .i64 i ∧ i ≤ rs.length ∧ i ≤ 3 ∧ ks.length ≤ i ∧ (∀ k ∈ ks, k ∈ l) ∧ OwnInts wr w1.heap.size sv (intsOf ks) ∧ Below w1.heap.size w1 wr) (fun _ u _ => 3 - (intOf u).toNat)
  case atStart => exact ⟨0, [], rfl, Nat.zero_le _, by omega, by simp, by simp, ⟨⟨by simp [intsOf], by simp [intsOf]⟩, World.ownsRow_nil _ _ _ _⟩, Below.refl _ _⟩
  case round =>
    obtain ⟨i, ks, rfl, hi, hi3, hkl, hks, hv, hb⟩ := hrel
    have HKS := Lib.hid hks; have HVK := Lib.hid hv; have HBK := Lib.hid hb
    clear hks hv hb
    have HBR : Hid (Below w.heap.size w wr) := HBW.out.trans (HBK.out.mono HBW.out.size)
    by_cases hgo : i < rs.length ∧ i < 3 ∧ l ≠ []
    · obtain ⟨hg1, hg2, hg3⟩ := hgo
      have hll : 1 ≤ l.length := by
        cases l with
        | nil => exact absurd rfl hg3
        | cons _ _ => simp
      clear hg3
      obtain ⟨rb, ro, rfl, hrb, hrcell⟩ := (HR.out wr HBR.out).at (by omega)
      obtain ⟨⟨g0, g1, g2, g3⟩, ⟨k1, k2⟩, ⟨a1, a2⟩, ⟨b1, b2⟩, ⟨c1, c2⟩⟩ := hrcell i hg1
      clear hrcell
      generalize hre : rs[i] = r at g0 g1 g2 g3 k1 k2 a1 a2 b1 b2 c1 c2
      clear hre
      obtain ⟨j, hj, hjl⟩ := pick_nat r.a (l.length : Int) (by omega)
      have HLI : Hid (Ints wr (.slice la l.length lc) (intsOf l)) := HV.out.ints.below (Nat.le_refl _) HBK.out
      obtain ⟨lb, lo, rfl, hlb, hlc⟩ := HLI.out.at (by rw [intsOf_length]; omega)
      have e1 := hlc j (by rw [intsOf_length]; omega)
      obtain ⟨p, hp⟩ : ∃ p, p = l.getD j 0 := ⟨_, rfl⟩
      have hpm : p ∈ l := by rw [hp, List.getD_eq_getElem?_getD, List.getElem?_eq_getElem (by omega)]; exact List.getElem_mem (by omega)
      rw [show (intsOf l).getD j 0 = (p : Int) by rw [hp]; simp [intsOf, List.getD, show j < l.length by omega]] at e1
      have hpt := (places_obj HI.out.2.2.2.1 p hpm).2.2.2
      have HJ := Lib.hid hj; have HPM := Lib.hid hpm
      have HPI : Hid (I64 (p : Int)) := by unfold Hid I64; omega
      have HKL : Hid ((intsOf ks).length ≤ 3) := by rw [Hid, intsOf_length]; omega
      clear hj hp hpm hlc
      go_wp2_with (first
        | (go_at_call 15; refine (picked_any _ _ _ (by omega) (by omega) (by omega) (by omega)).mono ?_; rintro e w' ⟨rfl, rfl⟩; rw [HJ.out])
        | (at_builtin; refine wpl_append_ints rfl _ _ rfl w1.heap.size u7 (intsOf ks) rfl (HVK.out.below (by repeat (first | exact Below.refl _ _ | with_reducible refine below_drewN ?_ _ | with_reducible refine Below.drew ?_ | with_reducible refine Below.alloc ?_ (by first | exact Nat.le_refl _ | (simp; done) | omega | (simp; omega)) _ | with_reducible refine Below.setCell ?_ (by first | exact Nat.le_refl _ | (simp; done) | omega | (simp; omega)) _))) _ [(p : Int)] rfl (built_at _ _ (by simp) HPI.out) (by have := HKL.out; simp; omega) (by have := HBK.out.size; simp; omega) ?_; intro v7 w7 hv7 hg7 hm7; have HV7 := Lib.hid hv7; have HG7 := Lib.hid hg7; clear hv7 hg7 hm7))
      go_roundw
      case rel =>
        refine ⟨i + 1, ks ++ [p], by go_num, by omega, by omega, by simp; omega, ?_, ?_, ?_⟩
        · intro k hk
          rcases List.mem_append.1 hk with hk | hk
          · exact HKS.out k hk
          · simp at hk; subst hk; exact HPM.out
        · have := HV7.out
          rwa [show intsOf ks ++ [(p : Int)] = intsOf (ks ++ [p]) by simp [intsOf]] at this
        · exact (HBK.out.alloc (by have := HBK.out.size; omega) _).grown HG7.out (by have := HBK.out.size; simp; omega) (fun j hj => by have := (HVK.out.lt hj).1; omega)
      case measure => simp [intOf]; omega
    · have HE : Hid (RetRoots w l (.returned u7) wr) :=
        ⟨ks, u7, by omega, HKS.out, rfl, HVK.out.mono HBW.out.size, HBR.out⟩
      by_cases h1 : i < rs.length
      · by_cases h2 : i < 3
        · obtain rfl : l = [] := Classical.byContradiction fun h => hgo ⟨h1, h2, h⟩
          go_wp2
          go_ret
          exact HE.out
        · have h2' : ¬ ((i : Int) < 3) := by omega
          go_wp2
          go_ret
          exact HE.out
      · obtain rfl : i = rs.length := by omega
        go_wp2
        go_ret
        exact HE.out
end Go.Proofs.Ytbeilcaadpopmab
