/- Walks: limewashkeep.places, the closure of CompactsSame. -/
import Derived.Test.YtbeilcaadpopmabCl
import Derived.Test.YtbeilcaadpopmabWs
set_option linter.unusedVariables false
set_option linter.unusedSimpArgs false
namespace Go.Proofs.Ytbeilcaadpopmab
open Go.RowKit

set_option maxHeartbeats 400000 in
theorem keepPlaces_any (v : Value) (xs : List Int) (t : Nat) (l : List Nat) (w : World) (h : Ints w v xs) (hi : HeapIs xs t l) :
    Calls Try.prog 39 #[.agg #[v, .int .i64 t]] w fun e w' => (∃ a c, e = .returned (.slice a l.length c) ∧ OwnInts w' w.heap.size (.slice a l.length c) (intsOf l)) ∧ Below w.heap.size w w' := by
  obtain ⟨a, c, rfl, hc, hcm, _⟩ := h.len
  have HF : Hid (∀ W, Below w.heap.size w W → Ints W (.slice a xs.length c) xs) := fun W hW => h.below (Nat.le_refl _) hW
  have HI := Lib.hid hi
  clear h hi
  go_enter Try.func39, Try.ntmps39
  go_wp2_with (go_at_call 18; refine (Places_any _ xs _ _ (HF.out _ (by repeat (first | exact Below.refl _ _ | with_reducible refine below_drewN ?_ _ | with_reducible refine Below.drew ?_ | with_reducible refine Below.alloc ?_ (by first | exact Nat.le_refl _ | (simp; done) | omega | (simp; omega)) _ | with_reducible refine Below.setCell ?_ (by first | exact Nat.le_refl _ | (simp; done) | omega | (simp; omega)) _)))).mono ?_; rintro e w1 ⟨hb, ⟨t', l', la, lc, ht, hi, rfl, hv⟩ | ⟨hno, rfl⟩⟩; rotate_left; (exact absurd ⟨t, l, rfl, HI.out⟩ hno); obtain rfl := Int.ofNat_inj.1 ht; obtain rfl := HI.out.uniq hi; have HB := Lib.hid hb; have HV := Lib.hid hv; clear ht hi hb hv)
  go_ret
  exact ⟨⟨la, lc, rfl, HV.out.mono (by simp)⟩, (by repeat (first | exact Below.refl _ _ | with_reducible refine Below.trans ?_ (Below.mono HB.out (by first | exact Nat.le_refl _ | (simp; done) | omega | (simp; omega) | (have z0 := Below.size HB.out; omega) | (have z0 := Below.size HB.out; simp at *; omega))) | with_reducible refine below_drewN ?_ _ | with_reducible refine Below.drew ?_ | with_reducible refine Below.alloc ?_ (by first | exact Nat.le_refl _ | (simp; done) | omega | (simp; omega) | (have z0 := Below.size HB.out; omega) | (have z0 := Below.size HB.out; simp at *; omega)) _ | with_reducible refine Below.setCell ?_ (by first | exact Nat.le_refl _ | (simp; done) | omega | (simp; omega) | (have z0 := Below.size HB.out; omega) | (have z0 := Below.size HB.out; simp at *; omega)) _))⟩

set_option maxHeartbeats 400000 in
theorem movedF_any (p t : Nat) (w : World) :
    Calls Try.prog 41 #[.agg #[.int .i64 (p : Int), .int .i64 (t : Int)]] w (fun e w' => e = .returned (.bool ((p : Int) != (t : Int))) ∧ Below w.heap.size w w') := by
  go_enter Try.func41, Try.ntmps41
  go_wp2
  go_ret
  exact ⟨rfl, (by repeat (first | exact Below.refl _ _ | with_reducible refine below_drewN ?_ _ | with_reducible refine Below.drew ?_ | with_reducible refine Below.alloc ?_ (by first | exact Nat.le_refl _ | (simp; done) | omega | (simp; omega)) _ | with_reducible refine Below.setCell ?_ (by first | exact Nat.le_refl _ | (simp; done) | omega | (simp; omega)) _))⟩

set_option maxHeartbeats 1000000 in
theorem indexMoves_any (v : Value) (ms : List (Nat × Nat)) (w : World) (h : Moves w v ms) (hsame : ∀ m ∈ ms, m.1 = m.2) :
    Calls Try.prog 65 #[v, .func (.func 41) #[] #[]] w fun e w' => e = .returned (.int .i64 (-1)) ∧ Below w.heap.size w w' := by
  obtain ⟨a, c, rfl, hc, hcm, _⟩ := h.2.len
  have hle := h.1
  have HH := Lib.hid h
  have HS := Lib.hid hsame
  have eg : ∀ args w, (callFunc 41 args).run Try.prog w = .ok (.enter 41 args) w := fun _ _ => by kernel_rfl
  clear h hsame
  go_enter Try.func65, Try.ntmps65
  go_wp2
  go_loopw [8] (fun u wr => ∃ k : Nat, u = .int .i64 k ∧ k ≤ ms.length ∧ Below w.heap.size w wr) (fun u _ => ms.length - (intOf u).toNat)
  case atStart => exact ⟨0, rfl, Nat.zero_le _, Below.refl _ _⟩
  case round =>
    obtain ⟨k, rfl, hk, hb⟩ := hrel
    by_cases hlt : k < ms.length
    · obtain ⟨b, o, rfl, hbs, hcell⟩ := Moves.at (HH.out.below (Nat.le_refl _) hb) (by omega)
      obtain ⟨c1, c2⟩ := hcell k hlt
      have hs := HS.out _ (List.getElem_mem hlt)
      rw [← hs] at c2
      generalize ms[k].1 = p at c1 c2
      have HB := Lib.hid hb
      clear hcell hs hb
      go_wp2_with (go_at_call 41; refine (movedF_any p p _).mono ?_; rintro e w' ⟨rfl, hb2⟩; rw [show ((p : Int) != (p : Int)) = false by simp])
      go_roundw
      case rel => exact ⟨k + 1, by go_num, by omega, HB.out.trans ((show Below wr.heap.size wr w' from hb2).mono HB.out.size)⟩
      case measure => simp [intOf]; omega
    · go_wp2
      go_ret
      exact ⟨rfl, hb⟩

set_option maxHeartbeats 1000000 in
theorem containsMoves_any (v : Value) (ms : List (Nat × Nat)) (w : World) (h : Moves w v ms) (hsame : ∀ m ∈ ms, m.1 = m.2) :
    Calls Try.prog 40 #[v, .func (.func 41) #[] #[]] w fun e w' => e = .returned (.bool false) ∧ Below w.heap.size w w' := by
  have HH := Lib.hid h; have HS := Lib.hid hsame
  clear h hsame
  go_enter Try.func40, Try.ntmps40
  go_wp2_with (go_at_call 65; refine (indexMoves_any _ ms _ HH.out HS.out).mono ?_; rintro e w' ⟨rfl, hb⟩)
  go_ret
  exact ⟨ret_bool (by simp), hb⟩
end Go.Proofs.Ytbeilcaadpopmab
