/- The law AllocsGrow. -/
import Derived.Test.YtbeilcaadpopmabAl
import Derived.Test.YtbeilcaadpopmabWs
import Derived.Test.YtbeilcaadpopmabMk
import Derived.Test.YtbeilcaadpopmabPg
import Derived.Test.YtbeilcaadpopmabWa
set_option linter.unusedVariables false
set_option linter.unusedSimpArgs false
namespace Go.Proofs.Ytbeilcaadpopmab
open Go.RowKit

/-- What a round knows: the box at B holds a heap of m words with i objects of n fields each. -/
def GrInv (w : World) (B m n : Nat) (u : Value) (wr : World) : Prop :=
  ∃ (i t : Nat) (xs : List Int) (l : List Nat) (a : Option Addr) (c : Nat), u = .int .i64 i ∧ i ≤ m ∧ HeapIs xs t l ∧ l.length = i ∧ xs.length = m ∧ t = 1 + i * (2 + n) ∧
    wr.cell? ⟨B, 0, none⟩ = some (.slice a m c) ∧ wr.cell? ⟨B, 1, none⟩ = some (.int .i64 (t : Int)) ∧ wr.frozen? ⟨B, 0, none⟩ = false ∧ wr.frozen? ⟨B, 1, none⟩ = false ∧
    Ints wr (.slice a m c) xs ∧ B < wr.heap.size ∧ Below w.heap.size w wr

set_option maxHeartbeats 4000000 in
theorem allocsGrow_any (x y : Int) (w : World) (hx : I64 x) (hy : I64 y) :
    Calls Try.prog 3 #[.int .i64 x, .int .i64 y] w fun e w' => e = .returned (.bool true) ∧ Below w.heap.size w w' := by
  unfold I64 at hx hy
  obtain ⟨hx1, hx2⟩ := hx
  obtain ⟨hy1, hy2⟩ := hy
  obtain ⟨k, hk, hk1⟩ : ∃ k : Nat, pick x 200 = (k : Int) ∧ k < 200 := ⟨(pick x 200).toNat, by have := pick_lo x 200 (by decide); omega, by have := pick_lo x 200 (by decide); have := pick_hi x 200 (by decide); omega⟩
  obtain ⟨n, hn, hn1⟩ : ∃ n : Nat, pick y 7 = (n : Int) ∧ n < 7 := ⟨(pick y 7).toNat, by have := pick_lo y 7 (by decide); omega, by have := pick_lo y 7 (by decide); have := pick_hi y 7 (by decide); omega⟩
  have HK := Lib.hid hk; have HN := Lib.hid hn; clear hk hn
  go_enter Try.func3, Try.ntmps3
  go_wp2_with (first | (go_at_call 15; refine (picked_any _ _ _ (by omega) (by omega) (by omega) (by omega)).mono ?_; rintro e w' ⟨rfl, rfl⟩; first | rw [HK.out] | rw [HN.out]) | (go_at_call 16; refine (new_any _ _).mono ?_; rintro e w1 ⟨hb, ⟨m, a, c, hm, hm1, hm2, rfl, hv⟩ | ⟨hno, rfl⟩⟩; rotate_left; (exfalso; omega)))
  have hmk1 : m ≤ k + 1 := by omega
  have hmk2 : k + 1 ≤ m := by omega
  have hm200 : m ≤ 200 := by omega
  have HM := Lib.hid hm; clear hm
  have HI0 := Lib.hid (HeapIs.new hm1 hm2)
  have HV0 : Hid (∀ w2, Below w1.heap.size w1 w2 → Ints w2 (.slice a m c) (List.replicate m 0)) := fun w2 hb2 => (by have := hv.ints.below (Nat.le_refl _) hb2; simpa using this)
  have HB0 : Hid (∀ w2, Below w1.heap.size w1 w2 → Below w.heap.size w w2) := fun w2 hb2 => hb.trans (hb2.mono hb.size)
  have hwb := hb.size
  clear hv hb
  go_loopw [28] (fun u wr => GrInv w w1.heap.size m n u wr) (fun u _ => m - (intOf u).toNat)
  case atStart => exact ⟨0, 1, List.replicate m 0, [], a, c, rfl, by omega, HI0.out, rfl, by simp, by omega, by simp, by simp, by simp, by simp, HV0.out _ (by repeat (first | exact Below.refl _ _ | with_reducible refine below_drewN ?_ _ | with_reducible refine Below.drew ?_ | with_reducible refine Below.alloc ?_ (by first | exact Nat.le_refl _ | (simp; done) | omega | (simp; omega)) _ | with_reducible refine Below.setCell ?_ (by first | exact Nat.le_refl _ | (simp; done) | omega | (simp; omega)) _)), by simp, HB0.out _ (by repeat (first | exact Below.refl _ _ | with_reducible refine below_drewN ?_ _ | with_reducible refine Below.drew ?_ | with_reducible refine Below.alloc ?_ (by first | exact Nat.le_refl _ | (simp; done) | omega | (simp; omega)) _ | with_reducible refine Below.setCell ?_ (by first | exact Nat.le_refl _ | (simp; done) | omega | (simp; omega)) _))⟩
  case round =>
    obtain ⟨i, t, xs, l, a1, c1, rfl, him, his, hl, hxs, ht, x0, x1, y0, y1, hI, hBlt, hbel⟩ := hrel
    have i1 := his.1
    have i2 := his.2.1
    have i3 := his.2.2.1
    have hti : i * 2 + 1 ≤ t := by rw [ht, Nat.mul_add]; omega
    have hn6 : n ≤ 6 := by omega
    have HOK : Hid (HeapOk xs (t : Int)) := ⟨t, l, rfl, his⟩
    have HX := Lib.hid hxs
    have HT := Lib.hid ht
    have HL := Lib.hid hl
    have HIS := Lib.hid his
    have HII : Hid (∀ w2, Below wr.heap.size wr w2 → Ints w2 (.slice a1 m c1) xs) := fun w2 hb2 => hI.below (Nat.le_refl _) hb2
    have HB := Lib.hid hbel
    rw [hxs] at i1 i3
    clear hbel hI ht hl hxs his
    by_cases hfit : t + 2 + n ≤ m
    · have hd : ((t : Int) != 1 + (i : Int) * (2 + (n : Int))) = false := by rw [HT.out]; simp
      have him2 : i < m := by omega
      have hq : (i : Int) * (2 + (n : Int)) ≤ 400 ∧ 0 ≤ (i : Int) * (2 + (n : Int)) := by have h := HT.out; rw [show (i : Int) * (2 + (n : Int)) = ((i * (2 + n) : Nat) : Int) by simp]; omega
      obtain ⟨hq1, hq2⟩ := hq
      have HG : Hid (HeapIs (xs.set (t + 1) (n : Int)) (t + 2 + n) (l ++ [t])) := HIS.out.grow hn6 (by rw [HX.out]; exact hfit)
      have HGK : Hid (HeapOk (xs.set (t + 1) (n : Int)) ((t + 2 + n : Nat) : Int)) := ⟨_, _, rfl, HG.out⟩
      go_wp2_with (first | (go_at_call 17; refine (alloc_any _ xs _ _ _ (HII.out _ (by repeat (first | exact Below.refl _ _ | with_reducible refine below_drewN ?_ _ | with_reducible refine Below.drew ?_ | with_reducible refine Below.alloc ?_ (by first | exact Nat.le_refl _ | (simp; done) | omega | (simp; omega)) _ | with_reducible refine Below.setCell ?_ (by first | exact Nat.le_refl _ | (simp; done) | omega | (simp; omega)) _)))).mono ?_; rintro e w2 ⟨hb2, ⟨er, her, rfl⟩ | ⟨t', k', a2, c2, ht', hk', _, _, _, rfl, hv2⟩⟩; (exfalso; exact her.not HOK.out hn6 (by rw [HX.out]; exact hfit)); rw [HX.out] at hv2; rw [HX.out]; obtain rfl := Int.ofNat_inj.1 ht'; obtain rfl := Int.ofNat_inj.1 hk'; clear ht' hk'; have zc1 := Nat.lt_of_lt_of_le (show w1.heap.size < _ from (by first | (simp; done) | omega | (simp; omega))) (Below.size hb2); have fc1_0 := Below.cell hb2 (p := ⟨w1.heap.size, 0, none⟩) (by first | (simp; done) | omega | (simp; omega)); have gc1_0 := Below.frozen hb2 (p := ⟨w1.heap.size, 0, none⟩) (by first | (simp; done) | omega | (simp; omega)); have fc1_1 := Below.cell hb2 (p := ⟨w1.heap.size, 1, none⟩) (by first | (simp; done) | omega | (simp; omega)); have gc1_1 := Below.frozen hb2 (p := ⟨w1.heap.size, 1, none⟩) (by first | (simp; done) | omega | (simp; omega)); (try simp at fc1_0 gc1_0 fc1_1 gc1_1)) | (go_at_call 19; refine (check_any _ (xs.set (t + 1) (n : Int)) _ _ (hv2.below (by repeat (first | exact Below.refl _ _ | with_reducible refine below_drewN ?_ _ | with_reducible refine Below.drew ?_ | with_reducible refine Below.alloc ?_ (by first | exact Nat.le_refl _ | (simp; done) | omega | (simp; omega)) _ | with_reducible refine Below.setCell ?_ (by first | exact Nat.le_refl _ | (simp; done) | omega | (simp; omega)) _))).ints).mono ?_; rintro e w3 ⟨hb3, ⟨_, rfl⟩ | ⟨hno, rfl⟩⟩; rotate_left; exact absurd HGK.out hno; have zc2 := Nat.lt_of_lt_of_le (show w1.heap.size < _ from (by first | (simp; done) | omega | (simp; omega))) (Below.size hb3); have fc2_0 := Below.cell hb3 (p := ⟨w1.heap.size, 0, none⟩) (by first | (simp; done) | omega | (simp; omega)); have gc2_0 := Below.frozen hb3 (p := ⟨w1.heap.size, 0, none⟩) (by first | (simp; done) | omega | (simp; omega)); have fc2_1 := Below.cell hb3 (p := ⟨w1.heap.size, 1, none⟩) (by first | (simp; done) | omega | (simp; omega)); have gc2_1 := Below.frozen hb3 (p := ⟨w1.heap.size, 1, none⟩) (by first | (simp; done) | omega | (simp; omega)); (try simp at fc2_0 gc2_0 fc2_1 gc2_1); have zc3 := Nat.lt_of_lt_of_le (show w2.heap.size < _ from (by first | (simp; done) | omega | (simp; omega))) (Below.size hb3); have fc3_0 := Below.cell hb3 (p := ⟨w2.heap.size, 0, none⟩) (by first | (simp; done) | omega | (simp; omega)); have gc3_0 := Below.frozen hb3 (p := ⟨w2.heap.size, 0, none⟩) (by first | (simp; done) | omega | (simp; omega)); have fc3_1 := Below.cell hb3 (p := ⟨w2.heap.size, 1, none⟩) (by first | (simp; done) | omega | (simp; omega)); have gc3_1 := Below.frozen hb3 (p := ⟨w2.heap.size, 1, none⟩) (by first | (simp; done) | omega | (simp; omega)); (try simp at fc3_0 gc3_0 fc3_1 gc3_1)))
      have hHB : Below w.heap.size w w3 := ((HB.out.trans (hb2.mono (HB.out.size))).alloc (by have := HB.out.size; have := hb2.size; omega) _).trans (hb3.mono (by have := HB.out.size; have := hb2.size; simp; omega))
      have hV3 : Ints ((w3.setCell ⟨w1.heap.size, 0, none⟩ (.slice a2 m c2)).setCell ⟨w1.heap.size, 1, none⟩ (.int .i64 ((t : Int) + 2 + (n : Int)))) (.slice a2 m c2) (xs.set (t + 1) (n : Int)) := ((((hv2.below (Below.alloc (Below.refl _ _) (Nat.le_refl _) _)).below hb3).setBelow (by exact hBlt) _).setBelow (by exact hBlt) _).ints
      have HH := Lib.hid hHB; have HV3 := Lib.hid hV3; clear hHB hV3
      refine ⟨⟨i + 1, t + 2 + n, xs.set (t + 1) (n : Int), l ++ [t], a2, c2, int_eq (by omega), by omega, HG.out, by simp [HL.out], by simp [HX.out], by rw [HT.out, Nat.add_mul]; omega, ?_, ?_, ?_, ?_, HV3.out, by simp [World.setCell]; omega, (HH.out.setCell (by exact hwb) _).setCell (by exact hwb) _⟩, by simp [intOf]; omega⟩
      · simp [go_sem, *]
      · simp [go_sem, *]
      · simp [go_sem, *]
      · simp [go_sem, *]
    · have hd : decide ((m : Int) - (t : Int) < 2 + (n : Int)) = true := decide_eq_true (by omega)
      have him2 : i < m := by omega
      go_wp2_with (first | (go_at_call 17; refine (alloc_any _ xs _ _ _ (HII.out _ (by repeat (first | exact Below.refl _ _ | with_reducible refine below_drewN ?_ _ | with_reducible refine Below.drew ?_ | with_reducible refine Below.alloc ?_ (by first | exact Nat.le_refl _ | (simp; done) | omega | (simp; omega)) _ | with_reducible refine Below.setCell ?_ (by first | exact Nat.le_refl _ | (simp; done) | omega | (simp; omega)) _)))).mono ?_; rintro e w2 ⟨hb2, ⟨er, her, rfl⟩ | ⟨t', k', a2, c2, ht', hk', _, _, hf, rfl, hv2⟩⟩; rotate_left; (exfalso; obtain rfl := Int.ofNat_inj.1 ht'; obtain rfl := Int.ofNat_inj.1 hk'; rw [HX.out] at hf; exact hfit hf); obtain rfl : er = 1 := her.uniq (.inr (.inr ⟨HOK.out, by omega, by omega, by rw [HX.out]; omega, rfl⟩)); have zc4 := Nat.lt_of_lt_of_le (show w1.heap.size < _ from (by first | (simp; done) | omega | (simp; omega))) (Below.size hb2); have fc4_0 := Below.cell hb2 (p := ⟨w1.heap.size, 0, none⟩) (by first | (simp; done) | omega | (simp; omega)); have gc4_0 := Below.frozen hb2 (p := ⟨w1.heap.size, 0, none⟩) (by first | (simp; done) | omega | (simp; omega)); have fc4_1 := Below.cell hb2 (p := ⟨w1.heap.size, 1, none⟩) (by first | (simp; done) | omega | (simp; omega)); have gc4_1 := Below.frozen hb2 (p := ⟨w1.heap.size, 1, none⟩) (by first | (simp; done) | omega | (simp; omega)); (try simp at fc4_0 gc4_0 fc4_1 gc4_1)) | (go_at_call 18; refine (Places_any _ xs _ _ (HII.out _ (by repeat (first | exact Below.refl _ _ | with_reducible refine Below.trans ?_ (Below.mono hb2 (by first | exact Nat.le_refl _ | (simp; done) | omega | (simp; omega) | (have z0 := Below.size hb2; omega) | (have z0 := Below.size hb2; simp at *; omega))) | with_reducible refine below_drewN ?_ _ | with_reducible refine Below.drew ?_ | with_reducible refine Below.alloc ?_ (by first | exact Nat.le_refl _ | (simp; done) | omega | (simp; omega) | (have z0 := Below.size hb2; omega) | (have z0 := Below.size hb2; simp at *; omega)) _ | with_reducible refine Below.setCell ?_ (by first | exact Nat.le_refl _ | (simp; done) | omega | (simp; omega) | (have z0 := Below.size hb2; omega) | (have z0 := Below.size hb2; simp at *; omega)) _)))).mono ?_; rintro e w3 ⟨hb3, ⟨t', l', a2, c2, ht', his', rfl, hv3⟩ | ⟨hno, rfl⟩⟩; rotate_left; exact absurd HOK.out hno; obtain rfl := Int.ofNat_inj.1 ht'; obtain rfl := HIS.out.uniq his'; rw [HL.out]; have zc5 := Nat.lt_of_lt_of_le (show w1.heap.size < _ from (by first | (simp; done) | omega | (simp; omega))) (Below.size hb3); have fc5_0 := Below.cell hb3 (p := ⟨w1.heap.size, 0, none⟩) (by first | (simp; done) | omega | (simp; omega)); have gc5_0 := Below.frozen hb3 (p := ⟨w1.heap.size, 0, none⟩) (by first | (simp; done) | omega | (simp; omega)); have fc5_1 := Below.cell hb3 (p := ⟨w1.heap.size, 1, none⟩) (by first | (simp; done) | omega | (simp; omega)); have gc5_1 := Below.frozen hb3 (p := ⟨w1.heap.size, 1, none⟩) (by first | (simp; done) | omega | (simp; omega)); (try simp at fc5_0 gc5_0 fc5_1 gc5_1)))
      go_ret
      exact ⟨rfl, (by repeat (first | exact Below.refl _ _ | with_reducible refine Below.trans ?_ (Below.mono hb3 (by first | exact Nat.le_refl _ | (simp; done) | omega | (simp; omega) | (have z := Below.size hb3; omega) | (have z := Below.size hb2; omega) | (have z := Below.size HB.out; omega) | (have z0 := Below.size hb3; have z1 := Below.size hb2; have z2 := Below.size HB.out; omega) | (have z0 := Below.size hb3; have z1 := Below.size hb2; have z2 := Below.size HB.out; simp at *; omega))) | with_reducible refine Below.trans ?_ (Below.mono hb2 (by first | exact Nat.le_refl _ | (simp; done) | omega | (simp; omega) | (have z := Below.size hb3; omega) | (have z := Below.size hb2; omega) | (have z := Below.size HB.out; omega) | (have z0 := Below.size hb3; have z1 := Below.size hb2; have z2 := Below.size HB.out; omega) | (have z0 := Below.size hb3; have z1 := Below.size hb2; have z2 := Below.size HB.out; simp at *; omega))) | with_reducible refine Below.trans ?_ (Below.mono HB.out (by first | exact Nat.le_refl _ | (simp; done) | omega | (simp; omega) | (have z := Below.size hb3; omega) | (have z := Below.size hb2; omega) | (have z := Below.size HB.out; omega) | (have z0 := Below.size hb3; have z1 := Below.size hb2; have z2 := Below.size HB.out; omega) | (have z0 := Below.size hb3; have z1 := Below.size hb2; have z2 := Below.size HB.out; simp at *; omega))) | with_reducible refine below_drewN ?_ _ | with_reducible refine Below.drew ?_ | with_reducible refine Below.alloc ?_ (by first | exact Nat.le_refl _ | (simp; done) | omega | (simp; omega) | (have z := Below.size hb3; omega) | (have z := Below.size hb2; omega) | (have z := Below.size HB.out; omega) | (have z0 := Below.size hb3; have z1 := Below.size hb2; have z2 := Below.size HB.out; omega) | (have z0 := Below.size hb3; have z1 := Below.size hb2; have z2 := Below.size HB.out; simp at *; omega)) _ | with_reducible refine Below.setCell ?_ (by first | exact Nat.le_refl _ | (simp; done) | omega | (simp; omega) | (have z := Below.size hb3; omega) | (have z := Below.size hb2; omega) | (have z := Below.size HB.out; omega) | (have z0 := Below.size hb3; have z1 := Below.size hb2; have z2 := Below.size HB.out; omega) | (have z0 := Below.size hb3; have z1 := Below.size hb2; have z2 := Below.size HB.out; simp at *; omega)) _))⟩

end Go.Proofs.Ytbeilcaadpopmab
