/- Walk: limewashkeep.Heap. -/
import Derived.Test.YtbeilcaadpopmabGw
import Derived.Test.YtbeilcaadpopmabSt
import Derived.Test.YtbeilcaadpopmabRs
import Derived.Test.YtbeilcaadpopmabPh
import Derived.Test.YtbeilcaadpopmabGp
import Derived.Deep.RegionHeld3
set_option linter.unusedVariables false
set_option linter.unusedSimpArgs false
namespace Go.Proofs.Ytbeilcaadpopmab
open Go.RowKit

theorem pick_nat (x m : Int) (hm : 1 ≤ m) : ∃ k : Nat, pick x m = (k : Int) ∧ (k : Int) < m := ⟨(pick x m).toNat, by have := pick_lo x m hm; omega, by have := pick_lo x m hm; have := pick_hi x m hm; omega⟩

theorem valOk_word {xs : List Int} {t : Nat} {l : List Nat} (hi : HeapIs xs t l) {vk vn : Int} (h : ValOk l vk vn) : WordOk l (wordOf vk vn) := by
  rcases h with ⟨rfl, h1, h2⟩ | ⟨rfl, h⟩
  · refine ⟨fun _ => ?_, fun h => ?_⟩
    · rw [wordOf, if_pos rfl]; omega
    · simp [wordOf] at h
  · refine ⟨fun h0 => ?_, fun h0 h1 => ?_⟩
    · (try simp [wordOf] at h0) <;> omega
    · rcases h with rfl | h
      · simp [wordOf] at h1
      · obtain ⟨q, hq, rfl⟩ := hasB_places.1 h
        exact ⟨q, hq, by simp [wordOf]; omega⟩

theorem RetStore.one {w w' : World} {xs : List Int} {t : Nat} {l : List Nat} {p n vk vn : Int} {e : Ending} (h : RetStore w xs t p n vk vn e w') (hi : HeapIs xs t l) :
    Below w.heap.size w w' ∧ ∃ sa sn sc st er, e = .returned (.tuple #[.agg #[.slice sa sn sc, .int .i64 st], .int .i64 er]) ∧ (er ≠ 0 ∨ (er = 0 ∧ st = (t : Int) ∧
      sn = xs.length ∧ ∃ q k, q ∈ l ∧ k < nf xs q ∧ WordOk l (wordOf vk vn) ∧ OwnInts w' w.heap.size (.slice sa xs.length sc) (xs.set (q + 2 + k) (wordOf vk vn)))) := by
  obtain ⟨hb, ⟨er, he, rfl⟩ | ⟨t', l', q, k, a, c, ht, hi', ⟨f1, rfl, rfl, f2⟩, hv, rfl, ho⟩⟩ := h
  · refine ⟨hb, _, _, _, _, er, rfl, .inl ?_⟩
    rcases he with ⟨_, rfl⟩ | ⟨_, _, _, _, ⟨_, rfl⟩ | ⟨_, _, _, ⟨_, _, rfl⟩ | ⟨_, _, rfl⟩ | ⟨_, _, _, rfl⟩⟩⟩ <;> decide
  · obtain rfl := Int.ofNat_inj.1 ht
    obtain rfl := hi.uniq hi'
    exact ⟨hb, _, _, _, _, 0, rfl, .inr ⟨rfl, rfl, rfl, q, k, f1, f2, valOk_word hi hv, ho⟩⟩

/-- The box at B holds a heap of 300 words, its top at most m, its words the call's own. -/
def KhAt (w : World) (B m : Nat) (xs : List Int) (t : Nat) (l : List Nat) (a : Option Addr) (c : Nat) (wr : World) : Prop :=
  HeapIs xs t l ∧ xs.length = 300 ∧ t ≤ m ∧ wr.cell? ⟨B, 0, none⟩ = some (.slice a 300 c) ∧ wr.cell? ⟨B, 1, none⟩ = some (.int .i64 (t : Int)) ∧ wr.frozen? ⟨B, 0, none⟩ = false ∧ wr.frozen? ⟨B, 1, none⟩ = false ∧
    OwnInts wr (w.heap.size + 1) (.slice a 300 c) xs ∧ (Value.slice a 300 c).ownBlock ≠ some B ∧ Below (w.heap.size + 1) (w.alloc (.cells #[.slice none 0 0, .int .i64 0] 25)) wr

set_option maxRecDepth 100000 in
set_option maxHeartbeats 4000000 in
theorem keepHeap_any (v : Value) (rs : List Raw4) (w : World) (h : Raws w v rs) :
    Calls Try.prog 33 #[v, .int .i64 300] w fun e w' => ∃ (xs : List Int) (t : Nat) (l : List Nat) (a : Option Addr) (c : Nat), HeapIs xs t l ∧ xs.length = 300 ∧ t ≤ 241 ∧ e = .returned (.agg #[.slice a 300 c, .int .i64 (t : Int)]) ∧
      OwnInts w' w.heap.size (.slice a 300 c) xs ∧ Below w.heap.size w w' := by
  obtain ⟨ra, rc, rfl, hrc, hrcm, _⟩ := h.len
  have hle := h.le
  have HR : Hid (∀ w2, Below w.heap.size w w2 → Raws w2 (.slice ra rs.length rc) rs) := fun w2 hb2 => h.below (Nat.le_refl _) hb2
  clear h
  go_enter Try.func33, Try.ntmps33
  go_wp2_with (go_at_call 16; refine (new_any _ _).mono ?_; rintro e w1 ⟨hb, ⟨m, a, c, hm, hm1, hm2, rfl, hv⟩ | ⟨hno, rfl⟩⟩; rotate_left; (exfalso; omega); have HV1 := Lib.hid hv; have HM := Lib.hid hm; clear hv hm hm1 hm2)
  obtain rfl : m = 300 := by have := HM.out; omega
  have hm1 : 1 ≤ 300 := by omega
  clear HM hm1
  have zb := hb.size
  have HB1 := Lib.hid hb
  obtain ⟨B, hB⟩ : ∃ B, B = w1.heap.size := ⟨_, rfl⟩
  rw [World.size_alloc] at zb
  have hBw : w.heap.size + 1 ≤ B := by omega
  have HBE := Lib.hid hB
  clear hb
  rw [← hB]
  clear hB
  go_loopw [7] (fun u wr => ∃ (i : Nat) (xs : List Int) (t : Nat) (l : List Nat) (a : Option Addr) (c : Nat), u = .int .i64 i ∧ i ≤ rs.length ∧ i ≤ 40 ∧ KhAt w B (1 + 6 * i) xs t l a c wr) (fun u _ => rs.length - (intOf u).toNat)
  case atStart =>
    have b0 : Below (w.heap.size + 1) (w.alloc (.cells #[.slice none 0 0, .int .i64 0] 25)) w1 := by have := HB1.out; rw [World.size_alloc] at this; exact this
    have hv0 := HV1.out
    rw [World.size_alloc] at hv0
    refine ⟨0, List.replicate 300 0, 1, [], a, c, rfl, Nat.zero_le _, by omega, HeapIs.new (by omega) (by omega), List.length_replicate, by omega, ?_, ?_, ?_, ?_, ?_, ?_, ?_⟩
    · rw [HBE.out]; simp
    · rw [HBE.out]; simp
    · rw [HBE.out]; simp
    · rw [HBE.out]; simp
    · exact hv0.below ((Below.refl _ _).alloc (Nat.le_refl _) _)
    · intro e; have := (hv0.lt e).2; rw [← HBE.out] at this; omega
    · exact b0.alloc (by rw [← HBE.out]; exact hBw) _
  case round =>
    obtain ⟨i, xs, t, l, a, c, rfl, hi, hi40, his, hxl, ht, x0, x1, y0, y1, hv, hne, hbel⟩ := hrel
    have HIS := Lib.hid his; have HXL := Lib.hid hxl; have HV := Lib.hid hv; have HNE := Lib.hid hne; have HBEL := Lib.hid hbel
    have zr := hbel.size
    have hBr : B < wr.heap.size := World.block_lt_of_cell? wr _ x0
    rw [World.size_alloc] at zr
    have i2 := his.2.1
    have i3 := his.2.2.1
    rw [hxl] at i3
    have ill := places_len his.2.2.2.1 his.2.1
    have r0 : wr.cell? ⟨w.heap.size, 0, none⟩ = some (.slice none 0 0) := by rw [hbel.cell (p := ⟨w.heap.size, 0, none⟩) (by show w.heap.size < w.heap.size + 1; omega)]; simp
    have r1 : wr.cell? ⟨w.heap.size, 1, none⟩ = some (.int .i64 0) := by rw [hbel.cell (p := ⟨w.heap.size, 1, none⟩) (by show w.heap.size < w.heap.size + 1; omega)]; simp
    have q0 : wr.frozen? ⟨w.heap.size, 0, none⟩ = false := by rw [hbel.frozen (p := ⟨w.heap.size, 0, none⟩) (by show w.heap.size < w.heap.size + 1; omega)]; simp
    have q1 : wr.frozen? ⟨w.heap.size, 1, none⟩ = false := by rw [hbel.frozen (p := ⟨w.heap.size, 1, none⟩) (by show w.heap.size < w.heap.size + 1; omega)]; simp
    have HBW : Hid (Below w.heap.size w wr) := by
      have h1 : Below w.heap.size w (w.alloc (.cells #[.slice none 0 0, .int .i64 0] 25)) := (Below.refl _ _).alloc (Nat.le_refl _) _
      exact h1.trans (hbel.mono (by omega))
    clear his hxl hv hne hbel
    by_cases hlt : i < rs.length ∧ i < 40
    · obtain ⟨hlt1, hlt2⟩ := hlt
      obtain ⟨rb, ro, rfl, hrb, hrcell⟩ := (HR.out wr HBW.out).at (by omega)
      obtain ⟨⟨g0, g1, g2, g3⟩, ⟨k1, k2⟩, ⟨a1, a2⟩, ⟨b1, b2⟩, ⟨c1, c2⟩⟩ := hrcell i hlt1
      clear hrcell
      generalize hre : rs[i] = r at g0 g1 g2 g3 k1 k2 a1 a2 b1 b2 c1 c2
      clear hre r0 r1 q0 q1
      obtain ⟨pk, hpk, hpk3⟩ := pick_nat r.k 3 (by decide)
      have HII : Hid (∀ w2, Below wr.heap.size wr w2 → Ints w2 (.slice a 300 c) xs) := fun w2 hb2 => by have := HV.out.ints.below (Nat.le_refl _) hb2; exact this
      have HOK : Hid (HeapOk xs (t : Int)) := ⟨t, l, rfl, HIS.out⟩
      by_cases hk0 : pk = 0
      · subst hk0
        have HPK := Lib.hid hpk
        clear hpk
        go_upto_region 8 with (first
          | (go_at_call 18; refine (Places_any _ xs _ _ (HII.out _ (by repeat (first | exact Below.refl _ _ | with_reducible refine below_drewN ?_ _ | with_reducible refine Below.drew ?_ | with_reducible refine Below.alloc ?_ (by first | exact Nat.le_refl _ | (simp; done) | omega | (simp; omega)) _ | with_reducible refine Below.setCell ?_ (by first | exact Nat.le_refl _ | (simp; done) | omega | (simp; omega)) _)))).mono ?_; rintro e w2 ⟨hb2, ⟨t', l', la, lc, ht', hi', rfl, hvl⟩ | ⟨hno, rfl⟩⟩; rotate_left; (exact absurd HOK.out hno); obtain rfl := Int.ofNat_inj.1 ht'; obtain rfl := HIS.out.uniq hi'; clear ht' hi'; have zc1 := Nat.lt_of_lt_of_le (show B < _ from (by first | (simp; done) | omega | (simp; omega))) (Below.size hb2); have fc1_0 := Below.cell hb2 (p := ⟨B, 0, none⟩) (by first | (simp; done) | omega | (simp; omega)); have gc1_0 := Below.frozen hb2 (p := ⟨B, 0, none⟩) (by first | (simp; done) | omega | (simp; omega)); have fc1_1 := Below.cell hb2 (p := ⟨B, 1, none⟩) (by first | (simp; done) | omega | (simp; omega)); have gc1_1 := Below.frozen hb2 (p := ⟨B, 1, none⟩) (by first | (simp; done) | omega | (simp; omega)); (try simp at fc1_0 gc1_0 fc1_1 gc1_1); have zc2 := Nat.lt_of_lt_of_le (show wr.heap.size < _ from (by first | (simp; done) | omega | (simp; omega))) (Below.size hb2); have fc2_0 := Below.cell hb2 (p := ⟨wr.heap.size, 0, none⟩) (by first | (simp; done) | omega | (simp; omega)); have gc2_0 := Below.frozen hb2 (p := ⟨wr.heap.size, 0, none⟩) (by first | (simp; done) | omega | (simp; omega)); have fc2_1 := Below.cell hb2 (p := ⟨wr.heap.size, 1, none⟩) (by first | (simp; done) | omega | (simp; omega)); have gc2_1 := Below.frozen hb2 (p := ⟨wr.heap.size, 1, none⟩) (by first | (simp; done) | omega | (simp; omega)); have fc2_2 := Below.cell hb2 (p := ⟨wr.heap.size, 2, none⟩) (by first | (simp; done) | omega | (simp; omega)); have gc2_2 := Below.frozen hb2 (p := ⟨wr.heap.size, 2, none⟩) (by first | (simp; done) | omega | (simp; omega)); have fc2_3 := Below.cell hb2 (p := ⟨wr.heap.size, 3, none⟩) (by first | (simp; done) | omega | (simp; omega)); have gc2_3 := Below.frozen hb2 (p := ⟨wr.heap.size, 3, none⟩) (by first | (simp; done) | omega | (simp; omega)); (try simp at fc2_0 gc2_0 fc2_1 gc2_1 fc2_2 gc2_2 fc2_3 gc2_3); have HB2 := Lib.hid hb2; clear hb2 hvl)
          | (go_at_call 15; refine (picked_any _ _ _ (by omega) (by omega) (by omega) (by omega)).mono ?_; rintro e w' ⟨rfl, rfl⟩; rw [HPK.out]))
        have HBw2 : Hid (Below wr.heap.size wr w2) := by show Below _ _ _; exact (by repeat (first | exact Below.refl _ _ | with_reducible refine Below.trans ?_ (Below.mono HB2.out (by first | exact Nat.le_refl _ | (simp; done) | omega | (simp; omega) | (have z0 := Below.size HB2.out; omega) | (have z0 := Below.size HB2.out; simp at *; omega))) | with_reducible refine below_drewN ?_ _ | with_reducible refine Below.drew ?_ | with_reducible refine Below.alloc ?_ (by first | exact Nat.le_refl _ | (simp; done) | omega | (simp; omega) | (have z0 := Below.size HB2.out; omega) | (have z0 := Below.size HB2.out; simp at *; omega)) _ | with_reducible refine Below.setCell ?_ (by first | exact Nat.le_refl _ | (simp; done) | omega | (simp; omega) | (have z0 := Below.size HB2.out; omega) | (have z0 := Below.size HB2.out; simp at *; omega)) _))
        have f0 := (HBw2.out.cell (p := ⟨B, 0, none⟩) hBr).trans x0
        have f1 := (HBw2.out.cell (p := ⟨B, 1, none⟩) hBr).trans x1
        have f2 := (HBw2.out.frozen (p := ⟨B, 0, none⟩) hBr).trans y0
        have f3 := (HBw2.out.frozen (p := ⟨B, 1, none⟩) hBr).trans y1
        have HI2 : Hid (∀ W, Below w2.heap.size w2 W → Ints W (.slice a 300 c) xs) := fun W hW => HII.out W (HBw2.out.trans (hW.mono HBw2.out.size))
        have HKEEP : Hid (∀ W, Below w2.heap.size w2 W → W.cell? ⟨B, 0, none⟩ = some (.slice a 300 c) ∧ W.cell? ⟨B, 1, none⟩ = some (.int .i64 (t : Int)) ∧ W.cell? ⟨wr.heap.size, 1, none⟩ = some (.int .i64 r.a) ∧ Below w2.heap.size w2 W) :=
          fun W hW => ⟨(hW.cell (p := ⟨B, 0, none⟩) zc1).trans f0, (hW.cell (p := ⟨B, 1, none⟩) zc1).trans f1, (hW.cell (p := ⟨wr.heap.size, 1, none⟩) zc2).trans fc2_1, hW⟩
        clear fc1_0 fc1_1 gc1_0 gc1_1 gc2_0 gc2_1 gc2_2 gc2_3 x0 x1 y0 y1 g0 g1 g2 g3
        obtain ⟨n, hn, hn5⟩ := pick_nat r.a 5 (by decide)
        have HN := Lib.hid hn
        clear hn
        have hfit : t + 2 + n ≤ 300 := by omega
        have hn6 : n ≤ 6 := by omega
        have HG : Hid (HeapIs (xs.set (t + 1) (n : Int)) (t + 2 + n) (l ++ [t])) := HIS.out.grow hn6 (by rw [HXL.out]; exact hfit)
        have HF2 := Lib.hid f2; have HF3 := Lib.hid f3
        clear f0 f1 f2 f3 fc2_0 fc2_1 fc2_2 fc2_3
        go_region_held3 (fun W => W.cell? ⟨B, 0, none⟩ = some (.slice a 300 c) ∧ W.cell? ⟨B, 1, none⟩ = some (.int .i64 (t : Int)) ∧ W.cell? ⟨wr.heap.size, 1, none⟩ = some (.int .i64 r.a) ∧ Below w2.heap.size w2 W)
          (first | exact HKEEP.out _ (by repeat (first | exact Below.refl _ _ | with_reducible refine Below.trans ?_ (Below.mono hb3 (by first | exact Nat.le_refl _ | (simp; done) | omega | (simp; omega) | (have z0 := Below.size hb3; omega) | (have z0 := Below.size hb3; simp at *; omega))) | with_reducible refine below_drewN ?_ _ | with_reducible refine Below.drew ?_ | with_reducible refine Below.alloc ?_ (by first | exact Nat.le_refl _ | (simp; done) | omega | (simp; omega) | (have z0 := Below.size hb3; omega) | (have z0 := Below.size hb3; simp at *; omega)) _ | with_reducible refine Below.setCell ?_ (by first | exact Nat.le_refl _ | (simp; done) | omega | (simp; omega) | (have z0 := Below.size hb3; omega) | (have z0 := Below.size hb3; simp at *; omega)) _)) | exact HKEEP.out _ (by repeat (first | exact Below.refl _ _ | with_reducible refine below_drewN ?_ _ | with_reducible refine Below.drew ?_ | with_reducible refine Below.alloc ?_ (by first | exact Nat.le_refl _ | (simp; done) | omega | (simp; omega)) _ | with_reducible refine Below.setCell ?_ (by first | exact Nat.le_refl _ | (simp; done) | omega | (simp; omega)) _)))
          (first | (go_at_call 15; refine (picked_any _ _ _ (by omega) (by omega) (by omega) (by omega)).mono ?_; rintro e w' ⟨rfl, rfl⟩; rw [HN.out]) | (go_at_call 17; refine (alloc_any _ xs _ _ _ (HI2.out _ (by repeat (first | exact Below.refl _ _ | with_reducible refine below_drewN ?_ _ | with_reducible refine Below.drew ?_ | with_reducible refine Below.alloc ?_ (by first | exact Nat.le_refl _ | (simp; done) | omega | (simp; omega)) _ | with_reducible refine Below.setCell ?_ (by first | exact Nat.le_refl _ | (simp; done) | omega | (simp; omega)) _)))).mono ?_; rintro e w3 ⟨hb3, ⟨er, her, rfl⟩ | ⟨t', k', a2, c2, ht', hk', _, _, _, rfl, hv3⟩⟩; (exfalso; exact her.not HOK.out hn6 (by rw [HXL.out]; exact hfit)); rw [HXL.out] at hv3; rw [HXL.out]; obtain rfl := Int.ofNat_inj.1 ht'; obtain rfl := Int.ofNat_inj.1 hk'; clear ht' hk'; have HV3 := Lib.hid hv3; clear hv3; (try have zc3 := Nat.lt_of_lt_of_le (show w2.heap.size < _ from (by first | (simp; done) | omega | (simp; omega))) (Below.size hb3); have fc3_0 := Below.cell hb3 (p := ⟨w2.heap.size, 0, none⟩) (by first | (simp; done) | omega | (simp; omega)); have gc3_0 := Below.frozen hb3 (p := ⟨w2.heap.size, 0, none⟩) (by first | (simp; done) | omega | (simp; omega)); have fc3_1 := Below.cell hb3 (p := ⟨w2.heap.size, 1, none⟩) (by first | (simp; done) | omega | (simp; omega)); have gc3_1 := Below.frozen hb3 (p := ⟨w2.heap.size, 1, none⟩) (by first | (simp; done) | omega | (simp; omega)); (try simp at fc3_0 gc3_0 fc3_1 gc3_1))))
        all_goals (
          rename_i hHeld
          obtain ⟨e0, e1, _, hbw⟩ := hHeld
          have e2 := (hbw.frozen (p := ⟨B, 0, none⟩) zc1).trans HF2.out
          have e3 := (hbw.frozen (p := ⟨B, 1, none⟩) zc1).trans HF3.out
          have HBWW := Lib.hid hbw
          have HL3 : Hid (∀ k, (Value.slice a2 300 c2).ownBlock = some k → w2.heap.size ≤ k) := fun k hk => Nat.le_trans (by simp) (HV3.out.lt hk).1
          have zw := hbw.size
          clear hbw
          go_wp2_with fail
          go_roundw
          case rel =>
            refine ⟨i + 1, xs.set (t + 1) (n : Int), t + 2 + n, l ++ [t], a2, c2, by go_num, by omega, by omega, HG.out, by simp [HXL.out], by omega, ?_, ?_, ?_, ?_, ?_, ?_, ?_⟩
            · simp [go_sem, *]
            · simp [go_sem, *]
            · simp [go_sem, *]
            · simp [go_sem, *]
            · refine OwnInts.mono (base := w2.heap.size) ?_ (Nat.le_trans zr HBw2.out.size)
              with_reducible refine OwnInts.setFar ?_ (fun e => absurd zc1 (Nat.not_lt_of_le (HL3.out B e))) _
              with_reducible refine OwnInts.setFar ?_ (fun e => absurd zc1 (Nat.not_lt_of_le (HL3.out B e))) _
              first
                | (with_reducible refine OwnInts.setFar ?_ (fun e => absurd (Nat.lt_of_lt_of_le (show w2.heap.size < _ from by simp) (HV3.out.lt e).1) (Nat.lt_irrefl _)) _
                   with_reducible refine OwnInts.setFar ?_ (fun e => absurd (Nat.lt_of_lt_of_le (show w2.heap.size < _ from by simp) (HV3.out.lt e).1) (Nat.lt_irrefl _)) _
                   exact HV3.out.mono (by simp))
                | exact (HV3.out.below (Below.alloc (Below.refl _ _) (Nat.le_refl _) _)).mono (by simp)
            · exact fun e => absurd zc1 (Nat.not_lt_of_le (HL3.out B e))
            · exact (((HBEL.out.trans (HBw2.out.mono zr)).trans (HBWW.out.mono (Nat.le_trans zr HBw2.out.size))).setCell hBw _).setCell hBw _
          case measure => simp [intOf]; omega)
      · have hpk0 : ((pk : Int) == 0) = false := by simpa using hk0
        have HPK := Lib.hid hpk
        have HK0 := Lib.hid hk0
        clear hpk hk0
        by_cases hl0 : l = []
        · subst hl0
          go_upto_region 8 with (first
            | (go_at_call 18; refine (Places_any _ xs _ _ (HII.out _ (by repeat (first | exact Below.refl _ _ | with_reducible refine below_drewN ?_ _ | with_reducible refine Below.drew ?_ | with_reducible refine Below.alloc ?_ (by first | exact Nat.le_refl _ | (simp; done) | omega | (simp; omega)) _ | with_reducible refine Below.setCell ?_ (by first | exact Nat.le_refl _ | (simp; done) | omega | (simp; omega)) _)))).mono ?_; rintro e w2 ⟨hb2, ⟨t', l', la, lc, ht', hi', rfl, hvl⟩ | ⟨hno, rfl⟩⟩; rotate_left; (exact absurd HOK.out hno); obtain rfl := Int.ofNat_inj.1 ht'; obtain rfl := HIS.out.uniq hi'; clear ht' hi'; have zc4 := Nat.lt_of_lt_of_le (show B < _ from (by first | (simp; done) | omega | (simp; omega))) (Below.size hb2); have fc4_0 := Below.cell hb2 (p := ⟨B, 0, none⟩) (by first | (simp; done) | omega | (simp; omega)); have gc4_0 := Below.frozen hb2 (p := ⟨B, 0, none⟩) (by first | (simp; done) | omega | (simp; omega)); have fc4_1 := Below.cell hb2 (p := ⟨B, 1, none⟩) (by first | (simp; done) | omega | (simp; omega)); have gc4_1 := Below.frozen hb2 (p := ⟨B, 1, none⟩) (by first | (simp; done) | omega | (simp; omega)); (try simp at fc4_0 gc4_0 fc4_1 gc4_1); have zc5 := Nat.lt_of_lt_of_le (show wr.heap.size < _ from (by first | (simp; done) | omega | (simp; omega))) (Below.size hb2); have fc5_0 := Below.cell hb2 (p := ⟨wr.heap.size, 0, none⟩) (by first | (simp; done) | omega | (simp; omega)); have gc5_0 := Below.frozen hb2 (p := ⟨wr.heap.size, 0, none⟩) (by first | (simp; done) | omega | (simp; omega)); have fc5_1 := Below.cell hb2 (p := ⟨wr.heap.size, 1, none⟩) (by first | (simp; done) | omega | (simp; omega)); have gc5_1 := Below.frozen hb2 (p := ⟨wr.heap.size, 1, none⟩) (by first | (simp; done) | omega | (simp; omega)); have fc5_2 := Below.cell hb2 (p := ⟨wr.heap.size, 2, none⟩) (by first | (simp; done) | omega | (simp; omega)); have gc5_2 := Below.frozen hb2 (p := ⟨wr.heap.size, 2, none⟩) (by first | (simp; done) | omega | (simp; omega)); have fc5_3 := Below.cell hb2 (p := ⟨wr.heap.size, 3, none⟩) (by first | (simp; done) | omega | (simp; omega)); have gc5_3 := Below.frozen hb2 (p := ⟨wr.heap.size, 3, none⟩) (by first | (simp; done) | omega | (simp; omega)); (try simp at fc5_0 gc5_0 fc5_1 gc5_1 fc5_2 gc5_2 fc5_3 gc5_3); have HB2 := Lib.hid hb2; clear hb2 hvl)
            | (go_at_call 15; refine (picked_any _ _ _ (by omega) (by omega) (by omega) (by omega)).mono ?_; rintro e w' ⟨rfl, rfl⟩; rw [HPK.out]))
          have HBw2 : Hid (Below wr.heap.size wr w2) := by show Below _ _ _; exact (by repeat (first | exact Below.refl _ _ | with_reducible refine Below.trans ?_ (Below.mono HB2.out (by first | exact Nat.le_refl _ | (simp; done) | omega | (simp; omega) | (have z0 := Below.size HB2.out; omega) | (have z0 := Below.size HB2.out; simp at *; omega))) | with_reducible refine below_drewN ?_ _ | with_reducible refine Below.drew ?_ | with_reducible refine Below.alloc ?_ (by first | exact Nat.le_refl _ | (simp; done) | omega | (simp; omega) | (have z0 := Below.size HB2.out; omega) | (have z0 := Below.size HB2.out; simp at *; omega)) _ | with_reducible refine Below.setCell ?_ (by first | exact Nat.le_refl _ | (simp; done) | omega | (simp; omega) | (have z0 := Below.size HB2.out; omega) | (have z0 := Below.size HB2.out; simp at *; omega)) _))
          have f0 := (HBw2.out.cell (p := ⟨B, 0, none⟩) hBr).trans x0
          have f1 := (HBw2.out.cell (p := ⟨B, 1, none⟩) hBr).trans x1
          have f2 := (HBw2.out.frozen (p := ⟨B, 0, none⟩) hBr).trans y0
          have f3 := (HBw2.out.frozen (p := ⟨B, 1, none⟩) hBr).trans y1
          have HI2 : Hid (∀ W, Below w2.heap.size w2 W → Ints W (.slice a 300 c) xs) := fun W hW => HII.out W (HBw2.out.trans (hW.mono HBw2.out.size))
          have HKEEP : Hid (∀ W, Below w2.heap.size w2 W → W.cell? ⟨B, 0, none⟩ = some (.slice a 300 c) ∧ W.cell? ⟨B, 1, none⟩ = some (.int .i64 (t : Int)) ∧ W.cell? ⟨wr.heap.size, 1, none⟩ = some (.int .i64 r.a) ∧ Below w2.heap.size w2 W) :=
            fun W hW => ⟨(hW.cell (p := ⟨B, 0, none⟩) zc4).trans f0, (hW.cell (p := ⟨B, 1, none⟩) zc4).trans f1, (hW.cell (p := ⟨wr.heap.size, 1, none⟩) zc5).trans fc5_1, hW⟩
          clear fc4_0 fc4_1 gc4_0 gc4_1 gc5_0 gc5_1 gc5_2 gc5_3 x0 x1 y0 y1 g0 g1 g2 g3
          obtain ⟨n, hn, hn5⟩ := pick_nat r.a 5 (by decide)
          have HN := Lib.hid hn
          clear hn
          have hfit : t + 2 + n ≤ 300 := by omega
          have hn6 : n ≤ 6 := by omega
          have HG : Hid (HeapIs (xs.set (t + 1) (n : Int)) (t + 2 + n) ([] ++ [t])) := HIS.out.grow hn6 (by rw [HXL.out]; exact hfit)
          have HF2 := Lib.hid f2; have HF3 := Lib.hid f3
          clear f0 f1 f2 f3 fc5_0 fc5_1 fc5_2 fc5_3
          go_region_held3 (fun W => W.cell? ⟨B, 0, none⟩ = some (.slice a 300 c) ∧ W.cell? ⟨B, 1, none⟩ = some (.int .i64 (t : Int)) ∧ W.cell? ⟨wr.heap.size, 1, none⟩ = some (.int .i64 r.a) ∧ Below w2.heap.size w2 W)
            (first | exact HKEEP.out _ (by repeat (first | exact Below.refl _ _ | with_reducible refine Below.trans ?_ (Below.mono hb3 (by first | exact Nat.le_refl _ | (simp; done) | omega | (simp; omega) | (have z0 := Below.size hb3; omega) | (have z0 := Below.size hb3; simp at *; omega))) | with_reducible refine below_drewN ?_ _ | with_reducible refine Below.drew ?_ | with_reducible refine Below.alloc ?_ (by first | exact Nat.le_refl _ | (simp; done) | omega | (simp; omega) | (have z0 := Below.size hb3; omega) | (have z0 := Below.size hb3; simp at *; omega)) _ | with_reducible refine Below.setCell ?_ (by first | exact Nat.le_refl _ | (simp; done) | omega | (simp; omega) | (have z0 := Below.size hb3; omega) | (have z0 := Below.size hb3; simp at *; omega)) _)) | exact HKEEP.out _ (by repeat (first | exact Below.refl _ _ | with_reducible refine below_drewN ?_ _ | with_reducible refine Below.drew ?_ | with_reducible refine Below.alloc ?_ (by first | exact Nat.le_refl _ | (simp; done) | omega | (simp; omega)) _ | with_reducible refine Below.setCell ?_ (by first | exact Nat.le_refl _ | (simp; done) | omega | (simp; omega)) _)))
            (first | (go_at_call 15; refine (picked_any _ _ _ (by omega) (by omega) (by omega) (by omega)).mono ?_; rintro e w' ⟨rfl, rfl⟩; rw [HN.out]) | (go_at_call 17; refine (alloc_any _ xs _ _ _ (HI2.out _ (by repeat (first | exact Below.refl _ _ | with_reducible refine below_drewN ?_ _ | with_reducible refine Below.drew ?_ | with_reducible refine Below.alloc ?_ (by first | exact Nat.le_refl _ | (simp; done) | omega | (simp; omega)) _ | with_reducible refine Below.setCell ?_ (by first | exact Nat.le_refl _ | (simp; done) | omega | (simp; omega)) _)))).mono ?_; rintro e w3 ⟨hb3, ⟨er, her, rfl⟩ | ⟨t', k', a2, c2, ht', hk', _, _, _, rfl, hv3⟩⟩; (exfalso; exact her.not HOK.out hn6 (by rw [HXL.out]; exact hfit)); rw [HXL.out] at hv3; rw [HXL.out]; obtain rfl := Int.ofNat_inj.1 ht'; obtain rfl := Int.ofNat_inj.1 hk'; clear ht' hk'; have HV3 := Lib.hid hv3; clear hv3; (try have zc6 := Nat.lt_of_lt_of_le (show w2.heap.size < _ from (by first | (simp; done) | omega | (simp; omega))) (Below.size hb3); have fc6_0 := Below.cell hb3 (p := ⟨w2.heap.size, 0, none⟩) (by first | (simp; done) | omega | (simp; omega)); have gc6_0 := Below.frozen hb3 (p := ⟨w2.heap.size, 0, none⟩) (by first | (simp; done) | omega | (simp; omega)); have fc6_1 := Below.cell hb3 (p := ⟨w2.heap.size, 1, none⟩) (by first | (simp; done) | omega | (simp; omega)); have gc6_1 := Below.frozen hb3 (p := ⟨w2.heap.size, 1, none⟩) (by first | (simp; done) | omega | (simp; omega)); (try simp at fc6_0 gc6_0 fc6_1 gc6_1))))
          all_goals (
            rename_i hHeld
            obtain ⟨e0, e1, _, hbw⟩ := hHeld
            have e2 := (hbw.frozen (p := ⟨B, 0, none⟩) zc4).trans HF2.out
            have e3 := (hbw.frozen (p := ⟨B, 1, none⟩) zc4).trans HF3.out
            have HBWW := Lib.hid hbw
            have HL3 : Hid (∀ k, (Value.slice a2 300 c2).ownBlock = some k → w2.heap.size ≤ k) := fun k hk => Nat.le_trans (by simp) (HV3.out.lt hk).1
            have zw := hbw.size
            clear hbw
            go_wp2_with fail
            go_roundw
            case rel =>
              refine ⟨i + 1, xs.set (t + 1) (n : Int), t + 2 + n, [] ++ [t], a2, c2, by go_num, by omega, by omega, HG.out, by simp [HXL.out], by omega, ?_, ?_, ?_, ?_, ?_, ?_, ?_⟩
              · simp [go_sem, *]
              · simp [go_sem, *]
              · simp [go_sem, *]
              · simp [go_sem, *]
              · refine OwnInts.mono (base := w2.heap.size) ?_ (Nat.le_trans zr HBw2.out.size)
                with_reducible refine OwnInts.setFar ?_ (fun e => absurd zc4 (Nat.not_lt_of_le (HL3.out B e))) _
                with_reducible refine OwnInts.setFar ?_ (fun e => absurd zc4 (Nat.not_lt_of_le (HL3.out B e))) _
                first
                  | (with_reducible refine OwnInts.setFar ?_ (fun e => absurd (Nat.lt_of_lt_of_le (show w2.heap.size < _ from by simp) (HV3.out.lt e).1) (Nat.lt_irrefl _)) _
                     with_reducible refine OwnInts.setFar ?_ (fun e => absurd (Nat.lt_of_lt_of_le (show w2.heap.size < _ from by simp) (HV3.out.lt e).1) (Nat.lt_irrefl _)) _
                     exact HV3.out.mono (by simp))
                  | exact (HV3.out.below (Below.alloc (Below.refl _ _) (Nat.le_refl _) _)).mono (by simp)
              · exact fun e => absurd zc4 (Nat.not_lt_of_le (HL3.out B e))
              · exact (((HBEL.out.trans (HBw2.out.mono zr)).trans (HBWW.out.mono (Nat.le_trans zr HBw2.out.size))).setCell hBw _).setCell hBw _
            case measure => simp [intOf]; omega)
        · have hll : 1 ≤ l.length := by
            cases l with
            | nil => exact absurd rfl hl0
            | cons _ _ => simp
          have hl1 : ((l.length : Int) == 0) = false := by simp; omega
          have HLL := Lib.hid hl0
          clear hl0
          go_upto_region 11 with (first
            | (go_at_call 18; refine (Places_any _ xs _ _ (HII.out _ (by repeat (first | exact Below.refl _ _ | with_reducible refine below_drewN ?_ _ | with_reducible refine Below.drew ?_ | with_reducible refine Below.alloc ?_ (by first | exact Nat.le_refl _ | (simp; done) | omega | (simp; omega)) _ | with_reducible refine Below.setCell ?_ (by first | exact Nat.le_refl _ | (simp; done) | omega | (simp; omega)) _)))).mono ?_; rintro e w2 ⟨hb2, ⟨t', l', la, lc, ht', hi', rfl, hvl⟩ | ⟨hno, rfl⟩⟩; rotate_left; (exact absurd HOK.out hno); obtain rfl := Int.ofNat_inj.1 ht'; obtain rfl := HIS.out.uniq hi'; clear ht' hi'; have zc7 := Nat.lt_of_lt_of_le (show B < _ from (by first | (simp; done) | omega | (simp; omega))) (Below.size hb2); have fc7_0 := Below.cell hb2 (p := ⟨B, 0, none⟩) (by first | (simp; done) | omega | (simp; omega)); have gc7_0 := Below.frozen hb2 (p := ⟨B, 0, none⟩) (by first | (simp; done) | omega | (simp; omega)); have fc7_1 := Below.cell hb2 (p := ⟨B, 1, none⟩) (by first | (simp; done) | omega | (simp; omega)); have gc7_1 := Below.frozen hb2 (p := ⟨B, 1, none⟩) (by first | (simp; done) | omega | (simp; omega)); (try simp at fc7_0 gc7_0 fc7_1 gc7_1); have zc8 := Nat.lt_of_lt_of_le (show wr.heap.size < _ from (by first | (simp; done) | omega | (simp; omega))) (Below.size hb2); have fc8_0 := Below.cell hb2 (p := ⟨wr.heap.size, 0, none⟩) (by first | (simp; done) | omega | (simp; omega)); have gc8_0 := Below.frozen hb2 (p := ⟨wr.heap.size, 0, none⟩) (by first | (simp; done) | omega | (simp; omega)); have fc8_1 := Below.cell hb2 (p := ⟨wr.heap.size, 1, none⟩) (by first | (simp; done) | omega | (simp; omega)); have gc8_1 := Below.frozen hb2 (p := ⟨wr.heap.size, 1, none⟩) (by first | (simp; done) | omega | (simp; omega)); have fc8_2 := Below.cell hb2 (p := ⟨wr.heap.size, 2, none⟩) (by first | (simp; done) | omega | (simp; omega)); have gc8_2 := Below.frozen hb2 (p := ⟨wr.heap.size, 2, none⟩) (by first | (simp; done) | omega | (simp; omega)); have fc8_3 := Below.cell hb2 (p := ⟨wr.heap.size, 3, none⟩) (by first | (simp; done) | omega | (simp; omega)); have gc8_3 := Below.frozen hb2 (p := ⟨wr.heap.size, 3, none⟩) (by first | (simp; done) | omega | (simp; omega)); (try simp at fc8_0 gc8_0 fc8_1 gc8_1 fc8_2 gc8_2 fc8_3 gc8_3); have HB2 := Lib.hid hb2; have HVL := Lib.hid hvl; clear hb2 hvl)
            | (go_at_call 15; refine (picked_any _ _ _ (by omega) (by omega) (by omega) (by omega)).mono ?_; rintro e w' ⟨rfl, rfl⟩; rw [HPK.out]))
          have HBw2 : Hid (Below wr.heap.size wr w2) := by show Below _ _ _; exact (by repeat (first | exact Below.refl _ _ | with_reducible refine Below.trans ?_ (Below.mono HB2.out (by first | exact Nat.le_refl _ | (simp; done) | omega | (simp; omega) | (have z0 := Below.size HB2.out; omega) | (have z0 := Below.size HB2.out; simp at *; omega))) | with_reducible refine below_drewN ?_ _ | with_reducible refine Below.drew ?_ | with_reducible refine Below.alloc ?_ (by first | exact Nat.le_refl _ | (simp; done) | omega | (simp; omega) | (have z0 := Below.size HB2.out; omega) | (have z0 := Below.size HB2.out; simp at *; omega)) _ | with_reducible refine Below.setCell ?_ (by first | exact Nat.le_refl _ | (simp; done) | omega | (simp; omega) | (have z0 := Below.size HB2.out; omega) | (have z0 := Below.size HB2.out; simp at *; omega)) _))
          have f0 := (HBw2.out.cell (p := ⟨B, 0, none⟩) hBr).trans x0
          have f1 := (HBw2.out.cell (p := ⟨B, 1, none⟩) hBr).trans x1
          have f2 := (HBw2.out.frozen (p := ⟨B, 0, none⟩) hBr).trans y0
          have f3 := (HBw2.out.frozen (p := ⟨B, 1, none⟩) hBr).trans y1
          obtain ⟨lb, lo, rfl, hlb, hlc⟩ := HVL.out.ints.at (by rw [intsOf_length]; omega)
          obtain ⟨j1, hj1, hj1l⟩ := pick_nat r.a (l.length : Int) (by omega)
          obtain ⟨j2, hj2, hj2l⟩ := pick_nat r.b (l.length : Int) (by omega)
          have e1 := hlc j1 (by rw [intsOf_length]; omega)
          have e2 := hlc j2 (by rw [intsOf_length]; omega)
          obtain ⟨p1, hp1⟩ : ∃ p1, p1 = l.getD j1 0 := ⟨_, rfl⟩
          obtain ⟨p2, hp2⟩ : ∃ p2, p2 = l.getD j2 0 := ⟨_, rfl⟩
          have hp1m : p1 ∈ l := by rw [hp1, List.getD_eq_getElem?_getD, List.getElem?_eq_getElem (by omega)]; exact List.getElem_mem (by omega)
          rw [show (intsOf l).getD j1 0 = (p1 : Int) by rw [hp1]; simp [intsOf, List.getD, show j1 < l.length by omega]] at e1
          rw [show (intsOf l).getD j2 0 = (p2 : Int) by rw [hp2]; simp [intsOf, List.getD, show j2 < l.length by omega]] at e2
          have HJ1 := Lib.hid hj1; have HJ2 := Lib.hid hj2; have HP1 := Lib.hid hp1m
          obtain ⟨n3, hn3, hn3l⟩ := pick_nat r.c 5 (by decide)
          obtain ⟨n1, hn1, hn1l⟩ := pick_nat r.a 100 (by decide)
          have HN3 := Lib.hid hn3; have HN1 := Lib.hid hn1
          have ej1 : (0 : Int) ≤ (j1 : Int) := by omega
          have ej2 : (0 : Int) ≤ (j2 : Int) := by omega
          clear hj1 hj2 hp1 hp2 hp1m hn3 hn1 hlc x0 x1 y0 y1 g0 g1 g2 g3
          by_cases hpk1 : pk = 1
          · subst hpk1
            go_upto_region 14 with (go_at_call 15; refine (picked_any _ _ _ (by omega) (by omega) (by omega) (by omega)).mono ?_; rintro e w' ⟨rfl, rfl⟩; first | rw [HPK.out] | rw [HJ1.out] | rw [HN1.out])
            obtain ⟨w4, hw4⟩ : ∃ w4, w4 = w2.alloc (.cells #[.int .i64 1, .int .i64 (p1 : Int)] 36) := ⟨_, rfl⟩
            have HBw4 : Hid (Below w2.heap.size w2 w4) := by rw [Hid, hw4]; exact (Below.refl _ _).alloc (Nat.le_refl _) _
            have v0 : w4.cell? ⟨w2.heap.size, 0, none⟩ = some (.int .i64 1) := by rw [hw4]; simp
            have v1 : w4.cell? ⟨w2.heap.size, 1, none⟩ = some (.int .i64 (p1 : Int)) := by rw [hw4]; simp
            have zx : w2.heap.size < w4.heap.size := by rw [hw4]; simp
            have hB2 : B < w2.heap.size := Nat.lt_of_lt_of_le hBr HBw2.out.size
            have hR2 : wr.heap.size < w2.heap.size := by have := HB2.out.size; simp at this; omega
            have m2 : w2.cell? ⟨wr.heap.size, 2, none⟩ = some (.int .i64 r.b) := (HB2.out.cell (p := ⟨wr.heap.size, 2, none⟩) (by simp)).trans (by simp)
            have m3 : w2.cell? ⟨wr.heap.size, 3, none⟩ = some (.int .i64 r.c) := (HB2.out.cell (p := ⟨wr.heap.size, 3, none⟩) (by simp)).trans (by simp)
            rw [← hw4]
            clear hw4
            have HKEEP : Hid (∀ W, Below w4.heap.size w4 W → W.cell? ⟨B, 0, none⟩ = some (.slice a 300 c) ∧ W.cell? ⟨B, 1, none⟩ = some (.int .i64 (t : Int)) ∧ W.cell? ⟨wr.heap.size, 2, none⟩ = some (.int .i64 r.b) ∧ W.cell? ⟨wr.heap.size, 3, none⟩ = some (.int .i64 r.c) ∧
                W.cell? ⟨w2.heap.size, 0, none⟩ = some (.int .i64 1) ∧ W.cell? ⟨w2.heap.size, 1, none⟩ = some (.int .i64 (p1 : Int)) ∧ W.cell? ⟨lb, lo + j2, none⟩ = some (.int .i64 (p2 : Int)) ∧ Below w4.heap.size w4 W) := fun W hW =>
              ⟨((HBw4.out.trans (hW.mono (Nat.le_of_lt zx))).cell (p := ⟨B, 0, none⟩) hB2).trans f0, ((HBw4.out.trans (hW.mono (Nat.le_of_lt zx))).cell (p := ⟨B, 1, none⟩) hB2).trans f1, ((HBw4.out.trans (hW.mono (Nat.le_of_lt zx))).cell (p := ⟨wr.heap.size, 2, none⟩) hR2).trans m2, ((HBw4.out.trans (hW.mono (Nat.le_of_lt zx))).cell (p := ⟨wr.heap.size, 3, none⟩) hR2).trans m3,
                (hW.cell (p := ⟨w2.heap.size, 0, none⟩) zx).trans v0, (hW.cell (p := ⟨w2.heap.size, 1, none⟩) zx).trans v1, ((HBw4.out.trans (hW.mono (Nat.le_of_lt zx))).cell (p := ⟨lb, lo + j2, none⟩) hlb).trans e2, hW⟩
            have HI4 : Hid (∀ W, Below w4.heap.size w4 W → Ints W (.slice a 300 c) xs) := fun W hW => HII.out W (HBw2.out.trans ((HBw4.out.mono HBw2.out.size).trans (hW.mono (Nat.le_trans HBw2.out.size (Nat.le_of_lt zx)))))
            have HF2 := Lib.hid f2; have HF3 := Lib.hid f3
            have hrn : wr.heap.size ≤ w4.heap.size := by omega
            clear f0 f1 f2 f3 e1 e2 m2 m3 v0 v1
            go_region_held3 (fun W => W.cell? ⟨B, 0, none⟩ = some (.slice a 300 c) ∧ W.cell? ⟨B, 1, none⟩ = some (.int .i64 (t : Int)) ∧ W.cell? ⟨wr.heap.size, 2, none⟩ = some (.int .i64 r.b) ∧ W.cell? ⟨wr.heap.size, 3, none⟩ = some (.int .i64 r.c) ∧
                W.cell? ⟨w2.heap.size, 0, none⟩ = some (.int .i64 1) ∧ W.cell? ⟨w2.heap.size, 1, none⟩ = some (.int .i64 (p1 : Int)) ∧ W.cell? ⟨lb, lo + j2, none⟩ = some (.int .i64 (p2 : Int)) ∧ Below w4.heap.size w4 W)
              (first | exact HKEEP.out _ (by repeat (first | exact Below.refl _ _ | with_reducible refine Below.trans ?_ (Below.mono hb5 (by first | exact Nat.le_refl _ | (simp; done) | omega | (simp; omega) | (have z0 := Below.size hb5; omega) | (have z0 := Below.size hb5; simp at *; omega))) | with_reducible refine below_drewN ?_ _ | with_reducible refine Below.drew ?_ | with_reducible refine Below.alloc ?_ (by first | exact Nat.le_refl _ | (simp; done) | omega | (simp; omega) | (have z0 := Below.size hb5; omega) | (have z0 := Below.size hb5; simp at *; omega)) _ | with_reducible refine Below.setCell ?_ (by first | exact Nat.le_refl _ | (simp; done) | omega | (simp; omega) | (have z0 := Below.size hb5; omega) | (have z0 := Below.size hb5; simp at *; omega)) _)) | exact HKEEP.out _ (by repeat (first | exact Below.refl _ _ | with_reducible refine below_drewN ?_ _ | with_reducible refine Below.drew ?_ | with_reducible refine Below.alloc ?_ (by first | exact Nat.le_refl _ | (simp; done) | omega | (simp; omega)) _ | with_reducible refine Below.setCell ?_ (by first | exact Nat.le_refl _ | (simp; done) | omega | (simp; omega)) _)))
              (first | (go_at_call 15; refine (picked_any _ _ _ (by omega) (by omega) (by omega) (by omega)).mono ?_; rintro e w' ⟨rfl, rfl⟩; first | rw [HJ2.out] | rw [HN3.out]) | (go_at_call 21; refine (store_any _ xs _ _ _ _ _ _ (HI4.out _ (by repeat (first | exact Below.refl _ _ | with_reducible refine below_drewN ?_ _ | with_reducible refine Below.drew ?_ | with_reducible refine Below.alloc ?_ (by first | exact Nat.le_refl _ | (simp; done) | omega | (simp; omega)) _ | with_reducible refine Below.setCell ?_ (by first | exact Nat.le_refl _ | (simp; done) | omega | (simp; omega)) _)))).mono ?_; intro e w5 hret; obtain ⟨hb5, a2, sn, c2, st, er, rfl, hres⟩ := hret.one HIS.out; clear hret; have HRES := Lib.hid hres; clear hres; (try have zc9 := Nat.lt_of_lt_of_le (show w4.heap.size < _ from (by first | (simp; done) | omega | (simp; omega))) (Below.size hb5); have fc9_0 := Below.cell hb5 (p := ⟨w4.heap.size, 0, none⟩) (by first | (simp; done) | omega | (simp; omega)); have gc9_0 := Below.frozen hb5 (p := ⟨w4.heap.size, 0, none⟩) (by first | (simp; done) | omega | (simp; omega)); have fc9_1 := Below.cell hb5 (p := ⟨w4.heap.size, 1, none⟩) (by first | (simp; done) | omega | (simp; omega)); have gc9_1 := Below.frozen hb5 (p := ⟨w4.heap.size, 1, none⟩) (by first | (simp; done) | omega | (simp; omega)); (try simp at fc9_0 gc9_0 fc9_1 gc9_1))))
            all_goals (
              rename_i hHeld
              obtain ⟨d0, d1, _, _, _, _, _, hbw⟩ := hHeld
              have d2 := ((HBw4.out.trans (hbw.mono (Nat.le_of_lt zx))).frozen (p := ⟨B, 0, none⟩) hB2).trans HF2.out
              have d3 := ((HBw4.out.trans (hbw.mono (Nat.le_of_lt zx))).frozen (p := ⟨B, 1, none⟩) hB2).trans HF3.out
              have HBWW := Lib.hid hbw
              clear hbw
              by_cases her : er = 0
              · obtain ⟨_, rfl, rfl, q, k, hq, hkq, hw, ho⟩ := HRES.out.resolve_left (fun h => h her)
                subst her
                rw [HXL.out] at ho d0 d1 d2 d3 HBWW ⊢
                have HO := Lib.hid ho
                have HG : Hid (HeapIs (xs.set (q + 2 + k) (wordOf 1 (p1 : Int))) t l) := HIS.out.setField hq hkq hw
                have HL3 : Hid (∀ j, (Value.slice a2 300 c2).ownBlock = some j → w4.heap.size ≤ j) := fun j hj => Nat.le_trans (by simp) (ho.lt hj).1
                have hB4 : B < w4.heap.size := Nat.lt_trans hB2 zx
                clear hq hkq hw ho
                go_wp2_with fail
                go_roundw
                case rel =>
                  refine ⟨i + 1, xs.set (q + 2 + k) (wordOf 1 (p1 : Int)), t, l, a2, c2, by go_num, by omega, by omega, HG.out, by simp [HXL.out], by omega, ?_, ?_, ?_, ?_, ?_, ?_, ?_⟩
                  · simp [go_sem, *]
                  · simp [go_sem, *]
                  · simp [go_sem, *]
                  · simp [go_sem, *]
                  · refine OwnInts.mono (base := w4.heap.size) ?_ (Nat.le_trans zr hrn)
                    with_reducible refine OwnInts.setFar ?_ (fun e => absurd hB4 (Nat.not_lt_of_le (HL3.out B e))) _
                    with_reducible refine OwnInts.setFar ?_ (fun e => absurd hB4 (Nat.not_lt_of_le (HL3.out B e))) _
                    first
                      | (with_reducible refine OwnInts.setFar ?_ (fun e => absurd (Nat.lt_of_lt_of_le (show w4.heap.size < _ from by simp) (HO.out.lt e).1) (Nat.lt_irrefl _)) _
                         with_reducible refine OwnInts.setFar ?_ (fun e => absurd (Nat.lt_of_lt_of_le (show w4.heap.size < _ from by simp) (HO.out.lt e).1) (Nat.lt_irrefl _)) _
                         exact HO.out.mono (by simp))
                      | exact (HO.out.below (Below.alloc (Below.refl _ _) (Nat.le_refl _) _)).mono (by simp)
                  · exact fun e => absurd hB4 (Nat.not_lt_of_le (HL3.out B e))
                  · exact ((((HBEL.out.trans (HBw2.out.mono zr)).trans (HBw4.out.mono (Nat.le_trans zr HBw2.out.size))).trans (HBWW.out.mono (Nat.le_trans zr hrn))).setCell hBw _).setCell hBw _
                case measure => simp [intOf]; omega
              · have herb : (er == 0) = false := by simpa using her
                have HER := Lib.hid her
                clear her
                have HD0 := Lib.hid d0; have HD1 := Lib.hid d1; have HD2 := Lib.hid d2; have HD3 := Lib.hid d3
                go_wp2_with fail
                go_roundw
                case rel =>
                  refine ⟨i + 1, xs, t, l, a, c, by go_num, by omega, by omega, HIS.out, HXL.out, by omega, HD0.out, HD1.out, HD2.out, HD3.out, ?_, HNE.out, ?_⟩
                  · exact HV.out.below ((HBw2.out.trans (HBw4.out.mono HBw2.out.size)).trans (HBWW.out.mono hrn))
                  · exact ((HBEL.out.trans (HBw2.out.mono zr)).trans (HBw4.out.mono (Nat.le_trans zr HBw2.out.size))).trans (HBWW.out.mono (Nat.le_trans zr hrn))
                case measure => simp [intOf]; omega)
          · have hpk1' : ((pk : Int) == 1) = false := by simp; omega
            clear hpk1
            go_upto_region 14 with (go_at_call 15; refine (picked_any _ _ _ (by omega) (by omega) (by omega) (by omega)).mono ?_; rintro e w' ⟨rfl, rfl⟩; first | rw [HPK.out] | rw [HN1.out])
            obtain ⟨w4, hw4⟩ : ∃ w4, w4 = w2.alloc (.cells #[.int .i64 0, .int .i64 ((n1 : Int) - 50)] 36) := ⟨_, rfl⟩
            have HBw4 : Hid (Below w2.heap.size w2 w4) := by rw [Hid, hw4]; exact (Below.refl _ _).alloc (Nat.le_refl _) _
            have v0 : w4.cell? ⟨w2.heap.size, 0, none⟩ = some (.int .i64 0) := by rw [hw4]; simp
            have v1 : w4.cell? ⟨w2.heap.size, 1, none⟩ = some (.int .i64 ((n1 : Int) - 50)) := by rw [hw4]; simp
            have zx : w2.heap.size < w4.heap.size := by rw [hw4]; simp
            have hB2 : B < w2.heap.size := Nat.lt_of_lt_of_le hBr HBw2.out.size
            have hR2 : wr.heap.size < w2.heap.size := by have := HB2.out.size; simp at this; omega
            have m2 : w2.cell? ⟨wr.heap.size, 2, none⟩ = some (.int .i64 r.b) := (HB2.out.cell (p := ⟨wr.heap.size, 2, none⟩) (by simp)).trans (by simp)
            have m3 : w2.cell? ⟨wr.heap.size, 3, none⟩ = some (.int .i64 r.c) := (HB2.out.cell (p := ⟨wr.heap.size, 3, none⟩) (by simp)).trans (by simp)
            rw [← hw4]
            clear hw4
            have HKEEP : Hid (∀ W, Below w4.heap.size w4 W → W.cell? ⟨B, 0, none⟩ = some (.slice a 300 c) ∧ W.cell? ⟨B, 1, none⟩ = some (.int .i64 (t : Int)) ∧ W.cell? ⟨wr.heap.size, 2, none⟩ = some (.int .i64 r.b) ∧ W.cell? ⟨wr.heap.size, 3, none⟩ = some (.int .i64 r.c) ∧
                W.cell? ⟨w2.heap.size, 0, none⟩ = some (.int .i64 0) ∧ W.cell? ⟨w2.heap.size, 1, none⟩ = some (.int .i64 ((n1 : Int) - 50)) ∧ W.cell? ⟨lb, lo + j2, none⟩ = some (.int .i64 (p2 : Int)) ∧ Below w4.heap.size w4 W) := fun W hW =>
              ⟨((HBw4.out.trans (hW.mono (Nat.le_of_lt zx))).cell (p := ⟨B, 0, none⟩) hB2).trans f0, ((HBw4.out.trans (hW.mono (Nat.le_of_lt zx))).cell (p := ⟨B, 1, none⟩) hB2).trans f1, ((HBw4.out.trans (hW.mono (Nat.le_of_lt zx))).cell (p := ⟨wr.heap.size, 2, none⟩) hR2).trans m2, ((HBw4.out.trans (hW.mono (Nat.le_of_lt zx))).cell (p := ⟨wr.heap.size, 3, none⟩) hR2).trans m3,
                (hW.cell (p := ⟨w2.heap.size, 0, none⟩) zx).trans v0, (hW.cell (p := ⟨w2.heap.size, 1, none⟩) zx).trans v1, ((HBw4.out.trans (hW.mono (Nat.le_of_lt zx))).cell (p := ⟨lb, lo + j2, none⟩) hlb).trans e2, hW⟩
            have HI4 : Hid (∀ W, Below w4.heap.size w4 W → Ints W (.slice a 300 c) xs) := fun W hW => HII.out W (HBw2.out.trans ((HBw4.out.mono HBw2.out.size).trans (hW.mono (Nat.le_trans HBw2.out.size (Nat.le_of_lt zx)))))
            have HF2 := Lib.hid f2; have HF3 := Lib.hid f3
            have hrn : wr.heap.size ≤ w4.heap.size := by omega
            clear f0 f1 f2 f3 e1 e2 m2 m3 v0 v1
            go_region_held3 (fun W => W.cell? ⟨B, 0, none⟩ = some (.slice a 300 c) ∧ W.cell? ⟨B, 1, none⟩ = some (.int .i64 (t : Int)) ∧ W.cell? ⟨wr.heap.size, 2, none⟩ = some (.int .i64 r.b) ∧ W.cell? ⟨wr.heap.size, 3, none⟩ = some (.int .i64 r.c) ∧
                W.cell? ⟨w2.heap.size, 0, none⟩ = some (.int .i64 0) ∧ W.cell? ⟨w2.heap.size, 1, none⟩ = some (.int .i64 ((n1 : Int) - 50)) ∧ W.cell? ⟨lb, lo + j2, none⟩ = some (.int .i64 (p2 : Int)) ∧ Below w4.heap.size w4 W)
              (first | exact HKEEP.out _ (by repeat (first | exact Below.refl _ _ | with_reducible refine Below.trans ?_ (Below.mono hb5 (by first | exact Nat.le_refl _ | (simp; done) | omega | (simp; omega) | (have z0 := Below.size hb5; omega) | (have z0 := Below.size hb5; simp at *; omega))) | with_reducible refine below_drewN ?_ _ | with_reducible refine Below.drew ?_ | with_reducible refine Below.alloc ?_ (by first | exact Nat.le_refl _ | (simp; done) | omega | (simp; omega) | (have z0 := Below.size hb5; omega) | (have z0 := Below.size hb5; simp at *; omega)) _ | with_reducible refine Below.setCell ?_ (by first | exact Nat.le_refl _ | (simp; done) | omega | (simp; omega) | (have z0 := Below.size hb5; omega) | (have z0 := Below.size hb5; simp at *; omega)) _)) | exact HKEEP.out _ (by repeat (first | exact Below.refl _ _ | with_reducible refine below_drewN ?_ _ | with_reducible refine Below.drew ?_ | with_reducible refine Below.alloc ?_ (by first | exact Nat.le_refl _ | (simp; done) | omega | (simp; omega)) _ | with_reducible refine Below.setCell ?_ (by first | exact Nat.le_refl _ | (simp; done) | omega | (simp; omega)) _)))
              (first | (go_at_call 15; refine (picked_any _ _ _ (by omega) (by omega) (by omega) (by omega)).mono ?_; rintro e w' ⟨rfl, rfl⟩; first | rw [HJ2.out] | rw [HN3.out]) | (go_at_call 21; refine (store_any _ xs _ _ _ _ _ _ (HI4.out _ (by repeat (first | exact Below.refl _ _ | with_reducible refine below_drewN ?_ _ | with_reducible refine Below.drew ?_ | with_reducible refine Below.alloc ?_ (by first | exact Nat.le_refl _ | (simp; done) | omega | (simp; omega)) _ | with_reducible refine Below.setCell ?_ (by first | exact Nat.le_refl _ | (simp; done) | omega | (simp; omega)) _)))).mono ?_; intro e w5 hret; obtain ⟨hb5, a2, sn, c2, st, er, rfl, hres⟩ := hret.one HIS.out; clear hret; have HRES := Lib.hid hres; clear hres; (try have zc10 := Nat.lt_of_lt_of_le (show w4.heap.size < _ from (by first | (simp; done) | omega | (simp; omega))) (Below.size hb5); have fc10_0 := Below.cell hb5 (p := ⟨w4.heap.size, 0, none⟩) (by first | (simp; done) | omega | (simp; omega)); have gc10_0 := Below.frozen hb5 (p := ⟨w4.heap.size, 0, none⟩) (by first | (simp; done) | omega | (simp; omega)); have fc10_1 := Below.cell hb5 (p := ⟨w4.heap.size, 1, none⟩) (by first | (simp; done) | omega | (simp; omega)); have gc10_1 := Below.frozen hb5 (p := ⟨w4.heap.size, 1, none⟩) (by first | (simp; done) | omega | (simp; omega)); (try simp at fc10_0 gc10_0 fc10_1 gc10_1))))
            all_goals (
              rename_i hHeld
              obtain ⟨d0, d1, _, _, _, _, _, hbw⟩ := hHeld
              have d2 := ((HBw4.out.trans (hbw.mono (Nat.le_of_lt zx))).frozen (p := ⟨B, 0, none⟩) hB2).trans HF2.out
              have d3 := ((HBw4.out.trans (hbw.mono (Nat.le_of_lt zx))).frozen (p := ⟨B, 1, none⟩) hB2).trans HF3.out
              have HBWW := Lib.hid hbw
              clear hbw
              by_cases her : er = 0
              · obtain ⟨_, rfl, rfl, q, k, hq, hkq, hw, ho⟩ := HRES.out.resolve_left (fun h => h her)
                subst her
                rw [HXL.out] at ho d0 d1 d2 d3 HBWW ⊢
                have HO := Lib.hid ho
                have HG : Hid (HeapIs (xs.set (q + 2 + k) (wordOf 0 ((n1 : Int) - 50))) t l) := HIS.out.setField hq hkq hw
                have HL3 : Hid (∀ j, (Value.slice a2 300 c2).ownBlock = some j → w4.heap.size ≤ j) := fun j hj => Nat.le_trans (by simp) (ho.lt hj).1
                have hB4 : B < w4.heap.size := Nat.lt_trans hB2 zx
                clear hq hkq hw ho
                go_wp2_with fail
                go_roundw
                case rel =>
                  refine ⟨i + 1, xs.set (q + 2 + k) (wordOf 0 ((n1 : Int) - 50)), t, l, a2, c2, by go_num, by omega, by omega, HG.out, by simp [HXL.out], by omega, ?_, ?_, ?_, ?_, ?_, ?_, ?_⟩
                  · simp [go_sem, *]
                  · simp [go_sem, *]
                  · simp [go_sem, *]
                  · simp [go_sem, *]
                  · refine OwnInts.mono (base := w4.heap.size) ?_ (Nat.le_trans zr hrn)
                    with_reducible refine OwnInts.setFar ?_ (fun e => absurd hB4 (Nat.not_lt_of_le (HL3.out B e))) _
                    with_reducible refine OwnInts.setFar ?_ (fun e => absurd hB4 (Nat.not_lt_of_le (HL3.out B e))) _
                    first
                      | (with_reducible refine OwnInts.setFar ?_ (fun e => absurd (Nat.lt_of_lt_of_le (show w4.heap.size < _ from by simp) (HO.out.lt e).1) (Nat.lt_irrefl _)) _
                         with_reducible refine OwnInts.setFar ?_ (fun e => absurd (Nat.lt_of_lt_of_le (show w4.heap.size < _ from by simp) (HO.out.lt e).1) (Nat.lt_irrefl _)) _
                         exact HO.out.mono (by simp))
                      | exact (HO.out.below (Below.alloc (Below.refl _ _) (Nat.le_refl _) _)).mono (by simp)
                  · exact fun e => absurd hB4 (Nat.not_lt_of_le (HL3.out B e))
                  · exact ((((HBEL.out.trans (HBw2.out.mono zr)).trans (HBw4.out.mono (Nat.le_trans zr HBw2.out.size))).trans (HBWW.out.mono (Nat.le_trans zr hrn))).setCell hBw _).setCell hBw _
                case measure => simp [intOf]; omega
              · have herb : (er == 0) = false := by simpa using her
                have HER := Lib.hid her
                clear her
                have HD0 := Lib.hid d0; have HD1 := Lib.hid d1; have HD2 := Lib.hid d2; have HD3 := Lib.hid d3
                go_wp2_with fail
                go_roundw
                case rel =>
                  refine ⟨i + 1, xs, t, l, a, c, by go_num, by omega, by omega, HIS.out, HXL.out, by omega, HD0.out, HD1.out, HD2.out, HD3.out, ?_, HNE.out, ?_⟩
                  · exact HV.out.below ((HBw2.out.trans (HBw4.out.mono HBw2.out.size)).trans (HBWW.out.mono hrn))
                  · exact ((HBEL.out.trans (HBw2.out.mono zr)).trans (HBw4.out.mono (Nat.le_trans zr HBw2.out.size))).trans (HBWW.out.mono (Nat.le_trans zr hrn))
                case measure => simp [intOf]; omega)
    · clear HR
      by_cases hlt1 : i < rs.length
      · obtain rfl : i = 40 := by omega
        go_wp2_with fail
        refine bodyPost_ret (v := .agg #[.slice a 300 c, .int .i64 (t : Int)]) (by simp [results, Try.results33, go_sem, *]) rfl ⟨xs, t, l, a, c, HIS.out, HXL.out, by omega, rfl, ?_, ?_⟩
        · exact ((HV.out.setBelow (by simp) _).setBelow (by simp) _).mono (Nat.le_succ _)
        · exact (HBW.out.setCell (by simp) _).setCell (by simp) _
      · obtain rfl : i = rs.length := by omega
        go_wp2_with fail
        refine bodyPost_ret (v := .agg #[.slice a 300 c, .int .i64 (t : Int)]) (by simp [results, Try.results33, go_sem, *]) rfl ⟨xs, t, l, a, c, HIS.out, HXL.out, by omega, rfl, ?_, ?_⟩
        · exact ((HV.out.setBelow (by simp) _).setBelow (by simp) _).mono (Nat.le_succ _)
        · exact (HBW.out.setCell (by simp) _).setCell (by simp) _
end Go.Proofs.Ytbeilcaadpopmab
