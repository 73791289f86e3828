/- Walk: limewashkeep.ReachesAll. -/
import Derived.Test.YtbeilcaadpopmabRo
import Derived.Test.YtbeilcaadpopmabRp
import Derived.Test.YtbeilcaadpopmabEq
import Derived.Test.YtbeilcaadpopmabWa
set_option linter.unusedVariables false
set_option linter.unusedSimpArgs false
namespace Go.Proofs.Ytbeilcaadpopmab
open Go.RowKit

theorem built_six (w : World) : Ints (w.alloc (.cells #[.int .i64 0, .int .i64 0, .int .i64 0, .int .i64 0, .int .i64 1, .int .i64 3] 3)) (.slice (some ⟨w.heap.size, 0, none⟩) 6 6) [0, 0, 0, 0, 1, 3] :=
  (OwnInts.built w [0, 0, 0, 0, 1, 3] (by intro z hz; simp at hz; unfold I64; omega) (by simp)).ints

set_option maxRecDepth 100000 in
set_option maxHeartbeats 4000000 in
theorem reachesAll_any (v rv : Value) (ls rs : List Raw4) (w : World) (h : Raws w v ls) (hr : Raws w rv rs) :
    Calls Try.prog 10 #[v, rv] w fun e w' => e = .returned (.bool true) ∧ Below w.heap.size w w' := by
  have HL : Hid (∀ W, Below w.heap.size w W → Raws W v ls) := fun W hW => h.below (Nat.le_refl _) hW
  have HR : Hid (∀ W, Below w.heap.size w W → Raws W rv rs) := fun W hW => hr.below (Nat.le_refl _) hW
  clear h hr
  go_enter Try.func10, Try.ntmps10
  go_upto_region 4 with (go_at_call 30; refine (reach_any _ _ [0, 0, 0, 0, 1, 3] [3] _ _ ((built_six w).below (Nat.le_refl _) (by repeat (first | exact Below.refl _ _ | with_reducible refine below_drewN ?_ _ | with_reducible refine Below.drew ?_ | with_reducible refine Below.alloc ?_ (by first | exact Nat.le_refl _ | (simp; done) | omega | (simp; omega)) _ | with_reducible refine Below.setCell ?_ (by first | exact Nat.le_refl _ | (simp; done) | omega | (simp; omega)) _))) (built_at _ _ (by simp) (by unfold I64; omega))).mono ?_; intro e w1 hret; obtain ⟨hb1, v1, rfl, hv1⟩ := RetReach.good (t := 6) hret heap_two roots_two; clear hret; rw [reach_two] at hv1; obtain ⟨a1, c1, rfl⟩ := hv1.shape; have HB1 := Lib.hid hb1; clear hb1 hv1)
  have HBW1 : Hid (Below w.heap.size w w1) := by show Below _ _ _; exact (by repeat (first | exact Below.refl _ _ | with_reducible refine Below.trans ?_ (Below.mono HB1.out (by first | exact Nat.le_refl _ | (simp; done) | omega | (simp; omega) | (have z0 := Below.size HB1.out; omega) | (have z0 := Below.size HB1.out; simp at *; omega))) | with_reducible refine below_drewN ?_ _ | with_reducible refine Below.drew ?_ | with_reducible refine Below.alloc ?_ (by first | exact Nat.le_refl _ | (simp; done) | omega | (simp; omega) | (have z0 := Below.size HB1.out; omega) | (have z0 := Below.size HB1.out; simp at *; omega)) _ | with_reducible refine Below.setCell ?_ (by first | exact Nat.le_refl _ | (simp; done) | omega | (simp; omega) | (have z0 := Below.size HB1.out; omega) | (have z0 := Below.size HB1.out; simp at *; omega)) _))
  clear HB1
  go_upto_region 7 with (first
    | (go_at_call 33; refine (keepHeap_any _ ls _ (HL.out _ HBW1.out)).mono ?_; rintro e w2 ⟨xs, t, l, a, cc, his, hxl, ht, rfl, hv, hb⟩; have HIS := Lib.hid his; have HXL := Lib.hid hxl; have HV := Lib.hid hv; have HB2 := Lib.hid hb; clear his hxl hv hb)
    | (go_at_call 36; refine (keepRoots_any _ _ xs t l rs _ (HV.out.ints.below (Nat.le_refl _) (by repeat (first | exact Below.refl _ _ | with_reducible refine below_drewN ?_ _ | with_reducible refine Below.drew ?_ | with_reducible refine Below.alloc ?_ (by first | exact Nat.le_refl _ | (simp; done) | omega | (simp; omega)) _ | with_reducible refine Below.setCell ?_ (by first | exact Nat.le_refl _ | (simp; done) | omega | (simp; omega)) _))) (HR.out _ (HBW1.out.trans ((show Below w1.heap.size w1 _ from (by repeat (first | exact Below.refl _ _ | with_reducible refine Below.trans ?_ (Below.mono HB2.out (by first | exact Nat.le_refl _ | (simp; done) | omega | (simp; omega) | (have z0 := Below.size HB2.out; omega) | (have z0 := Below.size HB2.out; simp at *; omega))) | with_reducible refine below_drewN ?_ _ | with_reducible refine Below.drew ?_ | with_reducible refine Below.alloc ?_ (by first | exact Nat.le_refl _ | (simp; done) | omega | (simp; omega) | (have z0 := Below.size HB2.out; omega) | (have z0 := Below.size HB2.out; simp at *; omega)) _ | with_reducible refine Below.setCell ?_ (by first | exact Nat.le_refl _ | (simp; done) | omega | (simp; omega) | (have z0 := Below.size HB2.out; omega) | (have z0 := Below.size HB2.out; simp at *; omega)) _))).mono HBW1.out.size))) HIS.out).mono ?_; rintro e w3 ⟨ks, ov, hk3, hkl, rfl, hvo, hb3⟩; obtain ⟨oa, oc, rfl⟩ := hvo.shape; have HRO : Hid (RootsOk l (intsOf ks)) := (fun p hp _ => by obtain ⟨q, hq, rfl⟩ := List.mem_map.1 hp; exact ⟨q, hkl q hq, rfl⟩); have zc1 := Nat.lt_of_lt_of_le (show w2.heap.size < _ from (by first | (simp; done) | omega | (simp; omega))) (Below.size hb3); have fc1_0 := Below.cell hb3 (p := ⟨w2.heap.size, 0, none⟩) (by first | (simp; done) | omega | (simp; omega)); have gc1_0 := Below.frozen hb3 (p := ⟨w2.heap.size, 0, none⟩) (by first | (simp; done) | omega | (simp; omega)); have fc1_1 := Below.cell hb3 (p := ⟨w2.heap.size, 1, none⟩) (by first | (simp; done) | omega | (simp; omega)); have gc1_1 := Below.frozen hb3 (p := ⟨w2.heap.size, 1, none⟩) (by first | (simp; done) | omega | (simp; omega)); (try simp at fc1_0 gc1_0 fc1_1 gc1_1); have HKL := Lib.hid hkl; have HVO := Lib.hid hvo; have HB3 := Lib.hid hb3; clear hkl hvo hb3)
    | (go_at_call 30; refine (reach_any _ _ xs (intsOf ks) _ _ (HV.out.ints.below (Nat.le_refl _) (by repeat (first | exact Below.refl _ _ | with_reducible refine Below.trans ?_ (Below.mono HB3.out (by first | exact Nat.le_refl _ | (simp; done) | omega | (simp; omega) | (have z0 := Below.size HB3.out; omega) | (have z0 := Below.size HB3.out; simp at *; omega))) | with_reducible refine below_drewN ?_ _ | with_reducible refine Below.drew ?_ | with_reducible refine Below.alloc ?_ (by first | exact Nat.le_refl _ | (simp; done) | omega | (simp; omega) | (have z0 := Below.size HB3.out; omega) | (have z0 := Below.size HB3.out; simp at *; omega)) _ | with_reducible refine Below.setCell ?_ (by first | exact Nat.le_refl _ | (simp; done) | omega | (simp; omega) | (have z0 := Below.size HB3.out; omega) | (have z0 := Below.size HB3.out; simp at *; omega)) _))) (HVO.out.ints.below (Nat.le_refl _) (by repeat (first | exact Below.refl _ _ | with_reducible refine below_drewN ?_ _ | with_reducible refine Below.drew ?_ | with_reducible refine Below.alloc ?_ (by first | exact Nat.le_refl _ | (simp; done) | omega | (simp; omega)) _ | with_reducible refine Below.setCell ?_ (by first | exact Nat.le_refl _ | (simp; done) | omega | (simp; omega)) _)))).mono ?_; intro e w4 hret; obtain ⟨hb4, v4, rfl, hv4⟩ := hret.good HIS.out HRO.out; clear hret; obtain ⟨a4, c4, rfl⟩ := hv4.shape; have HB4 := Lib.hid hb4; have HV4 := Lib.hid hv4; clear hb4 hv4))
  obtain ⟨B, hBE⟩ : ∃ B, B = w2.heap.size := ⟨_, rfl⟩
  have hB3 : B < w3.heap.size := by rw [hBE]; exact zc1
  have x0 : w4.cell? ⟨B, 0, none⟩ = some (.slice a 300 cc) := by rw [hBE]; exact (HB4.out.cell (p := ⟨w2.heap.size, 0, none⟩) zc1).trans fc1_0
  have x1 : w4.cell? ⟨B, 1, none⟩ = some (.int .i64 (t : Int)) := by rw [hBE]; exact (HB4.out.cell (p := ⟨w2.heap.size, 1, none⟩) zc1).trans fc1_1
  have HA3 : Hid (Below w2.heap.size w2 w3) := by show Below _ _ _; exact (by repeat (first | exact Below.refl _ _ | with_reducible refine Below.trans ?_ (Below.mono HB3.out (by first | exact Nat.le_refl _ | (simp; done) | omega | (simp; omega) | (have z0 := Below.size HB3.out; omega) | (have z0 := Below.size HB3.out; simp at *; omega))) | with_reducible refine below_drewN ?_ _ | with_reducible refine Below.drew ?_ | with_reducible refine Below.alloc ?_ (by first | exact Nat.le_refl _ | (simp; done) | omega | (simp; omega) | (have z0 := Below.size HB3.out; omega) | (have z0 := Below.size HB3.out; simp at *; omega)) _ | with_reducible refine Below.setCell ?_ (by first | exact Nat.le_refl _ | (simp; done) | omega | (simp; omega) | (have z0 := Below.size HB3.out; omega) | (have z0 := Below.size HB3.out; simp at *; omega)) _))
  have HBW2 : Hid (Below w.heap.size w w2) := HBW1.out.trans (HB2.out.mono HBW1.out.size)
  have HBW3 : Hid (Below w.heap.size w w3) := HBW2.out.trans (HA3.out.mono HBW2.out.size)
  have HBW : Hid (Below w.heap.size w w4) := HBW3.out.trans (HB4.out.mono HBW3.out.size)
  have HIF : Hid (Ints w4 (.slice a 300 cc) xs) := HV.out.ints.below (Nat.le_refl _) (HA3.out.trans (HB4.out.mono HA3.out.size))
  have HIR : Hid (Ints w4 (.slice oa (intsOf ks).length oc) (intsOf ks)) := HVO.out.ints.below (Nat.le_refl _) HB4.out
  obtain ⟨A, hA⟩ : ∃ A, A = reachL xs l (intsOf ks) := ⟨_, rfl⟩
  rw [← hA] at HV4
  rw [← hA, ← hBE]
  have HAE := Lib.hid hA
  have HIA : Hid (Ints w4 (.slice a4 A.length c4) A) := HV4.out.ints
  clear hA hBE HV HVO HV4 HB2 HB3 HB4 HA3 HBW2 HBW3 HBW1 fc1_0 fc1_1 gc1_0 gc1_1 zc1 hB3
  have i2 := HIS.out.2.1
  have i3 := HIS.out.2.2.1
  rw [HXL.out] at i3
  have ill := places_len HIS.out.2.2.2.1 i2
  have hAl : A.length ≤ l.length := by rw [HAE.out, reachL]; exact Nat.le_trans (List.length_filter_le _ _) (by rw [intsOf_length]; exact Nat.le_refl _)
  have HAM : Hid (∀ p ∈ A, ∃ q ∈ l, p = (q : Int)) := fun p hp => by rw [HAE.out] at hp; exact reached_in HIS.out HRO.out ((mem_reachL HIS.out HRO.out).1 hp)
  have hzB : B < w4.heap.size := World.block_lt_of_cell? w4 _ x0
  have HKEEP : Hid (∀ W, Below w4.heap.size w4 W → W.cell? ⟨B, 0, none⟩ = some (.slice a 300 cc) ∧ W.cell? ⟨B, 1, none⟩ = some (.int .i64 (t : Int)) ∧ Ints W (.slice a 300 cc) xs ∧ Ints W (.slice oa (intsOf ks).length oc) (intsOf ks) ∧ Ints W (.slice a4 A.length c4) A) := fun W hW =>
    ⟨(hW.cell (p := ⟨B, 0, none⟩) hzB).trans x0, (hW.cell (p := ⟨B, 1, none⟩) hzB).trans x1, HIF.out.below (Nat.le_refl _) hW, HIR.out.below (Nat.le_refl _) hW, HIA.out.below (Nat.le_refl _) hW⟩
  have hccl : 300 ≤ cc ∧ cc ≤ 9223372036854775807 := by
    obtain ⟨a', c', e, h1, h2, _⟩ := HIF.out.len
    simp only [Value.slice.injEq] at e
    obtain ⟨_, e2, rfl⟩ := e
    rw [HXL.out] at h1
    exact ⟨h1, h2⟩
  obtain ⟨hcc1, hcc2⟩ := hccl
  clear x0 x1 HIF HIR HIA
  go_wp2_with fail
  go_loopw [51] (fun u wr => ∃ i : Nat, u = .int .i64 i ∧ i ≤ A.length ∧ Below w4.heap.size w4 wr) (fun u _ => A.length - (intOf u).toNat)
  case atStart => exact ⟨0, rfl, Nat.zero_le _, Below.refl _ _⟩
  case round =>
    obtain ⟨i, rfl, hi, hb⟩ := hrel
    obtain ⟨x0, x1, hif, hir, hia⟩ := HKEEP.out wr hb
    have HIF := Lib.hid hif; have HIR := Lib.hid hir; have HIA := Lib.hid hia; have HBR := Lib.hid hb
    clear hif hir hia hb
    by_cases hlt : i < A.length
    · obtain ⟨ab, ao, rfl, hab, hac⟩ := HIA.out.at (by omega)
      have e1 := hac i hlt
      obtain ⟨p, hp⟩ : ∃ p, p = A.getD i 0 := ⟨_, rfl⟩
      have hpm : p ∈ A := by rw [hp, List.getD_eq_getElem?_getD, List.getElem?_eq_getElem hlt]; exact List.getElem_mem hlt
      rw [← hp] at e1
      obtain ⟨q, hql, rfl⟩ := HAM.out p hpm
      obtain ⟨o1, o2, o3, o4⟩ := places_obj HIS.out.2.2.2.1 q hql
      obtain ⟨d, hd⟩ : ∃ d, d = nf xs q := ⟨_, rfl⟩
      rw [← hd] at o2 o3 o4
      have HD := Lib.hid hd; have HPM := Lib.hid hpm; have HQL := Lib.hid hql
      obtain ⟨b, bo, rfl, hbs, hbc⟩ := HIF.out.at (by rw [HXL.out]; omega)
      have e2 := hbc (q + 1) (by rw [HXL.out]; omega)
      rw [o2] at e2
      have HBC := Lib.hid hbc
      clear hac hp hpm hql o2 hd hbc
      have ep1 : IntKind.i64.wrap ((q : Int) + 1) = (q : Int) + 1 := IntWalk.i64_in _ (by omega)
      have ep2 : IntKind.i64.wrap ((q : Int) + 2) = (q : Int) + 2 := IntWalk.i64_in _ (by omega)
      have ep3 : IntKind.i64.wrap ((q : Int) + 2 + (d : Int)) = (q : Int) + 2 + (d : Int) := IntWalk.i64_in _ (by omega)
      have eb1 : (0 : Int) ≤ (q : Int) + 1 := by omega
      have eb2 : (q : Int) + 1 < 300 := by omega
      have eb3 : ((q : Int) + 1).toNat = q + 1 := by omega
      have ec1 : (0 : Int) ≤ (q : Int) + 2 := by omega
      have ec2 : (q : Int) + 2 ≤ (q : Int) + 2 + (d : Int) := by omega
      have ec3 : (q : Int) + 2 + (d : Int) ≤ (cc : Int) := by omega
      have ec4 : ((q : Int) + 2).toNat = q + 2 := by omega
      have ec5 : ((q : Int) + 2 + (d : Int)).toNat = q + 2 + d := by omega
      have hcp : ¬ cc = q + 2 := by omega
      have hcp2 : q + 2 + d ≤ cc := by omega
      have hcp3 : q + 2 ≤ cc := by omega
      go_wp2
      go_quiet (fail)
      have HBQ : Hid (Below w4.heap.size w4 (wr.drewN nq)) := below_drewN HBR.out nq
      clear x0 x1 e1 e2 ep1 ep2 ep3 eb1 eb2 eb3 ec1 ec2 ec3 ec4 ec5 hcp hcp2
      generalize wr.drewN nq = wx at *
      go_wp2_with fail
      (try rw [Nat.add_sub_cancel_left])
      go_loopw [70] (fun u wr => ∃ j : Nat, u = .int .i64 j ∧ j ≤ d ∧ Below w4.heap.size w4 wr) (fun u _ => d - (intOf u).toNat)
      case atStart => exact ⟨0, rfl, Nat.zero_le _, HBQ.out⟩
      case round =>
        obtain ⟨j, rfl, hj, hbj⟩ := hrel
        have HBJ := Lib.hid hbj
        by_cases hjd : j < d
        · obtain ⟨y0, y1, hjf, _, hja⟩ := HKEEP.out wr hbj
          obtain ⟨b', bo', eb, hbs', hbc'⟩ := hjf.at (by rw [HXL.out]; omega)
          simp only [Option.some.injEq, Addr.mk.injEq] at eb
          obtain ⟨rfl, rfl, _⟩ := eb
          have hw0 := hbc' (q + 2 + j) (by rw [HXL.out]; omega)
          rw [show bo + (q + 2 + j) = bo + (q + 2) + j by omega] at hw0
          have hrng := hjf.range (q + 2 + j)
          obtain ⟨x, hx⟩ : ∃ x, x = xs.getD (q + 2 + j) 0 := ⟨_, rfl⟩
          rw [← hx] at hw0 hrng
          obtain ⟨hr1, hr2⟩ := hrng
          have HXM : Hid (x ∈ fieldsOf xs q) := by
            rw [Hid, hx, fieldsOf, ← HD.out, List.getD_eq_getElem?_getD, List.getElem?_eq_getElem (by rw [HXL.out]; omega)]
            rw [List.mem_iff_getElem]
            exact ⟨j, by simp [HXL.out]; omega, by simp⟩
          have HJA := Lib.hid hja
          have HJD : Hid (j + 1 ≤ d) := hjd
          clear hx hbc' hjf hja y0 y1 hbj
          by_cases hs : x % 2 = 1 ∧ ofN x ≠ 0
          · obtain ⟨hodd, hn0⟩ := hs
            have hk : ofK x = 1 := hodd
            have HIN : Hid (decide (ofN x ∈ A) = true) := by
              rw [Hid, decide_eq_true_eq, HAE.out]
              exact reachL_field HIS.out HRO.out (by rw [← HAE.out]; exact HPM.out) HXM.out hodd hn0
            have hn1 : (ofN x != 0) = true := by simpa using hn0
            have HK := Lib.hid hk
            clear hodd hn0 hk
            go_wp2_with (first
              | (go_at_call 37; refine (of_any x _ hr1 hr2).mono ?_; rintro e w13 ⟨rfl, hb13⟩; rw [HK.out]; have HB13 := Lib.hid hb13; clear hb13)
              | (go_at_call 38; refine (containsInts_any _ A _ _ (HJA.out.below (Nat.le_refl _) (by repeat (first | exact Below.refl _ _ | with_reducible refine Below.trans ?_ (Below.mono HB13.out (by first | exact Nat.le_refl _ | (simp; done) | omega | (simp; omega) | (have z0 := Below.size HB13.out; omega) | (have z0 := Below.size HB13.out; simp at *; omega))) | with_reducible refine below_drewN ?_ _ | with_reducible refine Below.drew ?_ | with_reducible refine Below.alloc ?_ (by first | exact Nat.le_refl _ | (simp; done) | omega | (simp; omega) | (have z0 := Below.size HB13.out; omega) | (have z0 := Below.size HB13.out; simp at *; omega)) _ | with_reducible refine Below.setCell ?_ (by first | exact Nat.le_refl _ | (simp; done) | omega | (simp; omega) | (have z0 := Below.size HB13.out; omega) | (have z0 := Below.size HB13.out; simp at *; omega)) _)))).mono ?_; rintro e w' ⟨rfl, rfl⟩; rw [HIN.out]))
            go_roundw
            case rel => exact ⟨j + 1, by go_num, HJD.out, HBJ.out.trans ((show Below wr.heap.size wr _ from (by repeat (first | exact Below.refl _ _ | with_reducible refine Below.trans ?_ (Below.mono HB13.out (by first | exact Nat.le_refl _ | (simp; done) | omega | (simp; omega) | (have z0 := Below.size HB13.out; omega) | (have z0 := Below.size HB13.out; simp at *; omega))) | with_reducible refine below_drewN ?_ _ | with_reducible refine Below.drew ?_ | with_reducible refine Below.alloc ?_ (by first | exact Nat.le_refl _ | (simp; done) | omega | (simp; omega) | (have z0 := Below.size HB13.out; omega) | (have z0 := Below.size HB13.out; simp at *; omega)) _ | with_reducible refine Below.setCell ?_ (by first | exact Nat.le_refl _ | (simp; done) | omega | (simp; omega) | (have z0 := Below.size HB13.out; omega) | (have z0 := Below.size HB13.out; simp at *; omega)) _))).mono HBJ.out.size)⟩
            case measure => have := HJD.out; simp [intOf]; omega
          · have hcc : (ofK x = 1 ∧ (ofN x != 0) = false) ∨ ofK x = 0 := by
              by_cases h1 : x % 2 = 1
              · exact .inl ⟨h1, by simpa using Classical.byContradiction fun h => hs ⟨h1, h⟩⟩
              · exact .inr (by unfold ofK; omega)
            clear hs
            rcases hcc with ⟨hk, hn1⟩ | hk
            all_goals (
              have HK := Lib.hid hk
              clear hk
              go_wp2_with (go_at_call 37; refine (of_any x _ hr1 hr2).mono ?_; rintro e w13 ⟨rfl, hb13⟩; rw [HK.out]; have HB13 := Lib.hid hb13; clear hb13)
              go_roundw
              case rel => exact ⟨j + 1, by go_num, HJD.out, HBJ.out.trans ((show Below wr.heap.size wr _ from (by repeat (first | exact Below.refl _ _ | with_reducible refine Below.trans ?_ (Below.mono HB13.out (by first | exact Nat.le_refl _ | (simp; done) | omega | (simp; omega) | (have z0 := Below.size HB13.out; omega) | (have z0 := Below.size HB13.out; simp at *; omega))) | with_reducible refine below_drewN ?_ _ | with_reducible refine Below.drew ?_ | with_reducible refine Below.alloc ?_ (by first | exact Nat.le_refl _ | (simp; done) | omega | (simp; omega) | (have z0 := Below.size HB13.out; omega) | (have z0 := Below.size HB13.out; simp at *; omega)) _ | with_reducible refine Below.setCell ?_ (by first | exact Nat.le_refl _ | (simp; done) | omega | (simp; omega) | (have z0 := Below.size HB13.out; omega) | (have z0 := Below.size HB13.out; simp at *; omega)) _))).mono HBJ.out.size)⟩
              case measure => have := HJD.out; simp [intOf]; omega)
        · obtain rfl : j = d := by omega
          clear hbj
          go_wp2_with fail
          go_roundw
          case rel => exact ⟨i + 1, by go_num, by omega, HBJ.out⟩
          case measure => simp [intOf]; omega
    · obtain rfl : i = A.length := by omega
      clear x0 x1
      go_wp2_with fail
      go_loopw [95] (fun u wr => ∃ k : Nat, u = .int .i64 k ∧ k ≤ (intsOf ks).length ∧ Below w4.heap.size w4 wr) (fun u _ => (intsOf ks).length - (intOf u).toNat)
      case atStart => exact ⟨0, rfl, Nat.zero_le _, HBR.out⟩
      case round =>
        obtain ⟨k, rfl, hk, hbk⟩ := hrel
        have hk3' : (intsOf ks).length ≤ 3 := by rw [intsOf_length]; exact hk3
        have HBK := Lib.hid hbk
        obtain ⟨x0, x1, hkf, hkr, hka⟩ := HKEEP.out wr hbk
        have HKF := Lib.hid hkf; have HKA := Lib.hid hka
        by_cases hkl : k < (intsOf ks).length
        · obtain ⟨ob, oo, rfl, hob, hoc⟩ := hkr.at (by omega)
          have e1 := hoc k hkl
          obtain ⟨p, hp⟩ : ∃ p, p = (intsOf ks).getD k 0 := ⟨_, rfl⟩
          have hpm : p ∈ intsOf ks := by rw [hp, List.getD_eq_getElem?_getD, List.getElem?_eq_getElem hkl]; exact List.getElem_mem hkl
          rw [← hp] at e1
          obtain ⟨q, hqk, rfl⟩ := List.mem_map.1 hpm
          have hql := HKL.out q hqk
          obtain ⟨o1, o2, o3, o4⟩ := places_obj HIS.out.2.2.2.1 q hql
          have HPI : Hid (I64 (q : Int)) := by unfold Hid I64; omega
          have HPM := Lib.hid hpm
          have HR1 : Hid (RootsOk l [(q : Int)]) := fun z hz _ => ⟨q, hql, by simpa using hz⟩
          have HKD : Hid (k + 1 ≤ (intsOf ks).length) := hkl
          have HIN : Hid (decide ((q : Int) ∈ A) = true) := by
            rw [Hid, decide_eq_true_eq, HAE.out]
            exact reachL_root HIS.out HRO.out hpm (by omega)
          clear hoc hp hpm hqk hql o2 hkf hkr hka
          go_upto_region 24 with (first
            | (go_at_call 30; refine (reach_any _ _ xs [(q : Int)] _ _ (HKF.out.below (Nat.le_refl _) (by repeat (first | exact Below.refl _ _ | with_reducible refine below_drewN ?_ _ | with_reducible refine Below.drew ?_ | with_reducible refine Below.alloc ?_ (by first | exact Nat.le_refl _ | (simp; done) | omega | (simp; omega)) _ | with_reducible refine Below.setCell ?_ (by first | exact Nat.le_refl _ | (simp; done) | omega | (simp; omega)) _))) (built_at _ _ (by simp) HPI.out)).mono ?_; intro e w6 hret; obtain ⟨hb6, v6, rfl, hv6⟩ := hret.good HIS.out HR1.out; clear hret; obtain ⟨a6, c6, rfl⟩ := hv6.shape; have HB6 := Lib.hid hb6; have HV6 := Lib.hid hv6; clear hb6 hv6)
            | (go_at_call 38; refine (containsInts_any _ A _ _ (HKA.out.below (Nat.le_refl _) (by repeat (first | exact Below.refl _ _ | with_reducible refine Below.trans ?_ (Below.mono HB6.out (by first | exact Nat.le_refl _ | (simp; done) | omega | (simp; omega) | (have z0 := Below.size HB6.out; omega) | (have z0 := Below.size HB6.out; simp at *; omega))) | with_reducible refine below_drewN ?_ _ | with_reducible refine Below.drew ?_ | with_reducible refine Below.alloc ?_ (by first | exact Nat.le_refl _ | (simp; done) | omega | (simp; omega) | (have z0 := Below.size HB6.out; omega) | (have z0 := Below.size HB6.out; simp at *; omega)) _ | with_reducible refine Below.setCell ?_ (by first | exact Nat.le_refl _ | (simp; done) | omega | (simp; omega) | (have z0 := Below.size HB6.out; omega) | (have z0 := Below.size HB6.out; simp at *; omega)) _)))).mono ?_; rintro e w' ⟨rfl, rfl⟩; rw [HIN.out]))
          have HB46 : Hid (Below w4.heap.size w4 w6) := HBK.out.trans ((show Below wr.heap.size wr w6 from (by repeat (first | exact Below.refl _ _ | with_reducible refine Below.trans ?_ (Below.mono HB6.out (by first | exact Nat.le_refl _ | (simp; done) | omega | (simp; omega) | (have z0 := Below.size HB6.out; omega) | (have z0 := Below.size HB6.out; simp at *; omega))) | with_reducible refine below_drewN ?_ _ | with_reducible refine Below.drew ?_ | with_reducible refine Below.alloc ?_ (by first | exact Nat.le_refl _ | (simp; done) | omega | (simp; omega) | (have z0 := Below.size HB6.out; omega) | (have z0 := Below.size HB6.out; simp at *; omega)) _ | with_reducible refine Below.setCell ?_ (by first | exact Nat.le_refl _ | (simp; done) | omega | (simp; omega) | (have z0 := Below.size HB6.out; omega) | (have z0 := Below.size HB6.out; simp at *; omega)) _))).mono HBK.out.size)
          obtain ⟨D, hD⟩ : ∃ D, D = reachL xs l [(q : Int)] := ⟨_, rfl⟩
          rw [← hD] at HV6 ⊢
          have HDA : Hid (∀ z ∈ D, z ∈ A) := fun z hz => by
            rw [HAE.out]
            rw [hD] at hz
            exact reachL_sub HIS.out HR1.out HRO.out (fun p hp => by simp at hp; subst hp; exact HPM.out) hz
          have hDl : D.length ≤ 400 := by
            rw [hD, reachL]
            exact Nat.le_trans (List.length_filter_le _ _) (by rw [intsOf_length]; omega)
          have HID : Hid (Ints w6 (.slice a6 D.length c6) D) := HV6.out.ints
          clear hD HV6 HB6 x0 x1 e1
          go_wp2_with fail
          go_loopw [116] (fun u wr => ∃ j : Nat, u = .int .i64 j ∧ j ≤ D.length ∧ Below w6.heap.size w6 wr) (fun u _ => D.length - (intOf u).toNat)
          case atStart => exact ⟨0, rfl, Nat.zero_le _, Below.refl _ _⟩
          case round =>
            obtain ⟨j, rfl, hj, hbj⟩ := hrel
            have HB4J : Hid (Below w4.heap.size w4 wr) := HB46.out.trans (hbj.mono HB46.out.size)
            by_cases hjd : j < D.length
            · obtain ⟨db, do_, rfl, hdb, hdc⟩ := HID.out.at (by omega)
              have f1 := (hbj.cell (p := ⟨db, do_ + j, none⟩) hdb).trans (hdc j hjd)
              obtain ⟨z, hz⟩ : ∃ z, z = D.getD j 0 := ⟨_, rfl⟩
              have HZI : Hid (decide (z ∈ A) = true) := by
                rw [Hid, decide_eq_true_eq]
                exact HDA.out z (by rw [hz, List.getD_eq_getElem?_getD, List.getElem?_eq_getElem hjd]; exact List.getElem_mem hjd)
              rw [← hz] at f1
              have HJA := Lib.hid (HKEEP.out wr HB4J.out).2.2.2.2
              have HBJ := Lib.hid hbj
              clear hz hdc hbj
              go_wp2_with (go_at_call 38; refine (containsInts_any _ A _ _ HJA.out).mono ?_; rintro e w' ⟨rfl, rfl⟩; rw [HZI.out])
              go_roundw
              case rel => exact ⟨j + 1, by go_num, by omega, HBJ.out⟩
              case measure => simp [intOf]; omega
            · obtain rfl : j = D.length := by omega
              clear hbj
              go_wp2_with fail
              go_roundw
              case rel => exact ⟨k + 1, by go_num, HKD.out, HB4J.out⟩
              case measure => have := HKD.out; simp [intOf]; omega
        · obtain rfl : k = (intsOf ks).length := by omega
          have HRA : Hid (RootsOk l A) := by rw [Hid, HAE.out]; exact rootsOk_reachL HIS.out HRO.out
          have HAG : Hid (reachL xs l A = A) := by rw [Hid, HAE.out]; exact reachL_again HIS.out HRO.out
          clear hkf hkr hka hbk
          go_wp2_with (first
            | (go_at_call 30; refine (reach_any _ _ xs A _ _ HKF.out HKA.out).mono ?_; intro e w6 hret; obtain ⟨hb6, v6, rfl, hv6⟩ := hret.good HIS.out HRA.out; clear hret; rw [HAG.out] at hv6; obtain ⟨a6, c6, rfl⟩ := hv6.shape; have HB6 := Lib.hid hb6; have HV6 := Lib.hid hv6; clear hb6 hv6)
            | (go_at_call 35; refine (equalInts_same _ _ A _ (HKA.out.below (Nat.le_refl _) HB6.out) HV6.out.ints).mono ?_; rintro e w7 ⟨rfl, hb7⟩))
          go_ret
          exact ⟨ret_bool (by simp), HBW.out.trans ((HBK.out.trans ((HB6.out.trans (hb7.mono HB6.out.size)).mono HBK.out.size)).mono HBW.out.size)⟩
end Go.Proofs.Ytbeilcaadpopmab
