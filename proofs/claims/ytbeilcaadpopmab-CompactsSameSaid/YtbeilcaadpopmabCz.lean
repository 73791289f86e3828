/- Walk: limewashkeep.CompactsSame. -/
import Derived.Test.YtbeilcaadpopmabCx
import Derived.Test.YtbeilcaadpopmabCv
import Derived.Test.YtbeilcaadpopmabEq
import Derived.Test.YtbeilcaadpopmabRo
import Derived.Test.YtbeilcaadpopmabWm
import Derived.Deep.RegionHeld3
set_option linter.unusedVariables false
set_option linter.unusedSimpArgs false
namespace Go.Proofs.Ytbeilcaadpopmab
open Go.RowKit

theorem load_field (v : Value) (xs : List Int) (t : Nat) (l : List Nat) (q k : Nat) (w : World) (h : Ints w v xs) (hi : HeapIs xs t l) (hq : q ∈ l) (hk : k < nf xs q) :
    Calls Try.prog 34 #[.agg #[v, .int .i64 (t : Int)], .int .i64 (q : Int), .int .i64 (k : Int)] w fun e w' => e = .returned (.tuple #[.agg #[.int .i64 (ofK (xs.getD (q + 2 + k) 0)), .int .i64 (ofN (xs.getD (q + 2 + k) 0))], .int .i64 0]) ∧ Below w.heap.size w w' := by
  refine (load_any v xs t q k w h).mono fun e w' hr => ?_
  obtain ⟨hb, ⟨hn, _⟩ | ⟨t', l', e1, hi', ⟨q', k', hf, rfl⟩ | ⟨hn, _⟩⟩⟩ := hr
  · exact absurd ⟨t, l, rfl, hi⟩ hn
  · obtain rfl := Int.ofNat_inj.1 e1
    obtain rfl := hi.uniq hi'
    obtain ⟨rfl, rfl⟩ := hf.uniq ⟨hq, rfl, rfl, hk⟩
    exact ⟨rfl, hb⟩
  · obtain rfl := Int.ofNat_inj.1 e1
    obtain rfl := hi.uniq hi'
    exact absurd ⟨q, k, hq, rfl, rfl, hk⟩ hn

set_option maxRecDepth 100000 in
set_option maxHeartbeats 4000000 in
theorem compactsSame_any (v rv : Value) (ls rs : List Raw4) (w : World) (h : Raws w v ls) (hr : Raws w rv rs) :
    Calls Try.prog 11 #[v, rv] w fun e w' => e = .returned (.bool true) ∧ Below w.heap.size w w' := by
  have HL : Hid (∀ W, Below w.heap.size w W → Raws W v ls) := fun W hW => h.below (Nat.le_refl _) hW
  have HR : Hid (∀ W, Below w.heap.size w W → Raws W rv rs) := fun W hW => hr.below (Nat.le_refl _) hW
  clear h hr
  go_enter Try.func11, Try.ntmps11
  go_upto_region 2 with (go_at_call 33; refine (keepHeap_any _ ls _ (HL.out _ (by repeat (first | exact Below.refl _ _ | with_reducible refine below_drewN ?_ _ | with_reducible refine Below.drew ?_ | with_reducible refine Below.alloc ?_ (by first | exact Nat.le_refl _ | (simp; done) | omega | (simp; omega)) _ | with_reducible refine Below.setCell ?_ (by first | exact Nat.le_refl _ | (simp; done) | omega | (simp; omega)) _)))).mono ?_; rintro e w1 ⟨xs, t, l, a, cc, his, hxl, ht, rfl, hv, hb⟩; have HIS := Lib.hid his; have HXL := Lib.hid hxl; have HV := Lib.hid hv; have HB1 := Lib.hid hb; clear his hxl hv hb)
  obtain ⟨B, hBE⟩ : ∃ B, B = w1.heap.size := ⟨_, rfl⟩
  obtain ⟨w2, hw2⟩ : ∃ w2, w2 = w1.alloc (.cells #[.slice a 300 cc, .int .i64 (t : Int)] 25) := ⟨_, rfl⟩
  have x0 : w2.cell? ⟨B, 0, none⟩ = some (.slice a 300 cc) := by rw [hw2, hBE]; simp
  have x1 : w2.cell? ⟨B, 1, none⟩ = some (.int .i64 (t : Int)) := by rw [hw2, hBE]; simp
  have HBW2 : Hid (Below w.heap.size w w2) := by rw [Hid, hw2]; exact HB1.out.alloc HB1.out.size _
  have HIF : Hid (Ints w2 (.slice a 300 cc) xs) := by rw [Hid, hw2]; exact HV.out.ints.below (Nat.le_refl _) ((Below.refl _ _).alloc (Nat.le_refl _) _)
  have hB2 : B < w2.heap.size := by rw [hw2, hBE]; simp
  rw [← hBE, ← hw2]
  clear hw2 hBE HB1 HV
  have HKEEP : Hid (∀ W, Below w2.heap.size w2 W → W.cell? ⟨B, 0, none⟩ = some (.slice a 300 cc) ∧ W.cell? ⟨B, 1, none⟩ = some (.int .i64 (t : Int)) ∧ Below w2.heap.size w2 W) := fun W hW => ⟨(hW.cell (p := ⟨B, 0, none⟩) hB2).trans x0, (hW.cell (p := ⟨B, 1, none⟩) hB2).trans x1, hW⟩
  clear x0 x1
  go_region_held3 (fun W => W.cell? ⟨B, 0, none⟩ = some (.slice a 300 cc) ∧ W.cell? ⟨B, 1, none⟩ = some (.int .i64 (t : Int)) ∧ Below w2.heap.size w2 W)
    (first | exact HKEEP.out _ (by repeat (first | exact Below.refl _ _ | with_reducible refine Below.trans ?_ (Below.mono hb4 (by first | exact Nat.le_refl _ | (simp; done) | omega | (simp; omega) | (have z := Below.size hb4; omega) | (have z := Below.size hb3; omega) | (have z0 := Below.size hb4; have z1 := Below.size hb3; omega) | (have z0 := Below.size hb4; have z1 := Below.size hb3; simp at *; omega))) | with_reducible refine Below.trans ?_ (Below.mono hb3 (by first | exact Nat.le_refl _ | (simp; done) | omega | (simp; omega) | (have z := Below.size hb4; omega) | (have z := Below.size hb3; omega) | (have z0 := Below.size hb4; have z1 := Below.size hb3; omega) | (have z0 := Below.size hb4; have z1 := Below.size hb3; simp at *; omega))) | with_reducible refine below_drewN ?_ _ | with_reducible refine Below.drew ?_ | with_reducible refine Below.alloc ?_ (by first | exact Nat.le_refl _ | (simp; done) | omega | (simp; omega) | (have z := Below.size hb4; omega) | (have z := Below.size hb3; omega) | (have z0 := Below.size hb4; have z1 := Below.size hb3; omega) | (have z0 := Below.size hb4; have z1 := Below.size hb3; simp at *; omega)) _ | with_reducible refine Below.setCell ?_ (by first | exact Nat.le_refl _ | (simp; done) | omega | (simp; omega) | (have z := Below.size hb4; omega) | (have z := Below.size hb3; omega) | (have z0 := Below.size hb4; have z1 := Below.size hb3; omega) | (have z0 := Below.size hb4; have z1 := Below.size hb3; simp at *; omega)) _)) | exact HKEEP.out _ (by repeat (first | exact Below.refl _ _ | with_reducible refine Below.trans ?_ (Below.mono hb3 (by first | exact Nat.le_refl _ | (simp; done) | omega | (simp; omega) | (have z0 := Below.size hb3; omega) | (have z0 := Below.size hb3; simp at *; omega))) | with_reducible refine below_drewN ?_ _ | with_reducible refine Below.drew ?_ | with_reducible refine Below.alloc ?_ (by first | exact Nat.le_refl _ | (simp; done) | omega | (simp; omega) | (have z0 := Below.size hb3; omega) | (have z0 := Below.size hb3; simp at *; omega)) _ | with_reducible refine Below.setCell ?_ (by first | exact Nat.le_refl _ | (simp; done) | omega | (simp; omega) | (have z0 := Below.size hb3; omega) | (have z0 := Below.size hb3; simp at *; omega)) _)) | exact HKEEP.out _ (by repeat (first | exact Below.refl _ _ | with_reducible refine below_drewN ?_ _ | with_reducible refine Below.drew ?_ | with_reducible refine Below.alloc ?_ (by first | exact Nat.le_refl _ | (simp; done) | omega | (simp; omega)) _ | with_reducible refine Below.setCell ?_ (by first | exact Nat.le_refl _ | (simp; done) | omega | (simp; omega)) _)))
    (first | (go_at_call 36; refine (keepRoots_any _ _ xs t l rs _ (HIF.out.below (Nat.le_refl _) (by repeat (first | exact Below.refl _ _ | with_reducible refine below_drewN ?_ _ | with_reducible refine Below.drew ?_ | with_reducible refine Below.alloc ?_ (by first | exact Nat.le_refl _ | (simp; done) | omega | (simp; omega)) _ | with_reducible refine Below.setCell ?_ (by first | exact Nat.le_refl _ | (simp; done) | omega | (simp; omega)) _))) (HR.out _ (HBW2.out.trans ((show Below w2.heap.size w2 _ from (by repeat (first | exact Below.refl _ _ | with_reducible refine below_drewN ?_ _ | with_reducible refine Below.drew ?_ | with_reducible refine Below.alloc ?_ (by first | exact Nat.le_refl _ | (simp; done) | omega | (simp; omega)) _ | with_reducible refine Below.setCell ?_ (by first | exact Nat.le_refl _ | (simp; done) | omega | (simp; omega)) _))).mono HBW2.out.size))) HIS.out).mono ?_; rintro e w3 ⟨ks, ov, hk3, hkl, rfl, hvo, hb3⟩; obtain ⟨oa, oc, rfl⟩ := hvo.shape; have HRO : Hid (RootsOk l (intsOf ks)) := (fun p hp _ => by obtain ⟨q, hq, rfl⟩ := List.mem_map.1 hp; exact ⟨q, hkl q hq, rfl⟩); have HVO := Lib.hid hvo; clear hkl hvo) | (go_at_call 30; refine (reach_any _ _ xs (intsOf ks) _ _ (HIF.out.below (Nat.le_refl _) (by repeat (first | exact Below.refl _ _ | with_reducible refine Below.trans ?_ (Below.mono hb3 (by first | exact Nat.le_refl _ | (simp; done) | omega | (simp; omega) | (have z0 := Below.size hb3; omega) | (have z0 := Below.size hb3; simp at *; omega))) | with_reducible refine below_drewN ?_ _ | with_reducible refine Below.drew ?_ | with_reducible refine Below.alloc ?_ (by first | exact Nat.le_refl _ | (simp; done) | omega | (simp; omega) | (have z0 := Below.size hb3; omega) | (have z0 := Below.size hb3; simp at *; omega)) _ | with_reducible refine Below.setCell ?_ (by first | exact Nat.le_refl _ | (simp; done) | omega | (simp; omega) | (have z0 := Below.size hb3; omega) | (have z0 := Below.size hb3; simp at *; omega)) _))) HVO.out.ints).mono ?_; intro e w4 hret; obtain ⟨hb4, v4, rfl, hv4⟩ := hret.good HIS.out HRO.out; clear hret; rw [reachL_eq] at hv4; obtain ⟨a4, c4, rfl⟩ := hv4.shape; have HV4 := Lib.hid hv4; clear hv4))
  rename_i hHeld
  obtain ⟨_, _, hb24⟩ := hHeld
  have HB24 := Lib.hid hb24
  clear hb3 hb4 hb24 HVO
  obtain ⟨KS, hKS⟩ : ∃ KS, KS = reachN xs l (intsOf ks) := ⟨_, rfl⟩
  rw [← hKS] at HV4 ⊢
  obtain ⟨L, hL0⟩ := reach_closes HIS.out HRO.out
  have hKK := reachN_keep HIS.out (intsOf ks)
  rw [← hKS] at hL0 hKK
  have HKK := Lib.hid hKK; have HLL := Lib.hid hL0
  have HCL := Lib.hid (closed_is HIS.out hKK hL0)
  have HIA : Hid (Ints w4 (.slice a4 (intsOf KS).length c4) (intsOf KS)) := HV4.out.ints
  have HBW4 : Hid (Below w.heap.size w w4) := HBW2.out.trans (HB24.out.mono HBW2.out.size)
  clear hKS hL0 hKK HV4
  obtain ⟨x0, x1, _⟩ := HKEEP.out w4 HB24.out
  go_upto_region 4 with (go_at_call 27; refine (compact_any _ _ xs (intsOf KS) _ _ (HIF.out.below (Nat.le_refl _) HB24.out) HIA.out).mono ?_; intro e w5 hret; obtain ⟨hb5, cv, mv, rfl, hvc, hvm⟩ := hret.good HIS.out HKK.out HLL.out; clear hret; obtain ⟨ca, ccc, rfl⟩ := hvc.shape; obtain ⟨ma, mc, rfl, hmc1, hmc2⟩ := hvm.shape; have HB5 := Lib.hid hb5; have HVC := Lib.hid hvc; have HVM := Lib.hid hvm; clear hb5 hvc hvm)
  obtain ⟨bs, hLb, hbl, hst, htop, hpad, hbs, hic⟩ := HCL.out
  rw [hpad] at HVC
  rw [HXL.out] at hic HVC
  obtain ⟨C, hC⟩ : ∃ C, C = w5.heap.size := ⟨_, rfl⟩
  obtain ⟨T, hT⟩ : ∃ T, T = topOf xs KS 1 := ⟨_, rfl⟩
  obtain ⟨CX, hCX⟩ : ∃ CX, CX = heapOf 300 bs := ⟨_, rfl⟩
  rw [← hCX] at HVC hic
  have hcxl : CX.length = 300 := by
    rw [hCX]
    refine heapOf_len ?_
    rw [← htop]
    have h1 := keep_top HIS.out HKK.out
    have h2 := HIS.out.2.2.1
    rw [HXL.out] at h2
    omega
  rw [← htop, ← hT] at hic
  have hpl : (padTo xs.length (0 :: L)).length = 300 := by rw [hpad, HXL.out, ← hCX]; exact hcxl
  rw [hcxl] at HVC
  rw [hpl]
  rw [mvs_len] at HVM hmc1 ⊢
  rw [← hT]
  obtain ⟨w6, hw6⟩ : ∃ w6, w6 = w5.alloc (.cells #[.slice ca 300 ccc, .int .i64 (T : Int)] 25) := ⟨_, rfl⟩
  have HB46 : Hid (Below w4.heap.size w4 w6) := by rw [Hid, hw6]; exact HB5.out.alloc HB5.out.size _
  have c0 : w6.cell? ⟨C, 0, none⟩ = some (.slice ca 300 ccc) := by rw [hw6, hC]; simp
  have c1 : w6.cell? ⟨C, 1, none⟩ = some (.int .i64 (T : Int)) := by rw [hw6, hC]; simp
  have HIC : Hid (Ints w6 (.slice ca 300 ccc) CX) := by rw [Hid, hw6]; exact HVC.out.ints.below (Nat.le_refl _) ((Below.refl _ _).alloc (Nat.le_refl _) _)
  have HVM6 : Hid (OwnMoves w6 w4.heap.size (.slice ma KS.length mc) (mvs xs KS 1)) := by rw [Hid, hw6]; exact HVM.out.below ((Below.refl _ _).alloc (Nat.le_refl _) _)
  rw [← hC, ← hw6]
  have hC6 : C < w6.heap.size := World.block_lt_of_cell? w6 _ c0
  have hB4C : w4.heap.size ≤ C := by rw [hC]; exact HB5.out.size
  have HPAD : Hid (padTo 300 (0 :: enc bs) = CX) := by rw [Hid, hCX, ← HXL.out, ← hLb]; exact hpad
  have HTT := Lib.hid hT; have HCX := Lib.hid hCX; have HCXL := Lib.hid hcxl; have HST := Lib.hid hst; have HBS := Lib.hid hbs; have HIC2 := Lib.hid hic; have HTOP := Lib.hid htop; have HBL := Lib.hid hbl
  have hB4 : B < w4.heap.size := World.block_lt_of_cell? w4 _ x0
  have HK6 : Hid (∀ W, Below w6.heap.size w6 W → W.cell? ⟨B, 0, none⟩ = some (.slice a 300 cc) ∧ W.cell? ⟨B, 1, none⟩ = some (.int .i64 (t : Int)) ∧ W.cell? ⟨C, 0, none⟩ = some (.slice ca 300 ccc) ∧ W.cell? ⟨C, 1, none⟩ = some (.int .i64 (T : Int)) ∧ Ints W (.slice a 300 cc) xs ∧ Ints W (.slice ca 300 ccc) CX ∧ Ints W (.slice a4 (intsOf KS).length c4) (intsOf KS) ∧ OwnMoves W w4.heap.size (.slice ma KS.length mc) (mvs xs KS 1)) := fun W hW => by
    have h46 := HB46.out.trans (hW.mono HB46.out.size)
    have h26 := HB24.out.trans (h46.mono HB24.out.size)
    exact ⟨(h46.cell (p := ⟨B, 0, none⟩) hB4).trans x0, (h46.cell (p := ⟨B, 1, none⟩) hB4).trans x1, (hW.cell (p := ⟨C, 0, none⟩) hC6).trans c0, (hW.cell (p := ⟨C, 1, none⟩) hC6).trans c1, HIF.out.below (Nat.le_refl _) h26, HIC.out.below (Nat.le_refl _) hW, HIA.out.below (Nat.le_refl _) h46, HVM6.out.below hW⟩
  clear hT hCX hcxl hst hbs hic htop hbl hLb hpad hpl hw6 hC HVC HVM HB5 hmc1 hmc2
  rw [intsOf_length]
  have HW0 := HK6.out w6 (Below.refl _ _)
  have HW := Lib.hid HW0
  clear HW0 x0 x1
  have hmm := @run_makeMap Try.prog
  go_wp2_with (first
    | (go_at_call 19; refine (check_any _ CX _ _ HIC.out).mono ?_; rintro e w7 ⟨hb7, ⟨_, rfl⟩ | ⟨hno, _⟩⟩; rotate_left; (exact absurd ⟨T, _, rfl, HIC2.out⟩ hno); have HB7 := Lib.hid hb7; clear hb7)
    | (refine wpl_funIns rfl _ _ _ rfl w7.heap.size 0 _ rfl (funMap_made w7) (by omega) 0 0 rfl (by unfold I64; omega) rfl (by unfold I64; omega) ?_; intro w8 hf8 hg8; have HF8 := Lib.hid hf8; have HG8 := Lib.hid hg8; clear hf8 hg8))
  obtain ⟨z, hz⟩ : ∃ z, z = w7.heap.size := ⟨_, rfl⟩
  have hz6 : w6.heap.size ≤ z := by rw [hz]; exact HB7.out.size
  have HB68 : Hid (Below w6.heap.size w6 w8) := by
    have h1 : Below w6.heap.size w6 (w7.alloc (.map #[] 0)) := (HB7.out).alloc (by omega) _
    exact h1.grown HG8.out (by simp; omega) (fun j hj => by simp only [Option.some.injEq] at hj; omega)
  have HFM : Hid (FunMap w8 z 1 (toF [])) := by
    have h1 := HF8.out
    have e : (toF [] : Int → Option Int) = fun z => if z = 0 then some 0 else none := by funext y; simp [toF]
    rw [Hid, e, hz]; exact h1
  rw [← hz]
  clear hz HF8 HG8 HB7 c0 c1 hmm
  have HKZ : Hid (∀ W, w8.grownBy W (some z) → Below w6.heap.size w6 W) := fun W hW => HB68.out.grown hW HB68.out.size (fun j hj => by simp only [Option.some.injEq] at hj; omega)
  go_loopw [12, 64] (fun u12 u wr => ∃ k : Nat, u = .int .i64 k ∧ k ≤ KS.length ∧ u12 = .int .i64 (topOf xs (KS.take k) 1 : Nat) ∧ FunMap wr z (k + 1) (toF (mvs xs (KS.take k) 1)) ∧ w8.grownBy wr (some z)) (fun _ u _ => KS.length - (intOf u).toNat)
  case atStart => exact ⟨0, rfl, Nat.zero_le _, rfl, HFM.out, World.grownBy.refl _ _⟩
  case round =>
    obtain ⟨k, rfl, hk, rfl, hfm, hgr⟩ := hrel
    have HBK := Lib.hid (HKZ.out wr hgr)
    obtain ⟨x0, x1, c0, c1, hxi, hci, hki, hmi⟩ := HK6.out wr HBK.out
    have HFMK := Lib.hid hfm; have HGRK := Lib.hid hgr
    have HKI := Lib.hid hki
    clear hfm hgr hci hki c0 c1
    by_cases hlt : k < KS.length
    · have hmlt : k < (mvs xs KS 1).length := by rw [mvs_len]; exact hlt
      obtain ⟨mg, rfl, hm1, hm2, e1, e2⟩ := hmi.at hmlt
      rw [mvs_at xs KS 1 k hlt hmlt] at e1 e2
      obtain ⟨kb, ko, rfl, hkb, hkc⟩ := HKI.out.at (by rw [intsOf_length]; omega)
      have e3 := hkc k (by rw [intsOf_length]; omega)
      rw [show (intsOf KS).getD k 0 = (KS[k] : Int) by simp [intsOf, List.getD, hlt]] at e3
      have hpk : KS[k] ∈ KS := List.getElem_mem hlt
      have hpl := HKK.out.1 _ hpk
      have HTKS : Hid (KS.take (k + 1) = KS.take k ++ [KS[k]]) := by rw [Hid, List.take_succ_eq_append_getElem hlt]
      obtain ⟨p, hp⟩ : ∃ p, p = KS[k] := ⟨_, rfl⟩
      simp only [← hp] at e1 e2 e3 hpk hpl HTKS
      obtain ⟨T0, hT0⟩ : ∃ T0, T0 = topOf xs (KS.take k) 1 := ⟨_, rfl⟩
      rw [← hT0] at e2 ⊢
      obtain ⟨o1, o2, o3, o4⟩ := places_obj HIS.out.2.2.2.1 p hpl
      have h300 := HIS.out.2.2.1
      rw [HXL.out] at h300
      obtain ⟨b, bo, rfl, hbs, hbc⟩ := hxi.at (by rw [HXL.out]; omega)
      have e4 := hbc (p + 1) (by rw [HXL.out]; omega)
      obtain ⟨d, hd⟩ : ∃ d, d = nf xs p := ⟨_, rfl⟩
      rw [o2, ← hd] at e4
      rw [← hd] at o3 o4
      have hT0t : T0 + (2 + d) ≤ t := by
        have h1 := keep_top HIS.out (keepIs_take HKK.out (k + 1))
        rw [HTKS.out, topOf_snoc, ← hT0, ← hd] at h1
        exact h1
      have hks : KS.length ≤ 300 := by have := keep_len HIS.out HKK.out; omega
      have HP := Lib.hid hp; have HT0 := Lib.hid hT0; have HD := Lib.hid hd; have HPL := Lib.hid hpl
      have HNP : Hid (p ∉ (mvs xs (KS.take k) 1).map (·.1)) := by
        rw [Hid, mvs_fst, hp]
        intro hm
        have hnd := HKK.out.2
        obtain ⟨i, hi, e⟩ := List.mem_iff_getElem.1 hm
        have hi' : i < k := by simp at hi; omega
        have := List.pairwise_iff_getElem.1 hnd i k (by omega) hlt hi'
        rw [List.getElem_take] at e
        omega
      clear hkc hbc hp hT0 hd hpl hpk o2 hmi hxi
      go_upto_region 11 with (fail)
      obtain ⟨w9, hw9⟩ : ∃ w9, w9 = wr.alloc (.cells #[.int .i64 (p : Int), .int .i64 (T0 : Int)] 73) := ⟨_, rfl⟩
      obtain ⟨Y, hY⟩ : ∃ Y, Y = wr.heap.size := ⟨_, rfl⟩
      have HB9 : Hid (Below wr.heap.size wr w9) := by rw [Hid, hw9]; exact (Below.refl _ _).alloc (Nat.le_refl _) _
      have y0 : w9.cell? ⟨Y, 0, none⟩ = some (.int .i64 (p : Int)) := by rw [hw9, hY]; simp
      have y1 : w9.cell? ⟨Y, 1, none⟩ = some (.int .i64 (T0 : Int)) := by rw [hw9, hY]; simp
      have hY9 : Y < w9.heap.size := World.block_lt_of_cell? w9 _ y0
      have hzr : z < wr.heap.size := HFMK.out.lt
      rw [← hY, ← hw9]
      have q3 := (HB9.out.cell (p := ⟨kb, ko + k, none⟩) hkb).trans e3
      have hBr : B < wr.heap.size := World.block_lt_of_cell? wr _ x0
      have q0 := (HB9.out.cell (p := ⟨B, 0, none⟩) hBr).trans x0
      have q4 := (HB9.out.cell (p := ⟨b, bo + (p + 1), none⟩) hbs).trans e4
      have HFM9 : Hid (FunMap w9 z (k + 1) (toF (mvs xs (KS.take k) 1))) := HFMK.out.below HB9.out
      have HGR9 : Hid (w8.grownBy w9 (some z)) := grown_tr HGRK.out (grownBy_of_below (B := 0) HB9.out _)
      have HY := Lib.hid hY
      clear hw9 x0 x1 e1 e2 e3 e4 hY
      go_quiet (fail)
      have HPI : Hid (I64 (p : Int)) := by unfold Hid I64; omega
      have HTI : Hid (I64 (T0 : Int)) := by unfold Hid I64; omega
      obtain ⟨w10, hw10⟩ : ∃ w10, w10 = w9.drewN nq := ⟨_, rfl⟩
      have HFM10 : Hid (FunMap w10 z (k + 1) (toF (mvs xs (KS.take k) 1))) := by rw [Hid, hw10]; exact HFM9.out.below (below_drewN (Below.refl _ _) nq)
      have HGR10 : Hid (w8.grownBy w10 (some z)) := by rw [Hid, hw10]; exact grown_tr HGR9.out (grownBy_of_below (B := 0) (below_drewN (Below.refl _ _) nq) _)
      have y0' : w10.cell? ⟨Y, 0, none⟩ = some (.int .i64 (p : Int)) := by rw [hw10]; exact y0
      have y1' : w10.cell? ⟨Y, 1, none⟩ = some (.int .i64 (T0 : Int)) := by rw [hw10]; exact y1
      have q0' : w10.cell? ⟨B, 0, none⟩ = some (.slice (some ⟨b, bo, none⟩) 300 cc) := by rw [hw10]; exact q0
      have q4' : w10.cell? ⟨b, bo + (p + 1), none⟩ = some (.int .i64 (d : Int)) := by rw [hw10]; exact q4
      have hY10 : Y < w10.heap.size := World.block_lt_of_cell? w10 _ y0'
      have hB10 : B < w10.heap.size := World.block_lt_of_cell? w10 _ q0'
      have hb10 : b < w10.heap.size := World.block_lt_of_cell? w10 _ q4'
      have hYz : Y ≠ z := by have := HY.out; omega
      have hBz : B ≠ z := by omega
      have hbz : b ≠ z := fun e => by
        obtain ⟨b', o', e', hb', _⟩ := HIF.out.at (by rw [HXL.out]; omega)
        simp only [Option.some.injEq, Addr.mk.injEq] at e'
        obtain ⟨rfl, _, _⟩ := e'
        have := HB24.out.size
        omega
      rw [← hw10]
      clear hw10 y0 y1 q0 q3 q4
      go_wp2_with (at_mapUpdate; refine wpl_funPut rfl _ _ _ rfl z (k + 1) _ rfl HFM10.out (by omega) (p : Int) (T0 : Int) rfl HPI.out rfl HTI.out ?_; intro w11 hf11 hg11; have HF11 := Lib.hid hf11; have HG11 := Lib.hid hg11; have y0'' := (grown_cell hg11 (M := Y) (i := 0) hY10 (by simp; exact hYz)).1.trans y0'; have q0'' := (grown_cell hg11 (M := B) (i := 0) hB10 (by simp; exact hBz)).1.trans q0'; have q4'' := (grown_cell hg11 (M := b) (i := bo + (p + 1)) hb10 (by simp; exact hbz)).1.trans q4'; clear hf11 hg11)
      go_roundw
      case rel =>
        refine ⟨k + 1, by go_num, by omega, ?_, ?_, grown_tr HGR10.out HG11.out⟩
        · rw [HTKS.out, topOf_snoc, ← HT0.out, ← HD.out]
          go_num
        · rw [HTKS.out, mvs_snoc, toF_snoc _ _ _ (by omega) HNP.out, ← HT0.out]
          exact HF11.out
      case measure => simp [intOf]; omega
    · obtain rfl : k = KS.length := by omega
      obtain ⟨wl, rfl⟩ : ∃ wl : World, wl = wr := ⟨_, rfl⟩
      have hks : KS.length ≤ 300 := by have := keep_len HIS.out HKK.out; have := HIS.out.2.2.1; rw [HXL.out] at this; omega
      have HFL : Hid (FunMap wl z (KS.length + 1) (toF (mvs xs KS 1))) := by have := HFMK.out; rwa [List.take_length] at this
      rw [show topOf xs (KS.take KS.length) 1 = T from by rw [List.take_length, HTT.out]]
      have HWB : Hid (Below w6.heap.size w6 wl) := HBK.out
      have HKW : Hid (∀ W, Below wl.heap.size wl W → FunMap W z (KS.length + 1) (toF (mvs xs KS 1)) ∧ W.cell? ⟨B, 0, none⟩ = some (.slice a 300 cc) ∧ W.cell? ⟨B, 1, none⟩ = some (.int .i64 (t : Int)) ∧ W.cell? ⟨C, 0, none⟩ = some (.slice ca 300 ccc) ∧ W.cell? ⟨C, 1, none⟩ = some (.int .i64 (T : Int)) ∧ Ints W (.slice a 300 cc) xs ∧ Ints W (.slice ca 300 ccc) CX ∧ OwnMoves W w4.heap.size (.slice ma KS.length mc) (mvs xs KS 1)) := fun W hW => by
        obtain ⟨h1, h2, h3, h4, h5, h6, h7, h8⟩ := HK6.out W (HWB.out.trans (hW.mono HWB.out.size))
        exact ⟨HFL.out.below hW, h1, h2, h3, h4, h5, h6, h8⟩
      clear x0 x1 hmi HKI
      go_wp2_with fail
      go_loopw [100] (fun u wr => ∃ i : Nat, u = .int .i64 i ∧ i ≤ KS.length ∧ Below wl.heap.size wl wr) (fun u _ => KS.length - (intOf u).toNat)
      case atStart => exact ⟨0, rfl, Nat.zero_le _, Below.refl _ _⟩
      case round =>
        obtain ⟨i, rfl, hi, hb⟩ := hrel
        obtain ⟨hfm, x0, x1, c0, c1, hxi, hci, hmi⟩ := HKW.out wr hb
        have HBI := Lib.hid hb
        clear hfm hb
        by_cases hlt : i < KS.length
        · have hmlt : i < (mvs xs KS 1).length := by rw [mvs_len]; exact hlt
          obtain ⟨mg, rfl, hm1, hm2, e1, e2⟩ := hmi.at hmlt
          rw [mvs_at xs KS 1 i hlt hmlt] at e1 e2
          have hpk : KS[i] ∈ KS := List.getElem_mem hlt
          have hpl := HKK.out.1 _ hpk
          have hil : i < bs.length := by rw [HBL.out]; exact hlt
          have his : i < (starts 1 bs).length := by rw [starts_len]; exact hil
          have hse : (starts 1 bs)[i] = topOf xs (KS.take i) 1 := by
            have := mvs_at xs KS 1 i hlt hmlt
            have h2 : (starts 1 bs)[i] = ((mvs xs KS 1).map (·.2))[i]'(by simpa using hmlt) := by congr 1
            rw [h2, List.getElem_map, this]
          obtain ⟨q1, q2, q3⟩ := HBS.out i hlt hil
          obtain ⟨g1, g2, g3, g4, g5⟩ := heapOf_at (n := 300) i hil his
          rw [← HCX.out, hse] at g1 g2 g3 g4
          rw [hse] at g5
          obtain ⟨p, hp⟩ : ∃ p, p = KS[i] := ⟨_, rfl⟩
          obtain ⟨T0, hT0⟩ : ∃ T0, T0 = topOf xs (KS.take i) 1 := ⟨_, rfl⟩
          simp only [← hp, ← hT0] at e1 e2 hpk hpl q1 q2 q3 g1 g2 g3 g4 g5
          have hTp : T0 ∈ starts 1 bs := by rw [hT0, ← hse]; exact List.getElem_mem his
          obtain ⟨o1, o2, o3, o4⟩ := places_obj HIS.out.2.2.2.1 p hpl
          have h300 := HIS.out.2.2.1
          rw [HXL.out] at h300
          obtain ⟨d, hd⟩ : ∃ d, d = nf xs p := ⟨_, rfl⟩
          rw [← hd] at o2 o3 o4 q3
          rw [q3] at g2 g3 g5
          rw [q1] at g1
          have hTle : 1 + (enc bs).length ≤ 300 := by
            have := HIC2.out.2.2.1
            rw [HCXL.out, HTT.out, HTOP.out] at this
            exact this
          have hFX : fieldsOf xs p = (xs.drop (p + 2)).take d := by rw [fieldsOf, ← hd]
          have HCV : Hid (∀ j, j < d → cvt (mvs xs KS 1) (xs.getD (p + 2 + j) 0) = some (CX.getD (T0 + 2 + j) 0)) := fun j hj => by
            rw [g4 j (by omega)]
            have h1 := cvts_at _ _ q2 j (by rw [fields_len HIS.out p hpl, ← hd]; exact hj) (by omega)
            rw [← h1]
            congr 1
            simp only [fieldsOf, List.getElem_take, List.getElem_drop]
            rw [List.getD_eq_getElem?_getD, List.getElem?_eq_getElem (by rw [HXL.out]; omega)]
            rfl
          obtain ⟨b, bo, rfl, hbs, hbc⟩ := hxi.at (by rw [HXL.out]; omega)
          obtain ⟨cb, co, rfl, hcb, hcc⟩ := hci.at (by rw [HCXL.out]; omega)
          have e3 := hbc p (by rw [HXL.out]; omega)
          have e4 := hbc (p + 1) (by rw [HXL.out]; omega)
          have e5 := hcc T0 (by rw [HCXL.out]; omega)
          have e6 := hcc (T0 + 1) (by rw [HCXL.out]; omega)
          rw [g1] at e5
          rw [g3] at e6
          rw [o2] at e4
          obtain ⟨st, hst⟩ : ∃ st, st = xs.getD p 0 := ⟨_, rfl⟩
          rw [← hst] at e3 e5
          have HPL := Lib.hid hpl; have HTP := Lib.hid hTp; have HD := Lib.hid hd; have HNF := Lib.hid g2
          clear hst hp hT0 hse q1 q2 q3 g1 g2 g3 g4 hFX hbc hcc o2 hpk hpl hTp hd hmi hxi hci
          go_upto_region 19 with (fail)
          obtain ⟨w9, hw9⟩ : ∃ w9, w9 = wr.alloc (.cells #[.int .i64 (p : Int), .int .i64 (T0 : Int)] 73) := ⟨_, rfl⟩
          obtain ⟨Y, hY⟩ : ∃ Y, Y = wr.heap.size := ⟨_, rfl⟩
          have HB9 : Hid (Below wr.heap.size wr w9) := by rw [Hid, hw9]; exact (Below.refl _ _).alloc (Nat.le_refl _) _
          have y0 : w9.cell? ⟨Y, 0, none⟩ = some (.int .i64 (p : Int)) := by rw [hw9, hY]; simp
          have y1 : w9.cell? ⟨Y, 1, none⟩ = some (.int .i64 (T0 : Int)) := by rw [hw9, hY]; simp
          rw [← hY, ← hw9]
          have hBr : B < wr.heap.size := World.block_lt_of_cell? wr _ x0
          have hCr : C < wr.heap.size := World.block_lt_of_cell? wr _ c0
          have q0 := (HB9.out.cell (p := ⟨B, 0, none⟩) hBr).trans x0
          have r0 := (HB9.out.cell (p := ⟨C, 0, none⟩) hCr).trans c0
          have q3 := (HB9.out.cell (p := ⟨b, bo + p, none⟩) hbs).trans e3
          have q4 := (HB9.out.cell (p := ⟨b, bo + (p + 1), none⟩) hbs).trans e4
          have q5 := (HB9.out.cell (p := ⟨cb, co + T0, none⟩) hcb).trans e5
          have q6 := (HB9.out.cell (p := ⟨cb, co + (T0 + 1), none⟩) hcb).trans e6
          have HB09 : Hid (Below wl.heap.size wl w9) := HBI.out.trans (HB9.out.mono HBI.out.size)
          have HY := Lib.hid hY
          have hT300 : T0 + 2 + d ≤ 300 := by omega
          clear hw9 hY x0 x1 c0 c1 e1 e2 e3 e4 e5 e6 g5 hTle
          go_quiet (fail)
          obtain ⟨wx, hwx⟩ : ∃ wx, wx = w9.drewN nq := ⟨_, rfl⟩
          have HB0X : Hid (Below wl.heap.size wl wx) := by rw [Hid, hwx]; exact below_drewN HB09.out nq
          have y0 : wx.cell? ⟨Y, 0, none⟩ = some (.int .i64 (p : Int)) := by rw [hwx]; exact y0
          have y1 : wx.cell? ⟨Y, 1, none⟩ = some (.int .i64 (T0 : Int)) := by rw [hwx]; exact y1
          have q0 : wx.cell? ⟨B, 0, none⟩ = some (.slice (some ⟨b, bo, none⟩) 300 cc) := by rw [hwx]; exact q0
          have q4 : wx.cell? ⟨b, bo + (p + 1), none⟩ = some (.int .i64 (d : Int)) := by rw [hwx]; exact q4
          rw [← hwx]
          clear hwx q3 q5 q6 r0
          go_wp2_with fail
          have hYx : Y < wx.heap.size := World.block_lt_of_cell? wx _ y0
          have HYK : Hid (∀ W, Below wx.heap.size wx W → W.cell? ⟨Y, 0, none⟩ = some (.int .i64 (p : Int)) ∧ W.cell? ⟨Y, 1, none⟩ = some (.int .i64 (T0 : Int))) := fun W hW => ⟨(hW.cell (p := ⟨Y, 0, none⟩) hYx).trans y0, (hW.cell (p := ⟨Y, 1, none⟩) hYx).trans y1⟩
          clear y0 y1 q0 q4
          go_loopw [141] (fun u wr => ∃ j : Nat, u = .int .i64 j ∧ j ≤ d ∧ Below wx.heap.size wx wr) (fun u _ => d - (intOf u).toNat)
          case atStart => exact ⟨0, rfl, Nat.zero_le _, Below.refl _ _⟩
          case round =>
            obtain ⟨j, rfl, hj, hbj⟩ := hrel
            have HB0J : Hid (Below wl.heap.size wl wr) := HB0X.out.trans (hbj.mono HB0X.out.size)
            have HBJ := Lib.hid hbj
            clear hbj
            by_cases hjd : j < d
            · obtain ⟨hfm, x0, x1, c0, c1, hxi, hci, _⟩ := HKW.out wr HB0J.out
              obtain ⟨y0, y1⟩ := HYK.out wr HBJ.out
              have HXI := Lib.hid hxi; have HCI := Lib.hid hci; have HFJ := Lib.hid hfm
              have hBr : B < wr.heap.size := World.block_lt_of_cell? wr _ x0
              have hCr : C < wr.heap.size := World.block_lt_of_cell? wr _ c0
              have hYr : Y < wr.heap.size := World.block_lt_of_cell? wr _ y0
              have HKJ : Hid (∀ W, Below wr.heap.size wr W → FunMap W z (KS.length + 1) (toF (mvs xs KS 1)) ∧ W.cell? ⟨C, 0, none⟩ = some (.slice (some ⟨cb, co, none⟩) 300 ccc) ∧ W.cell? ⟨C, 1, none⟩ = some (.int .i64 (T : Int)) ∧ W.cell? ⟨Y, 0, none⟩ = some (.int .i64 (p : Int)) ∧ W.cell? ⟨Y, 1, none⟩ = some (.int .i64 (T0 : Int)) ∧ Ints W (.slice (some ⟨cb, co, none⟩) 300 ccc) CX) :=
                fun W hW => ⟨HFJ.out.below hW, (hW.cell (p := ⟨C, 0, none⟩) hCr).trans c0, (hW.cell (p := ⟨C, 1, none⟩) hCr).trans c1, (hW.cell (p := ⟨Y, 0, none⟩) hYr).trans y0, (hW.cell (p := ⟨Y, 1, none⟩) hYr).trans y1, HCI.out.below (Nat.le_refl _) hW⟩
              have HC1 := HCV.out j hjd
              obtain ⟨x, hx⟩ : ∃ x, x = xs.getD (p + 2 + j) 0 := ⟨_, rfl⟩
              obtain ⟨y, hy⟩ : ∃ y, y = CX.getD (T0 + 2 + j) 0 := ⟨_, rfl⟩
              rw [← hx, ← hy] at HC1
              have HCVJ := Lib.hid HC1
              have hxr := hxi.range (p + 2 + j)
              rw [← hx] at hxr
              obtain ⟨hxr1, hxr2⟩ := hxr
              have HX := Lib.hid hx; have HY2 := Lib.hid hy
              have HJD : Hid (j + 1 ≤ d) := hjd
              have hkd : Hid (j < nf xs p) := by rw [Hid, ← HD.out]; exact hjd
              have hkd2 : Hid (j < nf CX T0) := by rw [Hid, HNF.out]; exact hjd
              have hcase : (x % 2 = 1 ∧ ∃ y', toF (mvs xs KS 1) (ofN x) = some y' ∧ y = 2 * y' + 1) ∨ (x % 2 = 0 ∧ y = x) := by
                unfold cvt at HC1
                by_cases ho : x % 2 = 1
                · rw [if_pos ho] at HC1
                  obtain ⟨y', h1, h2⟩ := Option.map_eq_some_iff.1 HC1
                  exact .inl ⟨ho, y', h1, h2.symm⟩
                · rw [if_neg ho] at HC1
                  exact .inr ⟨by omega, (Option.some.inj HC1).symm⟩
              clear HC1 hx hy hxi hci hfm
              rcases hcase with ⟨hodd, y', hty, hyy⟩ | ⟨hev, hyy⟩
              · have HKX : Hid (ofK x = 1) := hodd
                have HKY : Hid (ofK y = 1) := by unfold Hid ofK; omega
                have HNY : Hid (ofN y = y') := by unfold Hid ofN; omega
                have HTY := Lib.hid hty
                have HNI : Hid (I64 (ofN x)) := by unfold Hid ofN I64; omega
                clear hodd hty hyy
                go_upto_region 25 with (go_at_call 34; refine (load_field _ xs t l p j _ (HXI.out.below (Nat.le_refl _) (by repeat (first | exact Below.refl _ _ | with_reducible refine below_drewN ?_ _ | with_reducible refine Below.drew ?_ | with_reducible refine Below.alloc ?_ (by first | exact Nat.le_refl _ | (simp; done) | omega | (simp; omega)) _ | with_reducible refine Below.setCell ?_ (by first | exact Nat.le_refl _ | (simp; done) | omega | (simp; omega)) _))) HIS.out HPL.out hkd.out).mono ?_; rintro e w11 ⟨rfl, hb11⟩; rw [← HX.out, HKX.out]; have HB11 := Lib.hid hb11; clear hb11)
                obtain ⟨w12, hw12⟩ : ∃ w12, w12 = w11.alloc (.cells #[.int .i64 1, .int .i64 (ofN x)] 36) := ⟨_, rfl⟩
                obtain ⟨V1, hV1⟩ : ∃ V1, V1 = w11.heap.size := ⟨_, rfl⟩
                have HB12 : Hid (Below wr.heap.size wr w12) := by rw [Hid, hw12]; exact HB11.out.alloc HB11.out.size _
                have v0 : w12.cell? ⟨V1, 0, none⟩ = some (.int .i64 1) := by rw [hw12, hV1]; simp
                have v1 : w12.cell? ⟨V1, 1, none⟩ = some (.int .i64 (ofN x)) := by rw [hw12, hV1]; simp
                have f0 : w12.frozen? ⟨V1, 0, none⟩ = false := by rw [hw12, hV1]; simp [go_sem]
                have f1 : w12.frozen? ⟨V1, 1, none⟩ = false := by rw [hw12, hV1]; simp [go_sem]
                have hV12 : V1 < w12.heap.size := World.block_lt_of_cell? w12 _ v0
                have HVR : Hid (wr.heap.size ≤ V1) := by rw [Hid, hV1]; exact HB11.out.size
                rw [← hV1, ← hw12]
                clear hw12 hV1 x0 x1 c0 c1 y0 y1
                obtain ⟨hfm, c0, c1, y0, y1, hci⟩ := HKJ.out w12 HB12.out
                have HCI2 := Lib.hid hci
                clear hci hfm
                go_upto_region 26 with (go_at_call 34; refine (load_field _ CX T (starts 1 bs) T0 j _ (HCI2.out.below (Nat.le_refl _) (by repeat (first | exact Below.refl _ _ | with_reducible refine below_drewN ?_ _ | with_reducible refine Below.drew ?_ | with_reducible refine Below.alloc ?_ (by first | exact Nat.le_refl _ | (simp; done) | omega | (simp; omega)) _ | with_reducible refine Below.setCell ?_ (by first | exact Nat.le_refl _ | (simp; done) | omega | (simp; omega)) _))) HIC2.out HTP.out hkd2.out).mono ?_; rintro e w13 ⟨rfl, hb13⟩; rw [← HY2.out, HKY.out, HNY.out]; have HB13 := Lib.hid hb13; clear hb13)
                obtain ⟨w14, hw14⟩ : ∃ w14, w14 = w13.alloc (.cells #[.int .i64 1, .int .i64 y'] 36) := ⟨_, rfl⟩
                obtain ⟨V2, hV2⟩ : ∃ V2, V2 = w13.heap.size := ⟨_, rfl⟩
                have HB14 : Hid (Below w12.heap.size w12 w14) := by rw [Hid, hw14]; exact HB13.out.alloc HB13.out.size _
                have t0 : w14.cell? ⟨V2, 0, none⟩ = some (.int .i64 1) := by rw [hw14, hV2]; simp
                have t1 : w14.cell? ⟨V2, 1, none⟩ = some (.int .i64 y') := by rw [hw14, hV2]; simp
                rw [← hV2, ← hw14]
                have HVV : Hid (V1 ≠ V2) := by rw [Hid, hV2]; have := HB13.out.size; omega
                have hvv : V2 ≠ V1 := fun e => HVV.out e.symm
                have v0' := (HB14.out.cell (p := ⟨V1, 0, none⟩) hV12).trans v0
                have v1' := (HB14.out.cell (p := ⟨V1, 1, none⟩) hV12).trans v1
                have f1' := (HB14.out.frozen (p := ⟨V1, 1, none⟩) hV12).trans f1
                have hV14 : V1 < w14.heap.size := World.block_lt_of_cell? w14 _ v0'
                have hV24 : V2 < w14.heap.size := World.block_lt_of_cell? w14 _ t0
                have HB114 : Hid (Below wr.heap.size wr w14) := HB12.out.trans (HB14.out.mono HB12.out.size)
                have HFJ14 : Hid (FunMap w14 z (KS.length + 1) (toF (mvs xs KS 1))) := HFJ.out.below HB114.out
                clear hw14 hV2 v0 v1 f0 f1 c0 c1 y0 y1
                go_wp2_with (at_lookup; refine wpl_funLook rfl _ _ rfl z _ _ rfl HFJ14.out (ofN x) rfl HNI.out ?_; rw [HTY.out]; simp only [Option.getD_some])
                go_roundw
                case rel => exact ⟨j + 1, by go_num, HJD.out, (HBJ.out.trans (HB114.out.mono HBJ.out.size)).setCell (by have := HVR.out; have := HBJ.out.size; show wx.heap.size ≤ V1; omega) _⟩
                case measure => have := HJD.out; simp [intOf]; omega
              · have HKX : Hid (ofK x = 0) := hev
                have HKY : Hid (ofK y = 0) := by rw [Hid, hyy]; exact hev
                have HNY : Hid (ofN y = ofN x) := by rw [Hid, hyy]
                clear hev hyy
                go_upto_region 25 with (go_at_call 34; refine (load_field _ xs t l p j _ (HXI.out.below (Nat.le_refl _) (by repeat (first | exact Below.refl _ _ | with_reducible refine below_drewN ?_ _ | with_reducible refine Below.drew ?_ | with_reducible refine Below.alloc ?_ (by first | exact Nat.le_refl _ | (simp; done) | omega | (simp; omega)) _ | with_reducible refine Below.setCell ?_ (by first | exact Nat.le_refl _ | (simp; done) | omega | (simp; omega)) _))) HIS.out HPL.out hkd.out).mono ?_; rintro e w11 ⟨rfl, hb11⟩; rw [← HX.out, HKX.out]; have HB11 := Lib.hid hb11; clear hb11)
                obtain ⟨w12, hw12⟩ : ∃ w12, w12 = w11.alloc (.cells #[.int .i64 0, .int .i64 (ofN x)] 36) := ⟨_, rfl⟩
                obtain ⟨V1, hV1⟩ : ∃ V1, V1 = w11.heap.size := ⟨_, rfl⟩
                have HB12 : Hid (Below wr.heap.size wr w12) := by rw [Hid, hw12]; exact HB11.out.alloc HB11.out.size _
                have v0 : w12.cell? ⟨V1, 0, none⟩ = some (.int .i64 0) := by rw [hw12, hV1]; simp
                have v1 : w12.cell? ⟨V1, 1, none⟩ = some (.int .i64 (ofN x)) := by rw [hw12, hV1]; simp
                have hV12 : V1 < w12.heap.size := World.block_lt_of_cell? w12 _ v0
                rw [← hV1, ← hw12]
                clear hw12 hV1 x0 x1 c0 c1 y0 y1
                obtain ⟨hfm, c0, c1, y0, y1, hci⟩ := HKJ.out w12 HB12.out
                have HCI2 := Lib.hid hci
                clear hci hfm
                go_upto_region 26 with (go_at_call 34; refine (load_field _ CX T (starts 1 bs) T0 j _ (HCI2.out.below (Nat.le_refl _) (by repeat (first | exact Below.refl _ _ | with_reducible refine below_drewN ?_ _ | with_reducible refine Below.drew ?_ | with_reducible refine Below.alloc ?_ (by first | exact Nat.le_refl _ | (simp; done) | omega | (simp; omega)) _ | with_reducible refine Below.setCell ?_ (by first | exact Nat.le_refl _ | (simp; done) | omega | (simp; omega)) _))) HIC2.out HTP.out hkd2.out).mono ?_; rintro e w13 ⟨rfl, hb13⟩; rw [← HY2.out, HKY.out, HNY.out]; have HB13 := Lib.hid hb13; clear hb13)
                obtain ⟨w14, hw14⟩ : ∃ w14, w14 = w13.alloc (.cells #[.int .i64 0, .int .i64 (ofN x)] 36) := ⟨_, rfl⟩
                obtain ⟨V2, hV2⟩ : ∃ V2, V2 = w13.heap.size := ⟨_, rfl⟩
                have HB14 : Hid (Below w12.heap.size w12 w14) := by rw [Hid, hw14]; exact HB13.out.alloc HB13.out.size _
                have t0 : w14.cell? ⟨V2, 0, none⟩ = some (.int .i64 0) := by rw [hw14, hV2]; simp
                have t1 : w14.cell? ⟨V2, 1, none⟩ = some (.int .i64 (ofN x)) := by rw [hw14, hV2]; simp
                rw [← hV2, ← hw14]
                have v0' := (HB14.out.cell (p := ⟨V1, 0, none⟩) hV12).trans v0
                have v1' := (HB14.out.cell (p := ⟨V1, 1, none⟩) hV12).trans v1
                have HB114 : Hid (Below wr.heap.size wr w14) := HB12.out.trans (HB14.out.mono HB12.out.size)
                clear hw14 hV2 v0 v1 c0 c1 y0 y1
                go_wp2_with fail
                go_roundw
                case rel => exact ⟨j + 1, by go_num, HJD.out, HBJ.out.trans (HB114.out.mono HBJ.out.size)⟩
                case measure => have := HJD.out; simp [intOf]; omega
            · obtain rfl : j = d := by omega
              go_wp2_with fail
              go_roundw
              case rel => exact ⟨i + 1, by go_num, by omega, HB0J.out⟩
              case measure => simp [intOf]; omega
        · obtain rfl : i = KS.length := by omega
          have hCr : C < wr.heap.size := World.block_lt_of_cell? wr _ c0
          have HCI := Lib.hid hci
          have HKC : Hid (∀ W, Below wr.heap.size wr W → W.cell? ⟨C, 0, none⟩ = some (.slice ca 300 ccc) ∧ W.cell? ⟨C, 1, none⟩ = some (.int .i64 (T : Int)) ∧ Below wr.heap.size wr W) := fun W hW => ⟨(hW.cell (p := ⟨C, 0, none⟩) hCr).trans c0, (hW.cell (p := ⟨C, 1, none⟩) hCr).trans c1, hW⟩
          have HTE : Hid (T = 1 + (enc bs).length) := HTT.out.trans HTOP.out
          have HAG : Hid (mvs CX (starts 1 bs) 1 = (starts 1 bs).map (fun p => (p, p)) ∧ topOf CX (starts 1 bs) 1 = T ∧ outW CX (mvs CX (starts 1 bs) 1) (starts 1 bs) = some (enc bs)) := by
            have h1 := HIC2.out
            have h2 : 1 + (enc bs).length ≤ 300 := by
              have := h1.2.2.1
              rw [HCXL.out, HTE.out] at this; exact this
            rw [HTE.out, HCX.out] at h1
            have h3 := closed_again h2 h1
            rw [Hid, HCX.out, HTE.out]
            exact h3
          have HKS : Hid (KeepIs (starts 1 bs) (starts 1 bs)) := ⟨fun _ h => h, (places_pair HIC2.out.2.2.2.1).imp fun {a b} h => by omega⟩
          clear hxi hci hmi x0 x1 c0 c1
          obtain ⟨c0, c1, _⟩ := HKC.out wr (Below.refl _ _)
          go_wp2_with fail
          go_region_held3 (fun W => W.cell? ⟨C, 0, none⟩ = some (.slice ca 300 ccc) ∧ W.cell? ⟨C, 1, none⟩ = some (.int .i64 (T : Int)) ∧ Below wr.heap.size wr W)
            (first | exact HKC.out _ (by repeat (first | exact Below.refl _ _ | with_reducible refine Below.trans ?_ (Below.mono hb22 (by first | exact Nat.le_refl _ | (simp; done) | omega | (simp; omega) | (have z := Below.size hb22; omega) | (have z := Below.size hb21; omega) | (have z0 := Below.size hb22; have z1 := Below.size hb21; omega) | (have z0 := Below.size hb22; have z1 := Below.size hb21; simp at *; omega))) | with_reducible refine Below.trans ?_ (Below.mono hb21 (by first | exact Nat.le_refl _ | (simp; done) | omega | (simp; omega) | (have z := Below.size hb22; omega) | (have z := Below.size hb21; omega) | (have z0 := Below.size hb22; have z1 := Below.size hb21; omega) | (have z0 := Below.size hb22; have z1 := Below.size hb21; simp at *; omega))) | with_reducible refine below_drewN ?_ _ | with_reducible refine Below.drew ?_ | with_reducible refine Below.alloc ?_ (by first | exact Nat.le_refl _ | (simp; done) | omega | (simp; omega) | (have z := Below.size hb22; omega) | (have z := Below.size hb21; omega) | (have z0 := Below.size hb22; have z1 := Below.size hb21; omega) | (have z0 := Below.size hb22; have z1 := Below.size hb21; simp at *; omega)) _ | with_reducible refine Below.setCell ?_ (by first | exact Nat.le_refl _ | (simp; done) | omega | (simp; omega) | (have z := Below.size hb22; omega) | (have z := Below.size hb21; omega) | (have z0 := Below.size hb22; have z1 := Below.size hb21; omega) | (have z0 := Below.size hb22; have z1 := Below.size hb21; simp at *; omega)) _)))
            (first | (go_at_call 39; refine (keepPlaces_any _ CX T (starts 1 bs) _ (HCI.out.below (Nat.le_refl _) (by repeat (first | exact Below.refl _ _ | with_reducible refine below_drewN ?_ _ | with_reducible refine Below.drew ?_ | with_reducible refine Below.alloc ?_ (by first | exact Nat.le_refl _ | (simp; done) | omega | (simp; omega)) _ | with_reducible refine Below.setCell ?_ (by first | exact Nat.le_refl _ | (simp; done) | omega | (simp; omega)) _))) HIC2.out).mono ?_; rintro e w21 ⟨⟨pa, pc, rfl, hvp⟩, hb21⟩; (try (have zc1 := Nat.lt_of_lt_of_le (show wr.heap.size < _ from (by first | (simp; done) | omega | (simp; omega))) (Below.size hb21); have fc1_0 := Below.cell hb21 (p := ⟨wr.heap.size, 0, none⟩) (by first | (simp; done) | omega | (simp; omega)); have gc1_0 := Below.frozen hb21 (p := ⟨wr.heap.size, 0, none⟩) (by first | (simp; done) | omega | (simp; omega)); have fc1_1 := Below.cell hb21 (p := ⟨wr.heap.size, 1, none⟩) (by first | (simp; done) | omega | (simp; omega)); have gc1_1 := Below.frozen hb21 (p := ⟨wr.heap.size, 1, none⟩) (by first | (simp; done) | omega | (simp; omega)); (try simp at fc1_0 gc1_0 fc1_1 gc1_1))); replace hb21 : Below wr.heap.size wr w21 := (by repeat (first | exact Below.refl _ _ | with_reducible refine Below.trans ?_ (Below.mono hb21 (by first | exact Nat.le_refl _ | (simp; done) | omega | (simp; omega) | (have z0 := Below.size hb21; omega) | (have z0 := Below.size hb21; simp at *; omega))) | with_reducible refine below_drewN ?_ _ | with_reducible refine Below.drew ?_ | with_reducible refine Below.alloc ?_ (by first | exact Nat.le_refl _ | (simp; done) | omega | (simp; omega) | (have z0 := Below.size hb21; omega) | (have z0 := Below.size hb21; simp at *; omega)) _ | with_reducible refine Below.setCell ?_ (by first | exact Nat.le_refl _ | (simp; done) | omega | (simp; omega) | (have z0 := Below.size hb21; omega) | (have z0 := Below.size hb21; simp at *; omega)) _)); have HVP := Lib.hid hvp; clear hvp) | (go_at_call 27; refine (compact_any _ _ CX (intsOf (starts 1 bs)) _ _ (HCI.out.below (Nat.le_refl _) (by repeat (first | exact Below.refl _ _ | with_reducible refine Below.trans ?_ (Below.mono hb21 (by first | exact Nat.le_refl _ | (simp; done) | omega | (simp; omega) | (have z0 := Below.size hb21; omega) | (have z0 := Below.size hb21; simp at *; omega))) | with_reducible refine below_drewN ?_ _ | with_reducible refine Below.drew ?_ | with_reducible refine Below.alloc ?_ (by first | exact Nat.le_refl _ | (simp; done) | omega | (simp; omega) | (have z0 := Below.size hb21; omega) | (have z0 := Below.size hb21; simp at *; omega)) _ | with_reducible refine Below.setCell ?_ (by first | exact Nat.le_refl _ | (simp; done) | omega | (simp; omega) | (have z0 := Below.size hb21; omega) | (have z0 := Below.size hb21; simp at *; omega)) _))) (HVP.out.ints.below (Nat.le_refl _) (by repeat (first | exact Below.refl _ _ | with_reducible refine below_drewN ?_ _ | with_reducible refine Below.drew ?_ | with_reducible refine Below.alloc ?_ (by first | exact Nat.le_refl _ | (simp; done) | omega | (simp; omega)) _ | with_reducible refine Below.setCell ?_ (by first | exact Nat.le_refl _ | (simp; done) | omega | (simp; omega)) _)))).mono ?_; intro e w22 hret; obtain ⟨hb22, ov, mv, rfl, hvo, hvm⟩ := hret.good HIC2.out HKS.out HAG.out.2.2; clear hret; rw [HCXL.out, HPAD.out] at hvo; rw [HAG.out.1] at hvm; rw [HAG.out.2.1]; obtain ⟨ova, ovc, rfl⟩ := hvo.shape; obtain ⟨mva, mvc, rfl, _, _⟩ := hvm.shape; rw [List.length_map] at hvm; (try (have zc2 := Nat.lt_of_lt_of_le (show w21.heap.size < _ from (by first | (simp; done) | omega | (simp; omega))) (Below.size hb22); have fc2_0 := Below.cell hb22 (p := ⟨w21.heap.size, 0, none⟩) (by first | (simp; done) | omega | (simp; omega)); have gc2_0 := Below.frozen hb22 (p := ⟨w21.heap.size, 0, none⟩) (by first | (simp; done) | omega | (simp; omega)); have fc2_1 := Below.cell hb22 (p := ⟨w21.heap.size, 1, none⟩) (by first | (simp; done) | omega | (simp; omega)); have gc2_1 := Below.frozen hb22 (p := ⟨w21.heap.size, 1, none⟩) (by first | (simp; done) | omega | (simp; omega)); (try simp at fc2_0 gc2_0 fc2_1 gc2_1))); (try (have zc3 := Nat.lt_of_lt_of_le (show wr.heap.size < _ from (by first | (simp; done) | omega | (simp; omega))) (Below.size hb22); have fc3_0 := Below.cell hb22 (p := ⟨wr.heap.size, 0, none⟩) (by first | (simp; done) | omega | (simp; omega)); have gc3_0 := Below.frozen hb22 (p := ⟨wr.heap.size, 0, none⟩) (by first | (simp; done) | omega | (simp; omega)); have fc3_1 := Below.cell hb22 (p := ⟨wr.heap.size, 1, none⟩) (by first | (simp; done) | omega | (simp; omega)); have gc3_1 := Below.frozen hb22 (p := ⟨wr.heap.size, 1, none⟩) (by first | (simp; done) | omega | (simp; omega)); (try simp at fc3_0 gc3_0 fc3_1 gc3_1))); replace hb22 : Below wr.heap.size wr w22 := (by repeat (first | exact Below.refl _ _ | with_reducible refine Below.trans ?_ (Below.mono hb22 (by first | exact Nat.le_refl _ | (simp; done) | omega | (simp; omega) | (have z := Below.size hb22; omega) | (have z := Below.size hb21; omega) | (have z0 := Below.size hb22; have z1 := Below.size hb21; omega) | (have z0 := Below.size hb22; have z1 := Below.size hb21; simp at *; omega))) | with_reducible refine Below.trans ?_ (Below.mono hb21 (by first | exact Nat.le_refl _ | (simp; done) | omega | (simp; omega) | (have z := Below.size hb22; omega) | (have z := Below.size hb21; omega) | (have z0 := Below.size hb22; have z1 := Below.size hb21; omega) | (have z0 := Below.size hb22; have z1 := Below.size hb21; simp at *; omega))) | with_reducible refine below_drewN ?_ _ | with_reducible refine Below.drew ?_ | with_reducible refine Below.alloc ?_ (by first | exact Nat.le_refl _ | (simp; done) | omega | (simp; omega) | (have z := Below.size hb22; omega) | (have z := Below.size hb21; omega) | (have z0 := Below.size hb22; have z1 := Below.size hb21; omega) | (have z0 := Below.size hb22; have z1 := Below.size hb21; simp at *; omega)) _ | with_reducible refine Below.setCell ?_ (by first | exact Nat.le_refl _ | (simp; done) | omega | (simp; omega) | (have z := Below.size hb22; omega) | (have z := Below.size hb21; omega) | (have z0 := Below.size hb22; have z1 := Below.size hb21; omega) | (have z0 := Below.size hb22; have z1 := Below.size hb21; simp at *; omega)) _)); have HVO := Lib.hid hvo; have HVM := Lib.hid hvm; clear hvo hvm))
          all_goals (
            rename_i hHeld
            obtain ⟨d0, d1, hbR⟩ := hHeld
            have HBR := Lib.hid hbR
            clear hbR)
          · go_wp2_with (first
              | (go_at_call 35; refine (equalInts_same _ _ CX _ (HVO.out.ints.below (Nat.le_refl _) (by repeat (first | exact Below.refl _ _ | with_reducible refine below_drewN ?_ _ | with_reducible refine Below.drew ?_ | with_reducible refine Below.alloc ?_ (by first | exact Nat.le_refl _ | (simp; done) | omega | (simp; omega)) _ | with_reducible refine Below.setCell ?_ (by first | exact Nat.le_refl _ | (simp; done) | omega | (simp; omega)) _))) (HCI.out.below (Nat.le_refl _) HBR.out)).mono ?_; rintro e w24 ⟨rfl, hb24⟩)
              | (go_at_call 40; refine (containsMoves_any _ ((starts 1 bs).map fun p => (p, p)) _ (HVM.out.moves.below (Nat.le_refl _) (by repeat (first | exact Below.refl _ _ | with_reducible refine Below.trans ?_ (Below.mono hb24 (by first | exact Nat.le_refl _ | (simp; done) | omega | (simp; omega) | (have z0 := Below.size hb24; omega) | (have z0 := Below.size hb24; simp at *; omega))) | with_reducible refine below_drewN ?_ _ | with_reducible refine Below.drew ?_ | with_reducible refine Below.alloc ?_ (by first | exact Nat.le_refl _ | (simp; done) | omega | (simp; omega) | (have z0 := Below.size hb24; omega) | (have z0 := Below.size hb24; simp at *; omega)) _ | with_reducible refine Below.setCell ?_ (by first | exact Nat.le_refl _ | (simp; done) | omega | (simp; omega) | (have z0 := Below.size hb24; omega) | (have z0 := Below.size hb24; simp at *; omega)) _))) (fun m hm => by obtain ⟨p, _, rfl⟩ := List.mem_map.1 hm; rfl)).mono ?_; rintro e w25 ⟨rfl, hb25⟩))
            go_ret
            have g1 := hb24.trans (hb25.mono hb24.size)
            have g2 := HBR.out.trans (g1.mono HBR.out.size)
            have g3 := HBI.out.trans (g2.mono HBI.out.size)
            have g4 := HWB.out.trans (g3.mono HWB.out.size)
            have g5 := HB46.out.trans (g4.mono HB46.out.size)
            have g6 := HB24.out.trans (g5.mono HB24.out.size)
            exact ⟨ret_bool (by simp), HBW2.out.trans (g6.mono HBW2.out.size)⟩
          · go_wp2_with (first
              | (go_at_call 35; refine (equalInts_same _ _ CX _ ((HVO.out.setFar (fun e => absurd (HVO.out.lt e).1 (by first | (simp; done) | (simp; omega) | omega)) _).setFar (fun e => absurd (HVO.out.lt e).1 (by first | (simp; done) | (simp; omega) | omega)) _).ints (HCI.out.below (Nat.le_refl _) HBR.out)).mono ?_; rintro e w24 ⟨rfl, hb24⟩)
              | (go_at_call 40; refine (containsMoves_any _ ((starts 1 bs).map fun p => (p, p)) _ (((HVM.out.setFar (fun e => absurd (HVM.out.lt e).1 (by first | (simp; done) | (simp; omega) | omega)) _).setFar (fun e => absurd (HVM.out.lt e).1 (by first | (simp; done) | (simp; omega) | omega)) _).below hb24).moves (fun m hm => by obtain ⟨p, _, rfl⟩ := List.mem_map.1 hm; rfl)).mono ?_; rintro e w25 ⟨rfl, hb25⟩))
            go_ret
            have g1 := hb24.trans (hb25.mono hb24.size)
            have g2 := HBR.out.trans (g1.mono HBR.out.size)
            have g3 := HBI.out.trans (g2.mono HBI.out.size)
            have g4 := HWB.out.trans (g3.mono HWB.out.size)
            have g5 := HB46.out.trans (g4.mono HB46.out.size)
            have g6 := HB24.out.trans (g5.mono HB24.out.size)
            exact ⟨ret_bool (by simp), HBW2.out.trans (g6.mono HBW2.out.size)⟩
          · go_wp2_with (first
              | (go_at_call 35; refine (equalInts_same _ _ CX _ ((HVO.out.setFar (fun e => absurd (HVO.out.lt e).1 (by first | (simp; done) | (simp; omega) | omega)) _).setFar (fun e => absurd (HVO.out.lt e).1 (by first | (simp; done) | (simp; omega) | omega)) _).ints (HCI.out.below (Nat.le_refl _) HBR.out)).mono ?_; rintro e w24 ⟨rfl, hb24⟩)
              | (go_at_call 40; refine (containsMoves_any _ ((starts 1 bs).map fun p => (p, p)) _ (((HVM.out.setFar (fun e => absurd (HVM.out.lt e).1 (by first | (simp; done) | (simp; omega) | omega)) _).setFar (fun e => absurd (HVM.out.lt e).1 (by first | (simp; done) | (simp; omega) | omega)) _).below hb24).moves (fun m hm => by obtain ⟨p, _, rfl⟩ := List.mem_map.1 hm; rfl)).mono ?_; rintro e w25 ⟨rfl, hb25⟩))
            go_ret
            have g1 := hb24.trans (hb25.mono hb24.size)
            have g2 := HBR.out.trans (g1.mono HBR.out.size)
            have g3 := HBI.out.trans (g2.mono HBI.out.size)
            have g4 := HWB.out.trans (g3.mono HWB.out.size)
            have g5 := HB46.out.trans (g4.mono HB46.out.size)
            have g6 := HB24.out.trans (g5.mono HB24.out.size)
            exact ⟨ret_bool (by simp), HBW2.out.trans (g6.mono HBW2.out.size)⟩
end Go.Proofs.Ytbeilcaadpopmab
