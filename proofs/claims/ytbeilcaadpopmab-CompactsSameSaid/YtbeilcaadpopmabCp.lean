/- Walk: gc.Compact. -/
import Derived.Test.YtbeilcaadpopmabCm
import Derived.Test.YtbeilcaadpopmabRg
import Derived.Deep.DeepCutAuto
import Derived.Deep.RegionHeld3
set_option linter.unusedVariables false
set_option linter.unusedSimpArgs false
namespace Go.Proofs.Ytbeilcaadpopmab
open Go.RowKit

def closedE (er : Int) : Ending := .returned (.tuple #[.agg #[.slice none 0 0, .int .i64 0], .slice none 0 0, .int .i64 er])

theorem grown_drew (w : World) (row : Option Nat) : w.grownBy w.drew row := ⟨rfl, rfl, rfl, Nat.le_refl _, fun _ _ _ => rfl⟩

/-- What closing a heap up comes to. -/
def RetClosed (w : World) (xs : List Int) (top : Int) (keep : List Int) (e : Ending) (w' : World) : Prop :=
  Below w.heap.size w w' ∧ ((¬ HeapOk xs top ∧ e = closedE 5) ∨ ∃ (t : Nat) (l : List Nat), top = (t : Int) ∧ HeapIs xs t l ∧ ((¬ KeepOk l keep ∧ e = closedE 4) ∨
    ∃ ks, keep = intsOf ks ∧ KeepIs l ks ∧ ((outW xs (mvs xs ks 1) ks = none ∧ e = closedE 5) ∨
      ∃ L ov mv, outW xs (mvs xs ks 1) ks = some L ∧ e = .returned (.tuple #[.agg #[ov, .int .i64 (topOf xs ks 1 : Nat)], mv, .int .i64 0]) ∧ OwnInts w' w.heap.size ov (padTo xs.length (0 :: L)) ∧ OwnMoves w' w.heap.size mv (mvs xs ks 1))))

set_option maxRecDepth 100000 in
set_option maxHeartbeats 1000000 in
theorem compact_ok (v kv : Value) (xs keep : List Int) (t : Nat) (l : List Nat) (w : World) (h : Ints w v xs) (hr : Ints w kv keep) (his : HeapIs xs t l) :
    Calls Try.prog 27 #[.agg #[v, .int .i64 t], kv] w (RetClosed w xs t keep) := by
  obtain ⟨a, c, rfl, hc, hcm, _⟩ := h.len
  obtain ⟨ka, kc, rfl, hkc, hkcm, _⟩ := hr.len
  have hkle := hr.le
  have HF : Hid (∀ w2, Below w.heap.size w w2 → Ints w2 (.slice a xs.length c) xs) := fun w2 hb2 => h.below (Nat.le_refl _) hb2
  have HR : Hid (∀ w2, Below w.heap.size w w2 → Ints w2 (.slice ka keep.length kc) keep) := fun w2 hb2 => hr.below (Nat.le_refl _) hb2
  have HI := Lib.hid his
  have i1 := his.1
  have i2 := his.2.1
  have i3 := his.2.2.1
  have ill := places_len his.2.2.2.1 his.2.1
  have HRB : Hid (∀ i, I64 (keep.getD i 0)) := fun i => hr.range i
  have hmm := @run_makeMap Try.prog
  clear h hr his
  go_enter Try.func27, Try.ntmps27
  go_wp2_with (first
    | (go_at_call 18; refine (Places_any _ xs _ _ (HF.out _ (by repeat (first | exact Below.refl _ _ | with_reducible refine below_drewN ?_ _ | with_reducible refine Below.drew ?_ | with_reducible refine Below.alloc ?_ (by first | exact Nat.le_refl _ | (simp; done) | omega | (simp; omega)) _ | with_reducible refine Below.setCell ?_ (by first | exact Nat.le_refl _ | (simp; done) | omega | (simp; omega)) _)))).mono ?_; rintro e w1 ⟨hb, ⟨t', l', la, lc, ht, hi, rfl, hv⟩ | ⟨hno, rfl⟩⟩; rotate_left; (exact absurd ⟨t, l, rfl, HI.out⟩ hno); obtain rfl := Int.ofNat_inj.1 ht; obtain rfl := HI.out.uniq hi; clear ht hi; have zc1 := Nat.lt_of_lt_of_le (show w.heap.size < _ from (by first | (simp; done) | omega | (simp; omega))) (Below.size hb); have fc1_0 := Below.cell hb (p := ⟨w.heap.size, 0, none⟩) (by first | (simp; done) | omega | (simp; omega)); have gc1_0 := Below.frozen hb (p := ⟨w.heap.size, 0, none⟩) (by first | (simp; done) | omega | (simp; omega)); have fc1_1 := Below.cell hb (p := ⟨w.heap.size, 1, none⟩) (by first | (simp; done) | omega | (simp; omega)); have gc1_1 := Below.frozen hb (p := ⟨w.heap.size, 1, none⟩) (by first | (simp; done) | omega | (simp; omega)); (try simp at fc1_0 gc1_0 fc1_1 gc1_1); have zc2 := Nat.lt_of_lt_of_le (show w.heap.size + 1 < _ from (by first | (simp; done) | omega | (simp; omega))) (Below.size hb); have fc2_0 := Below.cell hb (p := ⟨w.heap.size + 1, 0, none⟩) (by first | (simp; done) | omega | (simp; omega)); have gc2_0 := Below.frozen hb (p := ⟨w.heap.size + 1, 0, none⟩) (by first | (simp; done) | omega | (simp; omega)); have fc2_1 := Below.cell hb (p := ⟨w.heap.size + 1, 1, none⟩) (by first | (simp; done) | omega | (simp; omega)); have gc2_1 := Below.frozen hb (p := ⟨w.heap.size + 1, 1, none⟩) (by first | (simp; done) | omega | (simp; omega)); (try simp at fc2_0 gc2_0 fc2_1 gc2_1); have HB := Lib.hid hb; have HV := Lib.hid hv; clear hb hv)
    | (refine wpl_funIns rfl _ _ _ rfl w1.heap.size 0 _ rfl (funMap_made w1) (by omega) 0 0 rfl (by unfold I64; omega) rfl (by unfold I64; omega) ?_; intro w2 hf2 hg2; have HF2 := Lib.hid hf2; have HG2 := Lib.hid hg2; clear hf2 hg2))
  have HB1 : Hid (Below w.heap.size w w1) := by show Below _ _ _; exact (by repeat (first | exact Below.refl _ _ | with_reducible refine Below.trans ?_ (Below.mono HB.out (by first | exact Nat.le_refl _ | (simp; done) | omega | (simp; omega) | (have z0 := Below.size HB.out; omega) | (have z0 := Below.size HB.out; simp at *; omega))) | with_reducible refine below_drewN ?_ _ | with_reducible refine Below.drew ?_ | with_reducible refine Below.alloc ?_ (by first | exact Nat.le_refl _ | (simp; done) | omega | (simp; omega) | (have z0 := Below.size HB.out; omega) | (have z0 := Below.size HB.out; simp at *; omega)) _ | with_reducible refine Below.setCell ?_ (by first | exact Nat.le_refl _ | (simp; done) | omega | (simp; omega) | (have z0 := Below.size HB.out; omega) | (have z0 := Below.size HB.out; simp at *; omega)) _))
  have HV1 : Hid (OwnInts w1 (w.heap.size + 1) (.slice la l.length lc) (intsOf l)) := HV.out.mono (by simp)
  obtain ⟨z, hz⟩ : ∃ z, z = w1.heap.size := ⟨_, rfl⟩
  have HB12 : Hid (Below z w1 w2) := by
    have h1 : Below z w1 (w1.alloc (.map #[] 0)) := (Below.refl _ _).alloc (by omega) _
    exact h1.grown HG2.out (by simp; omega) (fun j hj => by simp only [Option.some.injEq] at hj; omega)
  have HFM : Hid (FunMap w2 z 1 (toF [])) := by
    have h1 := HF2.out
    have e : (toF [] : Int → Option Int) = fun z => if z = 0 then some 0 else none := by funext y; simp [toF]
    rw [Hid, e, hz]; exact h1
  rw [← hz] at zc1 zc2 ⊢
  have HC10 := Lib.hid fc1_0; have HC11 := Lib.hid fc1_1; have HC20 := Lib.hid fc2_0; have HC21 := Lib.hid fc2_1; have HZ20 := Lib.hid gc2_0; have HZ21 := Lib.hid gc2_1
  have HZ := Lib.hid hz
  clear HB HV HF2 HG2 fc1_0 fc1_1 gc1_0 gc1_1 fc2_0 fc2_1 gc2_0 gc2_1 hz
  have HBAD : Hid (∀ wr, Below z w1 wr → ¬ KeepOk l keep → RetClosed w xs t keep (closedE 4) (((wr.setCell ⟨w.heap.size + 1, 0, none⟩ (.slice none 0 0)).setCell ⟨w.heap.size + 1, 1, none⟩ (.int .i64 0)))) := fun wr hb hn =>
    ⟨((HB1.out.trans (hb.mono (by omega))).setCell (by simp) _).setCell (by simp) _, .inr ⟨t, l, rfl, HI.out, .inl ⟨hn, rfl⟩⟩⟩
  go_loopw [10, 11, 38] (fun mv u11 u38 wr => ∃ (k : Nat) (ks : List Nat), u38 = .int .i64 k ∧ k ≤ keep.length ∧ ks.length = k ∧ keep.take k = intsOf ks ∧ KeepIs l ks ∧ u11 = .int .i64 (topOf xs ks 1 : Nat) ∧ OwnMoves wr (z + 1) mv (mvs xs ks 1) ∧ FunMap wr z (k + 1) (toF (mvs xs ks 1)) ∧ Below z w1 wr) (fun _ _ u38 _ => keep.length - (intOf u38).toNat)
  case atStart => exact ⟨0, [], rfl, Nat.zero_le _, rfl, by simp [intsOf], ⟨by simp, by simp⟩, rfl, OwnMoves.nil _ _, HFM.out, HB12.out⟩
  case round =>
    obtain ⟨k, ks, rfl, hk, hkl, htk, hki, rfl, hmv, hfm, hb⟩ := hrel
    have bks := keep_len HI.out hki
    have btop := keep_top HI.out hki
    rw [hkl] at bks
    have HKL := Lib.hid hkl; have HTK := Lib.hid htk; have HKI := Lib.hid hki; have HMV := Lib.hid hmv; have HFN := Lib.hid hfm; have HBR := Lib.hid hb
    obtain ⟨T, hT⟩ : ∃ T, T = topOf xs ks 1 := ⟨_, rfl⟩
    rw [← hT] at btop ⊢
    have HTT := Lib.hid hT
    have c10 := (hb.cell (p := ⟨w.heap.size, 0, none⟩) zc1).trans HC10.out
    have c11 := (hb.cell (p := ⟨w.heap.size, 1, none⟩) zc1).trans HC11.out
    have c20 := (hb.cell (p := ⟨w.heap.size + 1, 0, none⟩) zc2).trans HC20.out
    have c21 := (hb.cell (p := ⟨w.heap.size + 1, 1, none⟩) zc2).trans HC21.out
    have z20 := (hb.frozen (p := ⟨w.heap.size + 1, 0, none⟩) zc2).trans HZ20.out
    have z21 := (hb.frozen (p := ⟨w.heap.size + 1, 1, none⟩) zc2).trans HZ21.out
    have HBW : Hid (Below w.heap.size w wr) := HB1.out.trans (hb.mono (by omega))
    have HSE : Hid (Ints wr (.slice la l.length lc) (intsOf l)) := (HV1.out.below (hb.mono (by rw [HZ.out]; omega))).ints
    have HRI : Hid (Rises (intsOf l)) := rises_places HI.out.2.2.2.1
    clear hkl htk hki hmv hfm hb hT
    by_cases hlt : k < keep.length
    · obtain ⟨kb, ko, rfl, hkb, hkcell⟩ := (HR.out wr HBW.out).at (by omega)
      have hck := hkcell k hlt
      obtain ⟨p, hp⟩ : ∃ p, p = keep.getD k 0 := ⟨_, rfl⟩
      rw [← hp] at hck
      have HKC := Lib.hid hkcell
      have HP := Lib.hid hp
      have HPI : Hid (I64 p) := by rw [Hid, hp]; exact HRB.out k
      clear hkcell hp
      cases hq : hasB (intsOf l) p with
      | false =>
        have HQ2 := Lib.hid hq
        have HN : Hid (¬ KeepOk l keep) := fun h => by
          obtain ⟨q, hq1, hq2⟩ := (h.at hlt).1
          rw [← HP.out] at hq2
          rw [hasB_places.2 ⟨q, hq1, hq2⟩] at hq
          cases hq
        clear hq
        go_wp2_with (go_at_call 50; refine (search_any _ (intsOf l) _ _ HSE.out HRI.out).mono ?_; rintro e w5 ⟨i5, rfl, rfl⟩; rw [HQ2.out])
        refine bodyPost_ret (v := .tuple #[.agg #[.slice none 0 0, .int .i64 0], .slice none 0 0, .int .i64 4]) (by simp [results, Try.results27, go_sem, *]) rfl (HBAD.out wr HBR.out HN.out)
      | true =>
        obtain ⟨q, hql, rfl⟩ := hasB_places.1 hq
        have HQ2 := Lib.hid hq
        have HQL := Lib.hid hql
        obtain ⟨o1, o2, o3, o4⟩ := places_obj HI.out.2.2.2.1 q hql
        clear hq hql
        obtain ⟨d, hd⟩ : ∃ d, d = nf xs q := ⟨_, rfl⟩
        rw [← hd] at o2 o3 o4
        have HD := Lib.hid hd
        obtain ⟨b, bo, rfl, hbs, hcell⟩ := (HF.out w1 HB1.out).at (by omega)
        have hcn0 := hcell (q + 1) (by omega)
        rw [o2] at hcn0
        have hbz : b < z := by rw [HZ.out]; exact hbs
        have HCN : Hid (∀ W, Below z w1 W → W.cell? ⟨b, bo + (q + 1), none⟩ = some (.int .i64 (d : Int))) := fun W hW => (hW.cell (p := ⟨b, bo + (q + 1), none⟩) hbz).trans hcn0
        clear hd o2 hcell hcn0
        by_cases hk0 : k = 0
        · have HLAST : Hid (∀ r ∈ ks, r < q) := by
            have : ks = [] := List.eq_nil_of_length_eq_zero (by rw [HKL.out]; exact hk0)
            intro r hr; rw [this] at hr; simp at hr
          subst hk0
          rw [Nat.add_zero] at hck
          rw [show ((0 : Nat) : Int) = 0 from rfl]
          have HKI2 : Hid (KeepIs l (ks ++ [q])) := HKI.out.snoc HQL.out HLAST.out
          have HT2 : Hid (topOf xs (ks ++ [q]) 1 = T + (2 + d)) := by rw [Hid, topOf_snoc, HTT.out, HD.out]
          have HM2 : Hid (mvs xs (ks ++ [q]) 1 = mvs xs ks 1 ++ [(q, T)]) := by rw [Hid, mvs_snoc, HTT.out]
          have HTF : Hid (toF (mvs xs (ks ++ [q]) 1) = fun y => if y = (q : Int) then some (T : Int) else toF (mvs xs ks 1) y) := by
            rw [Hid, HM2.out]
            exact toF_snoc _ _ _ (by omega) (by rw [mvs_fst]; intro hh; have := HLAST.out q hh; omega)
          have HML : Hid ((mvs xs ks 1).length < 900000) := by rw [Hid, mvs_len, HKL.out]; omega
          have HNZ : Hid (∀ j, u10.ownBlock = some j → z + 1 ≤ j) := fun j hj => (HMV.out.lt hj).1
          have hmvv : ∃ a c, u10 = .slice a (mvs xs ks 1).length c := by obtain ⟨a, c, e, _⟩ := HMV.out.shape; exact ⟨a, c, e⟩
          have HQI : Hid (I64 (q : Int)) := HPI.out
          have HTI : Hid (I64 (T : Int)) := by unfold Hid I64; omega
          have hzr : z < wr.heap.size := HFN.out.lt
          clear hmvv
          go_wp2_with (first
            | (go_at_call 50; refine (search_any _ (intsOf l) _ _ HSE.out HRI.out).mono ?_; rintro e w5 ⟨i5, rfl, rfl⟩; rw [HQ2.out])
            | (at_mapUpdate; refine wpl_funPut rfl _ _ _ rfl z _ _ rfl HFN.out (by omega) (q : Int) (T : Int) rfl HQI.out rfl HTI.out ?_; intro w6 hf6 hg6; have HF6 := Lib.hid hf6; have HG6 := Lib.hid hg6; clear hf6 hg6)
            | (at_builtin; refine wpl_append_move rfl _ _ rfl (z + 1) u10 (mvs xs ks 1) rfl ((HMV.out.grown HG6.out (.inr (fun e => by have := HNZ.out _ e; omega))).below (by repeat (first | exact Below.refl _ _ | with_reducible refine below_drewN ?_ _ | with_reducible refine Below.drew ?_ | with_reducible refine Below.alloc ?_ (by first | exact Nat.le_refl _ | (simp; done) | omega | (simp; omega)) _ | with_reducible refine Below.setCell ?_ (by first | exact Nat.le_refl _ | (simp; done) | omega | (simp; omega)) _))) _ q T rfl (row_move _ _ _ rfl) HML.out (by have := HG6.out.size; simp; omega) ?_; intro v7 w7 hv7 hg7; have hb7 : Below z w1 w7 := ((HBR.out.grown HG6.out (by omega) (fun j hj => by simp only [Option.some.injEq] at hj; omega)).alloc (by have := HG6.out.size; omega) _).grown hg7 (by have := HG6.out.size; simp; omega) (fun j hj => by have := HNZ.out _ hj; omega); have c10' := (hb7.cell (p := ⟨w.heap.size, 0, none⟩) zc1).trans HC10.out; have hcn' := HCN.out w7 hb7; have HV7 := Lib.hid hv7; have HG7 := Lib.hid hg7; have HB7 := Lib.hid hb7; clear hv7 hg7 hb7))
          go_roundw
          case rel =>
            refine ⟨0 + 1, ks ++ [q], by go_num, by omega, by simp [HKL.out], ?_, HKI2.out, int_eq (by rw [HT2.out]; omega), by rw [HM2.out]; exact HV7.out, ?_, HB7.out⟩
            · rw [take_one hlt, HTK.out, intsOf_append, ← HP.out]; rfl
            · rw [HTF.out]
              exact (HF6.out.below (by repeat (first | exact Below.refl _ _ | with_reducible refine below_drewN ?_ _ | with_reducible refine Below.drew ?_ | with_reducible refine Below.alloc ?_ (by first | exact Nat.le_refl _ | (simp; done) | omega | (simp; omega)) _ | with_reducible refine Below.setCell ?_ (by first | exact Nat.le_refl _ | (simp; done) | omega | (simp; omega)) _))).grown HG7.out (fun e => by have := HNZ.out _ e.symm; omega)
          case measure => simp [intOf]; omega
        · obtain ⟨j, rfl⟩ : ∃ j, k = j + 1 := ⟨k - 1, by omega⟩
          have hcj := HKC.out j (by omega)
          have HGJ : Hid (keep.getD j 0 = ((ks.getD j 0 : Nat) : Int)) := by
            have e1 := HTK.out
            have e2 := HKL.out
            have e3 := congrArg (fun l => l.getD j 0) e1
            simp only [List.getD_eq_getElem?_getD, List.getElem?_take, intsOf, List.getElem?_map] at e3
            rw [if_pos (by omega)] at e3
            rw [Hid, List.getD_eq_getElem?_getD, e3, List.getD_eq_getElem?_getD, List.getElem?_eq_getElem (by omega)]
            rfl
          rw [HGJ.out] at hcj
          obtain ⟨q0, hq0⟩ : ∃ q0, q0 = ks.getD j 0 := ⟨_, rfl⟩
          rw [← hq0] at hcj
          have HQ0 := Lib.hid hq0
          clear hq0
          rw [show ((j + 1 : Nat) : Int) = (j : Int) + 1 by omega]
          by_cases hlt0 : q0 < q
          · have HLAST : Hid (∀ r ∈ ks, r < q) := HKI.out.last (i := j) (by rw [HKL.out]) (by rw [← HQ0.out]; exact hlt0)
            have HKI2 : Hid (KeepIs l (ks ++ [q])) := HKI.out.snoc HQL.out HLAST.out
            have HT2 : Hid (topOf xs (ks ++ [q]) 1 = T + (2 + d)) := by rw [Hid, topOf_snoc, HTT.out, HD.out]
            have HM2 : Hid (mvs xs (ks ++ [q]) 1 = mvs xs ks 1 ++ [(q, T)]) := by rw [Hid, mvs_snoc, HTT.out]
            have HTF : Hid (toF (mvs xs (ks ++ [q]) 1) = fun y => if y = (q : Int) then some (T : Int) else toF (mvs xs ks 1) y) := by
              rw [Hid, HM2.out]
              exact toF_snoc _ _ _ (by omega) (by rw [mvs_fst]; intro hh; have := HLAST.out q hh; omega)
            have HML : Hid ((mvs xs ks 1).length < 900000) := by rw [Hid, mvs_len, HKL.out]; omega
            have HNZ : Hid (∀ j, u10.ownBlock = some j → z + 1 ≤ j) := fun j hj => (HMV.out.lt hj).1
            have hmvv : ∃ a c, u10 = .slice a (mvs xs ks 1).length c := by obtain ⟨a, c, e, _⟩ := HMV.out.shape; exact ⟨a, c, e⟩
            have HQI : Hid (I64 (q : Int)) := HPI.out
            have HTI : Hid (I64 (T : Int)) := by unfold Hid I64; omega
            have hzr : z < wr.heap.size := HFN.out.lt
            clear hmvv
            go_wp2_with (first
              | (go_at_call 50; refine (search_any _ (intsOf l) _ _ HSE.out HRI.out).mono ?_; rintro e w5 ⟨i5, rfl, rfl⟩; rw [HQ2.out])
              | (at_mapUpdate; refine wpl_funPut rfl _ _ _ rfl z _ _ rfl HFN.out (by omega) (q : Int) (T : Int) rfl HQI.out rfl HTI.out ?_; intro w6 hf6 hg6; have HF6 := Lib.hid hf6; have HG6 := Lib.hid hg6; clear hf6 hg6)
              | (at_builtin; refine wpl_append_move rfl _ _ rfl (z + 1) u10 (mvs xs ks 1) rfl ((HMV.out.grown HG6.out (.inr (fun e => by have := HNZ.out _ e; omega))).below (by repeat (first | exact Below.refl _ _ | with_reducible refine below_drewN ?_ _ | with_reducible refine Below.drew ?_ | with_reducible refine Below.alloc ?_ (by first | exact Nat.le_refl _ | (simp; done) | omega | (simp; omega)) _ | with_reducible refine Below.setCell ?_ (by first | exact Nat.le_refl _ | (simp; done) | omega | (simp; omega)) _))) _ q T rfl (row_move _ _ _ rfl) HML.out (by have := HG6.out.size; simp; omega) ?_; intro v7 w7 hv7 hg7; have hb7 : Below z w1 w7 := ((HBR.out.grown HG6.out (by omega) (fun j hj => by simp only [Option.some.injEq] at hj; omega)).alloc (by have := HG6.out.size; omega) _).grown hg7 (by have := HG6.out.size; simp; omega) (fun j hj => by have := HNZ.out _ hj; omega); have c10' := (hb7.cell (p := ⟨w.heap.size, 0, none⟩) zc1).trans HC10.out; have hcn' := HCN.out w7 hb7; have HV7 := Lib.hid hv7; have HG7 := Lib.hid hg7; have HB7 := Lib.hid hb7; clear hv7 hg7 hb7))
            go_roundw
            case rel =>
              refine ⟨j + 1 + 1, ks ++ [q], by go_num, by omega, by simp [HKL.out], ?_, HKI2.out, int_eq (by rw [HT2.out]; omega), by rw [HM2.out]; exact HV7.out, ?_, HB7.out⟩
              · rw [take_one hlt, HTK.out, intsOf_append, ← HP.out]; rfl
              · rw [HTF.out]
                exact (HF6.out.below (by repeat (first | exact Below.refl _ _ | with_reducible refine below_drewN ?_ _ | with_reducible refine Below.drew ?_ | with_reducible refine Below.alloc ?_ (by first | exact Nat.le_refl _ | (simp; done) | omega | (simp; omega)) _ | with_reducible refine Below.setCell ?_ (by first | exact Nat.le_refl _ | (simp; done) | omega | (simp; omega)) _))).grown HG7.out (fun e => by have := HNZ.out _ e.symm; omega)
            case measure => simp [intOf]; omega
          · have HN : Hid (¬ KeepOk l keep) := fun h => by
              have := (h.at hlt).2 (by omega)
              rw [Nat.add_sub_cancel, HGJ.out, ← HQ0.out, ← HP.out] at this
              omega
            go_wp2_with (go_at_call 50; refine (search_any _ (intsOf l) _ _ HSE.out HRI.out).mono ?_; rintro e w5 ⟨i5, rfl, rfl⟩; rw [HQ2.out])
            refine bodyPost_ret (v := .tuple #[.agg #[.slice none 0 0, .int .i64 0], .slice none 0 0, .int .i64 4]) (by simp [results, Try.results27, go_sem, *]) rfl (HBAD.out wr HBR.out HN.out)
    · obtain rfl : k = keep.length := by omega
      obtain ⟨wl, rfl⟩ : ∃ wl : World, wl = wr := ⟨_, rfl⟩
      have HKE : Hid (keep = intsOf ks) := by have := HTK.out; rwa [List.take_length] at this
      obtain ⟨ms, hms⟩ : ∃ ms, ms = mvs xs ks 1 := ⟨_, rfl⟩
      have hzr : z < wl.heap.size := HFN.out.lt
      have HMS := Lib.hid hms
      rw [← hms] at HMV HFN
      obtain ⟨ma, mc, rfl, hmc1, hmc2⟩ := HMV.out.shape
      have hml : ms.length = ks.length := by rw [hms, mvs_len]
      rw [hml] at HMV hmc1 ⊢
      have HML := Lib.hid hml
      clear hms hml
      have hxs1 : 1 ≤ xs.length := by omega
      go_wp2_with (at_make; refine wpl_make_ints rfl _ _ rfl wl.heap.size xs.length _ rfl rfl rfl (by omega) (Nat.le_refl _) ?_; intro w8 hv8 hg8; have hb8 := Below.grown (Below.refl wl.heap.size wl) hg8 (Nat.le_refl _) (by simp); have HV8 := Lib.hid hv8; have HB8 := Lib.hid hb8; clear hv8 hg8 hb8)
      obtain ⟨g, hg⟩ : ∃ g, g = wl.heap.size := ⟨_, rfl⟩
      obtain ⟨X, hX⟩ : ∃ X, X = w8.heap.size := ⟨_, rfl⟩
      have hgX : g < X := by rw [hX, hg]; exact (HV8.out.lt (k := wl.heap.size) rfl).2
      rw [← hg, ← hX]
      obtain ⟨w9, hw9⟩ : ∃ w9, w9 = w8.alloc (.cells #[.slice (some ⟨g, 0, none⟩) xs.length xs.length, .int .i64 (T : Int)] 25) := ⟨_, rfl⟩
      rw [← hw9]
      have HV9 : Hid (OwnInts w9 g (.slice (some ⟨g, 0, none⟩) xs.length xs.length) (padTo xs.length [0])) := by
        rw [Hid, padTo_zero (by omega), hw9]
        have := HV8.out.below ((Below.refl w8.heap.size w8).alloc (Nat.le_refl _) (.cells #[.slice (some ⟨g, 0, none⟩) xs.length xs.length, .int .i64 (T : Int)] 25))
        rw [← hg] at this
        exact this
      have HB9 : Hid (Below g wl w9) := by rw [Hid, hw9, hg]; exact HB8.out.alloc (by rw [← hX, ← hg]; omega) _
      have HX0 : Hid (w9.cell? ⟨X, 0, none⟩ = some (.slice (some ⟨g, 0, none⟩) xs.length xs.length)) := by rw [Hid, hw9, hX]; simp
      have HX1 : Hid (w9.cell? ⟨X, 1, none⟩ = some (.int .i64 (T : Int))) := by rw [Hid, hw9, hX]; simp
      have hX9 : X < w9.heap.size := by rw [hw9, hX]; simp
      have HG := Lib.hid hg
      have hzg : z < g := by omega
      clear hw9 hX HV8 HB8 hg
      go_loopw [92] (fun u wr => ∃ (i : Nat) (L : List Int), u = .int .i64 i ∧ i ≤ ks.length ∧ outW xs ms (ks.take i) = some L ∧ OwnInts wr g (.slice (some ⟨g, 0, none⟩) xs.length xs.length) (padTo xs.length (0 :: L)) ∧ w9.grownBy wr (some g)) (fun u _ => ks.length - (intOf u).toNat)
      case atStart => exact ⟨0, [], rfl, Nat.zero_le _, rfl, HV9.out, World.grownBy.refl _ _⟩
      case round =>
        obtain ⟨i, L, rfl, hi, hL, hv, hgr⟩ := hrel
        have HOLD : Hid (∀ b o : Nat, b < g → wr.cell? ⟨b, o, none⟩ = wl.cell? ⟨b, o, none⟩ ∧ wr.frozen? ⟨b, o, none⟩ = wl.frozen? ⟨b, o, none⟩) := fun b o hb => by
          obtain ⟨e1, e2⟩ := grown_cell hgr (M := b) (i := o) (by omega) (fun e => by simp only [Option.some.injEq] at e; omega)
          exact ⟨e1.trans (HB9.out.cell (p := ⟨b, o, none⟩) hb), e2.trans (HB9.out.frozen (p := ⟨b, o, none⟩) hb)⟩
        have x0 := (grown_cell hgr (M := X) (i := 0) hX9 (fun e => by simp only [Option.some.injEq] at e; omega)).1.trans HX0.out
        have x1 := (grown_cell hgr (M := X) (i := 1) hX9 (fun e => by simp only [Option.some.injEq] at e; omega)).1.trans HX1.out
        have d10 := (HOLD.out w.heap.size 0 (by omega)).1.trans c10
        have d11 := (HOLD.out w.heap.size 1 (by omega)).1.trans c11
        have d20 := (HOLD.out (w.heap.size + 1) 0 (by omega)).1.trans c20
        have d21 := (HOLD.out (w.heap.size + 1) 1 (by omega)).1.trans c21
        have y20 := (HOLD.out (w.heap.size + 1) 0 (by omega)).2.trans z20
        have y21 := (HOLD.out (w.heap.size + 1) 1 (by omega)).2.trans z21
        have hsz := hgr.size
        have HL := Lib.hid hL; have HV := Lib.hid hv; have HGR := Lib.hid hgr
        clear hL hv hgr
        by_cases hik : i < ks.length
        · obtain ⟨p, hp⟩ : ∃ p, p = ks.getD i 0 := ⟨_, rfl⟩
          have hpe : ks[i] = p := by rw [hp, List.getD_eq_getElem?_getD, List.getElem?_eq_getElem hik]; rfl
          have hpk : p ∈ ks := by rw [← hpe]; exact List.getElem_mem hik
          have hpl := HKI.out.1 p hpk
          have HTK2 : Hid (ks.take (i + 1) = ks.take i ++ [p]) := by rw [Hid, List.take_succ_eq_append_getElem hik, hpe]
          have HTO : Hid (1 + L.length = topOf xs (ks.take i) 1) := outW_len _ L 1 (fun q hq => fields_len HI.out q (HKI.out.1 q (List.mem_of_mem_take hq))) HL.out
          obtain ⟨o1, o2, o3, o4⟩ := places_obj HI.out.2.2.2.1 p hpl
          obtain ⟨d, hd⟩ : ∃ d, d = nf xs p := ⟨_, rfl⟩
          rw [← hd] at o2 o3 o4
          have hfit : 1 + L.length + (2 + d) ≤ t := by
            have h1 := keep_top HI.out (keepIs_take HKI.out (i + 1))
            rw [HTK2.out, topOf_snoc, ← HTO.out, ← hd] at h1
            exact h1
          have HD := Lib.hid hd
          have himl : i < ms.length := by rw [HML.out]; exact hik
          obtain ⟨tt, hto⟩ : ∃ tt, tt = 1 + L.length := ⟨_, rfl⟩
          have hmi : ms[i] = (p, tt) := by
            have := mvs_at xs ks 1 i hik (by rw [mvs_len]; exact hik)
            simp only [← HMS.out, hpe, ← HTO.out, ← hto] at this
            exact this
          rw [← hto] at hfit
          have HTL := Lib.hid hto
          clear hto
          obtain ⟨mg, rfl, hm1, hm2, hm3, hm4⟩ := HMV.out.at himl
          rw [hmi] at hm3 hm4
          have e3 : wr.cell? ⟨mg, i * 2, none⟩ = some (.int .i64 (p : Int)) := (HOLD.out mg (i * 2) (by rw [HG.out]; exact hm2)).1.trans hm3
          have e4 : wr.cell? ⟨mg, i * 2 + 1, none⟩ = some (.int .i64 (tt : Int)) := (HOLD.out mg (i * 2 + 1) (by rw [HG.out]; exact hm2)).1.trans hm4
          have HPE := Lib.hid hpe; have HMI := Lib.hid hmi; have HPK := Lib.hid hpk; have HPL := Lib.hid hpl
          have HL20 := Lib.hid c20; have HL21 := Lib.hid c21; have HLZ20 := Lib.hid z20; have HLZ21 := Lib.hid z21
          clear hm3 hm4 hmi hpe hp hpk hpl hd o2 c10 c11 c20 c21 z20 z21
          obtain ⟨b, bo, rfl, hbs, _⟩ := (HF.out w (Below.refl _ _)).at (by omega)
          have HWD : Hid (∀ W, Below w.heap.size w W → ∀ j, j < xs.length → W.cell? ⟨b, bo + j, none⟩ = some (.int .i64 (xs.getD j 0))) := by
            intro W hW j hj
            obtain ⟨b', bo', e, _, hc⟩ := (HF.out W hW).at (by omega)
            simp only [Option.some.injEq, Addr.mk.injEq] at e
            obtain ⟨rfl, rfl, _⟩ := e
            exact hc j hj
          have HBR9 : Hid (Below g wl w9 ∧ w9.grownBy wr (some g)) := ⟨HB9.out, HGR.out⟩
          have hzl : z ≤ wl.heap.size := by omega
          have HBWR : Hid (Below w.heap.size w wr) := HBW.out.trans ((HB9.out.mono (by omega)).grown HGR.out (by omega) (fun j hj => by simp only [Option.some.injEq] at hj; omega))
          go_upto_region 21 with (fail)
          obtain ⟨Y, hY⟩ : ∃ Y, Y = wr.heap.size := ⟨_, rfl⟩
          rw [← hY]
          obtain ⟨w10, hw10⟩ : ∃ w10, w10 = wr.alloc (.cells #[.int .i64 (p : Int), .int .i64 (tt : Int)] 73) := ⟨_, rfl⟩
          have HBA : Hid (Below wr.heap.size wr w10) := by rw [Hid, hw10]; exact (Below.refl _ _).alloc (Nat.le_refl _) _
          have HY0 : Hid (w10.cell? ⟨Y, 0, none⟩ = some (.int .i64 (p : Int))) := by rw [Hid, hw10, hY]; simp
          have HY1 : Hid (w10.cell? ⟨Y, 1, none⟩ = some (.int .i64 (tt : Int))) := by rw [Hid, hw10, hY]; simp
          have hY10 : Y < w10.heap.size := by rw [hw10, hY]; simp
          rw [← hw10]
          clear hw10
          have hXr : X < wr.heap.size := by omega
          have hYX : X < Y := by omega
          have f10 := (HBA.out.cell (p := ⟨w.heap.size, 0, none⟩) (by show w.heap.size < wr.heap.size; omega)).trans d10
          have fx0 := (HBA.out.cell (p := ⟨X, 0, none⟩) hXr).trans x0
          have fy0 := HY0.out
          have fy1 := HY1.out
          have HGR10 : Hid (w9.grownBy w10 (some g)) := grown_tr HGR.out (grownBy_of_below (B := 0) HBA.out _)
          have HV10 := Lib.hid (HV.out.below HBA.out)
          have HBW10 : Hid (Below w.heap.size w w10) := HBWR.out.trans (HBA.out.mono (by omega))
          have o2 := (places_obj HI.out.2.2.2.1 p HPL.out).2.1
          rw [← HD.out] at o2
          have hwp0 := HWD.out w10 HBW10.out p (by omega)
          have hwp1 := HWD.out w10 HBW10.out (p + 1) (by omega)
          rw [o2] at hwp1
          have HWI : Hid (I64 (xs.getD p 0)) := (HF.out w (Below.refl _ _)).range p
          obtain ⟨st, hst⟩ : ∃ st, st = xs.getD p 0 := ⟨_, rfl⟩
          rw [← hst] at hwp0 HWI
          have HST := Lib.hid hst
          have HYY := Lib.hid hY
          clear hst o2 d10 d11 x0 x1 e3 e4 d20 d21 y20 y21 hY
          have gy : g < w10.heap.size := by omega
          go_wp2_with fail
          obtain ⟨w11, hw11⟩ : ∃ w11, w11 = w10 := ⟨_, rfl⟩
          have HB11 : Hid (Below w10.heap.size w10 w11) := by rw [hw11]; exact Below.refl _ _
          have k10 : w11.cell? ⟨w.heap.size, 0, none⟩ = some (.slice (some ⟨b, bo, none⟩) xs.length c) := by rw [hw11]; exact f10
          have kx0 : w11.cell? ⟨X, 0, none⟩ = some (.slice (some ⟨g, 0, none⟩) xs.length xs.length) := by rw [hw11]; exact fx0
          have ky0 : w11.cell? ⟨Y, 0, none⟩ = some (.int .i64 (p : Int)) := by rw [hw11]; exact fy0
          have ky1 : w11.cell? ⟨Y, 1, none⟩ = some (.int .i64 (tt : Int)) := by rw [hw11]; exact fy1
          have kp : w11.cell? ⟨b, bo + p, none⟩ = some (.int .i64 st) := by rw [hw11]; exact hwp0
          have HV11 : Hid (OwnInts w11 g (.slice (some ⟨g, 0, none⟩) xs.length xs.length) (padTo xs.length (0 :: L))) := HV10.out.below HB11.out
          have hpl : (padTo xs.length (0 :: L)).length = xs.length := padTo_len (by simp only [List.length_cons]; have := HTL.out; omega)
          have HPLN := Lib.hid hpl
          obtain ⟨g', eg, _, hgs, hgc, hgz⟩ := HV11.out.spot (by omega)
          simp only [Option.some.injEq, Addr.mk.injEq] at eg
          obtain ⟨rfl, _⟩ := eg
          have gc0 := hgc tt (by rw [hpl]; omega)
          have gc1 := hgc (tt + 1) (by rw [hpl]; omega)
          have gz0 := hgz tt
          have gz1 := hgz (tt + 1)
          generalize (padTo xs.length (0 :: L)).getD tt 0 = old0 at gc0
          generalize (padTo xs.length (0 :: L)).getD (tt + 1) 0 = old1 at gc1
          have hs11 : w10.heap.size = w11.heap.size := by rw [hw11]
          have HS11 := Lib.hid hs11
          clear hpl hgc hgz f10 fx0 fy0 fy1 hwp0 hwp1 hs11
          have e1 : IntKind.i64.wrap ((tt : Int) + 1) = (tt : Int) + 1 := IntWalk.i64_in _ (by omega)
          have b1 : (tt : Int) + 1 < (xs.length : Int) := by omega
          have b2 : (0 : Int) ≤ (tt : Int) + 1 := by omega
          have b3 : ((tt : Int) + 1).toNat = tt + 1 := by omega
          have b4 : (tt : Int) < (xs.length : Int) := by omega
          have b5 : (p : Int) < (xs.length : Int) := by omega
          have b6 : tt < xs.length := by omega
          have b7 : tt + 1 < xs.length := by omega
          have b8 : p < xs.length := by omega
          have n1 : X ≠ g := by omega
          have n2 : Y ≠ g := by omega
          have n3 : g ≠ X := by omega
          have n4 : g ≠ Y := by omega
          subst hw11
          have HKEEP : Hid (∀ W, w11.grownBy W (some g) → W.cell? ⟨w.heap.size, 0, none⟩ = some (.slice (some ⟨b, bo, none⟩) xs.length c) ∧ W.cell? ⟨X, 0, none⟩ = some (.slice (some ⟨g, 0, none⟩) xs.length xs.length) ∧ W.cell? ⟨Y, 0, none⟩ = some (.int .i64 (p : Int)) ∧ W.cell? ⟨Y, 1, none⟩ = some (.int .i64 (tt : Int)) ∧ W.cell? ⟨b, bo + p, none⟩ = some (.int .i64 st)) := fun W hW =>
            ⟨(grown_cell hW (M := w.heap.size) (i := 0) (by omega) (by simp only [ne_eq, Option.some.injEq]; omega)).1.trans k10, (grown_cell hW (M := X) (i := 0) (by omega) (by simp only [ne_eq, Option.some.injEq]; omega)).1.trans kx0, (grown_cell hW (M := Y) (i := 0) (by omega) (by simp only [ne_eq, Option.some.injEq]; omega)).1.trans ky0, (grown_cell hW (M := Y) (i := 1) (by omega) (by simp only [ne_eq, Option.some.injEq]; omega)).1.trans ky1, (grown_cell hW (M := b) (i := bo + p) (by omega) (by simp only [ne_eq, Option.some.injEq]; omega)).1.trans kp⟩
          have dc0 : w11.drew.cell? ⟨g, tt, none⟩ = some (.int .i64 old0) := gc0
          have dc1 : w11.drew.cell? ⟨g, tt + 1, none⟩ = some (.int .i64 old1) := gc1
          have dz0 : w11.drew.frozen? ⟨g, tt, none⟩ = false := gz0
          have dz1 : w11.drew.frozen? ⟨g, tt + 1, none⟩ = false := gz1
          have dd1 : (w11.drew.setCell ⟨g, tt, none⟩ (.int .i64 st)).cell? ⟨g, tt + 1, none⟩ = some (.int .i64 old1) := by rw [World.cell?_setCell_other _ _ _ _ (by simp)]; exact dc1
          have dy1 : (w11.drew.setCell ⟨g, tt, none⟩ (.int .i64 st)).frozen? ⟨g, tt + 1, none⟩ = false := by rw [frozen_setCell_any]; exact dz1
          have K10 := Lib.hid k10; have KX0 := Lib.hid kx0; have KY0 := Lib.hid ky0; have KY1 := Lib.hid ky1; have KP := Lib.hid kp
          clear k10 kx0 ky0 ky1 kp
          go_region_held3 (fun W => W.cell? ⟨w.heap.size, 0, none⟩ = some (.slice (some ⟨b, bo, none⟩) xs.length c) ∧ W.cell? ⟨X, 0, none⟩ = some (.slice (some ⟨g, 0, none⟩) xs.length xs.length) ∧ W.cell? ⟨Y, 0, none⟩ = some (.int .i64 (p : Int)) ∧ W.cell? ⟨Y, 1, none⟩ = some (.int .i64 (tt : Int)) ∧ W.cell? ⟨b, bo + p, none⟩ = some (.int .i64 st))
            (first | exact HKEEP.out _ (grown_drew _ _) | exact HKEEP.out _ (grown_tr (grown_drew _ _) (grown_set _ _ _ _)) | exact HKEEP.out _ (grown_tr (grown_tr (grown_drew _ _) (grown_set _ _ _ _)) (grown_set _ _ _ _)))
            (fail)
          have k10 := K10.out; have kx0 := KX0.out; have ky0 := KY0.out; have ky1 := KY1.out; have kp := KP.out
          clear dc0 dc1 dz0 dz1 dd1 dy1 gc0 gc1 gz0 gz1
          have HA : Hid ((0 :: L).length = tt) := by rw [Hid, HTL.out]; simp; omega
          have HDI : Hid (I64 (d : Int)) := by unfold Hid I64; omega
          have HV12 : Hid (OwnInts ((w11.setCell ⟨g, tt, none⟩ (.int .i64 st)).setCell ⟨g, tt + 1, none⟩ (.int .i64 (d : Int))) g (.slice (some ⟨g, 0, none⟩) xs.length xs.length) (padTo xs.length ((0 :: L) ++ [st, (d : Int)]))) := by
            have h1 := HV11.out.set (i := tt) (by rw [HPLN.out]; exact b6) HWI.out
            have e1 : (padTo xs.length (0 :: L)).set tt st = padTo xs.length ((0 :: L) ++ [st]) := by
              rw [← HA.out]; exact padTo_set (by rw [HA.out]; exact b6) st
            rw [e1] at h1
            have h2 := h1.set (i := tt + 1) (by rw [padTo_len (by rw [List.length_append, HA.out]; simp; omega)]; exact b7) HDI.out
            have e2 : (padTo xs.length ((0 :: L) ++ [st])).set (tt + 1) (d : Int) = padTo xs.length ((0 :: L) ++ [st] ++ [(d : Int)]) := by
              have hl : ((0 :: L) ++ [st]).length = tt + 1 := by rw [List.length_append, HA.out]; rfl
              rw [← hl]; exact padTo_set (by rw [hl]; exact b7) _
            rw [e2, List.append_assoc] at h2
            exact h2
          have HGR12 : Hid (w9.grownBy ((w11.setCell ⟨g, tt, none⟩ (.int .i64 st)).setCell ⟨g, tt + 1, none⟩ (.int .i64 (d : Int))) (some g)) :=
            grown_tr (grown_tr (grown_tr HGR10.out (grownBy_of_below (B := 0) HB11.out _)) (grown_set _ _ _ _)) (grown_set _ _ _ _)
          have HYY0 : Hid (((w11.setCell ⟨g, tt, none⟩ (.int .i64 st)).setCell ⟨g, tt + 1, none⟩ (.int .i64 (d : Int))).cell? ⟨Y, 0, none⟩ = some (.int .i64 (p : Int))) := by
            rw [Hid, World.cell?_setCell_other _ _ _ _ (by simp only [ne_eq, Addr.mk.injEq]; omega), World.cell?_setCell_other _ _ _ _ (by simp only [ne_eq, Addr.mk.injEq]; omega)]; exact ky0
          have HYY1 : Hid (((w11.setCell ⟨g, tt, none⟩ (.int .i64 st)).setCell ⟨g, tt + 1, none⟩ (.int .i64 (d : Int))).cell? ⟨Y, 1, none⟩ = some (.int .i64 (tt : Int))) := by
            rw [Hid, World.cell?_setCell_other _ _ _ _ (by simp only [ne_eq, Addr.mk.injEq]; omega), World.cell?_setCell_other _ _ _ _ (by simp only [ne_eq, Addr.mk.injEq]; omega)]; exact ky1
          have HFIN : Hid (∀ wq ys, cvts ms (fieldsOf xs p) = some ys → OwnInts wq g (.slice (some ⟨g, 0, none⟩) xs.length xs.length) (padTo xs.length ((0 :: L) ++ (st :: (d : Int) :: ys))) → w9.grownBy wq (some g) →
              ∃ L', outW xs ms (ks.take (i + 1)) = some L' ∧ OwnInts wq g (.slice (some ⟨g, 0, none⟩) xs.length xs.length) (padTo xs.length (0 :: L')) ∧ w9.grownBy wq (some g)) := by
            intro wq ys h1 h2 h3
            refine ⟨L ++ (st :: (d : Int) :: ys), ?_, by simpa using h2, h3⟩
            rw [HTK2.out, outW_append, HL.out]
            simp only [outW, objW, h1, Option.map_some, Option.bind_some, ← HST.out, ← HD.out, List.append_nil]
          have HFL : Hid (fieldsOf xs p = (xs.drop (p + 2)).take d) := by rw [Hid, fieldsOf, HD.out]
          have kk0 : ((w11.setCell ⟨g, tt, none⟩ (.int .i64 st)).setCell ⟨g, tt + 1, none⟩ (.int .i64 (d : Int))).cell? ⟨w.heap.size, 0, none⟩ = some (.slice (some ⟨b, bo, none⟩) xs.length c) := by
            rw [World.cell?_setCell_other _ _ _ _ (by simp only [ne_eq, Addr.mk.injEq]; omega), World.cell?_setCell_other _ _ _ _ (by simp only [ne_eq, Addr.mk.injEq]; omega)]; exact k10
          obtain ⟨w12, hv12, hgr12, kky0, hyy1, kk0', hw12⟩ : ∃ w12 : World, OwnInts w12 g (.slice (some ⟨g, 0, none⟩) xs.length xs.length) (padTo xs.length ((0 :: L) ++ [st, (d : Int)])) ∧ w9.grownBy w12 (some g) ∧ w12.cell? ⟨Y, 0, none⟩ = some (.int .i64 (p : Int)) ∧ w12.cell? ⟨Y, 1, none⟩ = some (.int .i64 (tt : Int)) ∧
              w12.cell? ⟨w.heap.size, 0, none⟩ = some (.slice (some ⟨b, bo, none⟩) xs.length c) ∧ ((w11.setCell ⟨g, tt, none⟩ (.int .i64 st)).setCell ⟨g, tt + 1, none⟩ (.int .i64 (d : Int))).drew = w12 := ⟨((w11.setCell ⟨g, tt, none⟩ (.int .i64 st)).setCell ⟨g, tt + 1, none⟩ (.int .i64 (d : Int))).drew, HV12.out, grown_tr HGR12.out (grown_drew _ _), HYY0.out, HYY1.out, kk0, rfl⟩
          rw [hw12]
          clear hw12 HV12 HGR12 HYY0 HYY1 kk0 k10 kx0 ky0 ky1 kp e1 b1 b2 b3 b4 b5
          have HV12 := Lib.hid hv12; have HGR12 := Lib.hid hgr12; have HYY0 := Lib.hid kky0; have HYY1 := Lib.hid hyy1
          clear hv12 hgr12 hyy1
          by_cases hd0 : d = 0
          · have hcp1 : p + 2 ≤ c := by omega
            have hcp2 : p + 2 + d ≤ c := by omega
            have hdn : ¬ 0 < d := by omega
            have HF0 : Hid (cvts ms (fieldsOf xs p) = some []) := by rw [Hid, HFL.out, hd0]; simp [cvts]
            have HEND := Lib.hid (HFIN.out _ [] HF0.out HV12.out HGR12.out)
            have HD0 := Lib.hid hd0
            clear hd0
            by_cases hcp : c = p + 2
            · subst hcp
              go_wp2_with fail
              (try rw [Nat.add_sub_cancel_left])
              go_loopw [133] (fun u wr => u = .int .i64 0 ∧ ∃ L', outW xs ms (ks.take (i + 1)) = some L' ∧ OwnInts wr g (.slice (some ⟨g, 0, none⟩) xs.length xs.length) (padTo xs.length (0 :: L')) ∧ w9.grownBy wr (some g)) (fun _ _ => 0)
              case atStart => exact ⟨rfl, HEND.out⟩
              case round =>
                obtain ⟨rfl, hend⟩ := hrel
                have HE2 := Lib.hid hend
                clear hend
                go_wp2_with fail
                go_roundw
                case rel =>
                  obtain ⟨L', q1, q2, q3⟩ := HE2.out
                  exact ⟨i + 1, L', by go_num, by omega, q1, q2, q3⟩
                case measure => simp [intOf]; omega
            · go_wp2_with fail
              (try rw [Nat.add_sub_cancel_left])
              go_loopw [133] (fun u wr => u = .int .i64 0 ∧ ∃ L', outW xs ms (ks.take (i + 1)) = some L' ∧ OwnInts wr g (.slice (some ⟨g, 0, none⟩) xs.length xs.length) (padTo xs.length (0 :: L')) ∧ w9.grownBy wr (some g)) (fun _ _ => 0)
              case atStart => exact ⟨rfl, HEND.out⟩
              case round =>
                obtain ⟨rfl, hend⟩ := hrel
                have HE2 := Lib.hid hend
                clear hend
                go_wp2_with fail
                go_roundw
                case rel =>
                  obtain ⟨L', q1, q2, q3⟩ := HE2.out
                  exact ⟨i + 1, L', by go_num, by omega, q1, q2, q3⟩
                case measure => simp [intOf]; omega
          · have hcp : ¬ c = p + 2 := by omega
            have hcp1 : p + 2 ≤ c := by omega
            have hcp2 : p + 2 + d ≤ c := by omega
            go_wp2_with fail
            (try rw [Nat.add_sub_cancel_left])
            clear kk0' kky0
            go_loopw [133] (fun u wr => ∃ (j : Nat) (ys : List Int), u = .int .i64 j ∧ j ≤ d ∧ cvts ms ((fieldsOf xs p).take j) = some ys ∧ OwnInts wr g (.slice (some ⟨g, 0, none⟩) xs.length xs.length) (padTo xs.length ((0 :: L) ++ (st :: (d : Int) :: ys))) ∧ w12.grownBy wr (some g)) (fun u _ => d - (intOf u).toNat)
            case atStart => exact ⟨0, [], rfl, Nat.zero_le _, by simp [cvts], HV12.out, World.grownBy.refl _ _⟩
            case round =>
              obtain ⟨j, ys, rfl, hj, hcv, hv, hgr⟩ := hrel
              have HCV := Lib.hid hcv; have HVJ := Lib.hid hv; have HGJ := Lib.hid hgr
              have HYL : Hid (ys.length = j) := by
                have := cvts_len _ _ _ hcv
                rw [Hid, this, List.length_take, fields_len HI.out p HPL.out, ← HD.out]; omega
              clear hcv hv hgr
              by_cases hjd : j < d
              · have HBWJ : Hid (Below w.heap.size w wr) := (HBW.out.trans (HB9.out.mono (by omega))).grown (grown_tr HGR12.out HGJ.out) (by omega) (fun j hj => by simp only [Option.some.injEq] at hj; omega)
                have hw0 := HWD.out wr HBWJ.out (p + 2 + j) (by omega)
                rw [show bo + (p + 2 + j) = bo + (p + 2) + j by omega] at hw0
                have hrng := (HF.out w (Below.refl _ _)).range (p + 2 + j)
                obtain ⟨x, hx⟩ : ∃ x, x = xs.getD (p + 2 + j) 0 := ⟨_, rfl⟩
                rw [← hx] at hw0 hrng
                obtain ⟨hr1, hr2⟩ := hrng
                have HTKJ : Hid ((fieldsOf xs p).take (j + 1) = (fieldsOf xs p).take j ++ [x]) := by
                  rw [Hid, HFL.out, List.take_take, List.take_take, Nat.min_eq_left (by omega), Nat.min_eq_left (by omega), List.take_succ_eq_append_getElem (by simp; omega)]
                  congr 2
                  rw [hx, List.getElem_drop, List.getD_eq_getElem?_getD, List.getElem?_eq_getElem (by omega)]
                  rfl
                clear hx
                have hs12 := HGR12.out.size
                have hs13 := HGJ.out.size
                have hY12 : Y < w12.heap.size := World.block_lt_of_cell? w12 _ HYY1.out
                have jy1 : wr.cell? ⟨Y, 1, none⟩ = some (.int .i64 (tt : Int)) := (grown_cell HGJ.out (M := Y) (i := 1) hY12 (fun e => by simp only [Option.some.injEq] at e; omega)).1.trans HYY1.out
                have jx0 : wr.cell? ⟨X, 0, none⟩ = some (.slice (some ⟨g, 0, none⟩) xs.length xs.length) := (grown_cell (grown_tr HGR12.out HGJ.out) (M := X) (i := 0) hX9 (fun e => by simp only [Option.some.injEq] at e; omega)).1.trans HX0.out
                have HFMJ : Hid (FunMap wr z (keep.length + 1) (toF ms)) := (HFN.out.below (by rw [← HG.out]; exact HB9.out)).grown (grown_tr HGR12.out HGJ.out) (fun e => by simp only [Option.some.injEq] at e; omega)
                have HPL2 : Hid ((padTo xs.length ((0 :: L) ++ (st :: (d : Int) :: ys))).length = xs.length) := padTo_len (by rw [List.length_append, HA.out]; simp only [List.length_cons, HYL.out]; omega)
                have hYr : Y < wr.heap.size := by omega
                have hXr2 : X < wr.heap.size := by omega
                by_cases hodd : x % 2 = 1
                · have hk : ofK x = 1 := hodd
                  have HNI : Hid (I64 (ofN x)) := by unfold Hid ofN I64; omega
                  have HODD := Lib.hid hodd
                  cases htv : toF ms (ofN x) with
                  | none =>
                    have HTV := Lib.hid htv
                    have HNONE : Hid (outW xs (mvs xs ks 1) ks = none) := by
                      have e1 : cvt ms x = none := by rw [cvt, if_pos hodd, show x / 2 = ofN x from rfl, htv]; rfl
                      have e2 : cvts ms (fieldsOf xs p) = none := by
                        rw [← List.take_append_drop (j + 1) (fieldsOf xs p), HTKJ.out, List.append_assoc, cvts_append, HCV.out]
                        simp [cvts, e1]
                      have e3 : objW xs ms p = none := by rw [objW, e2]; rfl
                      rw [Hid, ← HMS.out, ← List.take_append_drop (i + 1) ks, HTK2.out, List.append_assoc, outW_append, HL.out]
                      simp [outW, e3]
                    clear htv hodd
                    have HK := Lib.hid hk
                    clear hk
                    go_upto_region 30 with (first
                      | (go_at_call 37; refine (of_any x _ hr1 hr2).mono ?_; rintro e w13 ⟨rfl, hb13⟩; rw [HK.out]; have HB13 := Lib.hid hb13; clear hb13)
                      | (at_lookup; refine wpl_funLookOk rfl _ _ rfl z _ _ rfl (HFMJ.out.below (by repeat (first | exact Below.refl _ _ | with_reducible refine Below.trans ?_ (Below.mono HB13.out (by first | exact Nat.le_refl _ | (simp; done) | omega | (simp; omega) | (have z0 := Below.size HB13.out; omega) | (have z0 := Below.size HB13.out; simp at *; omega))) | with_reducible refine below_drewN ?_ _ | with_reducible refine Below.drew ?_ | with_reducible refine Below.alloc ?_ (by first | exact Nat.le_refl _ | (simp; done) | omega | (simp; omega) | (have z0 := Below.size HB13.out; omega) | (have z0 := Below.size HB13.out; simp at *; omega)) _ | with_reducible refine Below.setCell ?_ (by first | exact Nat.le_refl _ | (simp; done) | omega | (simp; omega) | (have z0 := Below.size HB13.out; omega) | (have z0 := Below.size HB13.out; simp at *; omega)) _))) (ofN x) rfl HNI.out ?_; rw [HTV.out]; simp only [Option.getD_none, Option.isSome_none]))
                    obtain ⟨w15, hw15⟩ : ∃ w15, w15 = w13.alloc (.cells #[.int .i64 1, .int .i64 (ofN x)] 36) := ⟨_, rfl⟩
                    have HB15 : Hid (Below wr.heap.size wr w15) := by rw [Hid, hw15]; exact (by repeat (first | exact Below.refl _ _ | with_reducible refine Below.trans ?_ (Below.mono HB13.out (by first | exact Nat.le_refl _ | (simp; done) | omega | (simp; omega) | (have z0 := Below.size HB13.out; omega) | (have z0 := Below.size HB13.out; simp at *; omega))) | with_reducible refine below_drewN ?_ _ | with_reducible refine Below.drew ?_ | with_reducible refine Below.alloc ?_ (by first | exact Nat.le_refl _ | (simp; done) | omega | (simp; omega) | (have z0 := Below.size HB13.out; omega) | (have z0 := Below.size HB13.out; simp at *; omega)) _ | with_reducible refine Below.setCell ?_ (by first | exact Nat.le_refl _ | (simp; done) | omega | (simp; omega) | (have z0 := Below.size HB13.out; omega) | (have z0 := Below.size HB13.out; simp at *; omega)) _))
                    rw [← hw15]
                    clear hw15
                    have hrb : w.heap.size + 1 < wr.heap.size := by omega
                    have hg12 := grown_tr HGR12.out HGJ.out
                    have HOLD2 : Hid (∀ o : Nat, w15.cell? ⟨w.heap.size + 1, o, none⟩ = wl.cell? ⟨w.heap.size + 1, o, none⟩ ∧ w15.frozen? ⟨w.heap.size + 1, o, none⟩ = wl.frozen? ⟨w.heap.size + 1, o, none⟩) := fun o => by
                      obtain ⟨e1, e2⟩ := grown_cell hg12 (M := w.heap.size + 1) (i := o) (by omega) (fun e => by simp only [Option.some.injEq] at e; omega)
                      exact ⟨((HB15.out.cell (p := ⟨w.heap.size + 1, o, none⟩) hrb).trans e1).trans (HB9.out.cell (p := ⟨w.heap.size + 1, o, none⟩) (by show w.heap.size + 1 < g; omega)), ((HB15.out.frozen (p := ⟨w.heap.size + 1, o, none⟩) hrb).trans e2).trans (HB9.out.frozen (p := ⟨w.heap.size + 1, o, none⟩) (by show w.heap.size + 1 < g; omega))⟩
                    clear hg12
                    have r20 := (HOLD2.out 0).1.trans HL20.out
                    have r21 := (HOLD2.out 1).1.trans HL21.out
                    have rz20 := (HOLD2.out 0).2.trans HLZ20.out
                    have rz21 := (HOLD2.out 1).2.trans HLZ21.out
                    go_wp2_with fail
                    refine bodyPost_ret (v := .tuple #[.agg #[.slice none 0 0, .int .i64 0], .slice none 0 0, .int .i64 5]) (by simp [results, Try.results27, go_sem, *]) rfl ⟨((HBWJ.out.trans (HB15.out.mono (by omega))).setCell (by simp) _).setCell (by simp) _, .inr ⟨t, l, rfl, HI.out, .inr ⟨ks, HKE.out, HKI.out, .inl ⟨HNONE.out, rfl⟩⟩⟩⟩
                  | some y =>
                    have HTV := Lib.hid htv
                    have hyb := toF_le (by rw [← HMS.out]; exact htv)
                    rw [← HTT.out] at hyb
                    obtain ⟨hy1, hy2⟩ := hyb
                    have HCX : Hid (cvt ms x = some (2 * y + 1)) := by
                      rw [Hid, cvt, if_pos hodd, show x / 2 = ofN x from rfl, htv]; rfl
                    have HVI : Hid (I64 (2 * y + 1)) := by unfold Hid I64; omega
                    clear htv hodd
                    have HK := Lib.hid hk
                    clear hk
                    go_upto_region 32 with (first
                      | (go_at_call 37; refine (of_any x _ hr1 hr2).mono ?_; rintro e w13 ⟨rfl, hb13⟩; rw [HK.out]; have HB13 := Lib.hid hb13; clear hb13)
                      | (at_lookup; refine wpl_funLookOk rfl _ _ rfl z _ _ rfl (HFMJ.out.below (by repeat (first | exact Below.refl _ _ | with_reducible refine Below.trans ?_ (Below.mono HB13.out (by first | exact Nat.le_refl _ | (simp; done) | omega | (simp; omega) | (have z0 := Below.size HB13.out; omega) | (have z0 := Below.size HB13.out; simp at *; omega))) | with_reducible refine below_drewN ?_ _ | with_reducible refine Below.drew ?_ | with_reducible refine Below.alloc ?_ (by first | exact Nat.le_refl _ | (simp; done) | omega | (simp; omega) | (have z0 := Below.size HB13.out; omega) | (have z0 := Below.size HB13.out; simp at *; omega)) _ | with_reducible refine Below.setCell ?_ (by first | exact Nat.le_refl _ | (simp; done) | omega | (simp; omega) | (have z0 := Below.size HB13.out; omega) | (have z0 := Below.size HB13.out; simp at *; omega)) _))) (ofN x) rfl HNI.out ?_; rw [HTV.out]; simp only [Option.getD_some, Option.isSome_some])
                      | (go_at_call 53; refine (word_any 1 y _ (by omega) (by omega)).mono ?_; rintro e w14 ⟨rfl, hb14⟩; rw [show wordOf 1 y = 2 * y + 1 from rfl]; have HB14 := Lib.hid hb14; clear hb14))
                    obtain ⟨w15, hw15⟩ : ∃ w15, w15 = w14 := ⟨_, rfl⟩

                    have HB15 : Hid (Below wr.heap.size wr w15) := by rw [Hid, hw15]; exact (by repeat (first | exact Below.refl _ _ | with_reducible refine Below.trans ?_ (Below.mono HB14.out (by first | exact Nat.le_refl _ | (simp; done) | omega | (simp; omega) | (have z := Below.size HB14.out; omega) | (have z := Below.size HB13.out; omega) | (have z0 := Below.size HB14.out; have z1 := Below.size HB13.out; omega) | (have z0 := Below.size HB14.out; have z1 := Below.size HB13.out; simp at *; omega))) | with_reducible refine Below.trans ?_ (Below.mono HB13.out (by first | exact Nat.le_refl _ | (simp; done) | omega | (simp; omega) | (have z := Below.size HB14.out; omega) | (have z := Below.size HB13.out; omega) | (have z0 := Below.size HB14.out; have z1 := Below.size HB13.out; omega) | (have z0 := Below.size HB14.out; have z1 := Below.size HB13.out; simp at *; omega))) | with_reducible refine below_drewN ?_ _ | with_reducible refine Below.drew ?_ | with_reducible refine Below.alloc ?_ (by first | exact Nat.le_refl _ | (simp; done) | omega | (simp; omega) | (have z := Below.size HB14.out; omega) | (have z := Below.size HB13.out; omega) | (have z0 := Below.size HB14.out; have z1 := Below.size HB13.out; omega) | (have z0 := Below.size HB14.out; have z1 := Below.size HB13.out; simp at *; omega)) _ | with_reducible refine Below.setCell ?_ (by first | exact Nat.le_refl _ | (simp; done) | omega | (simp; omega) | (have z := Below.size HB14.out; omega) | (have z := Below.size HB13.out; omega) | (have z0 := Below.size HB14.out; have z1 := Below.size HB13.out; omega) | (have z0 := Below.size HB14.out; have z1 := Below.size HB13.out; simp at *; omega)) _))
                    rw [← hw15]
                    clear hw15
                    have q0 := (HB15.out.cell (p := ⟨X, 0, none⟩) (by show X < wr.heap.size; omega)).trans jx0
                    have q1 := (HB15.out.cell (p := ⟨Y, 1, none⟩) (by show Y < wr.heap.size; omega)).trans jy1
                    have HV15 := Lib.hid (HVJ.out.below HB15.out)
                    obtain ⟨g', eg, _, hgs, hgc, hgz⟩ := HV15.out.spot (by rw [HPL2.out]; omega)
                    simp only [Option.some.injEq, Addr.mk.injEq] at eg
                    obtain ⟨rfl, _⟩ := eg
                    have gc0 := hgc (tt + 2 + j) (by rw [HPL2.out]; omega)
                    have gz0 := hgz (tt + 2 + j)
                    generalize (padTo xs.length ((0 :: L) ++ (st :: (d : Int) :: ys))).getD (tt + 2 + j) 0 = old0 at gc0
                    have HGR15 : Hid (w12.grownBy w15 (some g)) := grown_tr HGJ.out (grownBy_of_below (B := 0) HB15.out _)
                    clear hgc hgz
                    go_wp2_with fail
                    go_roundw
                    case rel =>
                      refine ⟨j + 1, ys ++ [2 * y + 1], by go_num, by omega, ?_, ?_, grown_tr HGR15.out (grown_set _ _ _ _)⟩
                      · rw [HTKJ.out, cvts_append, HCV.out]
                        simp only [cvts, HCX.out, Option.bind_some, Option.map_some]
                      · have h1 := HV15.out.set (i := tt + 2 + j) (by rw [HPL2.out]; omega) HVI.out
                        have e1 : ((0 :: L) ++ (st :: (d : Int) :: ys)).length = tt + 2 + j := by rw [List.length_append, HA.out]; simp only [List.length_cons, HYL.out]; omega
                        have e2 := padTo_set (n := xs.length) (A := (0 :: L) ++ (st :: (d : Int) :: ys)) (by rw [e1]; omega) (2 * y + 1)
                        rw [e1] at e2
                        rw [e2] at h1
                        simpa using h1
                    case measure => simp [intOf]; omega
                · have hk : ofK x = 0 := by unfold ofK; omega
                  have HCX : Hid (cvt ms x = some x) := by rw [Hid, cvt, if_neg hodd]
                  have HVI : Hid (I64 x) := ⟨hr1, hr2⟩
                  have HK := Lib.hid hk
                  clear hk hodd
                  go_upto_region 32 with (go_at_call 37; refine (of_any x _ hr1 hr2).mono ?_; rintro e w13 ⟨rfl, hb13⟩; rw [HK.out]; have HB13 := Lib.hid hb13; clear hb13)
                  obtain ⟨w15, hw15⟩ : ∃ w15, w15 = w13.alloc (.cells #[.int .i64 0, .int .i64 (ofN x)] 36) := ⟨_, rfl⟩

                  have HB15 : Hid (Below wr.heap.size wr w15) := by rw [Hid, hw15]; exact (by repeat (first | exact Below.refl _ _ | with_reducible refine Below.trans ?_ (Below.mono HB13.out (by first | exact Nat.le_refl _ | (simp; done) | omega | (simp; omega) | (have z0 := Below.size HB13.out; omega) | (have z0 := Below.size HB13.out; simp at *; omega))) | with_reducible refine below_drewN ?_ _ | with_reducible refine Below.drew ?_ | with_reducible refine Below.alloc ?_ (by first | exact Nat.le_refl _ | (simp; done) | omega | (simp; omega) | (have z0 := Below.size HB13.out; omega) | (have z0 := Below.size HB13.out; simp at *; omega)) _ | with_reducible refine Below.setCell ?_ (by first | exact Nat.le_refl _ | (simp; done) | omega | (simp; omega) | (have z0 := Below.size HB13.out; omega) | (have z0 := Below.size HB13.out; simp at *; omega)) _))
                  rw [← hw15]
                  clear hw15
                  have q0 := (HB15.out.cell (p := ⟨X, 0, none⟩) (by show X < wr.heap.size; omega)).trans jx0
                  have q1 := (HB15.out.cell (p := ⟨Y, 1, none⟩) (by show Y < wr.heap.size; omega)).trans jy1
                  have HV15 := Lib.hid (HVJ.out.below HB15.out)
                  obtain ⟨g', eg, _, hgs, hgc, hgz⟩ := HV15.out.spot (by rw [HPL2.out]; omega)
                  simp only [Option.some.injEq, Addr.mk.injEq] at eg
                  obtain ⟨rfl, _⟩ := eg
                  have gc0 := hgc (tt + 2 + j) (by rw [HPL2.out]; omega)
                  have gz0 := hgz (tt + 2 + j)
                  generalize (padTo xs.length ((0 :: L) ++ (st :: (d : Int) :: ys))).getD (tt + 2 + j) 0 = old0 at gc0
                  have HGR15 : Hid (w12.grownBy w15 (some g)) := grown_tr HGJ.out (grownBy_of_below (B := 0) HB15.out _)
                  clear hgc hgz
                  go_wp2_with fail
                  go_roundw
                  case rel =>
                    refine ⟨j + 1, ys ++ [x], by go_num, by omega, ?_, ?_, grown_tr HGR15.out (grown_set _ _ _ _)⟩
                    · rw [HTKJ.out, cvts_append, HCV.out]
                      simp only [cvts, HCX.out, Option.bind_some, Option.map_some]
                    · have h1 := HV15.out.set (i := tt + 2 + j) (by rw [HPL2.out]; omega) HVI.out
                      have e1 : ((0 :: L) ++ (st :: (d : Int) :: ys)).length = tt + 2 + j := by rw [List.length_append, HA.out]; simp only [List.length_cons, HYL.out]; omega
                      have e2 := padTo_set (n := xs.length) (A := (0 :: L) ++ (st :: (d : Int) :: ys)) (by rw [e1]; omega) (x)
                      rw [e1] at e2
                      rw [e2] at h1
                      simpa using h1
                  case measure => simp [intOf]; omega
              · obtain rfl : j = d := by omega
                have hcv2 := HCV.out
                rw [List.take_of_length_le (by rw [fields_len HI.out p HPL.out, ← HD.out]; omega)] at hcv2
                have HEND := Lib.hid (HFIN.out wr ys hcv2 HVJ.out (grown_tr HGR12.out HGJ.out))
                clear hcv2
                go_wp2_with fail
                go_roundw
                case rel =>
                  obtain ⟨L', q1, q2, q3⟩ := HEND.out
                  exact ⟨i + 1, L', by go_num, by omega, q1, q2, q3⟩
                case measure => simp [intOf]; omega
        · obtain rfl : i = ks.length := by omega
          have HLL : Hid (outW xs (mvs xs ks 1) ks = some L) := by have := HL.out; rw [List.take_length, HMS.out] at this; exact this
          have HMVR : Hid (OwnMoves wr (z + 1) (.slice ma ks.length mc) ms) := by
            have h1 : OwnMoves w9 (z + 1) (.slice ma ks.length mc) ms := HMV.out.below (by rw [← HG.out]; exact HB9.out)
            exact h1.grown HGR.out (by
              cases hb : (Value.slice ma ks.length mc).ownBlock with
              | none => exact .inl rfl
              | some j => exact .inr (fun e => by have h2 := (HMV.out.lt hb).2; simp only [Option.some.injEq] at e; rw [← HG.out] at h2; omega))
          have HBWR : Hid (Below w.heap.size w wr) := (HBW.out.trans (HB9.out.mono (by omega))).grown HGR.out (by omega) (fun j hj => by simp only [Option.some.injEq] at hj; omega)
          go_wp2_with fail
          refine bodyPost_ret (v := .tuple #[.agg #[.slice (some ⟨g, 0, none⟩) xs.length xs.length, .int .i64 (T : Int)], .slice ma ks.length mc, .int .i64 0]) (by simp [results, Try.results27, go_sem, *]) rfl ⟨(HBWR.out.setCell (by simp) _).setCell (by simp) _, .inr ⟨t, l, rfl, HI.out, .inr ⟨ks, HKE.out, HKI.out, .inr ⟨L, _, _, HLL.out, by rw [← HTT.out], ?_, ?_⟩⟩⟩⟩
          · exact ((HV.out.setFar (by simp [Value.ownBlock]; omega) _).setFar (by simp [Value.ownBlock]; omega) _).mono (by omega)
          · rw [← HMS.out]
            have hne : (Value.slice ma ks.length mc).ownBlock ≠ some (w.heap.size + 1) := fun e => by have := (HMVR.out.lt e).1; omega
            exact ((HMVR.out.setFar hne _).setFar hne _).mono (by omega)

set_option maxRecDepth 100000 in
set_option maxHeartbeats 400000 in
theorem compact_any (v kv : Value) (xs keep : List Int) (top : Int) (w : World) (h : Ints w v xs) (hr : Ints w kv keep) :
    Calls Try.prog 27 #[.agg #[v, .int .i64 top], kv] w (RetClosed w xs top keep) := by
  by_cases hok : HeapOk xs top
  · obtain ⟨t, l, rfl, his⟩ := hok
    exact compact_ok v kv xs keep t l w h hr his
  · obtain ⟨a, c, rfl, hc, hcm, _⟩ := h.len
    have HF : Hid (∀ w2, Below w.heap.size w w2 → Ints w2 (.slice a xs.length c) xs) := fun w2 hb2 => h.below (Nat.le_refl _) hb2
    have HN := Lib.hid hok
    clear h hr hok
    go_enter Try.func27, Try.ntmps27
    go_wp2_with (go_at_call 18; refine (Places_any _ xs _ _ (HF.out _ (by repeat (first | exact Below.refl _ _ | with_reducible refine below_drewN ?_ _ | with_reducible refine Below.drew ?_ | with_reducible refine Below.alloc ?_ (by first | exact Nat.le_refl _ | (simp; done) | omega | (simp; omega)) _ | with_reducible refine Below.setCell ?_ (by first | exact Nat.le_refl _ | (simp; done) | omega | (simp; omega)) _)))).mono ?_; rintro e w1 ⟨hb, ⟨t', l', la, lc, ht, hi, rfl, hv⟩ | ⟨hno, rfl⟩⟩; (exact absurd ⟨t', l', ht, hi⟩ HN.out); have zc3 := Nat.lt_of_lt_of_le (show w.heap.size < _ from (by first | (simp; done) | omega | (simp; omega))) (Below.size hb); have fc3_0 := Below.cell hb (p := ⟨w.heap.size, 0, none⟩) (by first | (simp; done) | omega | (simp; omega)); have gc3_0 := Below.frozen hb (p := ⟨w.heap.size, 0, none⟩) (by first | (simp; done) | omega | (simp; omega)); have fc3_1 := Below.cell hb (p := ⟨w.heap.size, 1, none⟩) (by first | (simp; done) | omega | (simp; omega)); have gc3_1 := Below.frozen hb (p := ⟨w.heap.size, 1, none⟩) (by first | (simp; done) | omega | (simp; omega)); (try simp at fc3_0 gc3_0 fc3_1 gc3_1); have zc4 := Nat.lt_of_lt_of_le (show w.heap.size + 1 < _ from (by first | (simp; done) | omega | (simp; omega))) (Below.size hb); have fc4_0 := Below.cell hb (p := ⟨w.heap.size + 1, 0, none⟩) (by first | (simp; done) | omega | (simp; omega)); have gc4_0 := Below.frozen hb (p := ⟨w.heap.size + 1, 0, none⟩) (by first | (simp; done) | omega | (simp; omega)); have fc4_1 := Below.cell hb (p := ⟨w.heap.size + 1, 1, none⟩) (by first | (simp; done) | omega | (simp; omega)); have gc4_1 := Below.frozen hb (p := ⟨w.heap.size + 1, 1, none⟩) (by first | (simp; done) | omega | (simp; omega)); (try simp at fc4_0 gc4_0 fc4_1 gc4_1); have HB := Lib.hid hb; clear hb)
    refine bodyPost_ret (v := .tuple #[.agg #[.slice none 0 0, .int .i64 0], .slice none 0 0, .int .i64 5]) (by simp [results, Try.results27, go_sem, *]) rfl ⟨(by repeat (first | exact Below.refl _ _ | with_reducible refine Below.trans ?_ (Below.mono HB.out (by first | exact Nat.le_refl _ | (simp; done) | omega | (simp; omega) | (have z0 := Below.size HB.out; omega) | (have z0 := Below.size HB.out; simp at *; omega))) | with_reducible refine below_drewN ?_ _ | with_reducible refine Below.drew ?_ | with_reducible refine Below.alloc ?_ (by first | exact Nat.le_refl _ | (simp; done) | omega | (simp; omega) | (have z0 := Below.size HB.out; omega) | (have z0 := Below.size HB.out; simp at *; omega)) _ | with_reducible refine Below.setCell ?_ (by first | exact Nat.le_refl _ | (simp; done) | omega | (simp; omega) | (have z0 := Below.size HB.out; omega) | (have z0 := Below.size HB.out; simp at *; omega)) _)), .inl ⟨HN.out, rfl⟩⟩
end Go.Proofs.Ytbeilcaadpopmab
