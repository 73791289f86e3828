/- Walk: limewashkeep.StoresLoad. -/
import Derived.Test.YtbeilcaadpopmabKh
import Derived.Test.YtbeilcaadpopmabEq
import Derived.Test.YtbeilcaadpopmabRg
import Derived.Test.YtbeilcaadpopmabWs
set_option linter.unusedVariables false
set_option linter.unusedSimpArgs false
namespace Go.Proofs.Ytbeilcaadpopmab
open Go.RowKit

theorem top_none {xs : List Int} {t : Nat} (h : HeapIs xs t []) : t = 1 := by
  obtain ⟨_, h1, _, hp, _⟩ := h
  unfold places at hp
  rw [plF] at hp
  split at hp
  · split at hp
    · cases hp
    · split at hp
      · obtain ⟨r, _, e⟩ := Option.map_eq_some_iff.1 hp
        cases e
      · cases hp
  · omega

/-- What such a store comes to. -/
theorem RetStore.num {w w' : World} {xs : List Int} {t : Nat} {l : List Nat} {p n : Nat} {vn : Int} {e : Ending} (h : RetStore w xs t p n 0 vn e w') (hi : HeapIs xs t l) (hp : p ∈ l) (h1 : -1099511627776 ≤ vn) (h2 : vn ≤ 1099511627776) :
    Below w.heap.size w w' ∧ ((¬ n < nf xs p ∧ e = .returned (.tuple #[.agg #[.slice none 0 0, .int .i64 0], .int .i64 4])) ∨
      (n < nf xs p ∧ ∃ a c, e = .returned (.tuple #[.agg #[.slice a xs.length c, .int .i64 (t : Int)], .int .i64 0]) ∧ OwnInts w' w.heap.size (.slice a xs.length c) (xs.set (p + 2 + n) (2 * vn)))) := by
  obtain ⟨hb, ⟨er, he, rfl⟩ | ⟨t', l', q, k, a, c, ht, hi', ⟨f1, f2, f3, f4⟩, hv, rfl, ho⟩⟩ := h
  · refine ⟨hb, .inl ?_⟩
    rcases he with ⟨hn, _⟩ | ⟨t', l', ht, hi', ⟨hn, rfl⟩ | ⟨q, k, hf, hv⟩⟩
    · exact absurd ⟨t, l, rfl, hi⟩ hn
    · obtain rfl := Int.ofNat_inj.1 ht
      obtain rfl := hi.uniq hi'
      exact ⟨fun hlt => hn ⟨p, n, hp, rfl, rfl, hlt⟩, rfl⟩
    · rcases hv with ⟨hv, _⟩ | ⟨_, hv, _⟩ | ⟨hv, _⟩
      · exact absurd rfl hv
      · exact absurd ⟨h1, h2⟩ hv
      · exact absurd hv (by decide)
  · obtain rfl := Int.ofNat_inj.1 ht
    obtain rfl := hi.uniq hi'
    obtain rfl := Int.ofNat_inj.1 f2
    obtain rfl := Int.ofNat_inj.1 f3
    exact ⟨hb, .inr ⟨f4, a, c, rfl, by simpa [wordOf] using ho⟩⟩

set_option maxRecDepth 100000 in
set_option maxHeartbeats 4000000 in
theorem storesLoad_any (v : Value) (rs : List Raw4) (rk ra rb rc : Int) (w : World) (h : Raws w v rs) (hk : I64 rk) (ha : I64 ra) (hb : I64 rb) (hc : I64 rc) :
    Calls Try.prog 8 #[v, .agg #[.int .i64 rk, .int .i64 ra, .int .i64 rb, .int .i64 rc]] w fun e w' => e = .returned (.bool true) ∧ Below w.heap.size w w' := by
  unfold I64 at ha hb hc
  obtain ⟨ha1, ha2⟩ := ha
  obtain ⟨hb1, hb2⟩ := hb
  obtain ⟨hc1, hc2⟩ := hc
  have HR : Hid (∀ W, Below w.heap.size w W → Raws W v rs) := fun W hW => h.below (Nat.le_refl _) hW
  clear h hk
  go_enter Try.func8, Try.ntmps8
  go_upto_region 3 with (first
    | (go_at_call 33; refine (keepHeap_any _ rs _ (HR.out _ (by repeat (first | exact Below.refl _ _ | with_reducible refine below_drewN ?_ _ | with_reducible refine Below.drew ?_ | with_reducible refine Below.alloc ?_ (by first | exact Nat.le_refl _ | (simp; done) | omega | (simp; omega)) _ | with_reducible refine Below.setCell ?_ (by first | exact Nat.le_refl _ | (simp; done) | omega | (simp; omega)) _)))).mono ?_; rintro e w1 ⟨xs, t, l, a, cc, his, hxl, ht, rfl, hv, hb⟩; have HIS := Lib.hid his; have HXL := Lib.hid hxl; have HV := Lib.hid hv; have HB := Lib.hid hb; clear his hxl hv hb)
    | (go_at_call 18; refine (Places_any _ xs _ _ (HV.out.ints.below (Nat.le_refl _) (by repeat (first | exact Below.refl _ _ | with_reducible refine below_drewN ?_ _ | with_reducible refine Below.drew ?_ | with_reducible refine Below.alloc ?_ (by first | exact Nat.le_refl _ | (simp; done) | omega | (simp; omega)) _ | with_reducible refine Below.setCell ?_ (by first | exact Nat.le_refl _ | (simp; done) | omega | (simp; omega)) _)))).mono ?_; rintro e w2 ⟨hb2, ⟨t', l', la, lc, ht', hi', rfl, hvl⟩ | ⟨hno, rfl⟩⟩; rotate_left; (exact absurd ⟨t, l, rfl, HIS.out⟩ hno); obtain rfl := Int.ofNat_inj.1 ht'; obtain rfl := HIS.out.uniq hi'; have HB2 := Lib.hid hb2; have HVL := Lib.hid hvl; clear ht' hi' hb2 hvl))
  obtain ⟨H, hHE⟩ : ∃ H, H = w.heap.size := ⟨_, rfl⟩
  obtain ⟨B, hBE⟩ : ∃ B, B = w1.heap.size := ⟨_, rfl⟩
  have hHB : H < B := by rw [hHE, hBE]; have := HB.out.size; simp at this; omega
  have hB2 : B < w2.heap.size := by rw [hBE]; have := HB2.out.size; simp at this; omega
  have HA : Hid (Below H (w.alloc (.cells #[.int .i64 rk, .int .i64 ra, .int .i64 rb, .int .i64 rc] 61)) w2) := by
    rw [Hid, hHE]
    exact (HB.out.mono (by simp)).trans ((show Below w1.heap.size w1 w2 from (by repeat (first | exact Below.refl _ _ | with_reducible refine Below.trans ?_ (Below.mono HB2.out (by first | exact Nat.le_refl _ | (simp; done) | omega | (simp; omega) | (have z0 := Below.size HB2.out; omega) | (have z0 := Below.size HB2.out; simp at *; omega))) | with_reducible refine below_drewN ?_ _ | with_reducible refine Below.drew ?_ | with_reducible refine Below.alloc ?_ (by first | exact Nat.le_refl _ | (simp; done) | omega | (simp; omega) | (have z0 := Below.size HB2.out; omega) | (have z0 := Below.size HB2.out; simp at *; omega)) _ | with_reducible refine Below.setCell ?_ (by first | exact Nat.le_refl _ | (simp; done) | omega | (simp; omega) | (have z0 := Below.size HB2.out; omega) | (have z0 := Below.size HB2.out; simp at *; omega)) _))).mono (by have := HB.out.size; simp at this; omega))
  have HH : Hid (∀ i : Nat, w2.cell? ⟨H, i, none⟩ = (w.alloc (.cells #[.int .i64 rk, .int .i64 ra, .int .i64 rb, .int .i64 rc] 61)).cell? ⟨H, i, none⟩) := fun i => by
    have h1 : Below (H + 1) (w.alloc (.cells #[.int .i64 rk, .int .i64 ra, .int .i64 rb, .int .i64 rc] 61)) w2 := by
      have h2 := HB.out
      rw [World.size_alloc, ← hHE] at h2
      exact h2.trans ((show Below w1.heap.size w1 w2 from (by repeat (first | exact Below.refl _ _ | with_reducible refine Below.trans ?_ (Below.mono HB2.out (by first | exact Nat.le_refl _ | (simp; done) | omega | (simp; omega) | (have z0 := Below.size HB2.out; omega) | (have z0 := Below.size HB2.out; simp at *; omega))) | with_reducible refine below_drewN ?_ _ | with_reducible refine Below.drew ?_ | with_reducible refine Below.alloc ?_ (by first | exact Nat.le_refl _ | (simp; done) | omega | (simp; omega) | (have z0 := Below.size HB2.out; omega) | (have z0 := Below.size HB2.out; simp at *; omega)) _ | with_reducible refine Below.setCell ?_ (by first | exact Nat.le_refl _ | (simp; done) | omega | (simp; omega) | (have z0 := Below.size HB2.out; omega) | (have z0 := Below.size HB2.out; simp at *; omega)) _))).mono (by omega))
    exact h1.cell (p := ⟨H, i, none⟩) (Nat.lt_succ_self _)
  have r1 : w2.cell? ⟨H, 1, none⟩ = some (.int .i64 ra) := by rw [HH.out, hHE]; simp
  have r2 : w2.cell? ⟨H, 2, none⟩ = some (.int .i64 rb) := by rw [HH.out, hHE]; simp
  have r3 : w2.cell? ⟨H, 3, none⟩ = some (.int .i64 rc) := by rw [HH.out, hHE]; simp
  have x0 : w2.cell? ⟨B, 0, none⟩ = some (.slice a 300 cc) := by rw [hBE]; exact (HB2.out.cell (p := ⟨w1.heap.size, 0, none⟩) (by simp)).trans (by simp)
  have x1 : w2.cell? ⟨B, 1, none⟩ = some (.int .i64 (t : Int)) := by rw [hBE]; exact (HB2.out.cell (p := ⟨w1.heap.size, 1, none⟩) (by simp)).trans (by simp)
  have HV2 : Hid (OwnInts w2 (H + 1) (.slice a 300 cc) xs) := by
    have h1 := HV.out
    rw [World.size_alloc, ← hHE] at h1
    exact h1.below (by repeat (first | exact Below.refl _ _ | with_reducible refine Below.trans ?_ (Below.mono HB2.out (by first | exact Nat.le_refl _ | (simp; done) | omega | (simp; omega) | (have z0 := Below.size HB2.out; omega) | (have z0 := Below.size HB2.out; simp at *; omega))) | with_reducible refine below_drewN ?_ _ | with_reducible refine Below.drew ?_ | with_reducible refine Below.alloc ?_ (by first | exact Nat.le_refl _ | (simp; done) | omega | (simp; omega) | (have z0 := Below.size HB2.out; omega) | (have z0 := Below.size HB2.out; simp at *; omega)) _ | with_reducible refine Below.setCell ?_ (by first | exact Nat.le_refl _ | (simp; done) | omega | (simp; omega) | (have z0 := Below.size HB2.out; omega) | (have z0 := Below.size HB2.out; simp at *; omega)) _))
  have HNB : Hid (∀ j, (Value.slice a 300 cc).ownBlock = some j → j < B ∧ H < j) := fun j hj => by
    have h1 := HV.out.lt hj
    rw [hBE, hHE]
    simp at h1
    exact ⟨h1.2, h1.1⟩
  have HBW : Hid (Below w.heap.size w w2) := by
    have h1 : Below w.heap.size w (w.alloc (.cells #[.int .i64 rk, .int .i64 ra, .int .i64 rb, .int .i64 rc] 61)) := (Below.refl _ _).alloc (Nat.le_refl _) _
    rw [← hHE] at h1 ⊢
    exact h1.trans HA.out
  have HLI : Hid (Ints w2 (.slice la l.length lc) (intsOf l)) := HVL.out.ints
  rw [← hHE, ← hBE]
  have hHw : w.heap.size ≤ H := by rw [hHE]; exact Nat.le_refl _
  clear hHE hBE HA HH HB HB2 HV HVL
  have i2 := HIS.out.2.1
  have i3 := HIS.out.2.2.1
  rw [HXL.out] at i3
  have ill := places_len HIS.out.2.2.2.1 i2
  by_cases hl0 : l = []
  · subst hl0
    obtain rfl := top_none HIS.out
    go_wp2_with fail
    go_ret
    exact ⟨rfl, HBW.out⟩
  · have hll : 1 ≤ l.length := by
      cases l with
      | nil => exact absurd rfl hl0
      | cons _ _ => simp
    have hl1 : ((l.length : Int) == 0) = false := by simp; omega
    clear hl0
    obtain ⟨j1, hj1, hj1l⟩ := pick_nat ra (l.length : Int) (by omega)
    obtain ⟨n, hn, hn5⟩ := pick_nat rb 5 (by decide)
    obtain ⟨m, hm, hm1000⟩ := pick_nat rc 1000 (by decide)
    obtain ⟨lb, lo, rfl, hlb, hlc⟩ := HLI.out.at (by rw [intsOf_length]; omega)
    have e1 := hlc j1 (by rw [intsOf_length]; omega)
    obtain ⟨p, hp⟩ : ∃ p, p = l.getD j1 0 := ⟨_, rfl⟩
    have hpm : p ∈ l := by rw [hp, List.getD_eq_getElem?_getD, List.getElem?_eq_getElem (by omega)]; exact List.getElem_mem (by omega)
    rw [show (intsOf l).getD j1 0 = (p : Int) by rw [hp]; simp [intsOf, List.getD, show j1 < l.length by omega]] at e1
    have HJ1 := Lib.hid hj1; have HN := Lib.hid hn; have HM := Lib.hid hm; have HPM := Lib.hid hpm
    obtain ⟨o1, o2, o3, o4⟩ := places_obj HIS.out.2.2.2.1 p hpm
    have HO2 := Lib.hid o2
    obtain ⟨d, hd⟩ : ∃ d, d = nf xs p := ⟨_, rfl⟩
    rw [← hd] at o3 o4
    have HD := Lib.hid hd
    obtain ⟨g, rfl, hg1, hg2, hgc, hgz⟩ := HV2.out.spot (by rw [HXL.out]; omega)
    have HGC := Lib.hid hgc; have HGZ := Lib.hid hgz
    clear hj1 hn hm hp hpm o2 hlc hgc hgz hd
    have HKEEP : Hid (∀ W, Below w2.heap.size w2 W → W.cell? ⟨B, 0, none⟩ = some (.slice (some ⟨g, 0, none⟩) 300 cc) ∧ W.cell? ⟨B, 1, none⟩ = some (.int .i64 (t : Int)) ∧ (∀ j, j < 300 → W.cell? ⟨g, j, none⟩ = some (.int .i64 (xs.getD j 0))) ∧ W.frozen? ⟨g, p + 2 + n, none⟩ = false) := fun W hW =>
      ⟨(hW.cell (p := ⟨B, 0, none⟩) hB2).trans x0, (hW.cell (p := ⟨B, 1, none⟩) hB2).trans x1, fun j hj => (hW.cell (p := ⟨g, j, none⟩) hg2).trans (HGC.out j (by rw [HXL.out]; exact hj)), (hW.frozen (p := ⟨g, p + 2 + n, none⟩) hg2).trans (HGZ.out _)⟩
    by_cases hnd : n < d
    · obtain ⟨y, hy⟩ : ∃ y, y = (m : Int) - 500 := ⟨_, rfl⟩
      obtain ⟨X2, hX2⟩ : ∃ X2, X2 = xs.set (p + 2 + n) (2 * y) := ⟨_, rfl⟩
      have HX2L : Hid (X2.length = 300) := by rw [Hid, hX2, List.length_set]; exact HXL.out
      have HI2 : Hid (HeapIs X2 t l) := by
        rw [Hid, hX2]
        exact HIS.out.setField HPM.out (by rw [← HD.out]; exact hnd) ⟨fun _ => by omega, fun h => by omega⟩
      have hg0 : X2.getD (p + 2 + n) 0 = 2 * y := by rw [hX2]; exact getD_set_eq (by rw [HXL.out]; omega)
      have hnf2 : nf X2 p = d := by rw [HD.out]; unfold nf; rw [hX2, getD_set_ne (by omega)]
      have HLR : Hid (LoadRes X2 (t : Int) (p : Int) (n : Int) 0 y 0) := .inr ⟨t, l, rfl, HI2.out, .inl ⟨p, n, ⟨HPM.out, rfl, rfl, by rw [hnf2]; exact hnd⟩, by rw [hg0]; unfold ofK; omega, by rw [hg0]; unfold ofN; omega, rfl⟩⟩
      have hyr : -500 ≤ y ∧ y < 500 := by omega
      obtain ⟨hyr1, hyr2⟩ := hyr
      have HY := Lib.hid hy; have HX2 := Lib.hid hX2
      have HVI : Hid (I64 (2 * y)) := by unfold Hid I64; omega
      clear hg0 hnf2 hX2 hy
      go_upto_region 9 with (first
        | (go_at_call 15; refine (picked_any _ _ _ (by omega) (by omega) (by omega) (by omega)).mono ?_; rintro e w' ⟨rfl, rfl⟩; first | rw [HJ1.out] | rw [HN.out] | rw [HM.out])
        | (go_at_call 21; refine (store_any _ xs _ _ _ _ _ _ (HV2.out.ints.below (Nat.le_refl _) (by repeat (first | exact Below.refl _ _ | with_reducible refine below_drewN ?_ _ | with_reducible refine Below.drew ?_ | with_reducible refine Below.alloc ?_ (by first | exact Nat.le_refl _ | (simp; done) | omega | (simp; omega)) _ | with_reducible refine Below.setCell ?_ (by first | exact Nat.le_refl _ | (simp; done) | omega | (simp; omega)) _)))).mono ?_; intro e w5 hret; obtain ⟨hb5, ⟨hlt, _⟩ | ⟨_, a5, c5, rfl, hv5⟩⟩ := hret.num HIS.out HPM.out (by omega) (by omega); (exact absurd (by rw [← HD.out]; exact hnd) hlt); clear hret; rw [HXL.out] at hv5; rw [HXL.out]; rw [← HY.out, ← HX2.out] at hv5; have HB5 := Lib.hid hb5; have HV5 := Lib.hid hv5; clear hb5 hv5))
      obtain ⟨V, hV⟩ : ∃ V, V = w2.heap.size := ⟨_, rfl⟩
      obtain ⟨N, hN⟩ : ∃ N, N = w5.heap.size := ⟨_, rfl⟩
      have hVN : V < N := by rw [hV, hN]; have := HB5.out.size; simp at this; omega
      have v0 : w5.cell? ⟨V, 0, none⟩ = some (.int .i64 0) := by rw [hV]; exact (HB5.out.cell (p := ⟨w2.heap.size, 0, none⟩) (by simp)).trans (by simp)
      have v1 : w5.cell? ⟨V, 1, none⟩ = some (.int .i64 y) := by rw [hV, HY.out]; exact (HB5.out.cell (p := ⟨w2.heap.size, 1, none⟩) (by simp)).trans (by simp)
      obtain ⟨w6, hw6⟩ : ∃ w6, w6 = w5.alloc (.cells #[.slice a5 300 c5, .int .i64 (t : Int)] 25) := ⟨_, rfl⟩
      have HB6 : Hid (Below w2.heap.size w2 w6) := by rw [Hid, hw6]; exact (by repeat (first | exact Below.refl _ _ | with_reducible refine Below.trans ?_ (Below.mono HB5.out (by first | exact Nat.le_refl _ | (simp; done) | omega | (simp; omega) | (have z0 := Below.size HB5.out; omega) | (have z0 := Below.size HB5.out; simp at *; omega))) | with_reducible refine below_drewN ?_ _ | with_reducible refine Below.drew ?_ | with_reducible refine Below.alloc ?_ (by first | exact Nat.le_refl _ | (simp; done) | omega | (simp; omega) | (have z0 := Below.size HB5.out; omega) | (have z0 := Below.size HB5.out; simp at *; omega)) _ | with_reducible refine Below.setCell ?_ (by first | exact Nat.le_refl _ | (simp; done) | omega | (simp; omega) | (have z0 := Below.size HB5.out; omega) | (have z0 := Below.size HB5.out; simp at *; omega)) _))
      have hA5 : Below w5.heap.size w5 w6 := by rw [hw6]; exact (Below.refl _ _).alloc (Nat.le_refl _) _
      have n0 : w6.cell? ⟨N, 0, none⟩ = some (.slice a5 300 c5) := by rw [hw6, hN]; simp
      have n1 : w6.cell? ⟨N, 1, none⟩ = some (.int .i64 (t : Int)) := by rw [hw6, hN]; simp
      have v0 := (hA5.cell (p := ⟨V, 0, none⟩) (by show V < w5.heap.size; omega)).trans v0
      have v1 := (hA5.cell (p := ⟨V, 1, none⟩) (by show V < w5.heap.size; omega)).trans v1
      have HV6 : Hid (OwnInts w6 (V + 1) (.slice a5 300 c5) X2) := by
        have h1 := HV5.out
        have h2 : OwnInts w5 (V + 1) (.slice a5 300 c5) X2 := h1.mono (by rw [hV]; simp)
        exact h2.below hA5
      have hN6 : N < w6.heap.size := World.block_lt_of_cell? w6 _ n0
      have hVg : g < V := by rw [hV]; exact hg2
      have hBV : B < V := by rw [hV]; exact hB2
      rw [← hV, ← hN, ← HY.out, ← hw6]
      have HVV := Lib.hid hV
      clear hw6 HB5 HV5 hA5 hV hN
      obtain ⟨y0, y1, yc, yz⟩ := HKEEP.out w6 HB6.out
      have yn := yc (p + 1) (by omega)
      rw [HO2.out, ← HD.out] at yn
      have HYC := Lib.hid yc
      clear yc
      go_upto_region 12 with (go_at_call 34; refine (load_any _ X2 _ _ _ _ (HV6.out.ints.below (Nat.le_refl _) (by repeat (first | exact Below.refl _ _ | with_reducible refine below_drewN ?_ _ | with_reducible refine Below.drew ?_ | with_reducible refine Below.alloc ?_ (by first | exact Nat.le_refl _ | (simp; done) | omega | (simp; omega)) _ | with_reducible refine Below.setCell ?_ (by first | exact Nat.le_refl _ | (simp; done) | omega | (simp; omega)) _)))).mono ?_; intro e w7 hr; obtain ⟨hb7, k7, v7, r7, hr7, rfl⟩ := hr.res; clear hr; obtain ⟨e1', e2', e3'⟩ := hr7.uniq HLR.out; rw [e1', e2', e3']; clear hr7 e1' e2' e3'; unfold valE; have HB7 := Lib.hid hb7; clear hb7)
      obtain ⟨Q, hQ⟩ : ∃ Q, Q = w7.heap.size := ⟨_, rfl⟩
      obtain ⟨w8, hw8⟩ : ∃ w8, w8 = w7.alloc (.cells #[.int .i64 0, .int .i64 y] 36) := ⟨_, rfl⟩
      have HB8 : Hid (Below w6.heap.size w6 w8) := by rw [Hid, hw8]; exact (by repeat (first | exact Below.refl _ _ | with_reducible refine Below.trans ?_ (Below.mono HB7.out (by first | exact Nat.le_refl _ | (simp; done) | omega | (simp; omega) | (have z0 := Below.size HB7.out; omega) | (have z0 := Below.size HB7.out; simp at *; omega))) | with_reducible refine below_drewN ?_ _ | with_reducible refine Below.drew ?_ | with_reducible refine Below.alloc ?_ (by first | exact Nat.le_refl _ | (simp; done) | omega | (simp; omega) | (have z0 := Below.size HB7.out; omega) | (have z0 := Below.size HB7.out; simp at *; omega)) _ | with_reducible refine Below.setCell ?_ (by first | exact Nat.le_refl _ | (simp; done) | omega | (simp; omega) | (have z0 := Below.size HB7.out; omega) | (have z0 := Below.size HB7.out; simp at *; omega)) _))
      have q0 : w8.cell? ⟨Q, 0, none⟩ = some (.int .i64 0) := by rw [hw8, hQ]; simp
      have q1 : w8.cell? ⟨Q, 1, none⟩ = some (.int .i64 y) := by rw [hw8, hQ]; simp
      have hQN : w6.heap.size ≤ Q := by rw [hQ]; exact HB7.out.size
      rw [← hQ, ← hw8]
      clear hQ hw8 HB7
      have HB28 : Hid (Below w2.heap.size w2 w8) := HB6.out.trans (HB8.out.mono HB6.out.size)
      have hE : Below w6.heap.size w6 w8 := HB8.out
      have s0 := (hE.cell (p := ⟨V, 0, none⟩) (by show V < w6.heap.size; omega)).trans ((show w6.cell? ⟨V, 0, none⟩ = some (.int .i64 0) from v0))
      have s1 := (hE.cell (p := ⟨V, 1, none⟩) (by show V < w6.heap.size; omega)).trans v1
      have t0 := (hE.cell (p := ⟨N, 0, none⟩) hN6).trans n0
      have t1 := (hE.cell (p := ⟨N, 1, none⟩) hN6).trans n1
      have HV8 := Lib.hid (HV6.out.below hE)
      clear hE v0 v1 n0 n1 y0 y1 yz yn
      obtain ⟨w9, hw9⟩ : ∃ w9, w9 = w8.drew := ⟨_, rfl⟩
      have HB9 : Hid (Below w2.heap.size w2 w9) := by rw [Hid, hw9]; exact HB28.out.drew
      have HV9 : Hid (OwnInts w9 (V + 1) (.slice a5 300 c5) X2) := by rw [Hid, hw9]; exact HV8.out.below (Below.refl _ _).drew
      obtain ⟨y0, y1, yc, yz⟩ := HKEEP.out w9 HB9.out
      have yo := yc (p + 2 + n) (by omega)
      generalize xs.getD (p + 2 + n) 0 = old at yo
      obtain ⟨g5, rfl, hg51, hg52, hgc5, _⟩ := HV9.out.spot (by rw [HX2L.out]; omega)
      have g5c := hgc5 (p + 2 + n) (by rw [HX2L.out]; omega)
      rw [show X2.getD (p + 2 + n) 0 = 2 * y by rw [HX2.out]; exact getD_set_eq (by rw [HXL.out]; omega)] at g5c
      have u0 : w9.cell? ⟨N, 0, none⟩ = some (.slice (some ⟨g5, 0, none⟩) 300 c5) := by rw [hw9]; exact t0
      have u1 : w9.cell? ⟨N, 1, none⟩ = some (.int .i64 (t : Int)) := by rw [hw9]; exact t1
      have us0 : w9.cell? ⟨V, 0, none⟩ = some (.int .i64 0) := by rw [hw9]; exact s0
      have us1 : w9.cell? ⟨V, 1, none⟩ = some (.int .i64 y) := by rw [hw9]; exact s1
      have uq0 : w9.cell? ⟨Q, 0, none⟩ = some (.int .i64 0) := by rw [hw9]; exact q0
      have uq1 : w9.cell? ⟨Q, 1, none⟩ = some (.int .i64 y) := by rw [hw9]; exact q1
      clear yc hgc5 s0 s1 t0 t1 q0 q1
      have ep1 : IntKind.i64.wrap ((p : Int) + 2) = (p : Int) + 2 := IntWalk.i64_in _ (by omega)
      have ep2 : IntKind.i64.wrap ((p : Int) + 2 + (n : Int)) = (p : Int) + 2 + (n : Int) := IntWalk.i64_in _ (by omega)
      have eb1 : (0 : Int) ≤ (p : Int) + 2 + (n : Int) := by omega
      have eb2 : (p : Int) + 2 + (n : Int) < 300 := by omega
      have eb3 : ((p : Int) + 2 + (n : Int)).toNat = p + 2 + n := by omega
      refine still_tail_at 15 (by kernel_rfl) (by kernel_rfl) hw9 ?_
      simp only [List.take_succ_cons, List.take_zero, List.drop_succ_cons, List.drop_zero]
      clear hw9
      repeat still_step
      refine wpStill_nil ?_
      go_upto_region 13 with (fail)
      obtain ⟨w10, hw10⟩ : ∃ w10, w10 = w9.setCell ⟨g, p + 2 + n, none⟩ (.int .i64 (2 * y)) := ⟨_, rfl⟩
      have hgB := (HNB.out g rfl).1
      have HO : ∀ b o : Nat, b ≠ g → w10.cell? ⟨b, o, none⟩ = w9.cell? ⟨b, o, none⟩ := fun b o hb => by rw [hw10]; exact World.cell?_setCell_other _ _ _ _ (by simp only [ne_eq, Addr.mk.injEq]; omega)
      have z0 := (HO B 0 (by omega)).trans y0
      have z1 := (HO B 1 (by omega)).trans y1
      have zu0 := (HO N 0 (by omega)).trans u0
      have zu1 := (HO N 1 (by omega)).trans u1
      have zs0 := (HO V 0 (by omega)).trans us0
      have zs1 := (HO V 1 (by omega)).trans us1
      have zq0 := (HO Q 0 (by omega)).trans uq0
      have zq1 := (HO Q 1 (by omega)).trans uq1
      have HXA : Hid (Ints w10 (.slice (some ⟨g, 0, none⟩) 300 cc) X2) := by
        have h1 := (HV2.out.below HB9.out).set (i := p + 2 + n) (by rw [HXL.out]; omega) HVI.out
        rw [← HX2.out, ← hw10] at h1
        exact h1.ints
      have HXB : Hid (Ints w10 (.slice (some ⟨g5, 0, none⟩) 300 c5) X2) := by
        rw [Hid, hw10]
        exact (HV9.out.setBelow (a := ⟨g, p + 2 + n, none⟩) (by show g < V + 1; omega) _).ints
      have HBZ : Hid (Below w.heap.size w w10) := by
        rw [Hid, hw10]
        exact (HBW.out.trans (HB9.out.mono HBW.out.size)).setCell (by show w.heap.size ≤ g; omega) _
      have hN10 : N < w10.heap.size := World.block_lt_of_cell? w10 _ zu0
      have HNW : Hid (∀ W, Below w10.heap.size w10 W → W.cell? ⟨N, 0, none⟩ = some (.slice (some ⟨g5, 0, none⟩) 300 c5) ∧ W.cell? ⟨N, 1, none⟩ = some (.int .i64 (t : Int))) := fun W hW => ⟨(hW.cell (p := ⟨N, 0, none⟩) hN10).trans zu0, (hW.cell (p := ⟨N, 1, none⟩) hN10).trans zu1⟩
      rw [← hw10]
      clear hw10 HO y0 y1 yz yo u0 u1 us0 us1 uq0 uq1 g5c
      go_wp2_with (first
        | (go_at_call 35; refine (equalInts_same _ _ X2 _ HXA.out HXB.out).mono ?_; rintro e w11 ⟨rfl, hb11⟩; obtain ⟨f0, f1⟩ := HNW.out w11 hb11)
        | (go_at_call 19; refine (check_any _ X2 _ _ (HXB.out.below (Nat.le_refl _) hb11)).mono ?_; rintro e w12 ⟨hb12, ⟨_, rfl⟩ | ⟨hno, _⟩⟩; rotate_left; (exact absurd ⟨t, l, rfl, HI2.out⟩ hno)))
      go_ret
      exact ⟨ret_bool (by simp), HBZ.out.trans ((hb11.trans (hb12.mono hb11.size)).mono HBZ.out.size)⟩
    · go_upto_region 9 with (first
        | (go_at_call 15; refine (picked_any _ _ _ (by omega) (by omega) (by omega) (by omega)).mono ?_; rintro e w' ⟨rfl, rfl⟩; first | rw [HJ1.out] | rw [HN.out] | rw [HM.out])
        | (go_at_call 21; refine (store_any _ xs _ _ _ _ _ _ (HV2.out.ints.below (Nat.le_refl _) (by repeat (first | exact Below.refl _ _ | with_reducible refine below_drewN ?_ _ | with_reducible refine Below.drew ?_ | with_reducible refine Below.alloc ?_ (by first | exact Nat.le_refl _ | (simp; done) | omega | (simp; omega)) _ | with_reducible refine Below.setCell ?_ (by first | exact Nat.le_refl _ | (simp; done) | omega | (simp; omega)) _)))).mono ?_; intro e w5 hret; obtain ⟨hb5, ⟨_, rfl⟩ | ⟨hlt, _⟩⟩ := hret.num HIS.out HPM.out (by omega) (by omega); rotate_left; (exact absurd (by rw [← HD.out] at hlt; exact hlt) hnd); clear hret; have HB5 := Lib.hid hb5; clear hb5))
      obtain ⟨w6, hw6⟩ : ∃ w6, w6 = w5.alloc (.cells #[.slice none 0 0, .int .i64 0] 25) := ⟨_, rfl⟩
      have HB6 : Hid (Below w2.heap.size w2 w6) := by rw [Hid, hw6]; exact (by repeat (first | exact Below.refl _ _ | with_reducible refine Below.trans ?_ (Below.mono HB5.out (by first | exact Nat.le_refl _ | (simp; done) | omega | (simp; omega) | (have z0 := Below.size HB5.out; omega) | (have z0 := Below.size HB5.out; simp at *; omega))) | with_reducible refine below_drewN ?_ _ | with_reducible refine Below.drew ?_ | with_reducible refine Below.alloc ?_ (by first | exact Nat.le_refl _ | (simp; done) | omega | (simp; omega) | (have z0 := Below.size HB5.out; omega) | (have z0 := Below.size HB5.out; simp at *; omega)) _ | with_reducible refine Below.setCell ?_ (by first | exact Nat.le_refl _ | (simp; done) | omega | (simp; omega) | (have z0 := Below.size HB5.out; omega) | (have z0 := Below.size HB5.out; simp at *; omega)) _))
      rw [← hw6]
      clear hw6 HB5
      obtain ⟨y0, y1, yc, _⟩ := HKEEP.out w6 HB6.out
      have yn := yc (p + 1) (by omega)
      rw [HO2.out, ← HD.out] at yn
      clear yc
      go_wp2_with fail
      go_ret
      exact ⟨rfl, HBW.out.trans (HB6.out.mono HBW.out.size)⟩
end Go.Proofs.Ytbeilcaadpopmab
