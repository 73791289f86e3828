/- Walk: the reference's ReachedOf. -/
import Derived.Test.YtbeilcaadpopmabGr
import Derived.Test.YtbeilcaadpopmabWn
import Derived.Test.YtbeilcaadpopmabWt
import Derived.Test.YtbeilcaadpopmabWi
import Derived.Deep.RegionHeld3
import Derived.Deep.DeepMust
set_option linter.unusedVariables false
set_option linter.unusedSimpArgs false
namespace Go.Proofs.Ytbeilcaadpopmab
open Go.RowKit

def RetReachOf (w : World) (xs : List Int) (top : Int) (roots : List Int) (e : Ending) (w' : World) : Prop :=
  Below w.heap.size w w' ∧ ((¬ HeapOk xs top ∧ e = .returned (.tuple #[.slice none 0 0, .int .i64 5])) ∨
    ∃ (t : Nat) (l : List Nat), top = (t : Int) ∧ HeapIs xs t l ∧ ((¬ RootsOk l roots ∧ e = .returned (.tuple #[.slice none 0 0, .int .i64 4])) ∨
      (RootsOk l roots ∧ ∃ v, e = .returned (.tuple #[v, .int .i64 0]) ∧ OwnInts w' w.heap.size v ((intsOf l).filter fun x => decide (x ∈ roundsR xs l l.length roots)))))

/-- What has been seen: the roots, and places besides. -/
def SeenFrom (roots : List Int) (l : List Nat) (seen : List Int) : Prop := ∃ n, seen = roots ++ n ∧ n.Nodup ∧ ∀ x ∈ n, x ∈ 0 :: intsOf l
theorem SeenFrom.start (roots : List Int) (l : List Nat) : SeenFrom roots l roots := ⟨[], by simp, by simp, by simp⟩
theorem SeenFrom.len {roots : List Int} {l : List Nat} {seen : List Int} (h : SeenFrom roots l seen) : seen.length ≤ roots.length + l.length + 1 := by
  obtain ⟨n, rfl, h1, h2⟩ := h
  have := nodup_len h1 h2
  simp [intsOf_length] at this ⊢
  omega
theorem SeenFrom.add {roots : List Int} {l : List Nat} {seen : List Int} (h : SeenFrom roots l seen) {x : Int} (hx : x ∉ seen) (hl : x ≠ 0 → ∃ q ∈ l, x = (q : Int)) : SeenFrom roots l (seen ++ [x]) := by
  obtain ⟨n, rfl, h1, h2⟩ := h
  refine ⟨n ++ [x], by simp, ?_, fun y hy => ?_⟩
  · rw [List.nodup_append]
    exact ⟨h1, by simp, fun a ha b hb e => by simp at hb; subst hb; subst e; exact hx (by simp [ha])⟩
  · rcases List.mem_append.1 hy with hy | hy
    · exact h2 y hy
    · simp at hy
      subst hy
      by_cases h0 : y = 0
      · simp [h0]
      · obtain ⟨q, hq, rfl⟩ := hl h0
        exact List.mem_cons_of_mem _ (List.mem_map.2 ⟨q, hq, rfl⟩)

/-- The loops' words: what is held of the slice of those seen, and what its rest comes to. -/
def SeenInv (w1 : World) (roots : List Int) (l : List Nat) (F : List Int → List Int) (T : List Int) (sv : Value) (wr : World) : Prop :=
  ∃ seen, OwnInts wr w1.heap.size sv seen ∧ F seen = T ∧ SeenFrom roots l seen ∧ Below w1.heap.size w1 wr

set_option maxRecDepth 100000 in
set_option maxHeartbeats 1000000 in
theorem reachedOf_ok (v rv : Value) (xs roots : List Int) (t : Nat) (l : List Nat) (w : World) (h : Ints w v xs) (hr : Ints w rv roots) (hrb : roots.length ≤ 17592186043904) (his : HeapIs xs t l) :
    Calls Try.prog 31 #[.agg #[v, .int .i64 t], rv] w (RetReachOf w xs t roots) := by
  obtain ⟨a, c, rfl, hc, hcm, _⟩ := h.len
  obtain ⟨ra, rc, rfl, hrc, hrcm, _⟩ := hr.len
  have HF : Hid (∀ w2, Below w.heap.size w w2 → Ints w2 (.slice a xs.length c) xs) := fun w2 hb2 => h.below (Nat.le_refl _) hb2
  have HR : Hid (∀ w2, Below w.heap.size w w2 → Ints w2 (.slice ra roots.length rc) roots) := fun w2 hb2 => hr.below (Nat.le_refl _) hb2
  have HI := Lib.hid his
  have i1 := his.1
  have i3 := his.2.2.1
  have ill := places_len his.2.2.2.1 his.2.1
  have HRB : Hid (∀ i, I64 (roots.getD i 0)) := fun i => hr.range i
  clear h hr his
  go_enter Try.func31, Try.ntmps31
  go_wp2_with (go_at_call 59; refine (PlacesOf_any _ xs _ _ (HF.out _ (by repeat (first | exact Below.refl _ _ | with_reducible refine below_drewN ?_ _ | with_reducible refine Below.drew ?_ | with_reducible refine Below.alloc ?_ (by first | exact Nat.le_refl _ | (simp; done) | omega | (simp; omega)) _ | with_reducible refine Below.setCell ?_ (by first | exact Nat.le_refl _ | (simp; done) | omega | (simp; omega)) _)))).mono ?_; rintro e w1 ⟨hb, ⟨t', l', la, lc, ht, hi, rfl, hv⟩ | ⟨hno, rfl⟩⟩; rotate_left; (exact absurd ⟨t, l, rfl, HI.out⟩ hno); obtain rfl := Int.ofNat_inj.1 ht; obtain rfl := HI.out.uniq hi; clear ht hi; have zc1 := Nat.lt_of_lt_of_le (show w.heap.size < _ from (by first | (simp; done) | omega | (simp; omega))) (Below.size hb); have fc1_0 := Below.cell hb (p := ⟨w.heap.size, 0, none⟩) (by first | (simp; done) | omega | (simp; omega)); have gc1_0 := Below.frozen hb (p := ⟨w.heap.size, 0, none⟩) (by first | (simp; done) | omega | (simp; omega)); have fc1_1 := Below.cell hb (p := ⟨w.heap.size, 1, none⟩) (by first | (simp; done) | omega | (simp; omega)); have gc1_1 := Below.frozen hb (p := ⟨w.heap.size, 1, none⟩) (by first | (simp; done) | omega | (simp; omega)); (try simp at fc1_0 gc1_0 fc1_1 gc1_1); have HB := Lib.hid hb; have HV := Lib.hid hv; clear hb hv)
  have HB1 : Hid (Below w.heap.size w w1) := by show Below _ _ _; exact (by repeat (first | exact Below.refl _ _ | with_reducible refine Below.trans ?_ (Below.mono HB.out (by first | exact Nat.le_refl _ | (simp; done) | omega | (simp; omega) | (have z0 := Below.size HB.out; omega) | (have z0 := Below.size HB.out; simp at *; omega))) | with_reducible refine below_drewN ?_ _ | with_reducible refine Below.drew ?_ | with_reducible refine Below.alloc ?_ (by first | exact Nat.le_refl _ | (simp; done) | omega | (simp; omega) | (have z0 := Below.size HB.out; omega) | (have z0 := Below.size HB.out; simp at *; omega)) _ | with_reducible refine Below.setCell ?_ (by first | exact Nat.le_refl _ | (simp; done) | omega | (simp; omega) | (have z0 := Below.size HB.out; omega) | (have z0 := Below.size HB.out; simp at *; omega)) _))
  have HV1 : Hid (OwnInts w1 (w.heap.size + 1) (.slice la l.length lc) (intsOf l)) := by
    have := HV.out
    rw [World.size_alloc] at this
    exact this
  clear HB HV
  go_loopw [8] (fun u wr => ∃ k : Nat, u = .int .i64 k ∧ k ≤ roots.length ∧ RootsOk l (roots.take k) ∧ w1 = wr) (fun u _ => roots.length - (intOf u).toNat)
  case atStart => exact ⟨0, rfl, Nat.zero_le _, by intro p hp; simp at hp, rfl⟩
  case round =>
    obtain ⟨k, rfl, hk, hro, rfl⟩ := hrel
    have HRO := Lib.hid hro; clear hro
    by_cases hlt : k < roots.length
    · obtain ⟨b, o, rfl, hb, hcell⟩ := (HR.out w1 HB1.out).at (by omega)
      have hck := hcell k hlt
      obtain ⟨p, hp⟩ : ∃ p, p = roots.getD k 0 := ⟨_, rfl⟩
      rw [← hp] at hck
      have HP : Hid (roots.take (k + 1) = roots.take k ++ [p]) := by rw [Hid, take_one hlt, hp]
      have HPM : Hid (p ∈ roots) := by rw [Hid, hp, List.getD_eq_getElem?_getD, List.getElem?_eq_getElem hlt]; exact List.getElem_mem hlt
      clear hcell hp
      have HSE : Hid (Ints w1 (.slice la l.length lc) (intsOf l)) := HV1.out.ints
      by_cases hp0 : p = 0
      · subst hp0
        go_wp2
        go_roundw
        case rel =>
          refine ⟨k + 1, by go_num, by omega, ?_, trivial⟩
          rw [HP.out]
          intro q hq h0
          rcases List.mem_append.1 hq with hq | hq
          · exact HRO.out q hq h0
          · simp at hq; exact absurd hq h0
        case measure => simp [intOf]; omega
      · have hp1 : (p != 0) = true := by simpa using hp0
        have HP0 := Lib.hid hp0
        clear hp0
        cases hq : hasB (intsOf l) p with
        | true =>
          have HQ : Hid (∃ q ∈ l, p = (q : Int)) := hasB_places.1 hq
          have HQ2 := Lib.hid hq
          clear hq
          go_wp2_with (go_at_call 57; refine (has_any _ (intsOf l) _ _ HSE.out).mono ?_; rintro e w5 ⟨rfl, rfl⟩; rw [HQ2.out])
          go_roundw
          case rel =>
            refine ⟨k + 1, by go_num, by omega, ?_, trivial⟩
            rw [HP.out]
            intro q hq h0
            rcases List.mem_append.1 hq with hq | hq
            · exact HRO.out q hq h0
            · simp at hq; subst hq; exact HQ.out
          case measure => simp [intOf]; omega
        | false =>
          have HQ : Hid (¬ ∃ q ∈ l, p = (q : Int)) := fun h => by rw [hasB_places.2 h] at hq; cases hq
          have HQ2 := Lib.hid hq
          have HE : Hid (RetReachOf w xs t roots (.returned (.tuple #[.slice none 0 0, .int .i64 4])) w1) :=
            ⟨HB1.out, .inr ⟨t, l, rfl, HI.out, .inl ⟨fun h => HQ.out (h p HPM.out HP0.out), rfl⟩⟩⟩
          clear hq
          go_wp2_with (go_at_call 57; refine (has_any _ (intsOf l) _ _ HSE.out).mono ?_; rintro e w5 ⟨rfl, rfl⟩; rw [HQ2.out])
          go_ret2
          exact HE.out
    · obtain rfl : k = roots.length := by omega
      have HRO2 : Hid (RootsOk l roots) := by have := HRO.out; rwa [List.take_length] at this
      have HRI := Lib.hid (HR.out w1 HB1.out)
      go_wp2_with (at_builtin; refine wpl_append_ints rfl _ _ rfl w1.heap.size (.slice none 0 0) [] rfl ⟨⟨by simp, by simp⟩, World.ownsRow_nil _ _ _ _⟩ _ roots rfl HRI.out (by simp; omega) (Nat.le_refl _) ?_; intro v2 w2 hv2 hg2 hm2; rw [List.nil_append] at hv2 hm2; obtain ⟨a2, c2, hvv⟩ := hv2.shape; subst hvv; have HV2 := Lib.hid hv2; have HG2 := Lib.hid hg2; clear hv2 hg2 hm2)
      have HB2 : Hid (Below w1.heap.size w1 w2) := (Below.refl w1.heap.size w1).grown HG2.out (Nat.le_refl _) (fun j hj => by simp [Value.ownBlock] at hj)
      go_loopw [9, 10] (fun sv u wr => ∃ r : Nat, u = .int .i64 r ∧ r ≤ l.length ∧ SeenInv w1 roots l (fun s => roundsR xs l (l.length - r) s) (roundsR xs l l.length roots) sv wr) (fun _ u _ => l.length - (intOf u).toNat)
      case atStart => exact ⟨0, rfl, Nat.zero_le _, roots, HV2.out, rfl, .start _ _, HB2.out⟩
      case round =>
        obtain ⟨r, rfl, hr, seen, hv, hF, hS, hB⟩ := hrel
        obtain ⟨wo, rfl⟩ : ∃ wo : World, wo = wr := ⟨_, rfl⟩
        have HVo := Lib.hid hv; have HFo := Lib.hid hF; have HSo := Lib.hid hS; have HBo := Lib.hid hB
        clear hv hF hS hB
        by_cases hrl : r < l.length
        · go_wp2
          go_loopw [9, 11] (fun sv u wr => ∃ i : Nat, u = .int .i64 i ∧ i ≤ l.length ∧ SeenInv w1 roots l (fun s => (l.drop i).foldl (objR xs) s) (roundR xs l seen) sv wr) (fun _ u _ => l.length - (intOf u).toNat)
          case atStart => exact ⟨0, rfl, Nat.zero_le _, seen, HVo.out, rfl, HSo.out, HBo.out⟩
          case round =>
            obtain ⟨i, rfl, hi, seen1, hv, hF, hS, hB⟩ := hrel
            obtain ⟨wm, rfl⟩ : ∃ wm : World, wm = wr := ⟨_, rfl⟩
            have HVm := Lib.hid hv; have HFm := Lib.hid hF; have HSm := Lib.hid hS; have HBm := Lib.hid hB
            clear hv hF hS hB
            by_cases hil : i < l.length
            · obtain ⟨p, hp⟩ : ∃ p, p = l.getD i 0 := ⟨_, rfl⟩
              have hmem : p ∈ l := by rw [hp]; simp [List.getD, hil]
              have HDROP : Hid (l.drop i = p :: l.drop (i + 1)) := by
                rw [Hid, List.drop_eq_getElem_cons hil, hp]
                simp [List.getD, hil]
              obtain ⟨ho1, ho2, ho3, ho4⟩ := places_obj HI.out.2.2.2.1 p hmem
              obtain ⟨d, hd⟩ : ∃ d, d = nf xs p := ⟨_, rfl⟩
              rw [← hd] at ho2 ho3 ho4
              obtain ⟨lb, lo, rfl, hlb, hlc⟩ := Ints.at HV1.out.ints (by rw [intsOf_length]; omega)
              have hl0 := hlc i (by rw [intsOf_length]; omega)
              rw [show (intsOf l).getD i 0 = (p : Int) by rw [hp]; simp [intsOf, List.getD, hil]] at hl0
              obtain ⟨b, bo, rfl, hbs, hcell⟩ := (HF.out w1 HB1.out).at (by omega)
              have hcn := hcell (p + 1) (by omega)
              rw [ho2] at hcn
              have HCELL := Lib.hid hcell
              have HFL : Hid (fieldsOf xs p = (xs.drop (p + 2)).take d) := by rw [Hid, fieldsOf, hd]
              have HP := Lib.hid hp; have HD := Lib.hid hd; have HMEM := Lib.hid hmem
              have HL0 := Lib.hid hl0; have HCN := Lib.hid hcn; have HC0 := Lib.hid fc1_0; have HC1 := Lib.hid fc1_1
              clear hp hd hmem hlc hcell ho2 hl0 hcn fc1_0 fc1_1 gc1_0 gc1_1
              by_cases hps : (p : Int) ∈ seen1
              · have HOBJ : Hid (objR xs seen1 p = (fieldsOf xs p).foldl seeR seen1) := by rw [Hid, objR, if_pos hps]
                have HPS := Lib.hid hps
                clear hps
                go_wp2
                go_loopw [9, 12] (fun sv u wr => ∃ (n : Nat) (seen2 : List Int), u = .int .i64 n ∧ n ≤ d ∧ (p : Int) ∈ seen2 ∧ OwnInts wr w1.heap.size sv seen2 ∧ ((fieldsOf xs p).drop n).foldl seeR seen2 = objR xs seen1 p ∧ SeenFrom roots l seen2 ∧ Below w1.heap.size w1 wr) (fun _ u _ => d - (intOf u).toNat)
                case atStart => exact ⟨0, seen1, rfl, Nat.zero_le _, HPS.out, HVm.out, by rw [HOBJ.out]; rfl, HSm.out, HBm.out⟩
                case round =>
                  obtain ⟨n, seen2, rfl, hn, hps2, hv, hF, hS, hB⟩ := hrel
                  have c1 := (hB.cell (p := ⟨lb, lo + i, none⟩) hlb).trans HL0.out
                  have c2 := (hB.cell (p := ⟨b, bo + (p + 1), none⟩) hbs).trans HCN.out
                  have c3 := (hB.cell (p := ⟨w.heap.size, 0, none⟩) zc1).trans HC0.out
                  have c4 := (hB.cell (p := ⟨w.heap.size, 1, none⟩) zc1).trans HC1.out
                  have HV := Lib.hid hv; have HF2 := Lib.hid hF; have HS := Lib.hid hS; have HB := Lib.hid hB
                  have HHAS : Hid (∀ k, Calls Try.prog 57 #[u9, .int .i64 (p : Int)] (wr.drewN k) fun e w' => e = .returned (.bool true) ∧ wr.drewN k = w') := fun k => by
                    have := has_any u9 seen2 (p : Int) (wr.drewN k) (hv.ints)
                    rw [show hasB seen2 (p : Int) = true by simp [hasB, hps2]] at this
                    exact this
                  have HPS2 := Lib.hid hps2
                  clear hv hF hS hB hps2
                  have e1 : IntKind.i64.wrap ((p : Int) + 1) = (p : Int) + 1 := IntWalk.i64_in _ (by omega)
                  have b1 : (p : Int) + 1 < (xs.length : Int) := by omega
                  have b2 : (0 : Int) ≤ (p : Int) + 1 := by omega
                  have b3 : ((p : Int) + 1).toNat = p + 1 := by omega
                  by_cases hnd : n < d
                  · go_wp2
                    go_quiet ((go_at_call 57; exact quiet_left (HHAS.out _)))
                    go_wp2_with fail
                    have d3 : (wr.drewN nq).cell? ⟨w.heap.size, 0, none⟩ = some (.slice (some ⟨b, bo, none⟩) xs.length c) := c3
                    have d4 : (wr.drewN nq).cell? ⟨w.heap.size, 1, none⟩ = some (.int .i64 (t : Int)) := c4
                    have d1 : (wr.drewN nq).cell? ⟨lb, lo + i, none⟩ = some (.int .i64 (p : Int)) := c1
                    have HB2' := Lib.hid (below_drewN HB.out nq); have HV2' := Lib.hid (HV.out.draw nq)
                    clear c1 c2 c3 c4 e1 b1 b2 b3 HV HB HHAS
                    generalize wr.drewN nq = wx at *
                    have zw := Below.size HB2'.out
                    have zlb : lb < wx.heap.size := by omega
                    have zh : w.heap.size < wx.heap.size := by omega
                    have HFW : Hid (∀ W, Below wx.heap.size wx W → Ints W (.slice (some ⟨b, bo, none⟩) xs.length c) xs) := fun W hW => HF.out W (HB1.out.trans ((HB2'.out.mono (by have := HB1.out.size; omega)).trans (hW.mono (by have := HB1.out.size; omega))))
                    obtain ⟨x, hx⟩ : ∃ x, x = xs.getD (p + 2 + n) 0 := ⟨_, rfl⟩
                    have HLR : Hid (LoadRes xs (t : Int) (p : Int) (n : Int) (ofK x) (ofN x) 0) := .inr ⟨t, l, rfl, HI.out, .inl ⟨p, n, ⟨HMEM.out, rfl, rfl, by rw [← HD.out]; exact hnd⟩, by rw [hx], by rw [hx], rfl⟩⟩
                    have HWK : Hid (WordOk l x) := by rw [Hid, hx]; exact (HI.out.2.2.2.2.1 p HMEM.out).2.2 n (by rw [← HD.out]; exact hnd)
                    have HDR : Hid ((fieldsOf xs p).drop n = x :: (fieldsOf xs p).drop (n + 1)) := by
                      have hlen : n < (fieldsOf xs p).length := by rw [HFL.out]; simp; omega
                      rw [Hid, List.drop_eq_getElem_cons hlen]
                      congr 1
                      simp only [HFL.out, List.getElem_take, List.getElem_drop]
                      rw [hx, List.getD_eq_getElem?_getD, List.getElem?_eq_getElem (by omega)]
                      rfl
                    have hxr := (HF.out w1 HB1.out).range (p + 2 + n)
                    rw [← hx] at hxr
                    have HXR := Lib.hid hxr
                    clear hx hxr
                    have HKEEP : Hid (∀ W, Below wx.heap.size wx W → W.cell? ⟨w.heap.size, 0, none⟩ = some (.slice (some ⟨b, bo, none⟩) xs.length c) ∧ W.cell? ⟨w.heap.size, 1, none⟩ = some (.int .i64 (t : Int)) ∧ W.cell? ⟨lb, lo + i, none⟩ = some (.int .i64 (p : Int)) ∧ Below wx.heap.size wx W) :=
                      fun W hW => ⟨(hW.cell (p := ⟨w.heap.size, 0, none⟩) zh).trans d3, (hW.cell (p := ⟨w.heap.size, 1, none⟩) zh).trans d4, (hW.cell (p := ⟨lb, lo + i, none⟩) zlb).trans d1, hW⟩
                    go_region_held3 (fun W => W.cell? ⟨w.heap.size, 0, none⟩ = some (.slice (some ⟨b, bo, none⟩) xs.length c) ∧ W.cell? ⟨w.heap.size, 1, none⟩ = some (.int .i64 (t : Int)) ∧ W.cell? ⟨lb, lo + i, none⟩ = some (.int .i64 (p : Int)) ∧ Below wx.heap.size wx W)
                      (first | exact HKEEP.out _ (by repeat (first | exact Below.refl _ _ | with_reducible refine Below.trans ?_ (Below.mono hb4 (by first | exact Nat.le_refl _ | (simp; done) | omega | (simp; omega) | (have z0 := Below.size hb4; omega) | (have z0 := Below.size hb4; simp at *; omega))) | with_reducible refine below_drewN ?_ _ | with_reducible refine Below.drew ?_ | with_reducible refine Below.alloc ?_ (by first | exact Nat.le_refl _ | (simp; done) | omega | (simp; omega) | (have z0 := Below.size hb4; omega) | (have z0 := Below.size hb4; simp at *; omega)) _ | with_reducible refine Below.setCell ?_ (by first | exact Nat.le_refl _ | (simp; done) | omega | (simp; omega) | (have z0 := Below.size hb4; omega) | (have z0 := Below.size hb4; simp at *; omega)) _)) | exact HKEEP.out _ (by repeat (first | exact Below.refl _ _ | with_reducible refine below_drewN ?_ _ | with_reducible refine Below.drew ?_ | with_reducible refine Below.alloc ?_ (by first | exact Nat.le_refl _ | (simp; done) | omega | (simp; omega)) _ | with_reducible refine Below.setCell ?_ (by first | exact Nat.le_refl _ | (simp; done) | omega | (simp; omega)) _)))
                      (first | (go_at_call 54; refine (loadOf_any _ xs _ _ _ _ (HFW.out _ (by repeat (first | exact Below.refl _ _ | with_reducible refine below_drewN ?_ _ | with_reducible refine Below.drew ?_ | with_reducible refine Below.alloc ?_ (by first | exact Nat.le_refl _ | (simp; done) | omega | (simp; omega)) _ | with_reducible refine Below.setCell ?_ (by first | exact Nat.le_refl _ | (simp; done) | omega | (simp; omega)) _)))).mono ?_; intro e w4 hr; obtain ⟨hb4, k4, v4, r4, hr4, rfl⟩ := hr.res; clear hr; obtain ⟨rfl, rfl, rfl⟩ := hr4.uniq HLR.out; clear hr4; unfold valE; (try (have zc2 := Nat.lt_of_lt_of_le (show wx.heap.size < _ from (by first | (simp; done) | omega | (simp; omega))) (Below.size hb4); have fc2_0 := Below.cell hb4 (p := ⟨wx.heap.size, 0, none⟩) (by first | (simp; done) | omega | (simp; omega)); have gc2_0 := Below.frozen hb4 (p := ⟨wx.heap.size, 0, none⟩) (by first | (simp; done) | omega | (simp; omega)); have fc2_1 := Below.cell hb4 (p := ⟨wx.heap.size, 1, none⟩) (by first | (simp; done) | omega | (simp; omega)); have gc2_1 := Below.frozen hb4 (p := ⟨wx.heap.size, 1, none⟩) (by first | (simp; done) | omega | (simp; omega)); (try simp at fc2_0 gc2_0 fc2_1 gc2_1)))))
                    all_goals (
                      by_cases hodd : x % 2 = 1
                      · have hk : ofK x = 1 := hodd
                        by_cases hin : x / 2 ∈ seen2
                        · have HIN : Hid (hasB seen2 (ofN x) = true) := by unfold Hid hasB ofN; simpa using hin
                          have HSR : Hid (seeR seen2 x = seen2) := by rw [Hid, seeR, if_neg (fun h => h.2 hin)]
                          rw [hk]
                          clear hk hodd hin
                          go_wp2_with (go_at_call 57; refine (has_any _ seen2 _ _ (HV2'.out.below (by repeat (first | exact Below.refl _ _ | with_reducible refine Below.trans ?_ (Below.mono hb4 (by first | exact Nat.le_refl _ | (simp; done) | omega | (simp; omega) | (have z0 := Below.size hb4; omega) | (have z0 := Below.size hb4; simp at *; omega))) | with_reducible refine below_drewN ?_ _ | with_reducible refine Below.drew ?_ | with_reducible refine Below.alloc ?_ (by first | exact Nat.le_refl _ | (simp; done) | omega | (simp; omega) | (have z0 := Below.size hb4; omega) | (have z0 := Below.size hb4; simp at *; omega)) _ | with_reducible refine Below.setCell ?_ (by first | exact Nat.le_refl _ | (simp; done) | omega | (simp; omega) | (have z0 := Below.size hb4; omega) | (have z0 := Below.size hb4; simp at *; omega)) _))).ints).mono ?_; rintro e w6 ⟨rfl, rfl⟩; rw [HIN.out])
                          go_roundw
                          case rel => exact ⟨n + 1, seen2, by go_num, by omega, HPS2.out, HV2'.out.below (by repeat (first | exact Below.refl _ _ | with_reducible refine Below.trans ?_ (Below.mono hb4 (by first | exact Nat.le_refl _ | (simp; done) | omega | (simp; omega) | (have z0 := Below.size hb4; omega) | (have z0 := Below.size hb4; simp at *; omega))) | with_reducible refine below_drewN ?_ _ | with_reducible refine Below.drew ?_ | with_reducible refine Below.alloc ?_ (by first | exact Nat.le_refl _ | (simp; done) | omega | (simp; omega) | (have z0 := Below.size hb4; omega) | (have z0 := Below.size hb4; simp at *; omega)) _ | with_reducible refine Below.setCell ?_ (by first | exact Nat.le_refl _ | (simp; done) | omega | (simp; omega) | (have z0 := Below.size hb4; omega) | (have z0 := Below.size hb4; simp at *; omega)) _)), by rw [← HF2.out, HDR.out, List.foldl_cons, HSR.out], HS.out, HB2'.out.trans ((show Below wx.heap.size wx _ from (by repeat (first | exact Below.refl _ _ | with_reducible refine Below.trans ?_ (Below.mono hb4 (by first | exact Nat.le_refl _ | (simp; done) | omega | (simp; omega) | (have z0 := Below.size hb4; omega) | (have z0 := Below.size hb4; simp at *; omega))) | with_reducible refine below_drewN ?_ _ | with_reducible refine Below.drew ?_ | with_reducible refine Below.alloc ?_ (by first | exact Nat.le_refl _ | (simp; done) | omega | (simp; omega) | (have z0 := Below.size hb4; omega) | (have z0 := Below.size hb4; simp at *; omega)) _ | with_reducible refine Below.setCell ?_ (by first | exact Nat.le_refl _ | (simp; done) | omega | (simp; omega) | (have z0 := Below.size hb4; omega) | (have z0 := Below.size hb4; simp at *; omega)) _))).mono zw)⟩
                          case measure => simp [intOf]; omega
                        · have HIN : Hid (hasB seen2 (ofN x) = false) := by unfold Hid hasB ofN; simpa using hin
                          have HSR : Hid (seeR seen2 x = seen2 ++ [ofN x]) := by rw [Hid, seeR, if_pos ⟨hodd, hin⟩]; rfl
                          have HSF : Hid (SeenFrom roots l (seen2 ++ [ofN x])) := HS.out.add hin (fun h0 => HWK.out.2 hodd (fun e => h0 (by rw [e]; rfl)))
                          have HNI : Hid (I64 (ofN x)) := by have := HXR.out; unfold Hid I64 ofN; omega
                          have HLN : Hid (seen2.length ≤ 17592186043904 + 500) := by have := HS.out.len; unfold Hid; omega
                          rw [hk]
                          clear hk hodd hin
                          go_wp2_with (first | (go_at_call 57; refine (has_any _ seen2 _ _ (HV2'.out.below (by repeat (first | exact Below.refl _ _ | with_reducible refine Below.trans ?_ (Below.mono hb4 (by first | exact Nat.le_refl _ | (simp; done) | omega | (simp; omega) | (have z0 := Below.size hb4; omega) | (have z0 := Below.size hb4; simp at *; omega))) | with_reducible refine below_drewN ?_ _ | with_reducible refine Below.drew ?_ | with_reducible refine Below.alloc ?_ (by first | exact Nat.le_refl _ | (simp; done) | omega | (simp; omega) | (have z0 := Below.size hb4; omega) | (have z0 := Below.size hb4; simp at *; omega)) _ | with_reducible refine Below.setCell ?_ (by first | exact Nat.le_refl _ | (simp; done) | omega | (simp; omega) | (have z0 := Below.size hb4; omega) | (have z0 := Below.size hb4; simp at *; omega)) _))).ints).mono ?_; rintro e w6 ⟨rfl, rfl⟩; rw [HIN.out]) | (at_builtin; go_must (refine wpl_append_ints rfl _ _ rfl w1.heap.size u9 seen2 rfl (HV2'.out.below (by repeat (first | exact Below.refl _ _ | with_reducible refine Below.trans ?_ (Below.mono hb4 (by first | exact Nat.le_refl _ | (simp; done) | omega | (simp; omega) | (have z0 := Below.size hb4; omega) | (have z0 := Below.size hb4; simp at *; omega))) | with_reducible refine below_drewN ?_ _ | with_reducible refine Below.drew ?_ | with_reducible refine Below.alloc ?_ (by first | exact Nat.le_refl _ | (simp; done) | omega | (simp; omega) | (have z0 := Below.size hb4; omega) | (have z0 := Below.size hb4; simp at *; omega)) _ | with_reducible refine Below.setCell ?_ (by first | exact Nat.le_refl _ | (simp; done) | omega | (simp; omega) | (have z0 := Below.size hb4; omega) | (have z0 := Below.size hb4; simp at *; omega)) _))) _ [ofN x] rfl (built_at _ _ (by simp [World.setCell]) HNI.out) (by have := HLN.out; simp; omega) (by simp [World.setCell]; have := hb4.size; simp [World.setCell] at this; omega) ?_); intro v7 w7 hv7 hg7 hm7; have HV7 := Lib.hid hv7; have HG7 := Lib.hid hg7; clear hv7 hg7 hm7))
                          go_roundw
                          case rel => exact ⟨n + 1, _, by go_num, by omega, by simp; exact .inl HPS2.out, HV7.out, by rw [← HF2.out, HDR.out, List.foldl_cons, HSR.out], HSF.out, (HB2'.out.trans ((show Below wx.heap.size wx _ from (by repeat (first | exact Below.refl _ _ | with_reducible refine Below.trans ?_ (Below.mono hb4 (by first | exact Nat.le_refl _ | (simp; done) | omega | (simp; omega) | (have z0 := Below.size hb4; omega) | (have z0 := Below.size hb4; simp at *; omega))) | with_reducible refine below_drewN ?_ _ | with_reducible refine Below.drew ?_ | with_reducible refine Below.alloc ?_ (by first | exact Nat.le_refl _ | (simp; done) | omega | (simp; omega) | (have z0 := Below.size hb4; omega) | (have z0 := Below.size hb4; simp at *; omega)) _ | with_reducible refine Below.setCell ?_ (by first | exact Nat.le_refl _ | (simp; done) | omega | (simp; omega) | (have z0 := Below.size hb4; omega) | (have z0 := Below.size hb4; simp at *; omega)) _))).mono zw)).grown HG7.out (by simp [World.setCell]; have := hb4.size; simp [World.setCell] at this; omega) (fun j hj => by have := (HV2'.out.lt hj).1; omega)⟩
                          case measure => simp [intOf]; omega
                      · have hk : ofK x = 0 := by unfold ofK; omega
                        have HSR : Hid (seeR seen2 x = seen2) := by rw [Hid, seeR, if_neg (fun h => hodd h.1)]
                        rw [hk]
                        clear hk hodd
                        go_wp2_with fail
                        go_roundw
                        case rel => exact ⟨n + 1, seen2, by go_num, by omega, HPS2.out, HV2'.out.below (by repeat (first | exact Below.refl _ _ | with_reducible refine Below.trans ?_ (Below.mono hb4 (by first | exact Nat.le_refl _ | (simp; done) | omega | (simp; omega) | (have z0 := Below.size hb4; omega) | (have z0 := Below.size hb4; simp at *; omega))) | with_reducible refine below_drewN ?_ _ | with_reducible refine Below.drew ?_ | with_reducible refine Below.alloc ?_ (by first | exact Nat.le_refl _ | (simp; done) | omega | (simp; omega) | (have z0 := Below.size hb4; omega) | (have z0 := Below.size hb4; simp at *; omega)) _ | with_reducible refine Below.setCell ?_ (by first | exact Nat.le_refl _ | (simp; done) | omega | (simp; omega) | (have z0 := Below.size hb4; omega) | (have z0 := Below.size hb4; simp at *; omega)) _)), by rw [← HF2.out, HDR.out, List.foldl_cons, HSR.out], HS.out, HB2'.out.trans ((show Below wx.heap.size wx _ from (by repeat (first | exact Below.refl _ _ | with_reducible refine Below.trans ?_ (Below.mono hb4 (by first | exact Nat.le_refl _ | (simp; done) | omega | (simp; omega) | (have z0 := Below.size hb4; omega) | (have z0 := Below.size hb4; simp at *; omega))) | with_reducible refine below_drewN ?_ _ | with_reducible refine Below.drew ?_ | with_reducible refine Below.alloc ?_ (by first | exact Nat.le_refl _ | (simp; done) | omega | (simp; omega) | (have z0 := Below.size hb4; omega) | (have z0 := Below.size hb4; simp at *; omega)) _ | with_reducible refine Below.setCell ?_ (by first | exact Nat.le_refl _ | (simp; done) | omega | (simp; omega) | (have z0 := Below.size hb4; omega) | (have z0 := Below.size hb4; simp at *; omega)) _))).mono zw)⟩
                        case measure => simp [intOf]; omega)
                  · obtain rfl : n = d := by omega
                    have HT : Hid (seen2 = objR xs seen1 p) := by
                      rw [Hid, ← HF2.out, List.drop_of_length_le (by rw [HFL.out]; simp; omega)]; rfl
                    have HEND : Hid ((l.drop (i + 1)).foldl (objR xs) seen2 = roundR xs l seen) := by
                      have this : (l.drop i).foldl (objR xs) seen1 = roundR xs l seen := HFm.out
                      rw [HDROP.out, List.foldl_cons, ← HT.out] at this
                      exact this
                    go_wp2
                    go_quiet ((go_at_call 57; exact quiet_left (HHAS.out _)))
                    go_wp2_with fail
                    go_roundw
                    case rel => exact ⟨i + 1, by go_num, by omega, seen2, HV.out.draw _, HEND.out, HS.out, below_drewN HB.out _⟩
                    case measure => simp [intOf]; omega
              · have HOBJ : Hid (objR xs seen1 p = seen1) := by rw [Hid, objR, if_neg hps]
                have HHAS : Hid (∀ k, Calls Try.prog 57 #[u9, .int .i64 (p : Int)] (wm.drewN k) fun e w' => e = .returned (.bool false) ∧ wm.drewN k = w') := fun k => by
                  have := has_any u9 seen1 (p : Int) (wm.drewN k) (HVm.out.ints)
                  rw [show hasB seen1 (p : Int) = false by unfold hasB; simpa using hps] at this
                  exact this
                have HEND : Hid ((l.drop (i + 1)).foldl (objR xs) seen1 = roundR xs l seen) := by
                  have this : (l.drop i).foldl (objR xs) seen1 = roundR xs l seen := HFm.out
                  rw [HDROP.out, List.foldl_cons, HOBJ.out] at this
                  exact this
                clear hps
                go_wp2
                go_loopw [9, 12] (fun sv u wr => sv = u9 ∧ u = .int .i64 0 ∧ wr = wm) (fun _ _ _ => 0)
                case atStart => exact ⟨rfl, rfl, rfl⟩
                case round =>
                  obtain ⟨rfl, rfl, rfl⟩ := hrel
                  have c1 := (HBm.out.cell (p := ⟨lb, lo + i, none⟩) hlb).trans HL0.out
                  go_wp2
                  go_quiet ((go_at_call 57; exact quiet_left (HHAS.out _)))
                  go_wp2_with fail
                  go_roundw
                  case rel => exact ⟨i + 1, by go_num, by omega, seen1, HVm.out.draw _, HEND.out, HSm.out, below_drewN HBm.out _⟩
                  case measure => simp [intOf]; omega
            · obtain rfl : i = l.length := by omega
              have HEND : Hid (SeenInv w1 roots l (fun s => roundsR xs l (l.length - (r + 1)) s) (roundsR xs l l.length roots) u9 wm) := by
                refine ⟨seen1, HVm.out, ?_, HSm.out, HBm.out⟩
                have e1 := HFm.out
                simp only [List.drop_length, List.foldl_nil] at e1
                have e2 := HFo.out
                rw [show l.length - r = (l.length - (r + 1)) + 1 by omega] at e2
                rw [e1, ← e2]
                rfl
              go_wp2
              go_roundw
              case rel => exact ⟨r + 1, by go_num, by omega, HEND.out⟩
              case measure => simp [intOf]; omega
        · obtain rfl : r = l.length := by omega
          have HT : Hid (seen = roundsR xs l l.length roots) := by
            have this : roundsR xs l (l.length - l.length) seen = roundsR xs l l.length roots := HFo.out
            rw [Nat.sub_self] at this
            exact this
          have zo := HBo.out.size
          go_wp2
          go_loopw [15, 16] (fun sv u wr => ∃ k : Nat, u = .int .i64 k ∧ k ≤ l.length ∧ OwnInts wr wo.heap.size sv (((intsOf l).take k).filter fun x => decide (x ∈ seen)) ∧ Below wo.heap.size wo wr) (fun _ u _ => l.length - (intOf u).toNat)
          case atStart => exact ⟨0, rfl, Nat.zero_le _, ⟨⟨by simp, by simp⟩, by simpa using World.ownsRow_nil _ _ _ _⟩, Below.refl _ _⟩
          case round =>
            obtain ⟨k, rfl, hk, hv, hB⟩ := hrel
            have zr := hB.size
            have HV := Lib.hid hv; have HB := Lib.hid hB
            have hll : (((intsOf l).take k).filter fun x => decide (x ∈ seen)).length ≤ l.length := by
              have h1 := List.length_filter_le (fun x => decide (x ∈ seen)) ((intsOf l).take k)
              have h2 := List.length_take_le k (intsOf l)
              omega
            have HLL := Lib.hid hll
            clear hv hB hll
            by_cases hkl : k < l.length
            · obtain ⟨p, hp⟩ : ∃ p, p = (intsOf l).getD k 0 := ⟨_, rfl⟩
              obtain ⟨lb, lo, rfl, hlb, hlc⟩ := Ints.at HV1.out.ints (by rw [intsOf_length]; omega)
              have hl0 := ((HBo.out.trans (HB.out.mono zo)).cell (p := ⟨lb, lo + k, none⟩) hlb).trans (hlc k (by rw [intsOf_length]; omega))
              rw [← hp] at hl0
              have HPI : Hid (I64 p) := by rw [Hid, hp]; exact HV1.out.ints.range k
              have HTK : Hid ((intsOf l).take (k + 1) = (intsOf l).take k ++ [p]) := by rw [Hid, take_one (by rw [intsOf_length]; omega), hp]
              clear hlc hp
              by_cases hin : p ∈ seen
              · have HIN : Hid (hasB seen p = true) := by unfold Hid hasB; simpa using hin
                have HSR : Hid (((intsOf l).take (k + 1)).filter (fun x => decide (x ∈ seen)) = (((intsOf l).take k).filter fun x => decide (x ∈ seen)) ++ [p]) := by
                  rw [Hid, HTK.out, List.filter_append]; simp [hin]
                clear hin
                go_wp2_with (first | (go_at_call 57; refine (has_any _ seen _ _ (HVo.out.below HB.out).ints).mono ?_; rintro e w6 ⟨rfl, rfl⟩; rw [HIN.out]) | (at_builtin; go_must (refine wpl_append_ints rfl _ _ rfl wo.heap.size _ _ rfl (HV.out.below (by repeat (first | exact Below.refl _ _ | with_reducible refine below_drewN ?_ _ | with_reducible refine Below.drew ?_ | with_reducible refine Below.alloc ?_ (by first | exact Nat.le_refl _ | (simp; done) | omega | (simp; omega)) _ | with_reducible refine Below.setCell ?_ (by first | exact Nat.le_refl _ | (simp; done) | omega | (simp; omega)) _))) _ [p] rfl (built_at _ _ (by simp) HPI.out) (by have := HLL.out; simp only [List.length_singleton]; omega) (by simp; omega) ?_); intro v7 w7 hv7 hg7 hm7; have HV7 := Lib.hid hv7; have HG7 := Lib.hid hg7; clear hv7 hg7 hm7))
                go_roundw
                case rel => exact ⟨k + 1, by go_num, by omega, by rw [HSR.out]; exact HV7.out, (show Below wo.heap.size wo _ from (by repeat (first | exact Below.refl _ _ | with_reducible refine Below.trans ?_ (Below.mono HB.out (by first | exact Nat.le_refl _ | (simp; done) | omega | (simp; omega) | (have z0 := Below.size HB.out; omega) | (have z0 := Below.size HB.out; simp at *; omega))) | with_reducible refine below_drewN ?_ _ | with_reducible refine Below.drew ?_ | with_reducible refine Below.alloc ?_ (by first | exact Nat.le_refl _ | (simp; done) | omega | (simp; omega) | (have z0 := Below.size HB.out; omega) | (have z0 := Below.size HB.out; simp at *; omega)) _ | with_reducible refine Below.setCell ?_ (by first | exact Nat.le_refl _ | (simp; done) | omega | (simp; omega) | (have z0 := Below.size HB.out; omega) | (have z0 := Below.size HB.out; simp at *; omega)) _))).grown HG7.out (by simp; omega) (fun j hj => (HV.out.lt hj).1)⟩
                case measure => simp [intOf]; omega
              · have HIN : Hid (hasB seen p = false) := by unfold Hid hasB; simpa using hin
                have HSR : Hid (((intsOf l).take (k + 1)).filter (fun x => decide (x ∈ seen)) = (((intsOf l).take k).filter fun x => decide (x ∈ seen))) := by
                  rw [Hid, HTK.out, List.filter_append]; simp [hin]
                clear hin
                go_wp2_with (go_at_call 57; refine (has_any _ seen _ _ (HVo.out.below HB.out).ints).mono ?_; rintro e w6 ⟨rfl, rfl⟩; rw [HIN.out])
                go_roundw
                case rel => exact ⟨k + 1, by go_num, by omega, by rw [HSR.out]; exact HV.out, HB.out⟩
                case measure => simp [intOf]; omega
            · obtain rfl : k = l.length := by omega
              go_wp2
              go_ret2
              refine ⟨HB1.out.trans ((HBo.out.mono (by have := HB1.out.size; omega)).trans (HB.out.mono (by have := HB1.out.size; omega))), .inr ⟨t, l, rfl, HI.out, .inr ⟨HRO2.out, _, rfl, ?_⟩⟩⟩
              have := HV.out.mono (base' := w.heap.size) (by have := HB1.out.size; omega)
              rw [← HT.out]
              rwa [List.take_of_length_le (by rw [intsOf_length]; omega)] at this

set_option maxHeartbeats 400000 in
theorem reachedOf_any (v rv : Value) (xs roots : List Int) (top : Int) (w : World) (h : Ints w v xs) (hr : Ints w rv roots) (hrb : roots.length ≤ 17592186043904) :
    Calls Try.prog 31 #[.agg #[v, .int .i64 top], rv] w (RetReachOf w xs top roots) := by
  by_cases hok : HeapOk xs top
  · obtain ⟨t, l, rfl, his⟩ := hok
    exact reachedOf_ok v rv xs roots t l w h hr hrb his
  · obtain ⟨a, c, rfl, hc, hcm, _⟩ := h.len
    have HF : Hid (∀ w2, Below w.heap.size w w2 → Ints w2 (.slice a xs.length c) xs) := fun w2 hb2 => h.below (Nat.le_refl _) hb2
    have HN := Lib.hid hok
    clear h hr hok
    go_enter Try.func31, Try.ntmps31
    go_wp2_with (go_at_call 59; refine (PlacesOf_any _ xs _ _ (HF.out _ (by repeat (first | exact Below.refl _ _ | with_reducible refine below_drewN ?_ _ | with_reducible refine Below.drew ?_ | with_reducible refine Below.alloc ?_ (by first | exact Nat.le_refl _ | (simp; done) | omega | (simp; omega)) _ | with_reducible refine Below.setCell ?_ (by first | exact Nat.le_refl _ | (simp; done) | omega | (simp; omega)) _)))).mono ?_; rintro e w1 ⟨hb, ⟨t', l', la, lc, ht, hi, rfl, hv⟩ | ⟨hno, rfl⟩⟩; (exact absurd ⟨t', l', ht, hi⟩ HN.out); have HB := Lib.hid hb; clear hb)
    go_ret2
    exact ⟨(by repeat (first | exact Below.refl _ _ | with_reducible refine Below.trans ?_ (Below.mono HB.out (by first | exact Nat.le_refl _ | (simp; done) | omega | (simp; omega) | (have z0 := Below.size HB.out; omega) | (have z0 := Below.size HB.out; simp at *; omega))) | with_reducible refine below_drewN ?_ _ | with_reducible refine Below.drew ?_ | with_reducible refine Below.alloc ?_ (by first | exact Nat.le_refl _ | (simp; done) | omega | (simp; omega) | (have z0 := Below.size HB.out; omega) | (have z0 := Below.size HB.out; simp at *; omega)) _ | with_reducible refine Below.setCell ?_ (by first | exact Nat.le_refl _ | (simp; done) | omega | (simp; omega) | (have z0 := Below.size HB.out; omega) | (have z0 := Below.size HB.out; simp at *; omega)) _)), .inl ⟨HN.out, rfl⟩⟩
end Go.Proofs.Ytbeilcaadpopmab
