/- Walk: gc.Reach. -/
import Derived.Test.YtbeilcaadpopmabGk
import Derived.Test.YtbeilcaadpopmabGq
import Derived.Test.YtbeilcaadpopmabDf
import Derived.Test.YtbeilcaadpopmabWs
set_option linter.unusedVariables false
set_option linter.unusedSimpArgs false
namespace Go.Proofs.Ytbeilcaadpopmab
open Go.RowKit

/-- An owned slice beside the marker's own blocks stays. -/
theorem Turned.own {w w' : World} {M o B base : Nat} {g g' v : Value} {xs : List Int} (h : Turned w w' M o B g g') (hv : OwnInts w base v xs) (h1 : v.ownBlock ≠ some M) (h2 : v.ownBlock ≠ some B) (h3 : ∀ k, v.ownBlock = some k → g.ownBlock ≠ some k) : OwnInts w' base v xs := by
  refine ⟨hv.1, hv.2.1, ?_⟩
  rcases hv.2.2 with h4 | ⟨b, cap, cur, e, q1, q2, q3⟩
  · exact .inl h4
  · have hb : b < w.heap.size := (Array.getElem?_eq_some_iff.1 q2).1
    subst e
    refine .inr ⟨b, cap, cur, rfl, q1, ?_, q3⟩
    rw [h.2.1 b hb (fun e => h1 (by rw [← e]; rfl)) (fun e => h2 (by rw [← e]; rfl)) (h3 b rfl)]
    exact q2

theorem pushAll_snoc (l : List Int) (p : Int) (s : List Int × List Int) : pushAll (l ++ [p]) s = (pushG p (pushAll l s).1 (pushAll l s).2, pushS p (pushAll l s).2) := by
  simp [pushAll]

/-- What a marker has when it has looked at all. -/
def seenAll (xs : List Int) (l : List Nat) (roots : List Int) : List Int := (lookF xs l.length (pushAll roots ([], []))).2

/-- The roots are as they may be. -/
def RootsOk (l : List Nat) (roots : List Int) : Prop := ∀ p ∈ roots, p ≠ 0 → ∃ q ∈ l, p = (q : Int)

def RetReach (w : World) (xs : List Int) (top : Int) (roots : List Int) (e : Ending) (w' : World) : Prop :=
  Below w.heap.size w w' ∧ ((¬ HeapOk xs top ∧ e = .returned (.tuple #[.slice none 0 0, .int .i64 5])) ∨
    ∃ (t : Nat) (l : List Nat), top = (t : Int) ∧ HeapIs xs t l ∧ ((¬ RootsOk l roots ∧ e = .returned (.tuple #[.slice none 0 0, .int .i64 4])) ∨
      (RootsOk l roots ∧ ∃ v, e = .returned (.tuple #[v, .int .i64 0]) ∧ OwnInts w' w.heap.size v ((intsOf l).filter fun x => decide (x ∈ seenAll xs l roots)))))

/-- The closure of Reach: is a place not marked? -/
theorem reachF_any (w : World) (M o B b : Nat) (S : List Int) (n : Nat) (x : Int) (hb : w.cell? ⟨b, 0, none⟩ = some (.pointer (some ⟨M, o, none⟩))) (hm : w.cell? ⟨M, o + 1, none⟩ = some (.map (some B))) (hS : SetMap w B n S) (hx : I64 x) :
    Calls Try.prog 63 #[.int .i64 x, .pointer (some ⟨b, 0, none⟩)] w (fun e w' => e = .returned (.bool (!decide (x ∈ S))) ∧ w = w') := by
  have hrun := hS.run hx
  have HS := Lib.hid hS; have HX := Lib.hid hx
  clear hS hx
  by_cases h : x ∈ S
  · have hd : decide (x ∈ S) = true := decide_eq_true h
    clear h
    rw [hd] at hrun ⊢
    go_enter Try.func63, Try.ntmps63
    go_wp2
    go_ret
    exact ⟨rfl, rfl⟩
  · have hd : decide (x ∈ S) = false := decide_eq_false h
    clear h
    rw [hd] at hrun ⊢
    go_enter Try.func63, Try.ntmps63
    go_wp2
    go_ret
    exact ⟨rfl, rfl⟩

theorem pushAll_bound {l : List Nat} {rs gray S : List Int} (h : RootsOk l rs) (e : pushAll rs ([], []) = (gray, S)) : gray.length ≤ l.length ∧ S.length ≤ l.length ∧ (∀ x ∈ gray, ∃ q ∈ l, x = (q : Int)) := by
  obtain ⟨n, h1, h2, h3, h4⟩ := pushAll_spec rs [] []
  rw [e] at h1
  simp only [List.nil_append, List.append_nil, Prod.mk.injEq] at h1
  obtain ⟨rfl, rfl⟩ := h1
  have hin : ∀ x ∈ gray, x ∈ intsOf l := fun x hx => by
    have := (h4 x).1 (by simp [hx])
    rcases this with hh | ⟨h5, h6⟩
    · simp at hh
    · obtain ⟨q, hq, rfl⟩ := h x h5 h6
      exact List.mem_map.2 ⟨q, hq, rfl⟩
  have hl := nodup_len h2 hin
  rw [intsOf_length] at hl
  refine ⟨hl, by simpa using hl, fun x hx => ?_⟩
  obtain ⟨q, hq, e⟩ := List.mem_map.1 (hin x hx)
  exact ⟨q, hq, e.symm⟩

set_option maxRecDepth 100000 in
set_option maxHeartbeats 1000000 in
theorem reach_ok (v rv : Value) (xs roots : List Int) (t : Nat) (l : List Nat) (w : World) (h : Ints w v xs) (hr : Ints w rv roots) (his : HeapIs xs t l) :
    Calls Try.prog 30 #[.agg #[v, .int .i64 t], rv] w (RetReach w xs t roots) := by
  obtain ⟨a, c, rfl, hc, hcm, _⟩ := h.len
  obtain ⟨ra, rc, rfl, hrc, hrcm, _⟩ := hr.len
  have hrle := hr.le
  have HF : Hid (∀ w2, Below w.heap.size w w2 → Ints w2 (.slice a xs.length c) xs) := fun w2 hb2 => h.below (Nat.le_refl _) hb2
  have HR : Hid (∀ w2, Below w.heap.size w w2 → Ints w2 (.slice ra roots.length rc) roots) := fun w2 hb2 => hr.below (Nat.le_refl _) hb2
  have HI := Lib.hid his
  have i1 := his.1
  have i3 := his.2.2.1
  have ill := places_len his.2.2.2.1 his.2.1
  have HA : Hid (∀ k, (Value.slice a xs.length c).ownBlock = some k → k < w.heap.size) := by
    obtain ⟨b, o, rfl, hb, _⟩ := h.at (by have := his.2.1; omega)
    intro k hk
    simp only [Value.ownBlock, Option.some.injEq] at hk
    omega
  have HRB : Hid (∀ i, I64 (roots.getD i 0)) := fun i => hr.range i
  have hmm := @run_makeMap Try.prog
  clear h hr his
  go_enter Try.func30, Try.ntmps30
  go_wp2_with (go_at_call 18; refine (Places_any _ xs _ _ (HF.out _ (by repeat (first | exact Below.refl _ _ | with_reducible refine below_drewN ?_ _ | with_reducible refine Below.drew ?_ | with_reducible refine Below.alloc ?_ (by first | exact Nat.le_refl _ | (simp; done) | omega | (simp; omega)) _ | with_reducible refine Below.setCell ?_ (by first | exact Nat.le_refl _ | (simp; done) | omega | (simp; omega)) _)))).mono ?_; rintro e w1 ⟨hb, ⟨t', l', la, lc, ht, hi, rfl, hv⟩ | ⟨hno, rfl⟩⟩; rotate_left; (exact absurd ⟨t, l, rfl, HI.out⟩ hno); obtain rfl := Int.ofNat_inj.1 ht; obtain rfl := HI.out.uniq hi; clear ht hi; have zc1 := Nat.lt_of_lt_of_le (show w.heap.size < _ from (by first | (simp; done) | omega | (simp; omega))) (Below.size hb); have fc1_0 := Below.cell hb (p := ⟨w.heap.size, 0, none⟩) (by first | (simp; done) | omega | (simp; omega)); have gc1_0 := Below.frozen hb (p := ⟨w.heap.size, 0, none⟩) (by first | (simp; done) | omega | (simp; omega)); have fc1_1 := Below.cell hb (p := ⟨w.heap.size, 1, none⟩) (by first | (simp; done) | omega | (simp; omega)); have gc1_1 := Below.frozen hb (p := ⟨w.heap.size, 1, none⟩) (by first | (simp; done) | omega | (simp; omega)); (try simp at fc1_0 gc1_0 fc1_1 gc1_1); have HB := Lib.hid hb; have HV := Lib.hid hv; clear hb hv)
  obtain ⟨z, hz⟩ : ∃ z, z = w1.heap.size := ⟨_, rfl⟩
  obtain ⟨w3, hw3⟩ : ∃ w3, w3 = ((w1.alloc (.map #[] 0)).alloc (.cells #[.slice none 0 0, .map (some z)] 101)).alloc (.cells #[.pointer (some ⟨z + 1, 0, none⟩)] 98) := ⟨_, rfl⟩
  have HB3 : Hid (Below w.heap.size w w3) := by rw [hw3, hz]; show Below _ _ _; exact (by repeat (first | exact Below.refl _ _ | with_reducible refine Below.trans ?_ (Below.mono HB.out (by first | exact Nat.le_refl _ | (simp; done) | omega | (simp; omega) | (have z0 := Below.size HB.out; omega) | (have z0 := Below.size HB.out; simp at *; omega))) | with_reducible refine below_drewN ?_ _ | with_reducible refine Below.drew ?_ | with_reducible refine Below.alloc ?_ (by first | exact Nat.le_refl _ | (simp; done) | omega | (simp; omega) | (have z0 := Below.size HB.out; omega) | (have z0 := Below.size HB.out; simp at *; omega)) _ | with_reducible refine Below.setCell ?_ (by first | exact Nat.le_refl _ | (simp; done) | omega | (simp; omega) | (have z0 := Below.size HB.out; omega) | (have z0 := Below.size HB.out; simp at *; omega)) _))
  have HT0 : Hid (Below z w1 w3) := by rw [hw3, hz]; show Below _ _ _; exact (by repeat (first | exact Below.refl _ _ | with_reducible refine below_drewN ?_ _ | with_reducible refine Below.drew ?_ | with_reducible refine Below.alloc ?_ (by first | exact Nat.le_refl _ | (simp; done) | omega | (simp; omega)) _ | with_reducible refine Below.setCell ?_ (by first | exact Nat.le_refl _ | (simp; done) | omega | (simp; omega)) _))
  have HMK3 : Hid (Mk w w3 (z + 1) 0 z (z + 1 + 1 + 1) (.slice none 0 0) [] []) := by
    have hzz : w.heap.size < z := by omega
    refine ⟨by omega, by omega, by omega, by omega, by rw [hw3]; simp; omega, by simp [Value.ownBlock], by simp [Value.ownBlock], ?_, ?_, ?_, ?_, ⟨⟨by simp, by simp⟩, World.ownsRow_nil _ _ _ _⟩, ?_, HB3.out⟩
    · rw [hw3, hz]; simp [go_sem]
    · rw [hw3, hz]; simp [go_sem]
    · rw [hw3, hz]; simp [go_sem]
    · rw [hw3, hz]; simp [go_sem]
    · have := setMap_made w1
      rw [hw3, hz]
      exact (this.below ((Below.refl _ _).alloc (Nat.le_refl _) _)).below ((Below.refl _ _).alloc (Nat.le_refl _) _)
  have HPT : Hid (w3.cell? ⟨z + 1 + 1, 0, none⟩ = some (.pointer (some ⟨z + 1, 0, none⟩))) := by rw [Hid, hw3, hz]; simp [go_sem]
  have HV3 : Hid (OwnInts w3 (w.heap.size + 1) (.slice la l.length lc) (intsOf l)) := by
    have := HV.out.below (HT0.out.mono (by omega))
    rw [World.size_alloc] at this
    exact this
  have HLA : Hid (∀ k, (Value.slice la l.length lc).ownBlock = some k → w.heap.size < k ∧ k < z) := fun k hk => by have := HV.out.lt hk; rw [World.size_alloc] at this; omega
  have HH0 : Hid (w3.cell? ⟨w.heap.size, 0, none⟩ = some (.slice a xs.length c)) := (HT0.out.cell (p := ⟨w.heap.size, 0, none⟩) (by rw [hz]; exact zc1)).trans fc1_0
  have HH1 : Hid (w3.cell? ⟨w.heap.size, 1, none⟩ = some (.int .i64 (t : Int))) := (HT0.out.cell (p := ⟨w.heap.size, 1, none⟩) (by rw [hz]; exact zc1)).trans fc1_1
  have hz3 : z + 1 + 1 + 1 = w3.heap.size := by rw [hw3, hz]; simp
  have hwz : w.heap.size + 1 ≤ z := by omega
  rw [← hz, ← hw3]
  have HZ3 := Lib.hid hz3
  clear hw3 hmm HV HB fc1_0 fc1_1 gc1_0 gc1_1 zc1 hz HT0
  go_loopw [26] (fun u wr => ∃ (k : Nat) (gv : Value) (gray S : List Int), u = .int .i64 k ∧ k ≤ roots.length ∧ Mk w wr (z + 1) 0 z (z + 1 + 1 + 1) gv gray S ∧ pushAll (roots.take k) ([], []) = (gray, S) ∧ Turned w3 wr (z + 1) 0 z (.slice none 0 0) gv ∧ RootsOk l (roots.take k)) (fun u _ => roots.length - (intOf u).toNat)
  case atStart => exact ⟨0, _, _, _, rfl, Nat.zero_le _, HMK3.out, by simp [pushAll], Turned.refl _ _ _ _ _, by intro p hp; simp at hp⟩
  case round =>
    obtain ⟨k, gv, gray, S, rfl, hk, hMK, hpa, hT, hro⟩ := hrel
    have hsz := hT.1
    obtain ⟨b1, b2, hgl⟩ := pushAll_bound hro hpa
    have HMK := Lib.hid hMK; have HPA := Lib.hid hpa; have HT := Lib.hid hT; have HRO := Lib.hid hro; have HGL := Lib.hid hgl
    have HBW : Hid (Below w.heap.size w wr) := hMK.2.2.2.2.2.2.2.2.2.2.2.2.2
    have HLV : Hid (OwnInts wr (w.heap.size + 1) (.slice la l.length lc) (intsOf l)) := hT.own HV3.out (fun e => by have := HLA.out _ e; omega) (fun e => by have := HLA.out _ e; omega) (fun k _ => by simp [Value.ownBlock])
    have hpt : wr.cell? ⟨z + 1 + 1, 0, none⟩ = some (.pointer (some ⟨z + 1, 0, none⟩)) := (World.cell?_of_block (a := ⟨z + 1 + 1, 0, none⟩) (hT.2.1 (z + 1 + 1) (by omega) (by omega) (by omega) (by simp [Value.ownBlock]))).trans HPT.out
    clear hMK hpa hT hro hgl
    by_cases hlt : k < roots.length
    · obtain ⟨b, o, rfl, hb, hcell⟩ := (HR.out wr HBW.out).at (by omega)
      have hck := hcell k hlt
      obtain ⟨p, hp⟩ : ∃ p, p = roots.getD k 0 := ⟨_, rfl⟩
      rw [← hp] at hck
      have HP : Hid (roots.take (k + 1) = roots.take k ++ [p]) := by rw [Hid, take_one hlt, hp]
      have HPM : Hid (p ∈ roots) := by rw [Hid, hp, List.getD_eq_getElem?_getD, List.getElem?_eq_getElem hlt]; exact List.getElem_mem hlt
      have HPI : Hid (I64 p) := by rw [Hid, hp]; exact HRB.out k
      clear hcell hp
      have HSE : Hid (Ints wr (.slice la l.length lc) (intsOf l)) := HLV.out.ints
      have HRI : Hid (Rises (intsOf l)) := rises_places HI.out.2.2.2.1
      cases hq : hasB (intsOf l) p with
      | true =>
        have HQ : Hid (p ≠ 0 → ∃ q ∈ l, p = (q : Int)) := fun _ => hasB_places.1 hq
        have HQ2 := Lib.hid hq
        clear hq
        go_wp2_with (first | (go_at_call 50; refine (search_any _ (intsOf l) _ _ HSE.out HRI.out).mono ?_; rintro e w5 ⟨i5, rfl, rfl⟩; rw [HQ2.out]) | (go_at_call 60; refine (push_any w _ (z + 1) 0 z (z + 1 + 1 + 1) gv gray S _ HMK.out HPI.out (by omega) (by omega)).mono ?_; rintro e w5 ⟨rfl, gv5, hM5, hT5⟩; have HM5 := Lib.hid hM5; have HT5 := Lib.hid hT5; clear hM5 hT5))
        go_roundw
        case rel =>
          refine ⟨k + 1, gv5, _, _, by go_num, by omega, HM5.out, ?_, HT.out.trans HT5.out, ?_⟩
          · rw [HP.out, pushAll_snoc, HPA.out]
          · rw [HP.out]
            intro q hq h0
            rcases List.mem_append.1 hq with hq | hq
            · exact HRO.out q hq h0
            · simp at hq; subst hq; exact HQ.out h0
        case measure => simp [intOf]; omega
      | false =>
        have HQ2 := Lib.hid hq
        have HQ : Hid (¬ ∃ q ∈ l, p = (q : Int)) := fun h => by rw [hasB_places.2 h] at hq; cases hq
        clear hq
        by_cases hp0 : p = 0
        · subst hp0
          go_wp2_with (first | (go_at_call 50; refine (search_any _ (intsOf l) _ _ HSE.out HRI.out).mono ?_; rintro e w5 ⟨i5, rfl, rfl⟩; rw [HQ2.out]) | (go_at_call 60; refine (push_any w _ (z + 1) 0 z (z + 1 + 1 + 1) gv gray S _ HMK.out HPI.out (by omega) (by omega)).mono ?_; rintro e w5 ⟨rfl, gv5, hM5, hT5⟩; have HM5 := Lib.hid hM5; have HT5 := Lib.hid hT5; clear hM5 hT5))
          go_roundw
          case rel =>
            refine ⟨k + 1, gv5, _, _, by go_num, by omega, HM5.out, ?_, HT.out.trans HT5.out, ?_⟩
            · rw [HP.out, pushAll_snoc, HPA.out]
            · rw [HP.out]
              intro q hq h0
              rcases List.mem_append.1 hq with hq | hq
              · exact HRO.out q hq h0
              · simp at hq; exact absurd hq h0
          case measure => simp [intOf]; omega
        · have hp1 : (p != 0) = true := by simpa using hp0
          have HE : Hid (RetReach w xs t roots (.returned (.tuple #[.slice none 0 0, .int .i64 4])) wr) :=
            ⟨HBW.out, .inr ⟨t, l, rfl, HI.out, .inl ⟨fun h => HQ.out (h p HPM.out hp0), rfl⟩⟩⟩
          clear hp0
          go_wp2_with (go_at_call 50; refine (search_any _ (intsOf l) _ _ HSE.out HRI.out).mono ?_; rintro e w5 ⟨i5, rfl, rfl⟩; rw [HQ2.out])
          go_ret2
          exact HE.out
    · obtain rfl : k = roots.length := by omega
      have HFI := Lib.hid (HF.out wr HBW.out)
      have h0 : wr.cell? ⟨w.heap.size, 0, none⟩ = some (.slice a xs.length c) := (World.cell?_of_block (a := ⟨w.heap.size, 0, none⟩) (HT.out.2.1 w.heap.size (by omega) (by omega) (by omega) (by simp [Value.ownBlock]))).trans HH0.out
      have h1 : wr.cell? ⟨w.heap.size, 1, none⟩ = some (.int .i64 (t : Int)) := (World.cell?_of_block (a := ⟨w.heap.size, 1, none⟩) (HT.out.2.1 w.heap.size (by omega) (by omega) (by omega) (by simp [Value.ownBlock]))).trans HH1.out
      have HGB : Hid (∀ k, gv.ownBlock = some k → z + 1 + 1 + 1 ≤ k) := fun k hk => (HMK.out.2.2.2.2.2.2.2.2.2.2.2.1.lt hk).1
      have HPT2 := Lib.hid hpt
      have hmf : ∀ (fn : Fn) (first cap : Array Value) (w : World), (Instr.makeFunc fn first cap).run Try.prog w = .ok (.func fn first cap) w := fun _ _ _ _ => rfl
      go_wp2_with (go_at_call 61; refine (look_any w _ (z + 1) 0 z (z + 1 + 1 + 1) gv (.slice a xs.length c) xs gray S t l.length l HMK.out HFI.out HI.out HGL.out (by omega) (by omega) (by omega) (fun e => by have := HA.out _ e; omega) (fun e => by have := HA.out _ e; omega) (fun k hk e => by have := HA.out _ hk; have := HGB.out _ e; omega)).mono ?_; rintro e w6 ⟨rfl, gv6, hM6, hT6⟩; have HM6 := Lib.hid hM6; have HT6 := Lib.hid (HT.out.trans hT6); clear hM6 hT6)
      have hmk6 := HM6.out
      obtain ⟨q1, q2, q3, q4, q5, q6, q7, q8, q9, q10, q11, q12, q13, q14⟩ := hmk6
      have HLV6 : Hid (OwnInts w6 (w.heap.size + 1) (.slice la l.length lc) (intsOf l)) := HT6.out.own HV3.out (fun e => by have := HLA.out _ e; omega) (fun e => by have := HLA.out _ e; omega) (fun k _ => by simp [Value.ownBlock])
      have hpt6 : w6.cell? ⟨z + 1 + 1, 0, none⟩ = some (.pointer (some ⟨z + 1, 0, none⟩)) := (World.cell?_of_block (a := ⟨z + 1 + 1, 0, none⟩) (HT6.out.2.1 (z + 1 + 1) (by omega) (by omega) (by omega) (by simp [Value.ownBlock]))).trans HPT.out
      have HZ6 := HT6.out.1
      have HSAY : Hid (Says 63 #[.pointer (some ⟨z + 1 + 1, 0, none⟩)] w6 (Value.slice la l.length lc).ownBlock (intsOf l) (fun x => !decide (x ∈ (lookF xs l.length (gray, S)).2))) := by
        intro w' x hg hx
        have hx64 : I64 x := HLV6.out.1.1 x hx
        have n1 : some (z + 1 + 1) ≠ (Value.slice la l.length lc).ownBlock := fun e => by have := HLA.out _ e.symm; omega
        have n2 : some (z + 1) ≠ (Value.slice la l.length lc).ownBlock := fun e => by have := HLA.out _ e.symm; omega
        have n3 : some z ≠ (Value.slice la l.length lc).ownBlock := fun e => by have := HLA.out _ e.symm; omega
        exact reachF_any w' (z + 1) 0 z (z + 1 + 1) _ _ x ((grown_cell hg (i := 0) (by omega) n1).1.trans hpt6) ((grown_cell hg (i := 0 + 1) (by omega) n2).1.trans q9) (q13.grown hg n3) hx64
      have HB6 := Lib.hid q14
      clear q1 q2 q3 q4 q5 q6 q7 q8 q9 q10 q11 q12 q13 q14 hpt6 h0 h1 hpt
      go_wp2_with (go_at_call 62; refine (deleteFunc_any 63 _ (fun _ _ => by kernel_rfl) _ _ _ _ _ HLV6.out HSAY.out).mono ?_; rintro e w7 ⟨v7, rfl, hv7, hg7, hb7⟩; have HV7 := Lib.hid hv7; have HG7 := Lib.hid hg7; clear hv7 hg7 hb7)
      go_ret2
      refine ⟨HB6.out.grown HG7.out HB6.out.size (fun j hj => by have := HLA.out _ hj; omega), .inr ⟨t, l, rfl, HI.out, .inr ⟨by have := HRO.out; rwa [List.take_length] at this, v7, rfl, ?_⟩⟩⟩
      have := HV7.out.mono (base' := w.heap.size) (by omega)
      have e1 := HPA.out
      rw [List.take_length] at e1
      have e2 : (intsOf l).filter (fun x => !(fun x => !decide (x ∈ (lookF xs l.length (gray, S)).2)) x) = (intsOf l).filter (fun x => decide (x ∈ seenAll xs l roots)) := by
        simp only [Bool.not_not, seenAll, e1]
      rwa [e2] at this

set_option maxHeartbeats 400000 in
theorem reach_any (v rv : Value) (xs roots : List Int) (top : Int) (w : World) (h : Ints w v xs) (hr : Ints w rv roots) :
    Calls Try.prog 30 #[.agg #[v, .int .i64 top], rv] w (RetReach w xs top roots) := by
  by_cases hok : HeapOk xs top
  · obtain ⟨t, l, rfl, his⟩ := hok
    exact reach_ok v rv xs roots t l w h hr his
  · obtain ⟨a, c, rfl, hc, hcm, _⟩ := h.len
    have HF : Hid (∀ w2, Below w.heap.size w w2 → Ints w2 (.slice a xs.length c) xs) := fun w2 hb2 => h.below (Nat.le_refl _) hb2
    have HN := Lib.hid hok
    clear h hr hok
    go_enter Try.func30, Try.ntmps30
    go_wp2_with (go_at_call 18; refine (Places_any _ xs _ _ (HF.out _ (by repeat (first | exact Below.refl _ _ | with_reducible refine below_drewN ?_ _ | with_reducible refine Below.drew ?_ | with_reducible refine Below.alloc ?_ (by first | exact Nat.le_refl _ | (simp; done) | omega | (simp; omega)) _ | with_reducible refine Below.setCell ?_ (by first | exact Nat.le_refl _ | (simp; done) | omega | (simp; omega)) _)))).mono ?_; rintro e w1 ⟨hb, ⟨t', l', la, lc, ht, hi, rfl, hv⟩ | ⟨hno, rfl⟩⟩; (exact absurd ⟨t', l', ht, hi⟩ HN.out); have HB := Lib.hid hb; clear hb)
    go_ret2
    exact ⟨(by repeat (first | exact Below.refl _ _ | with_reducible refine Below.trans ?_ (Below.mono HB.out (by first | exact Nat.le_refl _ | (simp; done) | omega | (simp; omega) | (have z0 := Below.size HB.out; omega) | (have z0 := Below.size HB.out; simp at *; omega))) | with_reducible refine below_drewN ?_ _ | with_reducible refine Below.drew ?_ | with_reducible refine Below.alloc ?_ (by first | exact Nat.le_refl _ | (simp; done) | omega | (simp; omega) | (have z0 := Below.size HB.out; omega) | (have z0 := Below.size HB.out; simp at *; omega)) _ | with_reducible refine Below.setCell ?_ (by first | exact Nat.le_refl _ | (simp; done) | omega | (simp; omega) | (have z0 := Below.size HB.out; omega) | (have z0 := Below.size HB.out; simp at *; omega)) _)), .inl ⟨HN.out, rfl⟩⟩
end Go.Proofs.Ytbeilcaadpopmab
