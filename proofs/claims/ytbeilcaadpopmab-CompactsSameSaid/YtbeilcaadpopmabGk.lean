/- Walk: (*gc.Marker).Look. -/
import Derived.Test.YtbeilcaadpopmabGl
import Derived.Test.YtbeilcaadpopmabWa
import Derived.Test.YtbeilcaadpopmabRg
set_option linter.unusedVariables false
set_option linter.unusedSimpArgs false
namespace Go.Proofs.Ytbeilcaadpopmab
open Go.RowKit

/-- A slice beside the marker's own blocks reads on as it did. -/
theorem Turned.ints {w w' : World} {M o B : Nat} {g g' v : Value} {xs : List Int} (h : Turned w w' M o B g g') (hv : Ints w v xs) (h1 : v.ownBlock ≠ some M) (h2 : v.ownBlock ≠ some B) (h3 : ∀ k, v.ownBlock = some k → g.ownBlock ≠ some k) : Ints w' v xs := by
  refine ⟨hv.1, hv.2.1, hv.2.2.1, ?_⟩
  obtain ⟨a, cap, e, q1, q2, q3, q4⟩ := hv.2.2.2
  refine ⟨a, cap, e, q1, q2, q3, fun hn => ?_⟩
  obtain ⟨b, o', ea, hb, hc⟩ := q4 hn
  subst ea
  subst e
  have e1 : w'.heap[b]? = w.heap[b]? := h.2.1 b hb (fun e => h1 (by rw [← e]; rfl)) (fun e => h2 (by rw [← e]; rfl)) (h3 b rfl)
  refine ⟨b, o', rfl, Nat.lt_of_lt_of_le hb h.1, fun i hi => ?_⟩
  rw [World.cell?_of_block (w := w) (a := ⟨b, o' + i, none⟩) e1]
  exact hc i hi

theorem Mk.draw {w0 w : World} {M o B base : Nat} {gv : Value} {gray S : List Int} (h : Mk w0 w M o B base gv gray S) (k : Nat) : Mk w0 (w.drewN k) M o B base gv gray S := by
  obtain ⟨m1, m2, m3, m4, m6, m7, m8, c0, c1, z0, z1, hG, hS, hb⟩ := h
  exact ⟨m1, m2, m3, m4, m6, m7, m8, c0, c1, z0, z1, hG, hS, below_drewN hb k⟩
theorem Mk.below {w0 w w' : World} {M o B base : Nat} {gv : Value} {gray S : List Int} (h : Mk w0 w M o B base gv gray S) (k : Below w.heap.size w w') : Mk w0 w' M o B base gv gray S := by
  obtain ⟨m1, m2, m3, m4, m6, m7, m8, c0, c1, z0, z1, hG, hS, hb⟩ := h
  have hM := World.block_lt_of_cell? w _ c0
  exact ⟨m1, m2, m3, m4, Nat.le_trans m6 k.size, m7, m8, (k.cell (p := ⟨M, o, none⟩) hM).trans c0, (k.cell (p := ⟨M, o + 1, none⟩) hM).trans c1, (k.frozen (p := ⟨M, o, none⟩) hM).trans z0, (k.frozen (p := ⟨M, o + 1, none⟩) hM).trans z1,
    hG.below k, hS.below k, hb.trans (k.mono hb.size)⟩
theorem Turned.below {w w' w'' : World} {M o B : Nat} {g g' : Value} (h : Turned w w' M o B g g') (k : Below w'.heap.size w' w'') (hM : M < w'.heap.size) : Turned w w'' M o B g g' := by
  obtain ⟨a1, a2, a3, a4, a5⟩ := h
  exact ⟨Nat.le_trans a1 k.size, fun i hi h1 h2 h3 => (k.block i (by omega)).trans (a2 i hi h1 h2 h3), a3, fun i hi => (k.cell (p := ⟨M, i, none⟩) hM).trans (a4 i hi), fun i => (k.frozen (p := ⟨M, i, none⟩) hM).trans (a5 i)⟩
/-- The last gray place is taken off. -/
theorem Mk.popped {w0 w : World} {M o B base k c g : Nat} {gray S : List Int} {p : Int} (h : Mk w0 w M o B base (.slice (some ⟨g, 0, none⟩) k c) (gray ++ [p]) S) :
    Mk w0 (w.setCell ⟨M, o, none⟩ (.slice (some ⟨g, 0, none⟩) gray.length c)) M o B base (.slice (some ⟨g, 0, none⟩) gray.length c) gray S ∧
      Turned w (w.setCell ⟨M, o, none⟩ (.slice (some ⟨g, 0, none⟩) gray.length c)) M o B (.slice (some ⟨g, 0, none⟩) k c) (.slice (some ⟨g, 0, none⟩) gray.length c) := by
  obtain ⟨m1, m2, m3, m4, m6, m7, m8, c0, c1, z0, z1, hG, hS, hb⟩ := h
  have hG2 := hG.take (k := gray.length) (by simp)
  rw [show (gray ++ [p]).take gray.length = gray by simp] at hG2
  refine ⟨⟨m1, m2, m3, m4, by simp [World.setCell]; exact m6, m7, m8, World.cell?_setCell_same _ _ _ c0, ?_, ?_, ?_, hG2.setFar (a := ⟨M, o, none⟩) m8 _, hS.setCell (by exact m3) _, hb.setCell (by exact m2) _⟩, by simp [World.setCell], ?_, fun _ _ h => h, ?_, fun i => frozen_setCell_any _ _ _ _⟩
  · rw [World.cell?_setCell_other _ _ _ _ (by simp)]; exact c1
  · rw [frozen_setCell_any]; exact z0
  · rw [frozen_setCell_any]; exact z1
  · intro i hi h1 h2 h3
    exact Below.heap_setCell _ _ _ _ (by exact h1)
  · intro i hi
    rw [World.cell?_setCell_other _ _ _ _ (by simp only [ne_eq, Addr.mk.injEq]; omega)]
theorem Turned.draw {w w' : World} {M o B : Nat} {g g' : Value} (h : Turned w w' M o B g g') (k : Nat) : Turned w (w'.drewN k) M o B g g' := h
theorem OwnInts.draw {w : World} {base : Nat} {v : Value} {xs : List Int} (h : OwnInts w base v xs) (k : Nat) : OwnInts (w.drewN k) base v xs := h

/-- What Look's outer loop knows. -/
def LookInv (w0 w : World) (M o B base : Nat) (gv0 hv : Value) (t m : Nat) (xs : List Int) (l : List Nat) (s : List Int × List Int) (u : Value) (wr : World) : Prop :=
  ∃ gv gray S r, u = .int .i64 (r : Nat) ∧ r ≤ m ∧ Mk w0 wr M o B base gv gray S ∧ lookF xs r (gray, S) = s ∧ gray.length + 6 * r ≤ 1000 + 6 * m ∧ S.length + 6 * r ≤ 1000 + 6 * m ∧ (∀ x ∈ gray, ∃ q ∈ l, x = (q : Int)) ∧
    Turned (w.alloc (.cells #[hv, .int .i64 (t : Int)] 25)) wr M o B gv0 gv

def RetLook (w0 w : World) (M o B base : Nat) (gv : Value) (s : List Int × List Int) (e : Ending) (w' : World) : Prop :=
  e = .returned (.tuple #[]) ∧ ∃ gv', Mk w0 w' M o B base gv' s.1 s.2 ∧ Turned w w' M o B gv gv'

set_option maxRecDepth 100000 in
set_option maxHeartbeats 1000000 in
theorem look_any (w0 w : World) (M o B base : Nat) (gv0 hv : Value) (xs gray0 S0 : List Int) (t m : Nat) (l : List Nat) (h : Mk w0 w M o B base gv0 gray0 S0) (hx : Ints w hv xs) (his : HeapIs xs t l)
    (hg : ∀ x ∈ gray0, ∃ q ∈ l, x = (q : Int)) (hm : m ≤ 400) (hn : S0.length ≤ 1000) (hl : gray0.length ≤ 1000) (hs1 : hv.ownBlock ≠ some M) (hs2 : hv.ownBlock ≠ some B) (hs3 : ∀ k, hv.ownBlock = some k → gv0.ownBlock ≠ some k) :
    Calls Try.prog 61 #[.pointer (some ⟨M, o, none⟩), .agg #[hv, .int .i64 t], .int .i64 m] w (RetLook w0 w M o B base gv0 (lookF xs m (gray0, S0))) := by
  have HX : Hid (∀ wr gv, Turned (w.alloc (.cells #[hv, .int .i64 (t : Int)] 25)) wr M o B gv0 gv → Ints wr hv xs) := fun wr gv ht => ht.ints (hx.below (Nat.le_refl _) ((Below.refl _ _).alloc (Nat.le_refl _) _)) hs1 hs2 hs3
  obtain ⟨a, c, rfl, hc, hcm, _⟩ := hx.len
  have i1 := his.1
  have i3 := his.2.2.1
  have HIS := Lib.hid his
  have hMs0 : M < w.heap.size := World.block_lt_of_cell? w _ h.2.2.2.2.2.2.2.1
  have hBs0 : B < w.heap.size := h.2.2.2.2.2.2.2.2.2.2.2.2.1.lt
  have hgH : gv0.ownBlock ≠ some w.heap.size := fun e => by have := (h.2.2.2.2.2.2.2.2.2.2.2.1.lt e).2; omega
  have HGH := Lib.hid hgH
  have HST : Hid (Turned w (w.alloc (.cells #[.slice a xs.length c, .int .i64 (t : Int)] 25)) M o B gv0 gv0) := by
    refine ⟨by simp, fun k hk _ _ _ => Below.heap_alloc _ _ _ hk, fun _ _ h => h, fun i _ => ?_, fun i => ?_⟩
    · exact Below.cell ((Below.refl w.heap.size w).alloc (Nat.le_refl _) _) hMs0
    · exact Below.frozen ((Below.refl w.heap.size w).alloc (Nat.le_refl _) _) hMs0
  have HSTART : Hid (LookInv w0 w M o B base gv0 (.slice a xs.length c) t m xs l (lookF xs m (gray0, S0)) (.int .i64 (m : Int)) (w.alloc (.cells #[.slice a xs.length c, .int .i64 (t : Int)] 25))) := by
    obtain ⟨m1, m2, m3, m4, m6, m7, m8, c0, c1, z0, z1, hG, hS, hb⟩ := h
    refine ⟨gv0, gray0, S0, m, rfl, Nat.le_refl _, ⟨m1, m2, m3, m4, by simp; omega, m7, m8, ?_, ?_, ?_, ?_, hG.below (Below.alloc (Below.refl _ _) (Nat.le_refl _) _), hS.below (Below.alloc (Below.refl _ _) (Nat.le_refl _) _), hb.alloc hb.size _⟩, rfl, by omega, by omega, hg, Turned.refl _ _ _ _ _⟩
    · simp [go_sem, hMs0]; exact c0
    · simp [go_sem, hMs0]; exact c1
    · simp [go_sem, hMs0]; exact z0
    · simp [go_sem, hMs0]; exact z1
  clear h hx his hs1 hs2 hs3 hgH hg
  go_enter Try.func61, Try.ntmps61
  go_wp2_with fail
  go_loopw [2] (fun u wr => LookInv w0 w M o B base gv0 (.slice a xs.length c) t m xs l (lookF xs m (gray0, S0)) u wr) (fun u _ => (intOf u).toNat)
  case atStart => exact HSTART.out
  case round =>
    obtain ⟨gv, gray, S, r, rfl, hrm, hMk, hF, k1, k2, hg, hT⟩ := hrel
    have hsz := hT.1
    rw [World.size_alloc] at hsz
    have hMs : M < wr.heap.size := by omega
    have HMK := Lib.hid hMk; have HF := Lib.hid hF; have HGR := Lib.hid hg; have HT := Lib.hid hT
    obtain ⟨m1, m2, m3, m4, m6, m7, m8, c0, c1, z0, z1, hG, hS, hb⟩ := hMk
    obtain ⟨ga, gc, rfl⟩ := hG.shape
    have HG := Lib.hid hG; have HS := Lib.hid hS; have HB := Lib.hid hb
    have x0 : wr.cell? ⟨w.heap.size, 0, none⟩ = some (.slice a xs.length c) := (World.cell?_of_block (a := ⟨w.heap.size, 0, none⟩) (hT.2.1 w.heap.size (by simp) (by omega) (by omega) HGH.out)).trans (by simp)
    have x1 : wr.cell? ⟨w.heap.size, 1, none⟩ = some (.int .i64 (t : Int)) := (World.cell?_of_block (a := ⟨w.heap.size, 1, none⟩) (hT.2.1 w.heap.size (by simp) (by omega) (by omega) HGH.out)).trans (by simp)
    have HM7 := Lib.hid m7; have HM8 := Lib.hid m8
    clear hG hS hb hF hg hT m1 m2 m3 m4 m6 m7 m8
    by_cases hr : 0 < r
    · by_cases hgl : 0 < gray.length
      · obtain ⟨g', p, hp, rfl⟩ : ∃ (g' : List Int) (p : Nat), p ∈ l ∧ gray = g' ++ [(p : Int)] := by
          rcases List.eq_nil_or_concat gray with e | ⟨g', x, e⟩
          · rw [e] at hgl; simp at hgl
          · rw [List.concat_eq_append] at e
            obtain ⟨q, hq, e2⟩ := HGR.out x (by rw [e]; simp)
            exact ⟨g', q, hq, by rw [e, e2]⟩
        obtain ⟨r, rfl⟩ : ∃ k, r = k + 1 := ⟨r - 1, by omega⟩
        obtain ⟨ho1, ho2, ho3, ho4⟩ := places_obj HIS.out.2.2.2.1 p hp
        have hxi := HX.out wr _ HT.out
        obtain ⟨b, bo, rfl, hbs, hcell⟩ := hxi.at (by omega)
        clear hxi
        obtain ⟨g, rfl, hg1, hg2, hgc, _⟩ := HG.out.spot (by simp)
        have hgl := hgc g'.length (by simp)
        rw [show (g' ++ [(p : Int)]).getD g'.length 0 = (p : Int) by simp [List.getD]] at hgl
        clear hgc
        obtain ⟨ga', gc', e', hgc1, hgc2, _⟩ := HG.out.ints.len
        simp only [Value.slice.injEq] at e'
        obtain ⟨e1, e2, rfl⟩ := e'
        clear e1 e2
        rw [show (g' ++ [(p : Int)]).length = g'.length + 1 by simp] at c0 k1 HG hgc1 HM7 HM8 HT
        have hcn := hcell (p + 1) (by omega)
        rw [ho2] at hcn
        obtain ⟨d, hd⟩ : ∃ d, d = nf xs p := ⟨_, rfl⟩
        rw [← hd] at ho3 ho4 hcn
        have HD := Lib.hid hd; have HP := Lib.hid hp
        clear hd hp ho2 hcell
        rw [show ((r + 1 : Nat) : Int) = (r : Int) + 1 by omega]
        go_wp2_with fail
        go_quiet (fail)
        go_wp2_with fail
        have HMK2 := Lib.hid (HMK.out.draw (nq + 1)); have HT2 := Lib.hid (HT.out.draw (nq + 1)); have HG2 := Lib.hid (HG.out.draw (nq + 1))
        have c0' : (wr.drewN (nq + 1)).cell? ⟨M, o, none⟩ = some (.slice (some ⟨g, 0, none⟩) (g'.length + 1) gc) := c0
        have z0' : (wr.drewN (nq + 1)).frozen? ⟨M, o, none⟩ = false := z0
        have x0' : (wr.drewN (nq + 1)).cell? ⟨w.heap.size, 0, none⟩ = some (.slice (some ⟨b, bo, none⟩) xs.length c) := x0
        have hcn' : (wr.drewN (nq + 1)).cell? ⟨b, bo + (p + 1), none⟩ = some (.int .i64 (d : Int)) := hcn
        have hgc3 : g'.length ≤ gc := by omega
        have hwr : IntKind.i64.wrap (g'.length : Int) = (g'.length : Int) := IntWalk.i64_in _ (by omega)
        clear c0 c1 z0 z1 x0 x1 hcn hgl HMK HT HG HS HB hg2 hbs hMs hsz
        obtain ⟨w2, hw2⟩ : ∃ w2, w2 = wr.drewN (nq + 1) := ⟨_, rfl⟩
        rw [← hw2] at HMK2 HT2 HG2 c0' z0' x0' hcn'
        refine still_tail_at 14 (by kernel_rfl) (by kernel_rfl) hw2 ?_
        simp only [List.take_succ_cons, List.take_zero, List.drop_succ_cons, List.drop_zero]
        clear hw2
        repeat still_step
        refine wpStill_nil ?_
        go_wp2_with fail
        obtain ⟨w3, hw3⟩ : ∃ w3, w3 = w2.setCell ⟨M, o, none⟩ (.slice (some ⟨g, 0, none⟩) g'.length gc) := ⟨_, rfl⟩
        obtain ⟨hMK3, hT3⟩ := HMK2.out.popped
        rw [← hw3] at hMK3 hT3
        have HMK3 := Lib.hid hMK3; have HT3 := Lib.hid (HT2.out.trans hT3)
        rw [← hw3]
        clear hMK3 hT3 hw3 HMK2 HT2 c0' z0' x0' hcn' HM7 HM8 HG2 hg1 hgc1 hgc2 hgc3 hwr
        have HCELL : Hid (∀ wr gv, Turned (w.alloc (.cells #[.slice (some ⟨b, bo, none⟩) xs.length c, .int .i64 (t : Int)] 25)) wr M o B gv0 gv → wr.cell? ⟨w.heap.size, 0, none⟩ = some (.slice (some ⟨b, bo, none⟩) xs.length c)) :=
          fun wr gv hT => (World.cell?_of_block (a := ⟨w.heap.size, 0, none⟩) (hT.2.1 w.heap.size (by simp) (by omega) (by omega) HGH.out)).trans (by simp)
        have HWORD : Hid (∀ wr gv, Turned (w.alloc (.cells #[.slice (some ⟨b, bo, none⟩) xs.length c, .int .i64 (t : Int)] 25)) wr M o B gv0 gv → ∀ i, i < xs.length → wr.cell? ⟨b, bo + i, none⟩ = some (.int .i64 (xs.getD i 0))) := by
          intro wr gv hT i hi
          obtain ⟨b', bo', e, _, hc⟩ := (HX.out wr gv hT).at (by omega)
          simp only [Option.some.injEq, Addr.mk.injEq] at e
          obtain ⟨rfl, rfl, _⟩ := e
          exact hc i hi
        have x0 := HCELL.out w3 _ HT3.out
        have hcn := HWORD.out w3 _ HT3.out (p + 1) (by omega)
        rw [(places_obj HIS.out.2.2.2.1 p HP.out).2.1, ← HD.out] at hcn
        have b1 : p + 2 + d ≤ c := by omega
        have b2 : p + 2 ≤ c := by omega
        have b3 : p + 1 < xs.length := by omega
        have HFL : Hid (fieldsOf xs p = (xs.drop (p + 2)).take d) := by rw [Hid, fieldsOf, HD.out]
        have HROUND : Hid (∀ wq gv2 gray2 S2, Mk w0 wq M o B base gv2 gray2 S2 → Turned (w.alloc (.cells #[.slice (some ⟨b, bo, none⟩) xs.length c, .int .i64 (t : Int)] 25)) wq M o B gv0 gv2 → (fieldsOf xs p).foldl seeW (g', S) = (gray2, S2) → gray2.length ≤ g'.length + d → S2.length ≤ S.length + d → (∀ x ∈ gray2, ∃ q ∈ l, x = (q : Int)) →
            LookInv w0 w M o B base gv0 (.slice (some ⟨b, bo, none⟩) xs.length c) t m xs l (lookF xs m (gray0, S0)) (.int .i64 (r : Int)) wq) := by
          intro wq gv2 gray2 S2 q1 q2 q3 q4 q5 q6
          refine ⟨gv2, gray2, S2, r, rfl, by omega, q1, ?_, by omega, by omega, q6, q2⟩
          rw [← HF.out, lookF, if_neg (by simp)]
          show lookF xs r (gray2, S2) = lookF xs r ((fieldsOf xs ((g' ++ [(p : Int)]).getLastD 0).toNat).foldl seeW ((g' ++ [(p : Int)]).dropLast, S))
          rw [show (g' ++ [(p : Int)]).getLastD 0 = (p : Int) by simp, show (g' ++ [(p : Int)]).dropLast = g' by simp, Int.toNat_natCast, q3]
        have HGR3 : Hid (∀ x ∈ g', ∃ q ∈ l, x = (q : Int)) := fun x hx => HGR.out x (by simp [hx])
        by_cases hcp : c = p + 2
        · have hd0 : d = 0 := by omega
          subst hd0
          have HEND := Lib.hid (HROUND.out w3 _ _ _ HMK3.out HT3.out (by rw [HFL.out]; simp) (by omega) (by omega) HGR3.out)
          subst hcp
          go_quiet (fail)
          go_wp2_with fail
          go_loop [63] (fun u => u = .int .i64 0) (fun _ => 0)
          case atStart => rfl
          case round =>
            subst hrel
            go_wp2_with fail
            go_roundw
            case rel =>
              obtain ⟨gv2, gray2, S2, r2, e1, q1, q2, q3, q4, q5, q6, q7⟩ := HEND.out
              exact ⟨gv2, gray2, S2, r2, e1, q1, q2.draw _, q3, q4, q5, q6, q7⟩
            case measure => simp [intOf]
        · go_quiet (fail)
          go_wp2_with fail
          rw [Nat.add_sub_cancel_left]
          go_loopw [63] (fun u wq => ∃ (j : Nat) (gv2 : Value) (gray2 S2 : List Int), u = .int .i64 j ∧ j ≤ d ∧ Mk w0 wq M o B base gv2 gray2 S2 ∧ Turned (w.alloc (.cells #[.slice (some ⟨b, bo, none⟩) xs.length c, .int .i64 (t : Int)] 25)) wq M o B gv0 gv2 ∧ ((fieldsOf xs p).take j).foldl seeW (g', S) = (gray2, S2) ∧ gray2.length ≤ g'.length + j ∧ S2.length ≤ S.length + j ∧ (∀ x ∈ gray2, ∃ q ∈ l, x = (q : Int))) (fun u _ => d - (intOf u).toNat)
          case atStart => exact ⟨0, _, _, _, rfl, Nat.zero_le _, HMK3.out.draw _, HT3.out, by simp, by omega, by omega, HGR3.out⟩
          case round =>
            obtain ⟨j, gv2, gray2, S2, rfl, hj, hMK4, hT4, hf4, q4, q5, hg4⟩ := hrel
            have HMK4 := Lib.hid hMK4; have HT4 := Lib.hid hT4; have HF4 := Lib.hid hf4; have HG4 := Lib.hid hg4
            clear hMK4 hT4 hf4 hg4 x0 hcn
            by_cases hjd : j < d
            · have hw0 := HWORD.out wr gv2 HT4.out (p + 2 + j) (by omega)
              rw [show bo + (p + 2 + j) = bo + (p + 2) + j by omega] at hw0
              have hrng := (HX.out wr gv2 HT4.out).range (p + 2 + j)
              obtain ⟨x, hx⟩ : ∃ x, x = xs.getD (p + 2 + j) 0 := ⟨_, rfl⟩
              rw [← hx] at hw0 hrng
              obtain ⟨hr1, hr2⟩ := hrng
              have HSNOC : Hid ((fieldsOf xs p).take (j + 1) = (fieldsOf xs p).take j ++ [x]) := by
                rw [Hid, HFL.out, List.take_take, List.take_take, Nat.min_eq_left (by omega), Nat.min_eq_left (by omega), List.take_succ_eq_append_getElem (by simp; omega)]
                congr 2
                rw [hx, List.getElem_drop, List.getD_eq_getElem?_getD, List.getElem?_eq_getElem (by omega)]
                rfl
              have HFX : Hid (((fieldsOf xs p).take (j + 1)).foldl seeW (g', S) = seeW (gray2, S2) x) := by rw [Hid, HSNOC.out, List.foldl_append, HF4.out]; rfl
              have HWK : Hid (WordOk l x) := by rw [Hid, hx]; exact (HIS.out.2.2.2.2.1 p HP.out).2.2 j (by rw [← HD.out]; exact hjd)
              clear hx
              have hMw : M < wr.heap.size := World.block_lt_of_cell? wr _ HMK4.out.2.2.2.2.2.2.2.1
              by_cases hodd : x % 2 = 1
              · have hk : ofK x = 1 := hodd
                have hk2 : (ofK x == 1) = true := by rw [hk]; rfl
                have HWO : Hid (x / 2 ≠ 0 → ∃ q ∈ l, x / 2 = (q : Int)) := fun h => HWK.out.2 hodd (by omega)
                have HFX2 : Hid (seeW (gray2, S2) x = (pushG (ofN x) gray2 S2, pushS (ofN x) S2)) := by rw [Hid, seeW, if_pos hodd]; rfl
                have HN : Hid (ofN x = x / 2) := rfl
                have HI : Hid (I64 (ofN x)) := by unfold Hid ofN I64; omega
                have HODD := Lib.hid hodd
                clear hodd hk
                go_wp2_with (first | (go_at_call 37; refine (of_any x _ hr1 hr2).mono ?_; rintro e w4 ⟨rfl, hb4⟩; have HB4 := Lib.hid hb4; clear hb4) | (go_at_call 60; refine (push_any w0 _ M o B base gv2 gray2 S2 _ (HMK4.out.below (by repeat (first | exact Below.refl _ _ | with_reducible refine Below.trans ?_ (Below.mono HB4.out (by first | exact Nat.le_refl _ | (simp; done) | omega | (simp; omega) | (have z0 := Below.size HB4.out; omega) | (have z0 := Below.size HB4.out; simp at *; omega))) | with_reducible refine below_drewN ?_ _ | with_reducible refine Below.drew ?_ | with_reducible refine Below.alloc ?_ (by first | exact Nat.le_refl _ | (simp; done) | omega | (simp; omega) | (have z0 := Below.size HB4.out; omega) | (have z0 := Below.size HB4.out; simp at *; omega)) _ | with_reducible refine Below.setCell ?_ (by first | exact Nat.le_refl _ | (simp; done) | omega | (simp; omega) | (have z0 := Below.size HB4.out; omega) | (have z0 := Below.size HB4.out; simp at *; omega)) _))) HI.out (by omega) (by omega)).mono ?_; rintro e w5 ⟨rfl, gv5, hM5, hT5⟩; have HM5 := Lib.hid hM5; have HT5 := Lib.hid hT5; clear hM5 hT5))
                go_roundw
                case rel =>
                  refine ⟨j + 1, gv5, _, _, by go_num, by omega, HM5.out, (HT4.out.below (by repeat (first | exact Below.refl _ _ | with_reducible refine Below.trans ?_ (Below.mono HB4.out (by first | exact Nat.le_refl _ | (simp; done) | omega | (simp; omega) | (have z0 := Below.size HB4.out; omega) | (have z0 := Below.size HB4.out; simp at *; omega))) | with_reducible refine below_drewN ?_ _ | with_reducible refine Below.drew ?_ | with_reducible refine Below.alloc ?_ (by first | exact Nat.le_refl _ | (simp; done) | omega | (simp; omega) | (have z0 := Below.size HB4.out; omega) | (have z0 := Below.size HB4.out; simp at *; omega)) _ | with_reducible refine Below.setCell ?_ (by first | exact Nat.le_refl _ | (simp; done) | omega | (simp; omega) | (have z0 := Below.size HB4.out; omega) | (have z0 := Below.size HB4.out; simp at *; omega)) _)) hMw).trans HT5.out, by rw [HFX.out, HFX2.out], ?_, ?_, ?_⟩
                  · unfold pushG; split <;> (try rw [List.length_append, List.length_singleton]) <;> omega
                  · unfold pushS; split <;> (try rw [List.length_cons]) <;> omega
                  · intro y hy
                    unfold pushG at hy
                    split at hy
                    · exact HG4.out y hy
                    · rename_i hno
                      rcases List.mem_append.1 hy with hy | hy
                      · exact HG4.out y hy
                      · simp at hy
                        subst hy
                        exact HWO.out (fun e => hno (.inl e))
                case measure => simp [intOf]; omega
              · have hk : ofK x = 0 := by unfold ofK; omega
                have hk2 : (ofK x == 1) = false := by rw [hk]; rfl
                have HFX2 : Hid (seeW (gray2, S2) x = (gray2, S2)) := by rw [Hid, seeW, if_neg hodd]
                clear hodd hk
                go_wp2_with (go_at_call 37; refine (of_any x _ hr1 hr2).mono ?_; rintro e w4 ⟨rfl, hb4⟩; have HB4 := Lib.hid hb4; clear hb4)
                go_roundw
                case rel =>
                  exact ⟨j + 1, gv2, _, _, by go_num, by omega, (HMK4.out.below (by repeat (first | exact Below.refl _ _ | with_reducible refine Below.trans ?_ (Below.mono HB4.out (by first | exact Nat.le_refl _ | (simp; done) | omega | (simp; omega) | (have z0 := Below.size HB4.out; omega) | (have z0 := Below.size HB4.out; simp at *; omega))) | with_reducible refine below_drewN ?_ _ | with_reducible refine Below.drew ?_ | with_reducible refine Below.alloc ?_ (by first | exact Nat.le_refl _ | (simp; done) | omega | (simp; omega) | (have z0 := Below.size HB4.out; omega) | (have z0 := Below.size HB4.out; simp at *; omega)) _ | with_reducible refine Below.setCell ?_ (by first | exact Nat.le_refl _ | (simp; done) | omega | (simp; omega) | (have z0 := Below.size HB4.out; omega) | (have z0 := Below.size HB4.out; simp at *; omega)) _))), HT4.out.below (by repeat (first | exact Below.refl _ _ | with_reducible refine Below.trans ?_ (Below.mono HB4.out (by first | exact Nat.le_refl _ | (simp; done) | omega | (simp; omega) | (have z0 := Below.size HB4.out; omega) | (have z0 := Below.size HB4.out; simp at *; omega))) | with_reducible refine below_drewN ?_ _ | with_reducible refine Below.drew ?_ | with_reducible refine Below.alloc ?_ (by first | exact Nat.le_refl _ | (simp; done) | omega | (simp; omega) | (have z0 := Below.size HB4.out; omega) | (have z0 := Below.size HB4.out; simp at *; omega)) _ | with_reducible refine Below.setCell ?_ (by first | exact Nat.le_refl _ | (simp; done) | omega | (simp; omega) | (have z0 := Below.size HB4.out; omega) | (have z0 := Below.size HB4.out; simp at *; omega)) _)) hMw, by rw [HFX.out, HFX2.out], by omega, by omega, HG4.out⟩
                case measure => simp [intOf]; omega
            · have HEND := Lib.hid (HROUND.out wr _ _ _ HMK4.out HT4.out (by rw [← HF4.out, List.take_of_length_le (by rw [HFL.out]; simp; omega)]) (by omega) (by omega) HG4.out)
              go_wp2_with fail
              go_roundw
              case rel => exact HEND.out
              case measure => simp [intOf]
      · have HE : Hid (gray = []) := List.length_eq_zero_iff.1 (by omega)
        have HEND : Hid (RetLook w0 w M o B base gv0 (lookF xs m (gray0, S0)) (.returned (.tuple #[])) wr) := by
          refine ⟨rfl, .slice ga gray.length gc, ?_, HST.out.trans HT.out⟩
          rw [← HF.out]
          have h2 := HMK.out
          rw [HE.out] at h2 ⊢
          rw [lookF_nil]
          exact h2
        clear HMK
        go_wp2
        exact bodyPost_end (results_none rfl _ _ _) rfl HEND.out
    · have HE : Hid (r = 0) := by show r = 0; omega
      have HEND : Hid (RetLook w0 w M o B base gv0 (lookF xs m (gray0, S0)) (.returned (.tuple #[])) wr) := by
        refine ⟨rfl, .slice ga gray.length gc, ?_, HST.out.trans HT.out⟩
        rw [← HF.out, HE.out]
        exact HMK.out
      clear HMK
      go_wp2
      exact bodyPost_end (results_none rfl _ _ _) rfl HEND.out
end Go.Proofs.Ytbeilcaadpopmab
