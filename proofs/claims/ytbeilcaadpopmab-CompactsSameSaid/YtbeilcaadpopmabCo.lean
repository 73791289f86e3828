/- Walk: the reference's ClosedOf. -/
import Derived.Test.YtbeilcaadpopmabCp
import Derived.Test.YtbeilcaadpopmabGs
set_option linter.unusedVariables false
set_option linter.unusedSimpArgs false
namespace Go.Proofs.Ytbeilcaadpopmab
open Go.RowKit

theorem grown_new {a b c : World} {row row2 : Option Nat} (h : a.grownBy b row) (k : b.grownBy c row2) (hr : ∀ j, row2 = some j → a.heap.size ≤ j) : a.grownBy c row :=
  ⟨k.os.trans h.os, k.tape.trans h.tape, k.output.trans h.output, Nat.le_trans h.size k.size, fun i hi hne => (k.block i (Nat.lt_of_lt_of_le hi h.size) (fun e => by have := hr _ e.symm; omega)).trans (h.block i hi hne)⟩
theorem grown_below {a b c : World} {row : Option Nat} (h : a.grownBy b row) (k : Below b.heap.size b c) : a.grownBy c row := grown_tr h (grownBy_of_below (B := 0) k row)

/-- 'append(moves, m)' as a step of a region that draws its order. -/
theorem step_append_move {ops : Array Oper} {o : Oper} {a : Act} {w : World} {K : Act → World → Prop} {Q : Exit → Act → World → Prop} {E : Prop} (hg : o.guard = none) (s x : Operand)
    (ho : o.op = .call { callee := .builtin .append, args := #[s, x], argTypes := #[53, 53] }) (base : Nat) (v : Value) (ms : List (Nat × Nat)) (hs : a.eval s = v) (hown : OwnMoves w base v ms)
    (sv : Value) (p t : Nat) (hx : a.eval x = sv) (hy : Row w sv 1 2 (cellsM [(p, t)])) (hlen : ms.length < 900000) (hbase : base ≤ w.heap.size)
    (h : ∀ v' w', OwnMoves w' base v' (ms ++ [(p, t)]) → w.grownBy w' v.ownBlock → K (a.put o.dst v') w') : if Region.wanted o (yielded ops a.tmps) = true then Oper.wp Try.prog o a w K Q else E := by
  have hw : Region.wanted o (yielded ops a.tmps) = true := by simp [Region.wanted, hg]
  rw [if_pos hw]
  obtain ⟨i, hi, hz, h4, h5⟩ := info_parts Try.infoMove
  obtain ⟨v', w', hrun, h1, h2, h3, h6⟩ := run_append_row (P := Try.prog) w base 53 o.type 73 i (.agg #[.int .i64 0, .int .i64 0]) 2 16 Try.underlying53 hi hz h4 h5 rfl (by decide) v ms.length _ hown.2 sv 1 _ hy (by
      intro u hu
      simp only [cellsM, List.flatMap_cons, List.flatMap_nil, List.append_nil, List.mem_cons, List.not_mem_nil, or_false] at hu
      rcases hu with rfl | rfl <;> rfl) (by omega) (by decide) hbase
  unfold Oper.wp
  simp [execOp, ho, resolve, invoke, builtin, hs, hx, hrun, Result.andThen]
  refine h v' w' ⟨by simp; omega, ?_⟩ h2
  rw [cellsM_append]
  simpa using h1

/-- What a search through the moves has found so far. -/
def wv (ms : List (Nat × Nat)) (x : Int) : Int := match ms.find? (fun m => decide ((m.1 : Int) = x)) with | some m => 2 * (m.2 : Int) + 1 | none => 0
theorem wv_hit (ms : List (Nat × Nat)) (m : Nat × Nat) (x : Int) (hm : (m.1 : Int) = x) (hn : m.1 ∉ ms.map (·.1)) : wv (ms ++ [m]) x = 2 * (m.2 : Int) + 1 := by
  unfold wv
  have : ms.find? (fun m => decide ((m.1 : Int) = x)) = none := by
    rw [List.find?_eq_none]
    intro q hq e
    have e2 : (q.1 : Int) = x := by simpa using e
    exact hn (List.mem_map.2 ⟨q, hq, by omega⟩)
  rw [List.find?_append, this]
  simp [hm]
theorem wv_miss (ms : List (Nat × Nat)) (m : Nat × Nat) (x : Int) (hm : (m.1 : Int) ≠ x) : wv (ms ++ [m]) x = wv ms x := by
  unfold wv
  rw [List.find?_append]
  simp [hm]
theorem wv_nil (x : Int) : wv [] x = 0 := rfl
theorem wv_toF (ms : List (Nat × Nat)) (x : Int) (h0 : x ≠ 0) : (toF ms x = none ∧ wv ms x = 0) ∨ ∃ y, toF ms x = some y ∧ wv ms x = 2 * y + 1 := by
  unfold toF wv
  rw [if_neg h0]
  cases ms.find? (fun m => decide ((m.1 : Int) = x)) with
  | none => exact .inl ⟨rfl, rfl⟩
  | some m => exact .inr ⟨m.2, rfl, rfl⟩

theorem mvs_new {xs : List Int} {l ks : List Nat} (h : KeepIs l ks) {k : Nat} (hk : k < (mvs xs ks 1).length) : ((mvs xs ks 1)[k]).1 ∉ ((mvs xs ks 1).take k).map (·.1) := by
  rw [List.map_take, mvs_fst]
  have hk' : k < ks.length := by rwa [mvs_len] at hk
  rw [mvs_at xs ks 1 k hk' hk]
  intro hm
  obtain ⟨j, hj, e⟩ := List.mem_iff_getElem.1 hm
  rw [List.length_take] at hj
  rw [List.getElem_take] at e
  have := List.pairwise_iff_getElem.1 h.2 j k (by omega) hk' (by omega)
  simp only at e
  omega

set_option maxRecDepth 100000 in
set_option maxHeartbeats 1000000 in
theorem closedOf_ok (v kv : Value) (xs keep : List Int) (t : Nat) (l : List Nat) (w : World) (h : Ints w v xs) (hr : Ints w kv keep) (his : HeapIs xs t l) :
    Calls Try.prog 28 #[.agg #[v, .int .i64 t], kv] w (RetClosed w xs t keep) := by
  obtain ⟨a, c, rfl, hc, hcm, _⟩ := h.len
  obtain ⟨ka, kc, rfl, hkc, hkcm, _⟩ := hr.len
  have hkle := hr.le
  have HF : Hid (∀ w2, Below w.heap.size w w2 → Ints w2 (.slice a xs.length c) xs) := fun w2 hb2 => h.below (Nat.le_refl _) hb2
  have HR : Hid (∀ w2, Below w.heap.size w w2 → Ints w2 (.slice ka keep.length kc) keep) := fun w2 hb2 => hr.below (Nat.le_refl _) hb2
  have HI := Lib.hid his
  have i1 := his.1
  have i2 := his.2.1
  have i3 := his.2.2.1
  have ill := places_len his.2.2.2.1 his.2.1
  have HRB : Hid (∀ i, I64 (keep.getD i 0)) := fun i => hr.range i
  clear h hr his
  have hxs1 : 1 ≤ xs.length := by omega
  go_enter Try.func28, Try.ntmps28
  go_wp2_with (first
    | (go_at_call 59; refine (PlacesOf_any _ xs _ _ (HF.out _ (by repeat (first | exact Below.refl _ _ | with_reducible refine below_drewN ?_ _ | with_reducible refine Below.drew ?_ | with_reducible refine Below.alloc ?_ (by first | exact Nat.le_refl _ | (simp; done) | omega | (simp; omega)) _ | with_reducible refine Below.setCell ?_ (by first | exact Nat.le_refl _ | (simp; done) | omega | (simp; omega)) _)))).mono ?_; rintro e w1 ⟨hb, ⟨t', l', la, lc, ht, hi, rfl, hv⟩ | ⟨hno, rfl⟩⟩; rotate_left; (exact absurd ⟨t, l, rfl, HI.out⟩ hno); obtain rfl := Int.ofNat_inj.1 ht; obtain rfl := HI.out.uniq hi; clear ht hi; have zc1 := Nat.lt_of_lt_of_le (show w.heap.size < _ from (by first | (simp; done) | omega | (simp; omega))) (Below.size hb); have fc1_0 := Below.cell hb (p := ⟨w.heap.size, 0, none⟩) (by first | (simp; done) | omega | (simp; omega)); have gc1_0 := Below.frozen hb (p := ⟨w.heap.size, 0, none⟩) (by first | (simp; done) | omega | (simp; omega)); have fc1_1 := Below.cell hb (p := ⟨w.heap.size, 1, none⟩) (by first | (simp; done) | omega | (simp; omega)); have gc1_1 := Below.frozen hb (p := ⟨w.heap.size, 1, none⟩) (by first | (simp; done) | omega | (simp; omega)); (try simp at fc1_0 gc1_0 fc1_1 gc1_1); have zc2 := Nat.lt_of_lt_of_le (show w.heap.size + 1 < _ from (by first | (simp; done) | omega | (simp; omega))) (Below.size hb); have fc2_0 := Below.cell hb (p := ⟨w.heap.size + 1, 0, none⟩) (by first | (simp; done) | omega | (simp; omega)); have gc2_0 := Below.frozen hb (p := ⟨w.heap.size + 1, 0, none⟩) (by first | (simp; done) | omega | (simp; omega)); have fc2_1 := Below.cell hb (p := ⟨w.heap.size + 1, 1, none⟩) (by first | (simp; done) | omega | (simp; omega)); have gc2_1 := Below.frozen hb (p := ⟨w.heap.size + 1, 1, none⟩) (by first | (simp; done) | omega | (simp; omega)); (try simp at fc2_0 gc2_0 fc2_1 gc2_1); have HB := Lib.hid hb; have HV := Lib.hid hv; clear hb hv)
    | (at_make; refine wpl_make_ints rfl _ _ rfl w1.heap.size xs.length _ rfl rfl rfl (by omega) (Nat.le_refl _) ?_; intro w2 hv2 hg2; have hb2 := Below.grown (Below.refl w1.heap.size w1) hg2 (Nat.le_refl _) (by simp); have HV2 := Lib.hid hv2; have HB2 := Lib.hid hb2; clear hv2 hg2 hb2))
  obtain ⟨z, hz⟩ : ∃ z, z = w1.heap.size := ⟨_, rfl⟩
  obtain ⟨O, hO⟩ : ∃ O, O = w2.heap.size := ⟨_, rfl⟩
  have hzO : z < O := by rw [hO, hz]; exact (HV2.out.lt (k := w1.heap.size) rfl).2
  rw [← hz, ← hO]
  obtain ⟨w3, hw3⟩ : ∃ w3, w3 = w2.alloc (.cells #[.slice (some ⟨z, 0, none⟩) xs.length xs.length, .int .i64 1] 25) := ⟨_, rfl⟩
  rw [← hw3]
  have hHz : w.heap.size + 1 < z := by rw [hz]; have := HB.out.size; simp at this; omega
  have HB3 : Hid (Below z w1 w3) := by rw [Hid, hw3, hz]; exact HB2.out.alloc (by rw [← hO, ← hz]; omega) _
  have HBW3 : Hid (Below w.heap.size w w3) := by
    have h1 : Below w.heap.size w w1 := (by repeat (first | exact Below.refl _ _ | with_reducible refine Below.trans ?_ (Below.mono HB.out (by first | exact Nat.le_refl _ | (simp; done) | omega | (simp; omega) | (have z0 := Below.size HB.out; omega) | (have z0 := Below.size HB.out; simp at *; omega))) | with_reducible refine below_drewN ?_ _ | with_reducible refine Below.drew ?_ | with_reducible refine Below.alloc ?_ (by first | exact Nat.le_refl _ | (simp; done) | omega | (simp; omega) | (have z0 := Below.size HB.out; omega) | (have z0 := Below.size HB.out; simp at *; omega)) _ | with_reducible refine Below.setCell ?_ (by first | exact Nat.le_refl _ | (simp; done) | omega | (simp; omega) | (have z0 := Below.size HB.out; omega) | (have z0 := Below.size HB.out; simp at *; omega)) _))
    exact h1.trans (HB3.out.mono (by omega))
  have HV3 : Hid (OwnInts w3 z (.slice (some ⟨z, 0, none⟩) xs.length xs.length) (padTo xs.length [0])) := by
    rw [Hid, padTo_zero (by omega), hw3]
    have := HV2.out.below ((Below.refl w2.heap.size w2).alloc (Nat.le_refl _) (.cells #[.slice (some ⟨z, 0, none⟩) xs.length xs.length, .int .i64 1] 25))
    rw [← hz] at this
    exact this
  have HO0 : Hid (w3.cell? ⟨O, 0, none⟩ = some (.slice (some ⟨z, 0, none⟩) xs.length xs.length)) := by rw [Hid, hw3, hO]; simp
  have HO1 : Hid (w3.cell? ⟨O, 1, none⟩ = some (.int .i64 1)) := by rw [Hid, hw3, hO]; simp
  have HOZ : Hid (∀ i, w3.frozen? ⟨O, i, none⟩ = false) := by rw [Hid, hw3, hO]; intro i; simp
  have hO3 : O + 1 = w3.heap.size := by rw [hw3, hO]; simp
  have HZ := Lib.hid hz
  have h10 := (HB3.out.cell (p := ⟨w.heap.size, 0, none⟩) (by show w.heap.size < z; omega)).trans fc1_0
  have h20 := (HB3.out.cell (p := ⟨w.heap.size + 1, 0, none⟩) (by show w.heap.size + 1 < z; omega)).trans fc2_0
  have h21 := (HB3.out.cell (p := ⟨w.heap.size + 1, 1, none⟩) (by show w.heap.size + 1 < z; omega)).trans fc2_1
  have y20 := (HB3.out.frozen (p := ⟨w.heap.size + 1, 0, none⟩) (by show w.heap.size + 1 < z; omega)).trans gc2_0
  have y21 := (HB3.out.frozen (p := ⟨w.heap.size + 1, 1, none⟩) (by show w.heap.size + 1 < z; omega)).trans gc2_1
  have h11 := (HB3.out.cell (p := ⟨w.heap.size, 1, none⟩) (by show w.heap.size < z; omega)).trans fc1_1
  have HSEL : Hid (OwnInts w1 (w.heap.size + 1) (.slice la l.length lc) (intsOf l)) := HV.out.mono (by simp)
  clear hw3 hO hz HV2 HB2 HV HB fc1_0 fc1_1 gc1_0 gc1_1 fc2_0 fc2_1 gc2_0 gc2_1
  -- what a world says that has grown from w3 with O's box alone changed
  have HG : Hid (∀ W, w3.grownBy W (some O) → ∀ b o : Nat, b < O → W.cell? ⟨b, o, none⟩ = w3.cell? ⟨b, o, none⟩ ∧ W.frozen? ⟨b, o, none⟩ = w3.frozen? ⟨b, o, none⟩) := fun W hW b o hb =>
    grown_cell hW (M := b) (i := o) (by omega) (by simp only [ne_eq, Option.some.injEq]; omega)
  have HGB : Hid (∀ W, w3.grownBy W (some O) → Below w.heap.size w W) := fun W hW => HBW3.out.grown hW (by omega) (fun j hj => by simp only [Option.some.injEq] at hj; omega)
  have HGB1 : Hid (∀ W, w3.grownBy W (some O) → Below z w1 W) := fun W hW => HB3.out.grown hW (by omega) (fun j hj => by simp only [Option.some.injEq] at hj; omega)
  have H10 := Lib.hid h10; have H11 := Lib.hid h11; have H20 := Lib.hid h20; have H21 := Lib.hid h21; have Y20 := Lib.hid y20; have Y21 := Lib.hid y21
  clear h10 h11 h20 h21 y20 y21
  go_loopw [10, 11] (fun mv u wr => ∃ (k : Nat) (ks : List Nat), u = .int .i64 k ∧ k ≤ keep.length ∧ ks.length = k ∧ keep.take k = intsOf ks ∧ KeepIs l ks ∧ OwnMoves wr (O + 1) mv (mvs xs ks 1) ∧ w3.grownBy wr (some O) ∧
    wr.cell? ⟨O, 0, none⟩ = some (.slice (some ⟨z, 0, none⟩) xs.length xs.length) ∧ wr.cell? ⟨O, 1, none⟩ = some (.int .i64 (topOf xs ks 1 : Nat)) ∧ wr.frozen? ⟨O, 0, none⟩ = false ∧ wr.frozen? ⟨O, 1, none⟩ = false) (fun _ u _ => keep.length - (intOf u).toNat)
  case atStart => exact ⟨0, [], rfl, Nat.zero_le _, rfl, by simp [intsOf], ⟨by simp, by simp⟩, OwnMoves.nil _ _, World.grownBy.refl _ _, HO0.out, HO1.out, HOZ.out 0, HOZ.out 1⟩
  case round =>
    obtain ⟨k, ks, rfl, hk, hkl, htk, hki, hmv, hgr, o0, o1, oz0, oz1⟩ := hrel
    have bks := keep_len HI.out hki
    have btop := keep_top HI.out hki
    rw [hkl] at bks
    have HKL := Lib.hid hkl; have HTK := Lib.hid htk; have HKI := Lib.hid hki; have HMV := Lib.hid hmv; have HGR := Lib.hid hgr
    obtain ⟨T, hT⟩ : ∃ T, T = topOf xs ks 1 := ⟨_, rfl⟩
    rw [← hT] at btop o1
    have HTT := Lib.hid hT
    have HBWR := Lib.hid (HGB.out wr hgr)
    have HSE : Hid (Ints wr (.slice la l.length lc) (intsOf l)) := (HSEL.out.below ((HGB1.out wr hgr).mono (by rw [HZ.out]; exact Nat.le_refl _))).ints
    have hsz := hgr.size
    clear hkl htk hki hmv hgr hT
    by_cases hlt : k < keep.length
    · obtain ⟨kb, ko, rfl, hkb, hkcell⟩ := (HR.out wr HBWR.out).at (by omega)
      have hck := hkcell k hlt
      obtain ⟨p, hp⟩ : ∃ p, p = keep.getD k 0 := ⟨_, rfl⟩
      rw [← hp] at hck
      have HKC := Lib.hid hkcell
      have HP := Lib.hid hp
      have HPI : Hid (I64 p) := by rw [Hid, hp]; exact HRB.out k
      clear hkcell hp
      cases hq : hasB (intsOf l) p with
      | false =>
        have HN : Hid (¬ KeepOk l keep) := fun h => by
          obtain ⟨q, hq1, hq2⟩ := (h.at hlt).1
          rw [← HP.out] at hq2
          rw [hasB_places.2 ⟨q, hq1, hq2⟩] at hq
          cases hq
        have HHAS : Hid (∀ m, Calls Try.prog 57 #[.slice la l.length lc, .int .i64 p] (wr.drewN m) fun e w' => e = .returned (.bool false) ∧ wr.drewN m = w') := fun m => by
          have := has_any _ (intsOf l) p (wr.drewN m) (HSE.out.below (Nat.le_refl _) (below_drewN (Below.refl _ _) m))
          rw [hq] at this
          exact this
        clear hq
        by_cases hk0 : k = 0
        · subst hk0
          rw [Nat.add_zero] at hck
          rw [show ((0 : Nat) : Int) = 0 from rfl]
          go_wp2
          go_quiet ((go_at_call 57; exact quiet_left (HHAS.out _)))
          have g20 : (wr.drewN nq).cell? ⟨w.heap.size + 1, 0, none⟩ = some (.slice none 0 0) := (HG.out wr HGR.out _ 0 (by omega)).1.trans H20.out
          have g21 : (wr.drewN nq).cell? ⟨w.heap.size + 1, 1, none⟩ = some (.int .i64 0) := (HG.out wr HGR.out _ 1 (by omega)).1.trans H21.out
          have gy20 : (wr.drewN nq).frozen? ⟨w.heap.size + 1, 0, none⟩ = false := (HG.out wr HGR.out _ 0 (by omega)).2.trans Y20.out
          have gy21 : (wr.drewN nq).frozen? ⟨w.heap.size + 1, 1, none⟩ = false := (HG.out wr HGR.out _ 1 (by omega)).2.trans Y21.out
          have HBQ : Hid (Below w.heap.size w (wr.drewN nq)) := below_drewN HBWR.out nq
          generalize wr.drewN nq = wx at *
          go_wp2_with fail
          refine bodyPost_ret (v := .tuple #[.agg #[.slice none 0 0, .int .i64 0], .slice none 0 0, .int .i64 4]) (by simp [results, Try.results28, go_sem, *]) rfl ⟨(HBQ.out.setCell (by simp) _).setCell (by simp) _, .inr ⟨t, l, rfl, HI.out, .inl ⟨HN.out, rfl⟩⟩⟩
        · have hk1 : (0 : Int) < (k : Int) := by omega
          go_wp2
          go_quiet ((go_at_call 57; exact quiet_left (HHAS.out _)))
          have g20 : (wr.drewN nq).cell? ⟨w.heap.size + 1, 0, none⟩ = some (.slice none 0 0) := (HG.out wr HGR.out _ 0 (by omega)).1.trans H20.out
          have g21 : (wr.drewN nq).cell? ⟨w.heap.size + 1, 1, none⟩ = some (.int .i64 0) := (HG.out wr HGR.out _ 1 (by omega)).1.trans H21.out
          have gy20 : (wr.drewN nq).frozen? ⟨w.heap.size + 1, 0, none⟩ = false := (HG.out wr HGR.out _ 0 (by omega)).2.trans Y20.out
          have gy21 : (wr.drewN nq).frozen? ⟨w.heap.size + 1, 1, none⟩ = false := (HG.out wr HGR.out _ 1 (by omega)).2.trans Y21.out
          have HBQ : Hid (Below w.heap.size w (wr.drewN nq)) := below_drewN HBWR.out nq
          generalize wr.drewN nq = wx at *
          go_wp2_with fail
          refine bodyPost_ret (v := .tuple #[.agg #[.slice none 0 0, .int .i64 0], .slice none 0 0, .int .i64 4]) (by simp [results, Try.results28, go_sem, *]) rfl ⟨(HBQ.out.setCell (by simp) _).setCell (by simp) _, .inr ⟨t, l, rfl, HI.out, .inl ⟨HN.out, rfl⟩⟩⟩
      | true =>
        obtain ⟨q, hql, rfl⟩ := hasB_places.1 hq
        have HHAS : Hid (∀ m, Calls Try.prog 57 #[.slice la l.length lc, .int .i64 (q : Int)] (wr.drewN m) fun e w' => e = .returned (.bool true) ∧ wr.drewN m = w') := fun m => by
          have := has_any _ (intsOf l) (q : Int) (wr.drewN m) (HSE.out.below (Nat.le_refl _) (below_drewN (Below.refl _ _) m))
          rw [hq] at this
          exact this
        have HQL := Lib.hid hql
        obtain ⟨o1', o2, o3, o4⟩ := places_obj HI.out.2.2.2.1 q hql
        clear hq hql
        obtain ⟨d, hd⟩ : ∃ d, d = nf xs q := ⟨_, rfl⟩
        rw [← hd] at o2 o3 o4
        have HD := Lib.hid hd
        obtain ⟨b, bo, rfl, hbs, hcell⟩ := (HF.out w (Below.refl _ _)).at (by omega)
        have hcn0 := hcell (q + 1) (by omega)
        rw [o2] at hcn0
        have HCN : Hid (∀ W, w3.grownBy W (some O) → W.cell? ⟨b, bo + (q + 1), none⟩ = some (.int .i64 (d : Int))) := fun W hW => ((HGB.out W hW).cell (p := ⟨b, bo + (q + 1), none⟩) hbs).trans hcn0
        have hkb3 : kb < w.heap.size := by
          obtain ⟨kb', ko', e, hk', _⟩ := (HR.out w (Below.refl _ _)).at (by omega)
          simp only [Option.some.injEq, Addr.mk.injEq] at e
          obtain ⟨rfl, _⟩ := e
          exact hk'
        have HKQ : Hid (∀ W, w3.grownBy W (some O) → W.cell? ⟨kb, ko + k, none⟩ = some (.int .i64 (q : Int))) := fun W hW => by
          obtain ⟨kb', ko', e, _, hc⟩ := (HR.out W (HGB.out W hW)).at (by omega)
          simp only [Option.some.injEq, Addr.mk.injEq] at e
          obtain ⟨rfl, rfl, _⟩ := e
          rw [hc k hlt, HP.out]
        have eq1 : IntKind.i64.wrap ((q : Int) + 1) = (q : Int) + 1 := IntWalk.i64_in _ (by omega)
        have bq1 : (q : Int) + 1 < (xs.length : Int) := by omega
        have bq2 : (0 : Int) ≤ (q : Int) + 1 := by omega
        have bq3 : ((q : Int) + 1).toNat = q + 1 := by omega
        have et1 : IntKind.i64.wrap ((T : Int) + 2) = (T : Int) + 2 := IntWalk.i64_in _ (by omega)
        have et2 : IntKind.i64.wrap ((T : Int) + 2 + (d : Int)) = (T : Int) + 2 + (d : Int) := IntWalk.i64_in _ (by omega)
        clear hd o2 hcell hcn0
        by_cases hk0 : k = 0
        · have HLAST : Hid (∀ r ∈ ks, r < q) := by
            have : ks = [] := List.eq_nil_of_length_eq_zero (by rw [HKL.out]; exact hk0)
            intro r hr; rw [this] at hr; simp at hr
          subst hk0
          rw [Nat.add_zero] at hck HKQ
          rw [show ((0 : Nat) : Int) = 0 from rfl]
          have HKI2 : Hid (KeepIs l (ks ++ [q])) := HKI.out.snoc HQL.out HLAST.out
          have HT2 : Hid (topOf xs (ks ++ [q]) 1 = T + (2 + d)) := by rw [Hid, topOf_snoc, HTT.out, HD.out]
          have HM2 : Hid (mvs xs (ks ++ [q]) 1 = mvs xs ks 1 ++ [(q, T)]) := by rw [Hid, mvs_snoc, HTT.out]
          have HML : Hid ((mvs xs ks 1).length < 900000) := by rw [Hid, mvs_len, HKL.out]; omega
          go_wp2
          go_quiet ((go_at_call 57; exact quiet_left (HHAS.out _)))
          have HGX : Hid (w3.grownBy (wr.drewN nq) (some O)) := grown_below HGR.out (below_drewN (Below.refl _ _) nq)
          have HMX : Hid (OwnMoves (wr.drewN nq) (O + 1) u10 (mvs xs ks 1)) := HMV.out.below (below_drewN (Below.refl _ _) nq)
          have p0 : (wr.drewN nq).cell? ⟨O, 0, none⟩ = some (.slice (some ⟨z, 0, none⟩) xs.length xs.length) := o0
          have p1 : (wr.drewN nq).cell? ⟨O, 1, none⟩ = some (.int .i64 (T : Int)) := o1
          have pz0 : (wr.drewN nq).frozen? ⟨O, 0, none⟩ = false := oz0
          have pz1 : (wr.drewN nq).frozen? ⟨O, 1, none⟩ = false := oz1
          clear o0 o1 oz0 oz1
          generalize wr.drewN nq = wx at *
          go_wp2_with fail
          have HG5 : Hid (w3.grownBy wx.drew (some O)) := grown_tr HGX.out (grown_drew _ _)
          have HM5 : Hid (OwnMoves wx.drew (O + 1) u10 (mvs xs ks 1)) := HMX.out.below (Below.refl _ _).drew
          have q0 : wx.drew.cell? ⟨O, 0, none⟩ = some (.slice (some ⟨z, 0, none⟩) xs.length xs.length) := p0
          have q1 : wx.drew.cell? ⟨O, 1, none⟩ = some (.int .i64 (T : Int)) := p1
          have qz0 : wx.drew.frozen? ⟨O, 0, none⟩ = false := pz0
          have qz1 : wx.drew.frozen? ⟨O, 1, none⟩ = false := pz1
          clear p0 p1 pz0 pz1
          have hO5 : O < wx.drew.heap.size := World.block_lt_of_cell? wx.drew _ q0
          have HA5 : Hid (Below wx.drew.heap.size wx.drew (wx.drew.alloc (.cells #[.int .i64 (q : Int), .int .i64 (T : Int)] 73))) := (Below.refl _ _).alloc (Nat.le_refl _) _
          have HGA : Hid (w3.grownBy (wx.drew.alloc (.cells #[.int .i64 (q : Int), .int .i64 (T : Int)] 73)) (some O)) := grown_below HG5.out HA5.out
          have HMA : Hid (OwnMoves (wx.drew.alloc (.cells #[.int .i64 (q : Int), .int .i64 (T : Int)] 73)) (O + 1) u10 (mvs xs ks 1)) := HM5.out.below HA5.out
          have hOA : O < (wx.drew.alloc (.cells #[.int .i64 (q : Int), .int .i64 (T : Int)] 73)).heap.size := Nat.lt_of_lt_of_le hO5 HA5.out.size
          have HNO : Hid (some O ≠ u10.ownBlock) := fun e => by have := (HM5.out.lt e.symm).1; omega
          have HA0 := Lib.hid ((HA5.out.cell (p := ⟨O, 0, none⟩) hO5).trans q0)
          have HA1 := Lib.hid ((HA5.out.cell (p := ⟨O, 1, none⟩) hO5).trans q1)
          have HAZ0 := Lib.hid ((HA5.out.frozen (p := ⟨O, 0, none⟩) hO5).trans qz0)
          have HAZ1 := Lib.hid ((HA5.out.frozen (p := ⟨O, 1, none⟩) hO5).trans qz1)
          have HQ1 := Lib.hid q1
          clear q0 q1 qz0 qz1
          go_region_held3 (fun W => W.cell? ⟨kb, ko, none⟩ = some (.int .i64 (q : Int)) ∧ W.cell? ⟨O, 1, none⟩ = some (.int .i64 (T : Int)) ∧ w3.grownBy W (some O))
            (first | exact ⟨HKQ.out _ HG8.out, HR1.out, HG8.out⟩ | exact ⟨HKQ.out _ HGA.out, HA1.out, HGA.out⟩ | exact ⟨HKQ.out _ HG5.out, HQ1.out, HG5.out⟩)
            ((refine step_append_move rfl _ _ rfl (O + 1) u10 (mvs xs ks 1) rfl HMA.out _ q T rfl (row_move _ _ _ rfl) HML.out (Nat.succ_le_of_lt hOA) ?_; intro v7 w7 hv7 hg7; have HV7 := Lib.hid hv7; have HG7 := Lib.hid hg7; clear hv7 hg7; have HG8 : Hid (w3.grownBy w7 (some O)) := grown_new HGA.out HG7.out (fun j hj => by have := (HM5.out.lt hj).1; omega); have HR1 := Lib.hid ((grown_cell HG7.out (M := O) (i := 1) hOA HNO.out).1.trans HA1.out)))
          have r0 := (grown_cell HG7.out (M := O) (i := 0) hOA HNO.out).1.trans HA0.out
          have r1 := HR1.out
          have rz0 := (grown_cell HG7.out (M := O) (i := 0) hOA HNO.out).2.trans HAZ0.out
          have rz1 := (grown_cell HG7.out (M := O) (i := 1) hOA HNO.out).2.trans HAZ1.out
          rename_i hHeld
          clear hHeld hOA hO5
          go_wp2_with fail
          obtain ⟨w8, hw8⟩ : ∃ w8, w8 = w7.drew := ⟨_, rfl⟩
          have HB8 : Hid (Below w7.heap.size w7 w8) := by rw [Hid, hw8]; exact (Below.refl _ _).drew
          have HG9 : Hid (w3.grownBy w8 (some O)) := grown_below HG8.out HB8.out
          have HV8 : Hid (OwnMoves w8 (O + 1) v7 (mvs xs ks 1 ++ [(q, T)])) := HV7.out.below HB8.out
          have s0 : w8.cell? ⟨O, 0, none⟩ = some (.slice (some ⟨z, 0, none⟩) xs.length xs.length) := by rw [hw8]; exact r0
          have s1 : w8.cell? ⟨O, 1, none⟩ = some (.int .i64 (T : Int)) := by rw [hw8]; exact r1
          have sz0 : w8.frozen? ⟨O, 0, none⟩ = false := by rw [hw8]; exact rz0
          have sz1 : w8.frozen? ⟨O, 1, none⟩ = false := by rw [hw8]; exact rz1
          have sk := HKQ.out w8 HG9.out
          have sn := HCN.out w8 HG9.out
          have s10 := (HG.out w8 HG9.out w.heap.size 0 (by omega)).1.trans H10.out
          clear r0 r1 rz0 rz1
          refine still_tail_at 14 (by kernel_rfl) (by kernel_rfl) hw8 ?_
          simp only [List.take_succ_cons, List.take_zero, List.drop_succ_cons, List.drop_zero]
          clear hw8
          repeat still_step
          refine wpStill_nil ?_
          have hne8 : v7.ownBlock ≠ some O := fun e => by have := (HV8.out.lt e).1; omega
          have HN8 := Lib.hid hne8
          clear hne8
          go_wp2_with fail
          go_roundw
          case rel =>
            refine ⟨0 + 1, ks ++ [q], by go_num, by omega, by simp [HKL.out], ?_, HKI2.out, ?_, grown_tr HG9.out (grown_set _ _ _ _), ?_, ?_, ?_, ?_⟩
            · rw [take_one hlt, HTK.out, intsOf_append, ← HP.out]; rfl
            · rw [HM2.out]; exact HV8.out.setFar HN8.out _
            · rw [World.cell?_setCell_other _ _ _ _ (by simp)]; exact s0
            · rw [World.cell?_setCell_same _ _ _ s1, HT2.out]; exact congrArg (fun x => some (Value.int .i64 x)) (by omega)
            · rw [frozen_setCell_any]; exact sz0
            · rw [frozen_setCell_any]; exact sz1
          case measure => simp [intOf]; omega
        · obtain ⟨j, hkj⟩ : ∃ j, k = j + 1 := ⟨k - 1, by omega⟩
          have hcj := HKC.out j (by omega)
          have HGJ : Hid (keep.getD j 0 = ((ks.getD j 0 : Nat) : Int)) := by
            have e1 := HTK.out
            have e2 := HKL.out
            have e3 := congrArg (fun l => l.getD j 0) e1
            simp only [List.getD_eq_getElem?_getD, List.getElem?_take, intsOf, List.getElem?_map] at e3
            rw [if_pos (by omega)] at e3
            rw [Hid, List.getD_eq_getElem?_getD, e3, List.getD_eq_getElem?_getD, List.getElem?_eq_getElem (by omega)]
            rfl
          rw [HGJ.out] at hcj
          obtain ⟨q0, hq0⟩ : ∃ q0, q0 = ks.getD j 0 := ⟨_, rfl⟩
          rw [← hq0] at hcj
          have HQ0 := Lib.hid hq0
          clear hq0
          have ew : IntKind.i64.wrap ((j : Int) + 1 - 1) = (j : Int) := by rw [show (j : Int) + 1 - 1 = (j : Int) by omega]; exact IntWalk.i64_in _ (by omega)
          have ew1 : IntKind.i64.wrap (j : Int) = (j : Int) := IntWalk.i64_in _ (by omega)
          have bj1 : (0 : Int) ≤ (j : Int) := by omega
          have bj2 : (j : Int) < (keep.length : Int) := by omega
          have hk1 : (0 : Int) < (j : Int) + 1 := by omega
          have bk1 : (0 : Int) ≤ (j : Int) + 1 := by omega
          have bk2 : (j : Int) + 1 < (keep.length : Int) := by omega
          have bk3 : ((j : Int) + 1).toNat = j + 1 := by omega
          subst hkj
          rw [show ((j + 1 : Nat) : Int) = (j : Int) + 1 by omega]
          by_cases hlt0 : q0 < q
          · have hgt : ¬ ((q : Int) ≤ (q0 : Int)) := by omega
            have HLAST : Hid (∀ r ∈ ks, r < q) := HKI.out.last (i := j) (by rw [HKL.out]) (by rw [← HQ0.out]; exact hlt0)
            have HKI2 : Hid (KeepIs l (ks ++ [q])) := HKI.out.snoc HQL.out HLAST.out
            have HT2 : Hid (topOf xs (ks ++ [q]) 1 = T + (2 + d)) := by rw [Hid, topOf_snoc, HTT.out, HD.out]
            have HM2 : Hid (mvs xs (ks ++ [q]) 1 = mvs xs ks 1 ++ [(q, T)]) := by rw [Hid, mvs_snoc, HTT.out]
            have HML : Hid ((mvs xs ks 1).length < 900000) := by rw [Hid, mvs_len, HKL.out]; omega
            go_wp2
            go_quiet ((go_at_call 57; exact quiet_left (HHAS.out _)))
            clear ew ew1 bj1 bj2 hk1 hgt hcj
            have HGX : Hid (w3.grownBy (wr.drewN nq) (some O)) := grown_below HGR.out (below_drewN (Below.refl _ _) nq)
            have HMX : Hid (OwnMoves (wr.drewN nq) (O + 1) u10 (mvs xs ks 1)) := HMV.out.below (below_drewN (Below.refl _ _) nq)
            have p0 : (wr.drewN nq).cell? ⟨O, 0, none⟩ = some (.slice (some ⟨z, 0, none⟩) xs.length xs.length) := o0
            have p1 : (wr.drewN nq).cell? ⟨O, 1, none⟩ = some (.int .i64 (T : Int)) := o1
            have pz0 : (wr.drewN nq).frozen? ⟨O, 0, none⟩ = false := oz0
            have pz1 : (wr.drewN nq).frozen? ⟨O, 1, none⟩ = false := oz1
            clear o0 o1 oz0 oz1
            generalize wr.drewN nq = wx at *
            go_wp2_with fail
            have HG5 : Hid (w3.grownBy wx.drew (some O)) := grown_tr HGX.out (grown_drew _ _)
            have HM5 : Hid (OwnMoves wx.drew (O + 1) u10 (mvs xs ks 1)) := HMX.out.below (Below.refl _ _).drew
            have q0 : wx.drew.cell? ⟨O, 0, none⟩ = some (.slice (some ⟨z, 0, none⟩) xs.length xs.length) := p0
            have q1 : wx.drew.cell? ⟨O, 1, none⟩ = some (.int .i64 (T : Int)) := p1
            have qz0 : wx.drew.frozen? ⟨O, 0, none⟩ = false := pz0
            have qz1 : wx.drew.frozen? ⟨O, 1, none⟩ = false := pz1
            clear p0 p1 pz0 pz1
            have hO5 : O < wx.drew.heap.size := World.block_lt_of_cell? wx.drew _ q0
            have HA5 : Hid (Below wx.drew.heap.size wx.drew (wx.drew.alloc (.cells #[.int .i64 (q : Int), .int .i64 (T : Int)] 73))) := (Below.refl _ _).alloc (Nat.le_refl _) _
            have HGA : Hid (w3.grownBy (wx.drew.alloc (.cells #[.int .i64 (q : Int), .int .i64 (T : Int)] 73)) (some O)) := grown_below HG5.out HA5.out
            have HMA : Hid (OwnMoves (wx.drew.alloc (.cells #[.int .i64 (q : Int), .int .i64 (T : Int)] 73)) (O + 1) u10 (mvs xs ks 1)) := HM5.out.below HA5.out
            have hOA : O < (wx.drew.alloc (.cells #[.int .i64 (q : Int), .int .i64 (T : Int)] 73)).heap.size := Nat.lt_of_lt_of_le hO5 HA5.out.size
            have HNO : Hid (some O ≠ u10.ownBlock) := fun e => by have := (HM5.out.lt e.symm).1; omega
            have HA0 := Lib.hid ((HA5.out.cell (p := ⟨O, 0, none⟩) hO5).trans q0)
            have HA1 := Lib.hid ((HA5.out.cell (p := ⟨O, 1, none⟩) hO5).trans q1)
            have HAZ0 := Lib.hid ((HA5.out.frozen (p := ⟨O, 0, none⟩) hO5).trans qz0)
            have HAZ1 := Lib.hid ((HA5.out.frozen (p := ⟨O, 1, none⟩) hO5).trans qz1)
            have HQ1 := Lib.hid q1
            clear q0 q1 qz0 qz1
            go_region_held3 (fun W => W.cell? ⟨kb, ko + (j + 1), none⟩ = some (.int .i64 (q : Int)) ∧ W.cell? ⟨O, 1, none⟩ = some (.int .i64 (T : Int)) ∧ w3.grownBy W (some O))
              (first | exact ⟨HKQ.out _ HG8.out, HR1.out, HG8.out⟩ | exact ⟨HKQ.out _ HGA.out, HA1.out, HGA.out⟩ | exact ⟨HKQ.out _ HG5.out, HQ1.out, HG5.out⟩)
              ((refine step_append_move rfl _ _ rfl (O + 1) u10 (mvs xs ks 1) rfl HMA.out _ q T rfl (row_move _ _ _ rfl) HML.out (Nat.succ_le_of_lt hOA) ?_; intro v7 w7 hv7 hg7; have HV7 := Lib.hid hv7; have HG7 := Lib.hid hg7; clear hv7 hg7; have HG8 : Hid (w3.grownBy w7 (some O)) := grown_new HGA.out HG7.out (fun j hj => by have := (HM5.out.lt hj).1; omega); have HR1 := Lib.hid ((grown_cell HG7.out (M := O) (i := 1) hOA HNO.out).1.trans HA1.out)))
            have r0 := (grown_cell HG7.out (M := O) (i := 0) hOA HNO.out).1.trans HA0.out
            have r1 := HR1.out
            have rz0 := (grown_cell HG7.out (M := O) (i := 0) hOA HNO.out).2.trans HAZ0.out
            have rz1 := (grown_cell HG7.out (M := O) (i := 1) hOA HNO.out).2.trans HAZ1.out
            rename_i hHeld
            clear hHeld hOA hO5
            go_wp2_with fail
            obtain ⟨w8, hw8⟩ : ∃ w8, w8 = w7.drew := ⟨_, rfl⟩
            have HB8 : Hid (Below w7.heap.size w7 w8) := by rw [Hid, hw8]; exact (Below.refl _ _).drew
            have HG9 : Hid (w3.grownBy w8 (some O)) := grown_below HG8.out HB8.out
            have HV8 : Hid (OwnMoves w8 (O + 1) v7 (mvs xs ks 1 ++ [(q, T)])) := HV7.out.below HB8.out
            have s0 : w8.cell? ⟨O, 0, none⟩ = some (.slice (some ⟨z, 0, none⟩) xs.length xs.length) := by rw [hw8]; exact r0
            have s1 : w8.cell? ⟨O, 1, none⟩ = some (.int .i64 (T : Int)) := by rw [hw8]; exact r1
            have sz0 : w8.frozen? ⟨O, 0, none⟩ = false := by rw [hw8]; exact rz0
            have sz1 : w8.frozen? ⟨O, 1, none⟩ = false := by rw [hw8]; exact rz1
            have sk := HKQ.out w8 HG9.out
            have sn := HCN.out w8 HG9.out
            have s10 := (HG.out w8 HG9.out w.heap.size 0 (by omega)).1.trans H10.out
            clear r0 r1 rz0 rz1
            refine still_tail_at 14 (by kernel_rfl) (by kernel_rfl) hw8 ?_
            simp only [List.take_succ_cons, List.take_zero, List.drop_succ_cons, List.drop_zero]
            clear hw8
            repeat still_step
            refine wpStill_nil ?_
            have hne8 : v7.ownBlock ≠ some O := fun e => by have := (HV8.out.lt e).1; omega
            have HN8 := Lib.hid hne8
            clear hne8
            go_wp2_with fail
            go_roundw
            case rel =>
              refine ⟨j + 1 + 1, ks ++ [q], by go_num, by omega, by simp [HKL.out], ?_, HKI2.out, ?_, grown_tr HG9.out (grown_set _ _ _ _), ?_, ?_, ?_, ?_⟩
              · rw [take_one hlt, HTK.out, intsOf_append, ← HP.out]; rfl
              · rw [HM2.out]; exact HV8.out.setFar HN8.out _
              · rw [World.cell?_setCell_other _ _ _ _ (by simp)]; exact s0
              · rw [World.cell?_setCell_same _ _ _ s1, HT2.out]; exact congrArg (fun x => some (Value.int .i64 x)) (by omega)
              · rw [frozen_setCell_any]; exact sz0
              · rw [frozen_setCell_any]; exact sz1
            case measure => simp [intOf]; omega
          · have hgt : (q : Int) ≤ (q0 : Int) := by omega
            have HN : Hid (¬ KeepOk l keep) := fun h => by
              have := (h.at hlt).2 (by omega)
              rw [Nat.add_sub_cancel, HGJ.out, ← HQ0.out, ← HP.out] at this
              omega
            go_wp2
            go_quiet ((go_at_call 57; exact quiet_left (HHAS.out _)))
            have g20 : (wr.drewN nq).cell? ⟨w.heap.size + 1, 0, none⟩ = some (.slice none 0 0) := (HG.out wr HGR.out _ 0 (by omega)).1.trans H20.out
            have g21 : (wr.drewN nq).cell? ⟨w.heap.size + 1, 1, none⟩ = some (.int .i64 0) := (HG.out wr HGR.out _ 1 (by omega)).1.trans H21.out
            have gy20 : (wr.drewN nq).frozen? ⟨w.heap.size + 1, 0, none⟩ = false := (HG.out wr HGR.out _ 0 (by omega)).2.trans Y20.out
            have gy21 : (wr.drewN nq).frozen? ⟨w.heap.size + 1, 1, none⟩ = false := (HG.out wr HGR.out _ 1 (by omega)).2.trans Y21.out
            have HBQ : Hid (Below w.heap.size w (wr.drewN nq)) := below_drewN HBWR.out nq
            generalize wr.drewN nq = wx at *
            go_wp2_with fail
            refine bodyPost_ret (v := .tuple #[.agg #[.slice none 0 0, .int .i64 0], .slice none 0 0, .int .i64 4]) (by simp [results, Try.results28, go_sem, *]) rfl ⟨(HBQ.out.setCell (by simp) _).setCell (by simp) _, .inr ⟨t, l, rfl, HI.out, .inl ⟨HN.out, rfl⟩⟩⟩
    · obtain rfl : k = keep.length := by omega
      obtain ⟨wl, rfl⟩ : ∃ wl : World, wl = wr := ⟨_, rfl⟩
      have HKE : Hid (keep = intsOf ks) := by have := HTK.out; rwa [List.take_length] at this
      obtain ⟨ms, hms⟩ : ∃ ms, ms = mvs xs ks 1 := ⟨_, rfl⟩
      have HMS := Lib.hid hms
      rw [← hms] at HMV
      have hml : ms.length = ks.length := by rw [hms, mvs_len]
      obtain ⟨ma, mc, rfl, hmc1, hmc2⟩ := HMV.out.shape
      rw [hml] at HMV hmc1 ⊢
      have HML := Lib.hid hml
      have hOl : O < wl.heap.size := by omega
      have HVL : Hid (OwnInts wl z (.slice (some ⟨z, 0, none⟩) xs.length xs.length) (padTo xs.length [0])) := HV3.out.grown HGR.out (.inr (fun e => by simp [Value.ownBlock] at e; omega))
      have HG2 : Hid (∀ W, wl.grownBy W (some z) → ∀ b o : Nat, b < wl.heap.size → b ≠ z → W.cell? ⟨b, o, none⟩ = wl.cell? ⟨b, o, none⟩ ∧ W.frozen? ⟨b, o, none⟩ = wl.frozen? ⟨b, o, none⟩) := fun W hW b o hb hne =>
        grown_cell hW (M := b) (i := o) hb (fun e => hne (Option.some.inj e))
      have HGB2 : Hid (∀ W, wl.grownBy W (some z) → Below w.heap.size w W) := fun W hW => HBWR.out.grown hW (by omega) (fun j hj => by simp only [Option.some.injEq] at hj; omega)
      have L10 : Hid (∀ W, wl.grownBy W (some z) → W.cell? ⟨w.heap.size, 0, none⟩ = some (.slice a xs.length c)) := fun W hW => ((HG2.out W hW w.heap.size 0 (by omega) (by omega)).1.trans (HG.out wl HGR.out w.heap.size 0 (by omega)).1).trans H10.out
      have L11 : Hid (∀ W, wl.grownBy W (some z) → W.cell? ⟨w.heap.size, 1, none⟩ = some (.int .i64 (t : Int))) := fun W hW => ((HG2.out W hW w.heap.size 1 (by omega) (by omega)).1.trans (HG.out wl HGR.out w.heap.size 1 (by omega)).1).trans H11.out
      have L20 : Hid (∀ W, wl.grownBy W (some z) → W.cell? ⟨w.heap.size + 1, 0, none⟩ = some (.slice none 0 0) ∧ W.cell? ⟨w.heap.size + 1, 1, none⟩ = some (.int .i64 0) ∧ W.frozen? ⟨w.heap.size + 1, 0, none⟩ = false ∧ W.frozen? ⟨w.heap.size + 1, 1, none⟩ = false) := fun W hW =>
        ⟨((HG2.out W hW (w.heap.size + 1) 0 (by omega) (by omega)).1.trans (HG.out wl HGR.out (w.heap.size + 1) 0 (by omega)).1).trans H20.out, ((HG2.out W hW (w.heap.size + 1) 1 (by omega) (by omega)).1.trans (HG.out wl HGR.out (w.heap.size + 1) 1 (by omega)).1).trans H21.out,
          ((HG2.out W hW (w.heap.size + 1) 0 (by omega) (by omega)).2.trans (HG.out wl HGR.out (w.heap.size + 1) 0 (by omega)).2).trans Y20.out, ((HG2.out W hW (w.heap.size + 1) 1 (by omega) (by omega)).2.trans (HG.out wl HGR.out (w.heap.size + 1) 1 (by omega)).2).trans Y21.out⟩
      have LO0 : Hid (∀ W, wl.grownBy W (some z) → W.cell? ⟨O, 0, none⟩ = some (.slice (some ⟨z, 0, none⟩) xs.length xs.length)) := fun W hW => (HG2.out W hW O 0 hOl (by omega)).1.trans o0
      have LO1 : Hid (∀ W, wl.grownBy W (some z) → W.cell? ⟨O, 1, none⟩ = some (.int .i64 (T : Int))) := fun W hW => (HG2.out W hW O 1 hOl (by omega)).1.trans o1
      have hksl : ks.length ≤ 400 := by rw [HKL.out]; omega
      clear hms hml o0 o1 oz0 oz1 hmc1 hmc2
      go_wp2_with fail
      go_loopw [12] (fun u wr => ∃ (i : Nat) (L : List Int), u = .int .i64 i ∧ i ≤ ks.length ∧ outW xs ms (ks.take i) = some L ∧ OwnInts wr z (.slice (some ⟨z, 0, none⟩) xs.length xs.length) (padTo xs.length (0 :: L)) ∧ wl.grownBy wr (some z)) (fun u _ => ks.length - (intOf u).toNat)
      case atStart => exact ⟨0, [], rfl, Nat.zero_le _, rfl, HVL.out, World.grownBy.refl _ _⟩
      case round =>
        obtain ⟨i, L, rfl, hi, hL, hv, hgr⟩ := hrel
        have hsz2 := hgr.size
        have HL := Lib.hid hL; have HV := Lib.hid hv; have HGW := Lib.hid hgr
        clear hL hv hgr
        by_cases hik : i < ks.length
        · obtain ⟨p, hp⟩ : ∃ p, p = ks.getD i 0 := ⟨_, rfl⟩
          have hpe : ks[i] = p := by rw [hp, List.getD_eq_getElem?_getD, List.getElem?_eq_getElem hik]; rfl
          have hpk : p ∈ ks := by rw [← hpe]; exact List.getElem_mem hik
          have hpl := HKI.out.1 p hpk
          have HTK2 : Hid (ks.take (i + 1) = ks.take i ++ [p]) := by rw [Hid, List.take_succ_eq_append_getElem hik, hpe]
          have HTO : Hid (1 + L.length = topOf xs (ks.take i) 1) := outW_len _ L 1 (fun q hq => fields_len HI.out q (HKI.out.1 q (List.mem_of_mem_take hq))) HL.out
          obtain ⟨o1, o2, o3, o4⟩ := places_obj HI.out.2.2.2.1 p hpl
          obtain ⟨d, hd⟩ : ∃ d, d = nf xs p := ⟨_, rfl⟩
          rw [← hd] at o2 o3 o4
          have hfit : 1 + L.length + (2 + d) ≤ t := by
            have h1 := keep_top HI.out (keepIs_take HKI.out (i + 1))
            rw [HTK2.out, topOf_snoc, ← HTO.out, ← hd] at h1
            exact h1
          have HD := Lib.hid hd
          have himl : i < ms.length := by rw [HML.out]; exact hik
          obtain ⟨tt, hto⟩ : ∃ tt, tt = 1 + L.length := ⟨_, rfl⟩
          have hmi : ms[i] = (p, tt) := by
            have := mvs_at xs ks 1 i hik (by rw [mvs_len]; exact hik)
            simp only [← HMS.out, hpe, ← HTO.out, ← hto] at this
            exact this
          rw [← hto] at hfit
          have HTL := Lib.hid hto
          clear hto
          obtain ⟨mg, rfl, hm1, hm2, hm3, hm4⟩ := HMV.out.at himl
          rw [hmi] at hm3 hm4
          have e3 : wr.cell? ⟨mg, i * 2, none⟩ = some (.int .i64 (p : Int)) := (HG2.out wr HGW.out mg (i * 2) hm2 (by omega)).1.trans hm3
          have e4 : wr.cell? ⟨mg, i * 2 + 1, none⟩ = some (.int .i64 (tt : Int)) := (HG2.out wr HGW.out mg (i * 2 + 1) hm2 (by omega)).1.trans hm4
          have HPK := Lib.hid hpk; have HPL := Lib.hid hpl
          have HIK : Hid (i + 1 ≤ ks.length) := hik
          obtain ⟨b, bo, rfl, hbs, _⟩ := (HF.out w (Below.refl _ _)).at (by omega)
          have HWD : Hid (∀ W, wl.grownBy W (some z) → ∀ j, j < xs.length → W.cell? ⟨b, bo + j, none⟩ = some (.int .i64 (xs.getD j 0))) := by
            intro W hW j hj
            obtain ⟨b', bo', e, _, hc⟩ := (HF.out W (HGB2.out W hW)).at (by omega)
            simp only [Option.some.injEq, Addr.mk.injEq] at e
            obtain ⟨rfl, rfl, _⟩ := e
            exact hc j hj
          have HWI : Hid (I64 (xs.getD p 0)) := (HF.out w (Below.refl _ _)).range p
          obtain ⟨st, hst⟩ : ∃ st, st = xs.getD p 0 := ⟨_, rfl⟩
          rw [← hst] at HWI
          have HST := Lib.hid hst
          have hpl0 : (padTo xs.length (0 :: L)).length = xs.length := padTo_len (by simp only [List.length_cons]; have := HTL.out; omega)
          have HPLN := Lib.hid hpl0
          have HA : Hid ((0 :: L).length = tt) := by rw [Hid, HTL.out]; simp; omega
          have HPN : Hid (xs.getD (p + 1) 0 = (d : Int)) := o2
          clear hst hm3 hm4 hmi hpe hp hpk hpl hd o2 hpl0
          have ep1 : IntKind.i64.wrap ((p : Int) + 1) = (p : Int) + 1 := IntWalk.i64_in _ (by omega)
          have et1 : IntKind.i64.wrap ((tt : Int) + 1) = (tt : Int) + 1 := IntWalk.i64_in _ (by omega)
          have bp1 : (p : Int) + 1 < (xs.length : Int) := by omega
          have bp2 : (0 : Int) ≤ (p : Int) + 1 := by omega
          have bp3 : ((p : Int) + 1).toNat = p + 1 := by omega
          have bt1 : (tt : Int) + 1 < (xs.length : Int) := by omega
          have bt2 : (0 : Int) ≤ (tt : Int) + 1 := by omega
          have bt3 : ((tt : Int) + 1).toNat = tt + 1 := by omega
          have bt4 : (tt : Int) < (xs.length : Int) := by omega
          have bp5 : (p : Int) < (xs.length : Int) := by omega
          go_upto_region 18 with (fail)
          obtain ⟨w5, hw5⟩ : ∃ w5, w5 = wr.drew := ⟨_, rfl⟩
          have HG5 : Hid (wl.grownBy w5 (some z)) := by rw [Hid, hw5]; exact grown_tr HGW.out (grown_drew _ _)
          have HV5 : Hid (OwnInts w5 z (.slice (some ⟨z, 0, none⟩) xs.length xs.length) (padTo xs.length (0 :: L))) := by rw [Hid, hw5]; exact HV.out.below (Below.refl _ _).drew
          have k10 := L10.out w5 HG5.out
          have ko0 := LO0.out w5 HG5.out
          have kp := HWD.out w5 HG5.out p (by omega)
          rw [← HST.out] at kp
          obtain ⟨g', eg, _, hgs, hgc, hgz⟩ := HV5.out.spot (by rw [HPLN.out]; omega)
          simp only [Option.some.injEq, Addr.mk.injEq] at eg
          obtain ⟨rfl, _⟩ := eg
          have gc0 := hgc tt (by rw [HPLN.out]; omega)
          have gz0 := hgz tt
          generalize (padTo xs.length (0 :: L)).getD tt 0 = old0 at gc0
          clear hgc hgz e3 e4
          refine still_tail_at 9 (by kernel_rfl) (by kernel_rfl) hw5 ?_
          simp only [List.take_succ_cons, List.take_zero, List.drop_succ_cons, List.drop_zero]
          clear hw5
          repeat still_step
          refine wpStill_nil ?_
          go_upto_region 19 with (fail)
          obtain ⟨w6, hw6⟩ : ∃ w6, w6 = w5.setCell ⟨z, tt, none⟩ (.int .i64 st) := ⟨_, rfl⟩
          have HG6 : Hid (wl.grownBy w6 (some z)) := by rw [Hid, hw6]; exact grown_tr HG5.out (grown_set _ _ _ _)
          have HV6 : Hid (OwnInts w6 z (.slice (some ⟨z, 0, none⟩) xs.length xs.length) (padTo xs.length ((0 :: L) ++ [st]))) := by
            rw [Hid, hw6]
            have h1 := HV5.out.set (i := tt) (by rw [HPLN.out]; omega) HWI.out
            have e1 : (padTo xs.length (0 :: L)).set tt st = padTo xs.length ((0 :: L) ++ [st]) := by
              rw [← HA.out]; exact padTo_set (by rw [HA.out]; omega) st
            rw [e1] at h1
            exact h1
          rw [← hw6]
          clear hw6 k10 ko0 kp gc0 gz0
          obtain ⟨w7, hw7⟩ : ∃ w7, w7 = w6.drew := ⟨_, rfl⟩
          have HG7 : Hid (wl.grownBy w7 (some z)) := by rw [Hid, hw7]; exact grown_tr HG6.out (grown_drew _ _)
          have HV7 : Hid (OwnInts w7 z (.slice (some ⟨z, 0, none⟩) xs.length xs.length) (padTo xs.length ((0 :: L) ++ [st]))) := by rw [Hid, hw7]; exact HV6.out.below (Below.refl _ _).drew
          have k10 := L10.out w7 HG7.out
          have ko0 := LO0.out w7 HG7.out
          have kp := HWD.out w7 HG7.out (p + 1) (by omega)
          rw [HPN.out] at kp
          have hl1 : ((0 :: L) ++ [st]).length = tt + 1 := by rw [List.length_append, HA.out]; rfl
          have HPL1 : Hid ((padTo xs.length ((0 :: L) ++ [st])).length = xs.length) := padTo_len (by rw [hl1]; omega)
          obtain ⟨g', eg, _, hgs, hgc, hgz⟩ := HV7.out.spot (by rw [HPL1.out]; omega)
          simp only [Option.some.injEq, Addr.mk.injEq] at eg
          obtain ⟨rfl, _⟩ := eg
          have gc0 := hgc (tt + 1) (by rw [HPL1.out]; omega)
          have gz0 := hgz (tt + 1)
          generalize (padTo xs.length ((0 :: L) ++ [st])).getD (tt + 1) 0 = old1 at gc0
          have HL1 := Lib.hid hl1
          clear hgc hgz hl1
          refine still_tail_at 11 (by kernel_rfl) (by kernel_rfl) hw7 ?_
          simp only [List.take_succ_cons, List.take_zero, List.drop_succ_cons, List.drop_zero]
          clear hw7
          repeat still_step
          refine wpStill_nil ?_
          go_wp2_with fail
          obtain ⟨w8, hw8⟩ : ∃ w8, w8 = w7.setCell ⟨z, tt + 1, none⟩ (.int .i64 (d : Int)) := ⟨_, rfl⟩
          have HDI : Hid (I64 (d : Int)) := by unfold Hid I64; omega
          have HG8 : Hid (wl.grownBy w8 (some z)) := by rw [Hid, hw8]; exact grown_tr HG7.out (grown_set _ _ _ _)
          have HV8 : Hid (OwnInts w8 z (.slice (some ⟨z, 0, none⟩) xs.length xs.length) (padTo xs.length ((0 :: L) ++ [st, (d : Int)]))) := by
            rw [Hid, hw8]
            have h1 := HV7.out.set (i := tt + 1) (by rw [HPL1.out]; omega) HDI.out
            have e1 : (padTo xs.length ((0 :: L) ++ [st])).set (tt + 1) (d : Int) = padTo xs.length ((0 :: L) ++ [st] ++ [(d : Int)]) := by
              rw [← HL1.out]; exact padTo_set (by rw [HL1.out]; omega) _
            rw [e1, List.append_assoc] at h1
            exact h1
          rw [← hw8]
          clear hw8 k10 ko0 kp gc0 gz0 et1 bt1 bt2 bt3 bp2 bp3
          have HFIN : Hid (∀ wq ys, cvts ms (fieldsOf xs p) = some ys → OwnInts wq z (.slice (some ⟨z, 0, none⟩) xs.length xs.length) (padTo xs.length ((0 :: L) ++ (st :: (d : Int) :: ys))) → wl.grownBy wq (some z) →
              ∃ L', outW xs ms (ks.take (i + 1)) = some L' ∧ OwnInts wq z (.slice (some ⟨z, 0, none⟩) xs.length xs.length) (padTo xs.length (0 :: L')) ∧ wl.grownBy wq (some z)) := by
            intro wq ys h1 h2 h3
            refine ⟨L ++ (st :: (d : Int) :: ys), ?_, by simpa using h2, h3⟩
            rw [HTK2.out, outW_append, HL.out]
            simp only [outW, objW, h1, Option.map_some, Option.bind_some, ← HST.out, ← HD.out, List.append_nil]
          have HFL : Hid (fieldsOf xs p = (xs.drop (p + 2)).take d) := by rw [Hid, fieldsOf, HD.out]
          go_loopw [15] (fun u wr => ∃ (j : Nat) (ys : List Int), u = .int .i64 j ∧ j ≤ d ∧ cvts ms ((fieldsOf xs p).take j) = some ys ∧ OwnInts wr z (.slice (some ⟨z, 0, none⟩) xs.length xs.length) (padTo xs.length ((0 :: L) ++ (st :: (d : Int) :: ys))) ∧ wl.grownBy wr (some z)) (fun u _ => d - (intOf u).toNat)
          case atStart => exact ⟨0, [], rfl, Nat.zero_le _, by simp [cvts], HV8.out, HG8.out⟩
          case round =>
            obtain ⟨j, ys, rfl, hj, hcv, hv, hgr⟩ := hrel
            have HCV := Lib.hid hcv; have HVJ := Lib.hid hv; have HGJ := Lib.hid hgr
            have HYL : Hid (ys.length = j) := by
              have := cvts_len _ _ _ hcv
              rw [Hid, this, List.length_take, fields_len HI.out p HPL.out, ← HD.out]; omega
            have hsz3 := hgr.size
            clear hcv hv hgr
            have k10 := L10.out wr HGJ.out
            have kp := HWD.out wr HGJ.out (p + 1) (by omega)
            rw [HPN.out] at kp
            by_cases hjd : j < d
            · have k11 := L11.out wr HGJ.out
              have hw0 := HWD.out wr HGJ.out (p + 2 + j) (by omega)
              have hrng := (HF.out w (Below.refl _ _)).range (p + 2 + j)
              obtain ⟨x, hx⟩ : ∃ x, x = xs.getD (p + 2 + j) 0 := ⟨_, rfl⟩
              rw [← hx] at hw0 hrng
              have HRNG := Lib.hid hrng
              have HLR : Hid (LoadRes xs (t : Int) (p : Int) (j : Int) (ofK x) (ofN x) 0) := .inr ⟨t, l, rfl, HI.out, .inl ⟨p, j, ⟨HPL.out, rfl, rfl, by rw [← HD.out]; exact hjd⟩, by rw [hx], by rw [hx], rfl⟩⟩
              have HTKJ : Hid ((fieldsOf xs p).take (j + 1) = (fieldsOf xs p).take j ++ [x]) := by
                rw [Hid, HFL.out, List.take_take, List.take_take, Nat.min_eq_left (by omega), Nat.min_eq_left (by omega), List.take_succ_eq_append_getElem (by simp; omega)]
                congr 2
                rw [hx, List.getElem_drop, List.getD_eq_getElem?_getD, List.getElem?_eq_getElem (by omega)]
                rfl
              have HWX : Hid (∀ W, wl.grownBy W (some z) → W.cell? ⟨b, bo + (p + 2 + j), none⟩ = some (.int .i64 x)) := fun W hW => by rw [hx]; exact HWD.out W hW (p + 2 + j) (by omega)
              have HPL2 : Hid ((padTo xs.length ((0 :: L) ++ (st :: (d : Int) :: ys))).length = xs.length) := padTo_len (by rw [List.length_append, HA.out]; simp only [List.length_cons, HYL.out]; omega)
              have HJD : Hid (j + 1 ≤ d) := hjd
              have HFW : Hid (∀ W, Below wr.heap.size wr W → Ints W (.slice (some ⟨b, bo, none⟩) xs.length c) xs) := fun W hW => HF.out W (HGB2.out W (grown_below HGJ.out hW))
              clear hx hrng hw0
              go_upto_region 24 with (go_at_call 54; refine (loadOf_any _ xs _ _ _ _ (HFW.out _ (by repeat (first | exact Below.refl _ _ | with_reducible refine below_drewN ?_ _ | with_reducible refine Below.drew ?_ | with_reducible refine Below.alloc ?_ (by first | exact Nat.le_refl _ | (simp; done) | omega | (simp; omega)) _ | with_reducible refine Below.setCell ?_ (by first | exact Nat.le_refl _ | (simp; done) | omega | (simp; omega)) _)))).mono ?_; intro e w4 hr; obtain ⟨hb4, k4, v4, r4, hr4, rfl⟩ := hr.res; clear hr; obtain ⟨rfl, rfl, rfl⟩ := hr4.uniq HLR.out; clear hr4; unfold valE; have HB4 := Lib.hid hb4; clear hb4)
              obtain ⟨V, hV⟩ : ∃ V, V = w4.heap.size := ⟨_, rfl⟩
              obtain ⟨w9, hw9⟩ : ∃ w9, w9 = w4.alloc (.cells #[.int .i64 (ofK x), .int .i64 (ofN x)] 36) := ⟨_, rfl⟩
              have HB9 : Hid (Below wr.heap.size wr w9) := by rw [Hid, hw9]; exact (by repeat (first | exact Below.refl _ _ | with_reducible refine Below.trans ?_ (Below.mono HB4.out (by first | exact Nat.le_refl _ | (simp; done) | omega | (simp; omega) | (have z0 := Below.size HB4.out; omega) | (have z0 := Below.size HB4.out; simp at *; omega))) | with_reducible refine below_drewN ?_ _ | with_reducible refine Below.drew ?_ | with_reducible refine Below.alloc ?_ (by first | exact Nat.le_refl _ | (simp; done) | omega | (simp; omega) | (have z0 := Below.size HB4.out; omega) | (have z0 := Below.size HB4.out; simp at *; omega)) _ | with_reducible refine Below.setCell ?_ (by first | exact Nat.le_refl _ | (simp; done) | omega | (simp; omega) | (have z0 := Below.size HB4.out; omega) | (have z0 := Below.size HB4.out; simp at *; omega)) _))
              have hv0 : w9.cell? ⟨V, 0, none⟩ = some (.int .i64 (ofK x)) := by rw [hw9, hV]; simp
              have hv1 : w9.cell? ⟨V, 1, none⟩ = some (.int .i64 (ofN x)) := by rw [hw9, hV]; simp
              have hV9 : V < w9.heap.size := by rw [hw9, hV]; simp
              rw [← hV, ← hw9]
              clear hw9 k10 kp k11 HB4
              clear hV
              have HG9 : Hid (wl.grownBy w9 (some z)) := grown_below HGJ.out HB9.out
              have HV9 := Lib.hid (HVJ.out.below HB9.out)
              by_cases hs : x % 2 = 1 ∧ ofN x ≠ 0
              · obtain ⟨hodd, hn0⟩ := hs
                have hk : ofK x = 1 := hodd
                have hk1 : (ofK x == 1) = true := by rw [hk]; rfl
                have hk2 : (ofN x != 0) = true := by simpa using hn0
                have HODD := Lib.hid hodd; have HN0 := Lib.hid hn0
                clear hodd hk hn0
                have HCELL : Hid (∀ W, Below w9.heap.size w9 W → ∀ k (hk : k < ms.length), W.cell? ⟨mg, k * 2, none⟩ = some (.int .i64 (ms[k].1 : Int)) ∧ W.cell? ⟨mg, k * 2 + 1, none⟩ = some (.int .i64 (ms[k].2 : Int))) := fun W hW k hk => by
                  obtain ⟨mg', eg, _, hm2', hm3, hm4⟩ := HMV.out.at hk
                  simp only [Option.some.injEq, Addr.mk.injEq] at eg
                  obtain ⟨rfl, _⟩ := eg
                  have hgw := grown_below HG9.out hW
                  exact ⟨(HG2.out W hgw mg (k * 2) hm2' (by omega)).1.trans hm3, (HG2.out W hgw mg (k * 2 + 1) hm2' (by omega)).1.trans hm4⟩
                have hml2 : ms.length ≤ 400 := by rw [HML.out]; exact hksl
                have HMLE : Hid (ms.length = ks.length) := HML.out
                have mx := HWX.out w9 HG9.out
                have m10 := L10.out w9 HG9.out
                go_wp2_with fail
                go_loopw [18, 19] (fun u18 u wr' => ∃ k : Nat, u = .int .i64 k ∧ k ≤ ms.length ∧ u18 = .int .i64 (wv (ms.take k) (ofN x)) ∧ Below w9.heap.size w9 wr') (fun _ u _ => ms.length - (intOf u).toNat)
                case atStart => exact ⟨0, rfl, Nat.zero_le _, by simp [wv_nil], Below.refl _ _⟩
                case round =>
                  obtain ⟨k, rfl, hk, rfl, hbk⟩ := hrel
                  have hvk := (hbk.cell (p := ⟨V, 1, none⟩) hV9).trans hv1
                  have HBK := Lib.hid hbk
                  by_cases hkl : k < ms.length
                  · obtain ⟨hc1, hc2⟩ := HCELL.out wr hbk k hkl
                    have hmb := mvs_le xs ks 1 ms[k] (by rw [← HMS.out]; exact List.getElem_mem hkl)
                    rw [← HTT.out] at hmb
                    obtain ⟨hmb1, hmb2⟩ := hmb
                    have HNEW : Hid (ms[k].1 ∉ (ms.take k).map (·.1)) := by have h := mvs_new (xs := xs) (k := k) HKI.out (by rw [← HMS.out]; exact hkl); simp only [← HMS.out] at h; exact h
                    have HTK3 : Hid (ms.take (k + 1) = ms.take k ++ [ms[k]]) := by rw [Hid, List.take_succ_eq_append_getElem hkl]
                    have HKL2 : Hid (k + 1 ≤ ms.length) := hkl
                    have hkl3 : (k : Int) < (ks.length : Int) := by rw [← HMLE.out]; omega
                    generalize ms[k] = m at hc1 hc2 hmb1 hmb2 HNEW HTK3
                    clear hbk
                    by_cases hmx : (m.1 : Int) = ofN x
                    · have hmx1 : ((m.1 : Int) == ofN x) = true := by simpa using hmx
                      have HMX := Lib.hid hmx
                      clear hmx
                      go_wp2
                      go_quiet (fail)
                      go_wp2_with fail
                      go_roundw
                      case rel => exact ⟨k + 1, by go_num, HKL2.out, by rw [HTK3.out, wv_hit _ _ _ HMX.out HNEW.out], below_drewN HBK.out _⟩
                      case measure => have := HKL2.out; simp [intOf]; omega
                    · have hmx1 : ((m.1 : Int) == ofN x) = false := by simpa using hmx
                      have HMX := Lib.hid hmx
                      clear hmx
                      go_wp2
                      go_quiet (fail)
                      go_wp2_with fail
                      go_roundw
                      case rel => exact ⟨k + 1, by go_num, HKL2.out, by rw [HTK3.out, wv_miss _ _ _ HMX.out], below_drewN HBK.out _⟩
                      case measure => have := HKL2.out; simp [intOf]; omega
                  · obtain rfl : k = ms.length := by omega
                    rw [List.take_length]
                    have hkl3 : ¬ ((ms.length : Int) < (ks.length : Int)) := by rw [← HMLE.out]; omega
                    have hbk2 := hbk
                    have HGK : Hid (wl.grownBy wr (some z)) := grown_below HG9.out hbk
                    have HVK := Lib.hid (HV9.out.below hbk)
                    clear hbk hbk2
                    rcases wv_toF ms (ofN x) HN0.out with ⟨htv, hwv⟩ | ⟨y, htv, hwv⟩
                    · rw [hwv]
                      have HNONE : Hid (outW xs (mvs xs ks 1) ks = none) := by
                        have e1 : cvt ms x = none := by rw [cvt, if_pos HODD.out, show x / 2 = ofN x from rfl, htv]; rfl
                        have e2 : cvts ms (fieldsOf xs p) = none := by
                          rw [← List.take_append_drop (j + 1) (fieldsOf xs p), HTKJ.out, List.append_assoc, cvts_append, HCV.out]
                          simp [cvts, e1]
                        have e3 : objW xs ms p = none := by rw [objW, e2]; rfl
                        rw [Hid, ← HMS.out, ← List.take_append_drop (i + 1) ks, HTK2.out, List.append_assoc, outW_append, HL.out]
                        simp [outW, e3]
                      clear htv hwv
                      obtain ⟨l20, l21, lz20, lz21⟩ := L20.out wr HGK.out
                      have HBF := Lib.hid (HGB2.out wr HGK.out)
                      go_wp2_with fail
                      refine bodyPost_ret (v := .tuple #[.agg #[.slice none 0 0, .int .i64 0], .slice none 0 0, .int .i64 5]) (by simp [results, Try.results28, go_sem, *]) rfl ⟨(HBF.out.setCell (by simp) _).setCell (by simp) _, .inr ⟨t, l, rfl, HI.out, .inr ⟨ks, HKE.out, HKI.out, .inl ⟨HNONE.out, rfl⟩⟩⟩⟩
                    · rw [hwv]
                      have hyb := toF_le (by rw [← HMS.out]; exact htv)
                      rw [← HTT.out] at hyb
                      obtain ⟨hy1, hy2⟩ := hyb
                      have HCX : Hid (cvt ms x = some (2 * y + 1)) := by
                        rw [Hid, cvt, if_pos HODD.out, show x / 2 = ofN x from rfl, htv]; rfl
                      have HVI : Hid (I64 (2 * y + 1)) := by unfold Hid I64; omega
                      have hwn : ((2 * y + 1 : Int) == 0) = false := by simp; omega
                      clear htv hwv
                      generalize 2 * y + 1 = vv at hwn HVI HCX ⊢
                      obtain ⟨g', eg, _, hgs, hgc, hgz⟩ := HVK.out.spot (by rw [HPL2.out]; omega)
                      simp only [Option.some.injEq, Addr.mk.injEq] at eg
                      obtain ⟨rfl, _⟩ := eg
                      have gc0 := hgc (tt + 2 + j) (by rw [HPL2.out]; omega)
                      have gz0 := hgz (tt + 2 + j)
                      generalize (padTo xs.length ((0 :: L) ++ (st :: (d : Int) :: ys))).getD (tt + 2 + j) 0 = old0 at gc0
                      clear hgc hgz
                      have mo0 := LO0.out wr HGK.out
                      go_wp2_with fail
                      go_roundw
                      case rel =>
                        refine ⟨j + 1, ys ++ [vv], by go_num, HJD.out, ?_, ?_, grown_tr HGK.out (grown_set _ _ _ _)⟩
                        · rw [HTKJ.out, cvts_append, HCV.out]
                          simp only [cvts, HCX.out, Option.bind_some, Option.map_some]
                        · have h1 := HVK.out.set (i := tt + 2 + j) (by rw [HPL2.out]; omega) HVI.out
                          have e1 : ((0 :: L) ++ (st :: (d : Int) :: ys)).length = tt + 2 + j := by rw [List.length_append, HA.out]; simp only [List.length_cons, HYL.out]; omega
                          have e2 := padTo_set (n := xs.length) (A := (0 :: L) ++ (st :: (d : Int) :: ys)) (by rw [e1]; omega) vv
                          rw [e1] at e2
                          rw [e2] at h1
                          simpa using h1
                      case measure => have := HJD.out; simp [intOf]; omega
              · have HCX : Hid (cvt ms x = some x) := by
                  rw [Hid, cvt]
                  by_cases h1 : x % 2 = 1
                  · have h2 : ofN x = 0 := Classical.byContradiction fun h => hs ⟨h1, h⟩
                    have h3 : x / 2 = 0 := h2
                    rw [if_pos h1, h3, toF, if_pos rfl]
                    show some (2 * (0 : Int) + 1) = some x
                    rw [show 2 * (0 : Int) + 1 = x by omega]
                  · rw [if_neg h1]
                have hcc : ((ofK x == 1) = true ∧ (ofN x != 0) = false) ∨ (ofK x == 1) = false := by
                  by_cases h1 : x % 2 = 1
                  · exact .inl ⟨by simpa [ofK] using h1, by simpa using Classical.byContradiction fun h => hs ⟨h1, h⟩⟩
                  · exact .inr (by simpa [ofK] using h1)
                clear hs
                have HVI : Hid (I64 x) := HRNG.out
                obtain ⟨g', eg, _, hgs, hgc, hgz⟩ := HV9.out.spot (by rw [HPL2.out]; omega)
                simp only [Option.some.injEq, Addr.mk.injEq] at eg
                obtain ⟨rfl, _⟩ := eg
                have gc0 := hgc (tt + 2 + j) (by rw [HPL2.out]; omega)
                have gz0 := hgz (tt + 2 + j)
                generalize (padTo xs.length ((0 :: L) ++ (st :: (d : Int) :: ys))).getD (tt + 2 + j) 0 = old0 at gc0
                clear hgc hgz
                have m10 := L10.out w9 HG9.out
                have mo0 := LO0.out w9 HG9.out
                have mx := HWX.out w9 HG9.out
                rcases hcc with ⟨hk1, hk2⟩ | hk1
                all_goals (
                  go_wp2_with fail
                  go_roundw
                  case rel =>
                    refine ⟨j + 1, ys ++ [x], by go_num, HJD.out, ?_, ?_, grown_tr HG9.out (grown_set _ _ _ _)⟩
                    · rw [HTKJ.out, cvts_append, HCV.out]
                      simp only [cvts, HCX.out, Option.bind_some, Option.map_some]
                    · have h1 := HV9.out.set (i := tt + 2 + j) (by rw [HPL2.out]; omega) HVI.out
                      have e1 : ((0 :: L) ++ (st :: (d : Int) :: ys)).length = tt + 2 + j := by rw [List.length_append, HA.out]; simp only [List.length_cons, HYL.out]; omega
                      have e2 := padTo_set (n := xs.length) (A := (0 :: L) ++ (st :: (d : Int) :: ys)) (by rw [e1]; omega) x
                      rw [e1] at e2
                      rw [e2] at h1
                      simpa using h1
                  case measure => have := HJD.out; simp [intOf]; omega)
            · obtain rfl : j = d := by omega
              have hcv2 := HCV.out
              rw [List.take_of_length_le (by rw [fields_len HI.out p HPL.out, ← HD.out]; omega)] at hcv2
              have HEND := Lib.hid (HFIN.out wr ys hcv2 HVJ.out HGJ.out)
              clear hcv2
              go_wp2_with fail
              go_roundw
              case rel =>
                obtain ⟨L', q1, q2, q3⟩ := HEND.out
                exact ⟨i + 1, L', by go_num, HIK.out, q1, q2, q3⟩
              case measure => have := HIK.out; simp [intOf]; omega
        · obtain rfl : i = ks.length := by omega
          have HLL : Hid (outW xs (mvs xs ks 1) ks = some L) := by have := HL.out; rw [List.take_length, HMS.out] at this; exact this
          have HMVR : Hid (OwnMoves wr (O + 1) (.slice ma ks.length mc) ms) := HMV.out.grown HGW.out (by
            cases hb : (Value.slice ma ks.length mc).ownBlock with
            | none => exact .inl rfl
            | some j => exact .inr (fun e => by have h2 := (HMV.out.lt hb).1; simp only [Option.some.injEq] at e; omega))
          have lo0 := LO0.out wr HGW.out
          have lo1 := LO1.out wr HGW.out
          obtain ⟨l20, l21, lz20, lz21⟩ := L20.out wr HGW.out
          have HBF := Lib.hid (HGB2.out wr HGW.out)
          have hHR : w.heap.size + 1 < wr.heap.size := by omega
          go_wp2_with fail
          refine bodyPost_ret (v := .tuple #[.agg #[.slice (some ⟨z, 0, none⟩) xs.length xs.length, .int .i64 (T : Int)], .slice ma ks.length mc, .int .i64 0]) (by simp [results, Try.results28, go_sem, *]) rfl ⟨(HBF.out.setCell (by simp) _).setCell (by simp) _, .inr ⟨t, l, rfl, HI.out, .inr ⟨ks, HKE.out, HKI.out, .inr ⟨L, _, _, HLL.out, by rw [← HTT.out], ?_, ?_⟩⟩⟩⟩
          · exact ((HV.out.setFar (by simp [Value.ownBlock]; omega) _).setFar (by simp [Value.ownBlock]; omega) _).mono (by omega)
          · rw [← HMS.out]
            have hne : (Value.slice ma ks.length mc).ownBlock ≠ some (w.heap.size + 1) := fun e => by have := (HMVR.out.lt e).1; omega
            exact ((HMVR.out.setFar hne _).setFar hne _).mono (by omega)

set_option maxRecDepth 100000 in
set_option maxHeartbeats 400000 in
theorem closedOf_any (v kv : Value) (xs keep : List Int) (top : Int) (w : World) (h : Ints w v xs) (hr : Ints w kv keep) :
    Calls Try.prog 28 #[.agg #[v, .int .i64 top], kv] w (RetClosed w xs top keep) := by
  by_cases hok : HeapOk xs top
  · obtain ⟨t, l, rfl, his⟩ := hok
    exact closedOf_ok v kv xs keep t l w h hr his
  · obtain ⟨a, c, rfl, hc, hcm, _⟩ := h.len
    have HF : Hid (∀ w2, Below w.heap.size w w2 → Ints w2 (.slice a xs.length c) xs) := fun w2 hb2 => h.below (Nat.le_refl _) hb2
    have HN := Lib.hid hok
    clear h hr hok
    go_enter Try.func28, Try.ntmps28
    go_wp2_with (go_at_call 59; refine (PlacesOf_any _ xs _ _ (HF.out _ (by repeat (first | exact Below.refl _ _ | with_reducible refine below_drewN ?_ _ | with_reducible refine Below.drew ?_ | with_reducible refine Below.alloc ?_ (by first | exact Nat.le_refl _ | (simp; done) | omega | (simp; omega)) _ | with_reducible refine Below.setCell ?_ (by first | exact Nat.le_refl _ | (simp; done) | omega | (simp; omega)) _)))).mono ?_; rintro e w1 ⟨hb, ⟨t', l', la, lc, ht, hi, rfl, hv⟩ | ⟨hno, rfl⟩⟩; (exact absurd ⟨t', l', ht, hi⟩ HN.out); have zc3 := Nat.lt_of_lt_of_le (show w.heap.size < _ from (by first | (simp; done) | omega | (simp; omega))) (Below.size hb); have fc3_0 := Below.cell hb (p := ⟨w.heap.size, 0, none⟩) (by first | (simp; done) | omega | (simp; omega)); have gc3_0 := Below.frozen hb (p := ⟨w.heap.size, 0, none⟩) (by first | (simp; done) | omega | (simp; omega)); have fc3_1 := Below.cell hb (p := ⟨w.heap.size, 1, none⟩) (by first | (simp; done) | omega | (simp; omega)); have gc3_1 := Below.frozen hb (p := ⟨w.heap.size, 1, none⟩) (by first | (simp; done) | omega | (simp; omega)); (try simp at fc3_0 gc3_0 fc3_1 gc3_1); have zc4 := Nat.lt_of_lt_of_le (show w.heap.size + 1 < _ from (by first | (simp; done) | omega | (simp; omega))) (Below.size hb); have fc4_0 := Below.cell hb (p := ⟨w.heap.size + 1, 0, none⟩) (by first | (simp; done) | omega | (simp; omega)); have gc4_0 := Below.frozen hb (p := ⟨w.heap.size + 1, 0, none⟩) (by first | (simp; done) | omega | (simp; omega)); have fc4_1 := Below.cell hb (p := ⟨w.heap.size + 1, 1, none⟩) (by first | (simp; done) | omega | (simp; omega)); have gc4_1 := Below.frozen hb (p := ⟨w.heap.size + 1, 1, none⟩) (by first | (simp; done) | omega | (simp; omega)); (try simp at fc4_0 gc4_0 fc4_1 gc4_1); have HB := Lib.hid hb; clear hb)
    refine bodyPost_ret (v := .tuple #[.agg #[.slice none 0 0, .int .i64 0], .slice none 0 0, .int .i64 5]) (by simp [results, Try.results28, go_sem, *]) rfl ⟨(by repeat (first | exact Below.refl _ _ | with_reducible refine Below.trans ?_ (Below.mono HB.out (by first | exact Nat.le_refl _ | (simp; done) | omega | (simp; omega) | (have z0 := Below.size HB.out; omega) | (have z0 := Below.size HB.out; simp at *; omega))) | with_reducible refine below_drewN ?_ _ | with_reducible refine Below.drew ?_ | with_reducible refine Below.alloc ?_ (by first | exact Nat.le_refl _ | (simp; done) | omega | (simp; omega) | (have z0 := Below.size HB.out; omega) | (have z0 := Below.size HB.out; simp at *; omega)) _ | with_reducible refine Below.setCell ?_ (by first | exact Nat.le_refl _ | (simp; done) | omega | (simp; omega) | (have z0 := Below.size HB.out; omega) | (have z0 := Below.size HB.out; simp at *; omega)) _)), .inl ⟨HN.out, rfl⟩⟩
end Go.Proofs.Ytbeilcaadpopmab
