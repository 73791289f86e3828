/- Walk: limewashkeep.MachinesGood. -/
import Derived.Test.YtbeilcaadpopmabCa
import Derived.Test.YtbeilcaadpopmabZs
set_option linter.unusedVariables false
set_option linter.unusedSimpArgs false
namespace Go.Proofs.Ytbeilcaadpopmab
open Go.RowKit Go.Maps

/-! ### Acts that fail -/
def failL (q : Int) : List ActM := [⟨13 + q, 0, 0, 0, 0⟩, ⟨5, 0, 4, 0, 0⟩, ⟨1, -1, 0, 0, 0⟩]
theorem fail_one (H : Hall) (q : Int) (hq : 0 ≤ q) : H.act ⟨13 + q, 0, 0, 0, 0⟩ = (H, .err 3) := by
  unfold Hall.act
  rw [if_pos (by dsimp only; omega)]
theorem fail_two (H : Hall) : H.act ⟨5, 0, 4, 0, 0⟩ = (H, .err 2) := by
  unfold Hall.act
  rw [if_neg (by dsimp only; omega), if_pos (by decide)]
theorem fail_three (H : Hall) : H.act ⟨1, -1, 0, 0, 0⟩ = (H, .err 2) := by
  unfold Hall.act
  rw [if_neg (by dsimp only; omega), if_pos (by decide)]
theorem fail_all (H : Hall) (q : Int) (hq : 0 ≤ q) : H.runs (failL q) = H ∧ H.answers (failL q) = [.err 3, .err 2, .err 2] := by
  simp only [failL, Hall.runs, Hall.answers, fail_one H q hq, fail_two, fail_three, and_self]

def zeroActs (n : Nat) : List ActM := List.replicate n ⟨0, 0, 0, 0, 0⟩
theorem zeroActs_cells : ∀ n, cellsAct (zeroActs n) = List.replicate (n * 5) (.int .i64 0)
  | 0 => rfl
  | n + 1 => by
    have ih := zeroActs_cells n
    have e : cellsAct (zeroActs (n + 1)) = .int .i64 0 :: .int .i64 0 :: .int .i64 0 :: .int .i64 0 :: .int .i64 0 :: cellsAct (zeroActs n) := rfl
    rw [e, ih, show (n + 1) * 5 = n * 5 + 1 + 1 + 1 + 1 + 1 by omega]
    simp only [List.replicate_succ]
theorem madeActs (n : Nat) : (madeCells (Value.agg #[.int .i64 0, .int .i64 0, .int .i64 0, .int .i64 0, .int .i64 0]).cells (n * 5)).toList = cellsAct (zeroActs n) := by
  rw [zeroActs_cells]
  refine List.ext_getElem (by simp [madeCells]) fun i h1 h2 => ?_
  simp only [madeCells, Value.cells, List.getElem_replicate]
  have : i % 5 = 0 ∨ i % 5 = 1 ∨ i % 5 = 2 ∨ i % 5 = 3 ∨ i % 5 = 4 := by omega
  rcases this with e | e | e | e | e <;> simp [e]

/-- 'make([]Act, n)' at the operation. -/
theorem wpl_make_acts {ops : Array Oper} {rest : List Oper} {o : Oper} {a : Act} {Q : Exit → Act → World → Prop} {w : World} (hg : o.guard = none) (l c : Operand)
    (ho : o.op = Op.makeSlice 42 l c) (base : Nat) (n : Nat) (N : Int) (hN : N = (n : Int)) (hl : a.eval l = .int .i64 N) (hc : a.eval c = .int .i64 N) (hlen : n ≤ 1000) (hbase : base ≤ w.heap.size)
    (h : ∀ w', OwnAct w' base (.slice (some ⟨w.heap.size, 0, none⟩) n n) (zeroActs n) → w.grownBy w' none → wpList Try.prog ops Q rest (a.put o.dst (.slice (some ⟨w.heap.size, 0, none⟩) n n)) w') : wpList Try.prog ops Q (o :: rest) a w := by
  obtain ⟨i, hi, hz, h4, h5⟩ := info_parts Try.infoAct
  refine wpList_make_full w hg l c 42 ho base 46 i _ 5 Try.underlying42 hi hz h4 .i64 .i64 N N n hl hc hN hN (by rw [h5]; omega) (by unfold maxLen; omega) hbase (fun w' h1 h2 => h w' ⟨by simp [zeroActs]; omega, ?_⟩ h2)
  rw [madeActs] at h1
  have e : (zeroActs n).length = n := by simp [zeroActs]
  rw [e]
  exact h1

set_option maxRecDepth 100000 in
set_option maxHeartbeats 8000000 in
theorem machinesGood_any (v : Value) (rs : List Raw4) (kind words : Int) (w : World) (h : Raws w v rs) (hk : I64 kind) (hw : I64 words) : Calls Try.prog 14 #[v, .int .i64 kind, .int .i64 words] w fun e w' => e = .returned (.bool true) ∧ Below w.heap.size w w' := by
  have HR : Hid (∀ W, Below w.heap.size w W → Raws W v rs) := fun W hW => h.below (Nat.le_refl _) hW
  clear h
  unfold I64 at hk hw
  obtain ⟨k1, k2⟩ := hk; obtain ⟨w1', w2'⟩ := hw
  obtain ⟨m, hm, hm3⟩ := pick_of words 300 (by decide)
  have HM := Lib.hid hm; clear hm
  obtain ⟨q, hq, hq9⟩ := pick_of kind 9 (by decide)
  have HQ := Lib.hid hq; clear hq
  go_enter Try.func14, Try.ntmps14
  go_upto_region 3 with (first
    | (go_at_call 24; refine (shared_any _).mono ?_; rintro e w1 ⟨hb1, a1, c1, rfl, hv1⟩; have HS1 : Hid (Sofar w w1 (.slice a1 12 c1) sharedL) := ⟨hv1, hb1, shared_ok⟩; clear hb1 hv1)
    | (go_at_call 25; refine (acts_any v rs 90 4 w1 (HR.out _ HS1.out.2.1) (by omega) (by omega)).mono ?_; rintro e w2 ⟨hb2, l, a2, c2, rfl, hv2, hl, hok⟩; have HS2 := Lib.hid (HS1.out.below hb2); have HV2 := Lib.hid hv2; have HOK := Lib.hid hok; clear hb2 hv2 hok)
    | (at_builtin; refine wpl_append_So rfl _ _ rfl (.slice a1 12 c1) sharedL rfl HS2.out _ l rfl HV2.out.row (fun r hr => (HOK.out r hr).1) (by rw [sharedL_len]; omega) ?_; intro v3 w3 hs3 hg3; obtain ⟨a3, c3, rfl⟩ := hs3.shape; have HS3 := Lib.hid hs3; clear hs3 hg3)
    | (go_at_call 15; refine (picked_any _ _ _ (by omega) (by omega) (by omega) (by omega)).mono ?_; rintro e w' ⟨rfl, rfl⟩; rw [HM.out]))
  obtain ⟨A, hA⟩ : ∃ A, A = sharedL ++ l := ⟨_, rfl⟩
  have hAl : A.length ≤ 102 := by rw [hA, List.length_append, sharedL_len]; omega
  have hAL : sharedL.length + l.length = A.length := by rw [hA, List.length_append]
  rw [← hA] at HS3
  rw [hAL]
  clear hAL hA HS2 HV2 HOK HR HS1
  go_upto_region 4 with (go_at_call 42; refine (run_any _ _ A _ HS3.out.acts).mono ?_; rintro e w4 ⟨hb1, ⟨hno, _⟩ | ⟨_, hno, _⟩ | ⟨_, _, aa, ac, ha, hc', tp, xs, lp, rfl, hv, hxs, hhe, hxl, hwd⟩⟩; exact absurd ⟨by omega, by omega⟩ hno; exact absurd hno (by omega); have HV4 := Lib.hid hv; have HB4 := Lib.hid hb1; have HX4 := Lib.hid hxs; have HH4 := Lib.hid hhe; have HXL := Lib.hid hxl; have HWD := Lib.hid hwd; clear hv hb1 hxs hhe hxl hwd)
  obtain ⟨z1, hz1⟩ : ∃ z, z = w4.heap.size := ⟨_, rfl⟩
  obtain ⟨w5, hw5⟩ : ∃ w5, w5 = w4.alloc (.cells #[.slice ha xs.length hc', .int .i64 (tp : Int)] 25) := ⟨_, rfl⟩
  have HB5 : Hid (Below w4.heap.size w4 w5) := by rw [Hid, hw5]; exact (by repeat (first | exact Below.refl _ _ | with_reducible refine below_drewN ?_ _ | with_reducible refine Below.drew ?_ | with_reducible refine Below.alloc ?_ (by first | exact Nat.le_refl _ | (simp; done) | omega | (simp; omega)) _ | with_reducible refine Below.setCell ?_ (by first | exact Nat.le_refl _ | (simp; done) | omega | (simp; omega)) _))
  have HR5 : Hid (RowAt w5 z1 [.slice ha xs.length hc', .int .i64 (tp : Int)]) := by rw [Hid, hw5, hz1]; exact RowAt.alloc _ _ _
  rw [← hz1, ← hw5]
  clear hz1 hw5
  have HS5 := Lib.hid ((HS3.out.below HB4.out).below HB5.out)
  have HX5 := Lib.hid (HX4.out.below HB5.out)
  have HBW5 : Hid (Below w.heap.size w w5) := HS5.out.2.1
  clear HS3 HB4 HB5 HX4 HV4
  have hfl : ∀ r ∈ failL (q : Int), I64 r.kind ∧ I64 r.t ∧ I64 r.a ∧ I64 r.b ∧ I64 r.n := by
    intro r hr
    simp only [failL, List.mem_cons, List.not_mem_nil, or_false] at hr
    unfold I64
    rcases hr with rfl | rfl | rfl <;> dsimp only <;> omega
  have HFL := Lib.hid hfl
  have HRWF : Hid (∀ W : World, Acts (W.alloc (.cells #[.int .i64 (13 + (q : Int)), .int .i64 0, .int .i64 0, .int .i64 0, .int .i64 0, .int .i64 5, .int .i64 0, .int .i64 4, .int .i64 0, .int .i64 0, .int .i64 1, .int .i64 (-1), .int .i64 0, .int .i64 0, .int .i64 0] 46)) (.slice (some ⟨W.heap.size, 0, none⟩) 3 3) (failL q)) := fun W =>
    acts_built W (failL q) _ _ 3 rfl rfl (by simp [failL]) (by simp [failL]) HFL.out
  obtain ⟨L, hL⟩ : ∃ L, L = A ++ failL q := ⟨_, rfl⟩
  have hLl : L.length = A.length + 3 := by rw [hL, List.length_append]; rfl
  have HAI : Hid (∀ r ∈ L, I64 r.kind ∧ I64 r.t ∧ I64 r.a ∧ I64 r.b ∧ I64 r.n) := fun r hr => by
    rw [hL] at hr
    exact (List.mem_append.1 hr).elim (fun h => (HS5.out.2.2 r h).I) (HFL.out r)
  have HLE := Lib.hid hL.symm
  have HLL := Lib.hid hLl
  clear hfl hL hLl
  have hqb : 13 + (q : Int) ≤ 22 := by omega
  go_upto_region 5 with (first
    | (go_at_call 47; refine (cloneActs_any _ A _ HS5.out.acts (by omega)).mono ?_; rintro e w6 ⟨hb6, a6, c6, rfl, hv6⟩; have HB6 := Lib.hid hb6; have HV6 := Lib.hid hv6; clear hb6 hv6)
    | (go_at_call 15; refine (picked_any _ _ _ (by omega) (by omega) (by omega) (by omega)).mono ?_; rintro e w' ⟨rfl, rfl⟩; rw [HQ.out])
    | (at_builtin; refine wpl_append_Act rfl _ _ rfl w5.heap.size (.slice a6 A.length c6) A rfl (HV6.out.below (by repeat (first | exact Below.refl _ _ | with_reducible refine below_drewN ?_ _ | with_reducible refine Below.drew ?_ | with_reducible refine Below.alloc ?_ (by first | exact Nat.le_refl _ | (simp; done) | omega | (simp; omega)) _ | with_reducible refine Below.setCell ?_ (by first | exact Nat.le_refl _ | (simp; done) | omega | (simp; omega)) _))) _ (failL q) rfl (HRWF.out _).2 (by simp [failL]; omega) (by have := HB6.out.size; simp; omega) ?_; intro v7 w7 hv7 hg7 hn7; rw [HLE.out] at hv7; obtain ⟨a7, c7, rfl⟩ := hv7.shape; have HV7 := Lib.hid hv7; have HG7 := Lib.hid hg7; clear hv7 hg7 hn7)
    | (go_at_call 42; refine (run_any _ _ L _ (HV7.out.acts HAI.out)).mono ?_; rintro e w8 ⟨hb8, ⟨hno, _⟩ | ⟨_, hno, _⟩ | ⟨_, _, ba, bc, ha8, hc8, tp8, ys, lp8, rfl, hv8, hys8, _, hyl8, hwd8⟩⟩; exact absurd ⟨by omega, by omega⟩ hno; exact absurd hno (by have := HLL.out; omega); have HV8 := Lib.hid hv8; have HB8 := Lib.hid hb8; have HY8 := Lib.hid hys8; have HWD8 := Lib.hid hwd8; clear hv8 hb8 hys8 hwd8 hyl8))
  obtain ⟨z2, hz2⟩ : ∃ z, z = w8.heap.size := ⟨_, rfl⟩
  obtain ⟨w9, hw9⟩ : ∃ w9, w9 = w8.alloc (.cells #[.slice ha8 ys.length hc8, .int .i64 (tp8 : Int)] 25) := ⟨_, rfl⟩
  have HB9 : Hid (Below w8.heap.size w8 w9) := by rw [Hid, hw9]; exact (by repeat (first | exact Below.refl _ _ | with_reducible refine below_drewN ?_ _ | with_reducible refine Below.drew ?_ | with_reducible refine Below.alloc ?_ (by first | exact Nat.le_refl _ | (simp; done) | omega | (simp; omega)) _ | with_reducible refine Below.setCell ?_ (by first | exact Nat.le_refl _ | (simp; done) | omega | (simp; omega)) _))
  have HR9 : Hid (RowAt w9 z2 [.slice ha8 ys.length hc8, .int .i64 (tp8 : Int)]) := by rw [Hid, hw9, hz2]; exact RowAt.alloc _ _ _
  rw [← hz2, ← hw9]
  clear hz2 hw9
  have HB59 : Hid (Below w5.heap.size w5 w9) := by
    have h6 : Below w5.heap.size w5 w7 := ((HB6.out.alloc HB6.out.size _).grown HG7.out (by have := HB6.out.size; simp; omega) fun j hj => (HV6.out.lt hj).1)
    have h8 : Below w5.heap.size w5 w8 := h6.trans (HB8.out.mono h6.size)
    exact h8.trans (HB9.out.mono h8.size)
  have hfa := fail_all ((hall0 (20 + (m : Int)).toNat).runs A) (q : Int) (by omega)
  have hxy : ys = xs := by
    have h2 := HWD8.out
    rw [← HLE.out, runs_append, hfa.1] at h2
    exact h2.same HWD.out
  have HANS : Hid ((hall0 (20 + (m : Int)).toNat).answers L = (hall0 (20 + (m : Int)).toNat).answers A ++ [.err 3, .err 2, .err 2]) := by
    rw [Hid, ← HLE.out, answers_append, hfa.2]
  rw [hxy] at HY8 HR9
  have HY9 : Hid (Ints w9 (.slice ha8 xs.length hc8) xs) := (HY8.out.below HB9.out).ints
  have HX9 : Hid (Ints w9 (.slice ha xs.length hc') xs) := (HX5.out.below HB59.out).ints
  have HR19 := Lib.hid (HR5.out.below HB59.out)
  have HV9 : Hid (Row w9 (.slice ba L.length bc) ((hall0 (20 + (m : Int)).toNat).answers L).length 7 (cellsAns ((hall0 (20 + (m : Int)).toNat).answers L))) := (HV8.out.below HB9.out).row
  have HBW9 : Hid (Below w.heap.size w w9) := HBW5.out.trans (HB59.out.mono HBW5.out.size)
  have HOK9 : Hid (HeapOk xs (tp : Int)) := ⟨tp, lp, rfl, HH4.out⟩
  clear HB59 HV8 HB8 HY8 HWD8 HB9 HV7 HG7 HB6 HV6 HX5 HR5 HWD HH4 hfa hxy HRWF HAI HFL HS5 HBW5
  have HNIL : Hid (∀ W : World, Acts W (.slice none 0 0) []) := fun W => (OwnAct.nil W 0).acts (fun r hr => (by cases hr))
  have HZI : Hid (∀ r ∈ zeroActs 401, I64 r.kind ∧ I64 r.t ∧ I64 r.a ∧ I64 r.b ∧ I64 r.n) := fun r hr => by
    rw [List.eq_of_mem_replicate hr]; unfold I64; dsimp only; omega
  go_upto_region 6 with (go_at_call 42; refine (run_any 0 _ [] _ (HNIL.out _)).mono ?_; rintro e w10 ⟨hb10, ⟨_, rfl⟩ | ⟨hno, _⟩ | ⟨hno, _⟩⟩; rotate_left; exact absurd hno.1 (by omega); exact absurd hno.1 (by omega); have HB10 := Lib.hid hb10; clear hb10)
  obtain ⟨w11, hw11⟩ : ∃ w11, w11 = w10.alloc (.cells #[.slice none 0 0, .int .i64 0] 25) := ⟨_, rfl⟩
  have HB11 : Hid (Below w9.heap.size w9 w11) := by rw [Hid, hw11]; exact (by repeat (first | exact Below.refl _ _ | with_reducible refine Below.trans ?_ (Below.mono HB10.out (by first | exact Nat.le_refl _ | (simp; done) | omega | (simp; omega) | (have z0 := Below.size HB10.out; omega) | (have z0 := Below.size HB10.out; simp at *; omega))) | with_reducible refine below_drewN ?_ _ | with_reducible refine Below.drew ?_ | with_reducible refine Below.alloc ?_ (by first | exact Nat.le_refl _ | (simp; done) | omega | (simp; omega) | (have z0 := Below.size HB10.out; omega) | (have z0 := Below.size HB10.out; simp at *; omega)) _ | with_reducible refine Below.setCell ?_ (by first | exact Nat.le_refl _ | (simp; done) | omega | (simp; omega) | (have z0 := Below.size HB10.out; omega) | (have z0 := Below.size HB10.out; simp at *; omega)) _))
  rw [← hw11]
  clear hw11 HB10
  have hzl : (zeroActs 401).length = 401 := by simp [zeroActs]
  have HZL := Lib.hid hzl; clear hzl
  go_upto_region 7 with (first
    | (at_make; refine wpl_make_acts rfl _ _ rfl w11.heap.size 401 _ rfl rfl rfl (by omega) (Nat.le_refl _) ?_; intro w12 hv12 hg12; have HV12 := Lib.hid hv12; have HB12 : Hid (Below w11.heap.size w11 w12) := (Below.refl _ _).grown hg12 (Nat.le_refl _) (by simp); clear hv12 hg12)
    | (go_at_call 42; refine (run_any _ _ (zeroActs 401) _ (HV12.out.acts HZI.out)).mono ?_; rintro e w13 ⟨hb13, ⟨hno, _⟩ | ⟨_, _, rfl⟩ | ⟨_, hno, _⟩⟩; exact absurd ⟨by omega, by omega⟩ hno; rotate_left; exact absurd hno (by rw [HZL.out]; omega); have HB13 := Lib.hid hb13; clear hb13))
  obtain ⟨w14, hw14⟩ : ∃ w14, w14 = w13.alloc (.cells #[.slice none 0 0, .int .i64 0] 25) := ⟨_, rfl⟩
  have HB14 : Hid (Below w11.heap.size w11 w14) := by
    rw [Hid, hw14]
    have h1 : Below w11.heap.size w11 w13 := HB12.out.trans (HB13.out.mono HB12.out.size)
    exact h1.alloc h1.size _
  rw [← hw14]
  clear hw14 HB12 HB13 HV12 HZI HZL HNIL
  have HB914 : Hid (Below w9.heap.size w9 w14) := HB11.out.trans (HB14.out.mono HB11.out.size)
  clear HB11 HB14
  have hrow := Row.below HV9.out (Nat.le_refl _) HB914.out
  have hXl : ((hall0 (20 + (m : Int)).toNat).answers L).length = L.length := answers_len _ _
  have hLL := HLL.out
  obtain ⟨yb, yo, rfl, hyz, hat⟩ := ansRow_at hrow (by omega)
  obtain ⟨N, hN⟩ : ∃ N, N = A.length := ⟨_, rfl⟩
  have hNb : N ≤ 102 := by omega
  have k0 := hat N (by omega)
  have k1 := hat (N + 1) (by omega)
  have k2 := hat (N + 2) (by omega)
  have hAn : ((hall0 (20 + (m : Int)).toNat).answers A).length = N := by rw [answers_len, hN]
  have g0 : ∀ h, ((hall0 (20 + (m : Int)).toNat).answers L)[N]'h = .err 3 := fun h => by simp only [HANS.out]; rw [List.getElem_append_right (by omega)]; simp [hAn]
  have g1 : ∀ h, ((hall0 (20 + (m : Int)).toNat).answers L)[N + 1]'h = .err 2 := fun h => by simp only [HANS.out]; rw [List.getElem_append_right (by omega)]; simp [hAn]
  have g2 : ∀ h, ((hall0 (20 + (m : Int)).toNat).answers L)[N + 2]'h = .err 2 := fun h => by simp only [HANS.out]; rw [List.getElem_append_right (by omega)]; simp [hAn]
  rw [g0] at k0
  rw [g1] at k1
  rw [g2] at k2
  obtain ⟨k0, _⟩ := k0
  obtain ⟨k1, _⟩ := k1
  obtain ⟨k2, _⟩ := k2
  have hs1 := HR19.out.below HB914.out
  have hs2 := HR9.out.below HB914.out
  have s10 := (hs1.2 0 (by simp)).1
  have s11 := (hs1.2 1 (by simp)).1
  have s20 := (hs2.2 0 (by simp)).1
  dsimp only [List.getElem_cons_zero, List.getElem_cons_succ] at s10 s11 s20
  have HX14 : Hid (Ints w14 (.slice ha xs.length hc') xs) := HX9.out.below (Nat.le_refl _) HB914.out
  have HY14 : Hid (Ints w14 (.slice ha8 xs.length hc8) xs) := HY9.out.below (Nat.le_refl _) HB914.out
  have HBW14 : Hid (Below w.heap.size w w14) := HBW9.out.trans (HB914.out.mono HBW9.out.size)
  have HS1 := Lib.hid hs1; have HS2 := Lib.hid hs2
  obtain ⟨M, hM⟩ : ∃ M, M = L.length := ⟨_, rfl⟩
  rw [← hN] at hLL
  rw [← hM] at hLL
  rw [← hN, ← hM]
  clear hN hM g0 g1 g2 hat hrow hXl hAn hs1 hs2 HANS HLE HLL HR9 HR19 HV9 HX9 HY9 HB914 HBW9
  have j0 : (N : Int) < (M : Int) := by omega
  have j1 : (N : Int) + 1 < (M : Int) := by omega
  have j2 : (N : Int) + 2 < (M : Int) := by omega
  clear hLL
  simp only [AnsM.err] at k0 k1 k2
  have hz1l : z1 < w14.heap.size := HS1.out.1
  have hz2l : z2 < w14.heap.size := HS2.out.1
  go_wp2_with (first
    | (go_at_call 19; refine (check_any (.slice ha xs.length hc') xs (tp : Int) _ HX14.out).mono ?_; rintro e w15 ⟨hb15, ⟨_, rfl⟩ | ⟨hno, _⟩⟩; rotate_left; exact absurd HOK9.out hno; have HB15 := Lib.hid hb15; have y0 := (hb15.cell (p := ⟨yb, yo + N * 7, none⟩) hyz).trans k0; have y1 := (hb15.cell (p := ⟨yb, yo + (N + 1) * 7, none⟩) hyz).trans k1; have y2 := (hb15.cell (p := ⟨yb, yo + (N + 2) * 7, none⟩) hyz).trans k2; have t10 := (hb15.cell (p := ⟨z1, 0, none⟩) hz1l).trans s10; have t20 := (hb15.cell (p := ⟨z2, 0, none⟩) hz2l).trans s20; clear hb15)
    | (go_at_call 35; refine (equalInts_same _ _ xs _ (HX14.out.below (Nat.le_refl _) HB15.out) (HY14.out.below (Nat.le_refl _) HB15.out)).mono ?_; rintro e w16 ⟨rfl, hb16⟩; have HB16 := Lib.hid hb16; clear hb16))
  refine bodyPost_ret (v := .bool true) (by simp [results, Try.results14, go_sem, *]) rfl ⟨rfl, ?_⟩
  have h15 : Below w.heap.size w w15 := HBW14.out.trans (HB15.out.mono HBW14.out.size)
  exact h15.trans (HB16.out.mono h15.size)
end Go.Proofs.Ytbeilcaadpopmab
