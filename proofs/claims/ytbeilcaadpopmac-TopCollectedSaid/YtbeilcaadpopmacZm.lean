/- Texts on the machine of threads, put together: Tc. -/
import Derived.Test.YtbeilcaadpopmacZl
import Derived.Test.YtbeilcaadpopmacZq
import Derived.Test.YtbeilcaadpopmacZ4
set_option linter.unusedVariables false
set_option linter.unusedSimpArgs false
/- Walk: limewashtop.TopCollected. -/
namespace Go.Proofs.Ytbeilcaadpopmac
open Go.RowKit Go.Maps

theorem plainAns_snoc (c : ActM) (a : AnsM) : ∀ (l : List ActM) (ys : List AnsM), l.length = ys.length → plainAns (l ++ [c]) (ys ++ [a]) = plainAns l ys ++ (if cleaning c then [] else [a])
  | [], [], _ => by simp only [List.nil_append, plainAns]
  | [], _ :: _, h => by simp at h
  | _ :: _, [], h => by simp at h
  | d :: l, b :: ys, h => by
    have ih := plainAns_snoc c a l ys (by simpa using h)
    simp only [List.cons_append, plainAns]
    rw [ih]
    by_cases hd : cleaning d = true
    · rw [if_pos hd, if_pos hd]
    · rw [if_neg hd, if_neg hd, List.cons_append]
theorem plainAns_le : ∀ (l : List ActM) (ys : List AnsM), (plainAns l ys).length ≤ l.length
  | [], _ => by simp [plainAns]
  | _ :: _, [] => by simp [plainAns]
  | d :: l, b :: ys => by
    have ih := plainAns_le l ys
    simp only [plainAns, List.length_cons]
    split
    · omega
    · rw [List.length_cons]; omega
theorem needs_ok : ∀ l : List ActM, (∀ r ∈ l, OkAct r) → needs l ≤ 5 * l.length
  | [], _ => by simp [needs]
  | c :: l, h => by
    have ih := needs_ok l fun r hr => h r (List.mem_cons_of_mem _ hr)
    have hc := (h c List.mem_cons_self).new
    rw [needs_cons, List.length_cons]
    have : takes c ≤ 5 := by
      unfold takes
      split
      · rename_i e; have := hc e.1; omega
      · omega
    omega

set_option maxRecDepth 100000 in
set_option maxHeartbeats 4000000 in
theorem topCollected_any (v : Value) (rs : List Raw4) (w : World) (h : Raws w v rs) : Calls Try.prog 4 #[v] w fun e w' => e = .returned (.bool true) ∧ Below w.heap.size w w' := by
  have HR : Hid (∀ W, Below w.heap.size w W → Raws W v rs) := fun W hW => h.below (Nat.le_refl _) hW
  clear h
  go_enter Try.func4, Try.ntmps4
  go_upto_region 2 with (first
    | (go_at_call 7; refine (shared_any _).mono ?_; rintro e w1 ⟨hb1, a1, c1, rfl, hv1⟩; have HS1 : Hid (Sofar w w1 (.slice a1 12 c1) sharedL) := ⟨hv1, hb1, shared_ok⟩; clear hb1 hv1)
    | (go_at_call 12; refine (acts_any v rs 45 4 w1 (HR.out _ HS1.out.2.1) (by omega) (by omega)).mono ?_; rintro e w2 ⟨hb2, l, a2, c2, rfl, hv2, hl, hok⟩; have HS2 := Lib.hid (HS1.out.below hb2); have HV2 := Lib.hid hv2; have HOK := Lib.hid hok; clear hb2 hv2 hok)
    | (at_builtin; refine wpl_append_So rfl _ _ rfl (.slice a1 12 c1) sharedL rfl HS2.out _ l rfl HV2.out.row (fun r hr => (HOK.out r hr).1) (by rw [sharedL_len]; omega) ?_; intro v3 w3 hs3 hg3; obtain ⟨a3, c3, rfl⟩ := hs3.shape; have HS3 := Lib.hid hs3; clear hs3 hg3))
  obtain ⟨A, hA⟩ : ∃ A, A = sharedL ++ l := ⟨_, rfl⟩
  have hAl : A.length ≤ 57 := by rw [hA, List.length_append, sharedL_len]; omega
  have hAL : sharedL.length + l.length = A.length := by rw [hA, List.length_append]
  rw [← hA] at HS3
  rw [hAL]
  clear hAL hA HS2 HV2 HOK HR HS1
  have HFL : Hid ((A.filter fun r => !cleaning r).length ≤ 57) := Nat.le_trans (List.length_filter_le _ _) hAl
  have HFI : Hid (∀ r ∈ A.filter fun r => !cleaning r, I64 r.kind ∧ I64 r.t ∧ I64 r.a ∧ I64 r.b ∧ I64 r.n) := fun r hr => (HS3.out.2.2 r (List.mem_filter.1 hr).1).I
  go_upto_region 3 with (go_at_call 9; refine (trun_any _ A _ HS3.out.acts (by omega)).mono ?_; rintro e w4 ⟨hb4, a4, c4, rfl, hv4⟩; have HB4 := Lib.hid hb4; have HV4 := Lib.hid hv4; clear hb4 hv4)
  have HS4 : Hid (Sofar w w4 (.slice a3 A.length c3) A) := HS3.out.below HB4.out
  obtain ⟨X, hX⟩ : ∃ X, X = (hall0 400).answers A := ⟨_, rfl⟩
  have hXl : X.length = A.length := by rw [hX, answers_len]
  have HY : Hid ((hall0 400).answers (A.filter fun r => !cleaning r) = plainAns A X) := by
    rw [Hid, hX]
    have hn := needs_ok A HS3.out.2.2
    exact (collected A (hall0 400) (hall0 400) rfl (by show 1 + 0 + needs A ≤ 400; omega)).symm
  rw [← hX] at HV4
  clear hX HS3 HB4
  have HX4 : Hid (AnsRow w4 (.slice a4 A.length c4) X) := HV4.out.ansRow
  clear HV4
  go_upto_region 4 with (first
    | (go_at_call 14; refine (cloneActs_any _ A _ HS4.out.acts (by omega)).mono ?_; rintro e w5 ⟨hb5, a5, c5, rfl, hv5⟩; have HB5 := Lib.hid hb5; have HV5 := Lib.hid hv5; clear hb5 hv5)
    | (go_at_call 13; refine (deleteActs_any w4.heap.size _ A _ HV5.out HB5.out.size).mono ?_; rintro e w6 ⟨hb6, a6, c6, rfl, hv6⟩; have HB6 := Lib.hid (HB5.out.trans hb6); have HV6 := Lib.hid hv6; clear hb6 hv6)
    | (go_at_call 9; refine (trun_any _ _ _ (HV6.out.acts HFI.out) (Nat.le_trans HFL.out (by omega))).mono ?_; rintro e w7 ⟨hb7, a7, c7, rfl, hv7⟩; have HB7 := Lib.hid (HB6.out.trans (hb7.mono HB6.out.size)); rw [HY.out] at hv7; have HY7 : Hid (AnsRow w7 (.slice a7 (A.filter fun r => !cleaning r).length c7) (plainAns A X)) := hv7.ansRow; clear hb7 hv7))
  have HS7 : Hid (Sofar w w7 (.slice a3 A.length c3) A) := HS4.out.below HB7.out
  have HX7 : Hid (AnsRow w7 (.slice a4 A.length c4) X) := HX4.out.below HB7.out
  have hYl : (A.filter fun r => !cleaning r).length = (plainAns A X).length := by rw [← HY.out, answers_len]
  clear HS4 HX4 HV5 HB5 HV6 HB6 HB7 HFI HFL HY
  rw [hYl] at HY7 ⊢
  clear hYl
  have hYle := plainAns_le A X
  have HST : Hid (OwnAns w7 w7.heap.size (.slice none 0 0) (plainAns (A.take 0) (X.take 0))) := OwnAns.nil _ _
  go_wp2_with fail
  go_loopw [8, 35] (fun u8 u wr => ∃ k : Nat, k ≤ A.length ∧ u = .int .i64 k ∧ OwnAns wr w7.heap.size u8 (plainAns (A.take k) (X.take k)) ∧ Below w7.heap.size w7 wr) (fun _ u _ => A.length - (intOf u).toNat)
  case atStart => exact ⟨0, Nat.zero_le _, rfl, HST.out, Below.refl _ _⟩
  case round =>
    obtain ⟨k, hk, rfl, ho, hb⟩ := hrel
    have HO := Lib.hid ho; have HB := Lib.hid hb
    clear ho hb HST
    by_cases hlt : k < A.length
    · obtain ⟨b, o, rfl, hbz, hat⟩ := (HS7.out.below HB.out).acts.at (by omega)
      obtain ⟨⟨q0, q1, q2, q3, q4⟩, _⟩ := hat k hlt
      have hkX : k < X.length := by omega
      have HSN : Hid (plainAns (A.take (k + 1)) (X.take (k + 1)) = plainAns (A.take k) (X.take k) ++ (if cleaning A[k] then [] else [X[k]])) := by
        rw [Hid, List.take_succ_eq_append_getElem hlt, List.take_succ_eq_append_getElem hkX]
        exact plainAns_snoc _ _ _ _ (by rw [List.length_take, List.length_take]; omega)
      clear hat
      have hlt' : (k : Int) < (A.length : Int) := by omega
      generalize A[k] = x at q0 q1 q2 q3 q4 HSN
      have HC : Hid (∀ W, Calls Try.prog 15 #[.agg #[.int .i64 x.kind, .int .i64 x.t, .int .i64 x.a, .int .i64 x.b, .int .i64 x.n]] W fun e w' => e = .returned (.bool (cleaning x)) ∧ Below W.heap.size W w') := fun W => cleaning_act x W
      cases hq : cleaning x with
      | true =>
        rw [hq] at HC HSN
        clear hq
        go_wp2_with (go_at_call 15; refine (HC.out _).mono ?_; rintro e w8 ⟨rfl, hb8⟩; have HB8 := Lib.hid hb8; clear hb8)
        have h18 : Below wr.heap.size wr w8 := (by repeat (first | exact Below.refl _ _ | with_reducible refine Below.trans ?_ (Below.mono HB8.out (by first | exact Nat.le_refl _ | (simp; done) | omega | (simp; omega) | (have z0 := Below.size HB8.out; omega) | (have z0 := Below.size HB8.out; simp at *; omega))) | with_reducible refine below_drewN ?_ _ | with_reducible refine Below.drew ?_ | with_reducible refine Below.alloc ?_ (by first | exact Nat.le_refl _ | (simp; done) | omega | (simp; omega) | (have z0 := Below.size HB8.out; omega) | (have z0 := Below.size HB8.out; simp at *; omega)) _ | with_reducible refine Below.setCell ?_ (by first | exact Nat.le_refl _ | (simp; done) | omega | (simp; omega) | (have z0 := Below.size HB8.out; omega) | (have z0 := Below.size HB8.out; simp at *; omega)) _))
        refine ⟨⟨k + 1, by omega, by go_num, ?_, HB.out.trans (h18.mono HB.out.size)⟩, by simp [intOf]; omega⟩
        rw [HSN.out]
        simp only [eq_self, if_true, List.append_nil]
        exact HO.out.below h18
      | false =>
        rw [hq] at HC HSN
        clear hq
        go_upto_region 11 with (go_at_call 15; refine (HC.out _).mono ?_; rintro e w8 ⟨rfl, hb8⟩; have HB8 := Lib.hid hb8; clear hb8)
        have HB18 : Hid (Below wr.heap.size wr w8) := by rw [Hid]; exact (by repeat (first | exact Below.refl _ _ | with_reducible refine Below.trans ?_ (Below.mono HB8.out (by first | exact Nat.le_refl _ | (simp; done) | omega | (simp; omega) | (have z0 := Below.size HB8.out; omega) | (have z0 := Below.size HB8.out; simp at *; omega))) | with_reducible refine below_drewN ?_ _ | with_reducible refine Below.drew ?_ | with_reducible refine Below.alloc ?_ (by first | exact Nat.le_refl _ | (simp; done) | omega | (simp; omega) | (have z0 := Below.size HB8.out; omega) | (have z0 := Below.size HB8.out; simp at *; omega)) _ | with_reducible refine Below.setCell ?_ (by first | exact Nat.le_refl _ | (simp; done) | omega | (simp; omega) | (have z0 := Below.size HB8.out; omega) | (have z0 := Below.size HB8.out; simp at *; omega)) _))
        obtain ⟨xb, xo, rfl, hxz, hxt⟩ := ansRow_at (HX7.out.below (HB.out.trans (HB18.out.mono HB.out.size))) (by omega)
        obtain ⟨r0, r1, r2, r3, r4, r5, r6⟩ := hxt k hkX
        clear hxt HB8
        obtain ⟨an, han⟩ : ∃ an, an = X[k] := ⟨_, rfl⟩
        rw [← han] at r0 r1 r2 r3 r4 r5 r6 HSN
        clear han
        have HPL : Hid ((plainAns (A.take k) (X.take k)).length ≤ 57) := by
          have := plainAns_le (A.take k) (X.take k)
          rw [List.length_take] at this
          rw [Hid]; omega
        go_wp2_with (at_builtin; refine wpl_append_Ans rfl _ _ rfl w7.heap.size u8 _ rfl ((HO.out.below HB18.out).below (by repeat (first | exact Below.refl _ _ | with_reducible refine below_drewN ?_ _ | with_reducible refine Below.drew ?_ | with_reducible refine Below.alloc ?_ (by first | exact Nat.le_refl _ | (simp; done) | omega | (simp; omega)) _ | with_reducible refine Below.setCell ?_ (by first | exact Nat.le_refl _ | (simp; done) | omega | (simp; omega)) _))) _ [an] rfl (row_Ans _ an rfl) (by have := HPL.out; simp only [List.length_singleton]; omega) (by have := HB.out.size; have := HB18.out.size; simp; omega) ?_; intro v9 w9 hv9 hg9 hn9; have HV9 := Lib.hid hv9; have HG9 := Lib.hid hg9; clear hv9 hg9 hn9)
        have h78 : Below w7.heap.size w7 w8 := HB.out.trans (HB18.out.mono HB.out.size)
        refine ⟨⟨k + 1, by omega, by go_num, ?_, (h78.alloc h78.size _).grown HG9.out (by have := h78.size; simp; omega) fun j hj => (HO.out.lt hj).1⟩, by simp [intOf]; omega⟩
        rw [HSN.out, if_neg (by simp)]
        exact HV9.out
    · have hke : k = A.length := by omega
      subst hke
      rw [List.take_length, List.take_of_length_le (by omega)] at HO
      obtain ⟨ua, uc, rfl⟩ := HO.out.shape
      have HYR : Hid (AnsRow wr (.slice a7 (plainAns A X).length c7) (plainAns A X)) := HY7.out.below HB.out
      have HOR : Hid (AnsRow wr (.slice ua (plainAns A X).length uc) (plainAns A X)) := HO.out.ansRow
      go_wp2_with (go_at_call 11; refine (equalAns_same _ _ _ _ HOR.out HYR.out).mono ?_; rintro e w9 ⟨rfl, hb9⟩; have HB9 := Lib.hid hb9; clear hb9)
      refine bodyPost_ret (v := .bool true) (by simp [results, Try.results4, go_sem, *]) rfl ⟨rfl, ?_⟩
      have h1 : Below w.heap.size w wr := HS7.out.2.1.trans (HB.out.mono HS7.out.2.1.size)
      exact h1.trans (HB9.out.mono h1.size)
end Go.Proofs.Ytbeilcaadpopmac
