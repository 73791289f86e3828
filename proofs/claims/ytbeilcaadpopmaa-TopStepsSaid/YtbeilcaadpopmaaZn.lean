/- Texts on the machine of threads, put together: Ts. -/
import Derived.Test.YtbeilcaadpopmaaZl
import Derived.Test.YtbeilcaadpopmaaZ4
set_option linter.unusedVariables false
set_option linter.unusedSimpArgs false
/- Walk: limewashtop.TopSteps. -/
namespace Go.Proofs.Ytbeilcaadpopmaa
open Go.RowKit Go.Maps

def wstep (k : Int) : ActM := ⟨11, 0, 0, 0, k⟩
def wcollect : ActM := ⟨10, 0, 0, 0, 0⟩
def wstat : ActM := ⟨12, 0, 0, 0, 0⟩
theorem wstep_ok {k : Int} (h : 0 ≤ k ∧ k ≤ 400) : OkAct (wstep k) := by constructor <;> simp only [wstep] <;> omega
theorem wcollect_ok : OkAct wcollect := by constructor <;> simp only [wcollect] <;> omega
theorem wstat_ok : OkAct wstat := by constructor <;> simp only [wstat] <;> omega
theorem stepped_take (k : Int) (l : List ActM) {j : Nat} (h : j < l.length) : stepped k (l.take (j + 1)) = stepped k (l.take j) ++ [l[j], wstep k] := by
  rw [List.take_succ_eq_append_getElem h, stepped, List.flatMap_append]; rfl
theorem stepped_len2 (k : Int) (l : List ActM) (j : Nat) (h : l.length ≤ 25) : (stepped k (l.take j)).length ≤ 50 := by
  rw [stepped_len, List.length_take]; omega

set_option maxRecDepth 100000 in
set_option maxHeartbeats 4000000 in
theorem with_any (k : Int) (hk : 0 ≤ k ∧ k ≤ 400) (F R : Nat) (v1 v2 : Value) (first rest : List ActM) (w : World) (hF : w.cell? ⟨F, 0, none⟩ = some v1) (hR : w.cell? ⟨R, 0, none⟩ = some v2) (h1 : Acts w v1 first) (h2 : Acts w v2 rest)
    (o1 : ∀ r ∈ first, OkAct r) (o2 : ∀ r ∈ rest, OkAct r) (l1 : first.length ≤ 42) (l2 : rest.length ≤ 25) :
    Calls Try.prog 26 #[.int .i64 k, .pointer (some ⟨F, 0, none⟩), .pointer (some ⟨R, 0, none⟩)] w fun e w' => ∃ (L : List ActM) (a : Option Addr) (c : Nat), e = .returned (.slice a L.length c) ∧ L = stepsActs first rest k ∧ Sofar w w' (.slice a L.length c) L := by
  have HF : Hid (∀ W, Below w.heap.size w W → W.cell? ⟨R, 0, none⟩ = some v2 ∧ Acts W v2 rest) := fun W hW => ⟨(hW.cell (p := ⟨R, 0, none⟩) (World.block_lt_of_cell? w _ hR)).trans hR, h2.below (Nat.le_refl _) hW⟩
  have H1 := Lib.hid h1; have O1 := Lib.hid o1; have O2 := Lib.hid o2
  obtain ⟨a1, c1, rfl, _⟩ := h1.len
  obtain ⟨a2, c2, rfl, hc2, hcm2, _⟩ := h2.len
  have HK := Lib.hid hk
  clear h1 h2 o1 o2
  go_enter Try.func26, Try.ntmps26
  go_upto_region 2 with (first
    | (go_at_call 27; refine (cloneActs_any _ first _ H1.out (by omega)).mono ?_; rintro e w3 ⟨hb3, a3, c3, rfl, hv3⟩; have HS3 : Hid (Sofar w w3 (.slice a3 first.length c3) first) := ⟨hv3, hb3, O1.out⟩; clear hb3 hv3)
    | (at_builtin; refine wpl_append_So rfl _ _ rfl (.slice a3 first.length c3) first rfl (HS3.out.below (by repeat (first | exact Below.refl _ _ | with_reducible refine below_drewN ?_ _ | with_reducible refine Below.drew ?_ | with_reducible refine Below.alloc ?_ (by first | exact Nat.le_refl _ | (simp; done) | omega | (simp; omega)) _ | with_reducible refine Below.setCell ?_ (by first | exact Nat.le_refl _ | (simp; done) | omega | (simp; omega)) _))) _ [wcollect] rfl (row_Act _ wcollect rfl) (by intro r hr; rw [List.mem_singleton.1 hr]; exact wcollect_ok) (by simp only [List.length_singleton]; omega) ?_; intro v4 w4 hs4 hg4; have HS4 := Lib.hid hs4; clear hs4 hg4))
  have hR4 := (HF.out w4 HS4.out.2.1).1
  have HST : Hid (Sofar w w4 v4 (first ++ [wcollect] ++ stepped k (rest.take 0))) := by rw [List.take_zero]; show Sofar w w4 v4 (first ++ [wcollect] ++ []); rw [List.append_nil]; exact HS4.out
  clear HS4 HS3 hR hF
  go_wp2_with fail
  go_loopw [5, 15] (fun u5 u wr => ∃ j : Nat, j ≤ rest.length ∧ u = .int .i64 j ∧ Sofar w wr u5 (first ++ [wcollect] ++ stepped k (rest.take j))) (fun _ u _ => rest.length - (intOf u).toNat)
  case atStart => exact ⟨0, Nat.zero_le _, rfl, HST.out⟩
  case round =>
    obtain ⟨j, hj, rfl, hs⟩ := hrel
    have HS := Lib.hid hs
    clear hs HST hR4
    have HLN : Hid ((first ++ [wcollect] ++ stepped k (rest.take j)).length ≤ 93) := by
      have := stepped_len2 k rest j l2
      rw [Hid, List.length_append, List.length_append, List.length_singleton]; omega
    by_cases hlt : j < rest.length
    · obtain ⟨b, o, rfl, hbz, hat⟩ := (HF.out wr HS.out.2.1).2.at (by omega)
      obtain ⟨⟨q0, q1, q2, q3, q4⟩, _⟩ := hat j hlt
      have HSN : Hid (first ++ [wcollect] ++ stepped k (rest.take j) ++ [rest[j], wstep k] = first ++ [wcollect] ++ stepped k (rest.take (j + 1))) := by
        rw [Hid, stepped_take k rest hlt, List.append_assoc]
      have HOX : Hid (OkAct rest[j]) := O2.out _ (List.getElem_mem hlt)
      have hlt' : (j : Int) < (rest.length : Int) := by omega
      clear hat
      generalize rest[j] = x at q0 q1 q2 q3 q4 HSN HOX
      have HRW : Hid (∀ (W : World) (n : Nat), n = W.heap.size → Row (W.alloc (.cells #[.int .i64 x.kind, .int .i64 x.t, .int .i64 x.a, .int .i64 x.b, .int .i64 x.n, .int .i64 11, .int .i64 0, .int .i64 0, .int .i64 0, .int .i64 k] 48)) (.slice (some ⟨n, 0, none⟩) 2 2) 2 5 (cellsAct [x, wstep k])) := fun W n hn => row_Act2 W x (wstep k) hn
      go_wp2_with (at_builtin; refine wpl_append_So rfl _ _ rfl u5 (first ++ [wcollect] ++ stepped k (rest.take j)) rfl (HS.out.below (by repeat (first | exact Below.refl _ _ | with_reducible refine below_drewN ?_ _ | with_reducible refine Below.drew ?_ | with_reducible refine Below.alloc ?_ (by first | exact Nat.le_refl _ | (simp; done) | omega | (simp; omega)) _ | with_reducible refine Below.setCell ?_ (by first | exact Nat.le_refl _ | (simp; done) | omega | (simp; omega)) _))) _ [x, wstep k] rfl (HRW.out _ _ (by simp)) (by intro r hr; rcases List.mem_cons.1 hr with rfl | hr; exact HOX.out; rw [List.mem_singleton.1 hr]; exact wstep_ok HK.out) (by have := HLN.out; simp only [List.length_cons, List.length_nil]; omega) ?_; intro v9 w9 hs9 hg9; rw [HSN.out] at hs9; have HS9 := Lib.hid hs9; clear hs9 hg9)
      exact ⟨⟨j + 1, by omega, by go_num, HS9.out⟩, by simp [intOf]; omega⟩
    · have hje : j = rest.length := by omega
      subst hje
      rw [List.take_length] at HS HLN
      obtain ⟨L, hL⟩ : ∃ L, L = first ++ [wcollect] ++ stepped k rest ++ [wstep 400, wstat] := ⟨_, rfl⟩
      have HL : Hid (L = stepsActs first rest k) := by rw [Hid, hL]; simp only [List.append_assoc]; rfl
      have HL2 := Lib.hid hL.symm
      clear hL
      have HRW : Hid (∀ (W : World) (n : Nat), n = W.heap.size → Row (W.alloc (.cells #[.int .i64 11, .int .i64 0, .int .i64 0, .int .i64 0, .int .i64 400, .int .i64 12, .int .i64 0, .int .i64 0, .int .i64 0, .int .i64 0] 48)) (.slice (some ⟨n, 0, none⟩) 2 2) 2 5 (cellsAct [wstep 400, wstat])) := fun W n hn => row_Act2 W (wstep 400) wstat hn
      go_wp2_with (at_builtin; refine wpl_append_So rfl _ _ rfl u5 (first ++ [wcollect] ++ stepped k rest) rfl (HS.out.below (by repeat (first | exact Below.refl _ _ | with_reducible refine below_drewN ?_ _ | with_reducible refine Below.drew ?_ | with_reducible refine Below.alloc ?_ (by first | exact Nat.le_refl _ | (simp; done) | omega | (simp; omega)) _ | with_reducible refine Below.setCell ?_ (by first | exact Nat.le_refl _ | (simp; done) | omega | (simp; omega)) _))) _ [wstep 400, wstat] rfl (HRW.out _ _ (by simp)) (by intro r hr; rcases List.mem_cons.1 hr with rfl | hr; exact wstep_ok (by omega); rw [List.mem_singleton.1 hr]; exact wstat_ok) (by have := HLN.out; simp only [List.length_cons, List.length_nil]; omega) ?_; intro v9 w9 hs9 hg9; rw [HL2.out] at hs9; obtain ⟨a9, c9, rfl⟩ := hs9.shape; have HS9 := Lib.hid hs9; clear hs9 hg9)
      refine bodyPost_ret (v := .slice a9 L.length c9) (by simp [results, Try.results26, go_sem, *]) rfl ⟨L, a9, c9, rfl, HL.out, HS9.out⟩

theorem needs_ok : ∀ l : List ActM, (∀ r ∈ l, OkAct r) → needs l ≤ 5 * l.length
  | [], _ => by simp [needs]
  | c :: l, h => by
    have ih := needs_ok l fun r hr => h r (List.mem_cons_of_mem _ hr)
    have hc := (h c List.mem_cons_self).new
    rw [needs_cons, List.length_cons]
    have : takes c ≤ 5 := by
      unfold takes
      split
      · rename_i e; have := hc e.1; omega
      · omega
    omega


theorem shared_plain : ∀ r ∈ sharedL, cleaning r = false := by decide

set_option maxRecDepth 100000 in
set_option maxHeartbeats 4000000 in
theorem topSteps_any (v m : Value) (rs ms : List Raw4) (n : Int) (w : World) (h : Raws w v rs) (hm : Raws w m ms) (hn : I64 n) : Calls Try.prog 10 #[v, m, .int .i64 n] w fun e w' => e = .returned (.bool true) ∧ Below w.heap.size w w' := by
  have HR : Hid (∀ W, Below w.heap.size w W → Raws W v rs) := fun W hW => h.below (Nat.le_refl _) hW
  have HM : Hid (∀ W, Below w.heap.size w W → Raws W m ms) := fun W hW => hm.below (Nat.le_refl _) hW
  clear h hm
  unfold I64 at hn
  obtain ⟨n1, n2⟩ := hn
  obtain ⟨q, hq, hq5⟩ := pick_of n 5 (by decide)
  have HQ := Lib.hid hq; clear hq
  go_enter Try.func10, Try.ntmps10
  go_upto_region 2 with (first
    | (go_at_call 24; refine (shared_any _).mono ?_; rintro e w1 ⟨hb1, a1, c1, rfl, hv1⟩; have HS1 : Hid (Sofar w w1 (.slice a1 12 c1) sharedL) := ⟨hv1, hb1, shared_ok⟩; clear hb1 hv1)
    | (go_at_call 25; refine (plain_any v rs 30 4 w1 (HR.out _ HS1.out.2.1) (by omega) (by omega)).mono ?_; rintro e w2 ⟨hb2, l, a2, c2, rfl, hv2, hl, hok, hpl⟩; have HS2 := Lib.hid (HS1.out.below hb2); have HV2 := Lib.hid hv2; have HOK := Lib.hid hok; have HPL := Lib.hid hpl; clear hb2 hv2 hok hpl)
    | (at_builtin; refine wpl_append_So rfl _ _ rfl (.slice a1 12 c1) sharedL rfl HS2.out _ l rfl HV2.out.row (fun r hr => (HOK.out r hr).1) (by rw [sharedL_len]; omega) ?_; intro v3 w3 hs3 hg3; obtain ⟨a3, c3, rfl⟩ := hs3.shape; have HS3 := Lib.hid hs3; clear hs3 hg3))
  obtain ⟨A, hA⟩ : ∃ A, A = sharedL ++ l := ⟨_, rfl⟩
  have hAl : A.length ≤ 42 := by rw [hA, List.length_append, sharedL_len]; omega
  have HPA : Hid (∀ r ∈ A, cleaning r = false) := fun r hr => by rw [hA] at hr; exact (List.mem_append.1 hr).elim (shared_plain r) (HPL.out r)
  have hAL : sharedL.length + l.length = A.length := by rw [hA, List.length_append]
  rw [← hA] at HS3
  rw [hAL]
  clear hAL hA HS2 HV2 HOK HR HS1 HPL
  obtain ⟨F, hF⟩ : ∃ F, F = w3.heap.size := ⟨_, rfl⟩
  obtain ⟨w4, hw4⟩ : ∃ w4, w4 = w3.alloc (.cells #[.slice a3 A.length c3] 43) := ⟨_, rfl⟩
  have HB4 : Hid (Below w3.heap.size w3 w4) := by rw [Hid, hw4]; exact (by repeat (first | exact Below.refl _ _ | with_reducible refine below_drewN ?_ _ | with_reducible refine Below.drew ?_ | with_reducible refine Below.alloc ?_ (by first | exact Nat.le_refl _ | (simp; done) | omega | (simp; omega)) _ | with_reducible refine Below.setCell ?_ (by first | exact Nat.le_refl _ | (simp; done) | omega | (simp; omega)) _))
  have HF4 : Hid (RowAt w4 F [.slice a3 A.length c3]) := by rw [Hid, hw4, hF]; exact RowAt.alloc _ _ _
  rw [← hF, ← hw4]
  clear hF hw4
  have HS4 := Lib.hid (HS3.out.below HB4.out)
  clear HS3 HB4
  go_upto_region 3 with (go_at_call 25; refine (plain_any m ms 25 4 w4 (HM.out _ HS4.out.2.1) (by omega) (by omega)).mono ?_; rintro e w5 ⟨hb5, B, a5, c5, rfl, hv5, hBl, hok, hpl⟩; have HB5 := Lib.hid hb5; have HV5 := Lib.hid hv5; have HOK := Lib.hid hok; have HPB := Lib.hid hpl; clear hb5 hv5 hok hpl)
  obtain ⟨R, hR⟩ : ∃ R, R = w5.heap.size := ⟨_, rfl⟩
  obtain ⟨w6, hw6⟩ : ∃ w6, w6 = w5.alloc (.cells #[.slice a5 B.length c5] 43) := ⟨_, rfl⟩
  have HB6 : Hid (Below w5.heap.size w5 w6) := by rw [Hid, hw6]; exact (by repeat (first | exact Below.refl _ _ | with_reducible refine below_drewN ?_ _ | with_reducible refine Below.drew ?_ | with_reducible refine Below.alloc ?_ (by first | exact Nat.le_refl _ | (simp; done) | omega | (simp; omega)) _ | with_reducible refine Below.setCell ?_ (by first | exact Nat.le_refl _ | (simp; done) | omega | (simp; omega)) _))
  have HR6 : Hid (RowAt w6 R [.slice a5 B.length c5]) := by rw [Hid, hw6, hR]; exact RowAt.alloc _ _ _
  rw [← hR, ← hw6]
  clear hR hw6
  have HB46 : Hid (Below w4.heap.size w4 w6) := HB5.out.trans (HB6.out.mono HB5.out.size)
  have HS6 := Lib.hid (HS4.out.below HB46.out)
  have HF6 := Lib.hid (HF4.out.below HB46.out)
  have HV6 := Lib.hid (HV5.out.below HB6.out)
  clear HS4 HF4 HV5 HB5 HB6 HB46 HM
  have HWITH : Hid (∀ (k : Int) (W : World), 0 ≤ k ∧ k ≤ 400 → Below w6.heap.size w6 W → Calls Try.prog 26 #[.int .i64 k, .pointer (some ⟨F, 0, none⟩), .pointer (some ⟨R, 0, none⟩)] W fun e w' => ∃ (L : List ActM) (a : Option Addr) (c : Nat), e = .returned (.slice a L.length c) ∧ L = stepsActs A B k ∧ Sofar W w' (.slice a L.length c) L) := fun k W hk hW =>
    with_any k hk F R _ _ A B W ((HF6.out.below hW).2 0 (by simp)).1 ((HR6.out.below hW).2 0 (by simp)).1 (HS6.out.below hW).acts ((HV6.out.below hW).acts fun r hr => (HOK.out r hr).1.I) HS6.out.2.2 (fun r hr => (HOK.out r hr).1) hAl (by omega)
  have HLEN : Hid (∀ k, (stepsActs A B k).length ≤ 400) := fun k => by
    have := stepped_len k B
    simp only [stepsActs, List.length_append, List.length_cons, List.length_nil]; omega
  go_upto_region 5 with (first
    | (go_at_call 29; refine (upicked_any _ _ _ (by omega) (by omega) (by omega) (by omega)).mono ?_; rintro e w' ⟨rfl, rfl⟩; rw [HQ.out])
    | (go_at_call 26; refine (HWITH.out (1 + (q : Int)) _ (by omega) (Below.refl _ _)).mono ?_; rintro e w7 ⟨L, a7, c7, rfl, hL, hs7⟩; have HL := Lib.hid hL; have HS7 := Lib.hid hs7; clear hL hs7)
    | (go_at_call 28; refine (trun_any _ L _ HS7.out.acts (by rw [HL.out]; exact HLEN.out _)).mono ?_; rintro e w8 ⟨hb8, a8, c8, rfl, hv8⟩; have HB8 := Lib.hid (HS7.out.2.1.trans (hb8.mono HS7.out.2.1.size)); have HV8 := Lib.hid hv8; clear hb8 hv8))
  go_upto_region 6 with (first
    | (go_at_call 26; refine (HWITH.out 400 _ (by omega) HB8.out).mono ?_; rintro e w9 ⟨L2, a9, c9, rfl, hL2, hs9⟩; have HL2 := Lib.hid hL2; have HS9 := Lib.hid hs9; clear hL2 hs9)
    | (go_at_call 28; refine (trun_any _ L2 _ HS9.out.acts (by rw [HL2.out]; exact HLEN.out _)).mono ?_; rintro e w10 ⟨hb10, a10, c10, rfl, hv10⟩; have HB10 := Lib.hid (HS9.out.2.1.trans (hb10.mono HS9.out.2.1.size)); have HV10 := Lib.hid hv10; clear hb10 hv10))
  have hn1 := needs_ok A HS6.out.2.2
  have hn2 := needs_ok B fun r hr => (HOK.out r hr).1
  obtain ⟨Wd, s1, s2⟩ := steps_last A B (1 + (q : Int)) HPA.out HPB.out (by omega) (by omega)
  rw [← HL.out] at s1
  rw [← HL2.out] at s2
  have hL1 : 0 < L.length ∧ L.length ≤ 400 := by rw [HL.out]; exact ⟨by simp only [stepsActs, List.length_append, List.length_cons]; omega, HLEN.out _⟩
  have hL2 : 0 < L2.length ∧ L2.length ≤ 400 := by rw [HL2.out]; exact ⟨by simp only [stepsActs, List.length_append, List.length_cons]; omega, HLEN.out _⟩
  have hX1 : ((hall0 400).answers L).length = L.length := answers_len _ _
  have hX2 : ((hall0 400).answers L2).length = L2.length := answers_len _ _
  have HBW : Hid (Below w.heap.size w w10) := (HS6.out.2.1.trans (HB8.out.mono HS6.out.2.1.size)).trans (HB10.out.mono (HS6.out.2.1.trans (HB8.out.mono HS6.out.2.1.size)).size)
  obtain ⟨b1, o1, rfl, hz1, t1⟩ := ansRow_at (Row.below HV8.out.row (Nat.le_refl _) HB10.out) (by omega)
  obtain ⟨b2, o2, rfl, hz2, t2⟩ := ansRow_at HV10.out.row (by omega)
  have k1 := t1 (L.length - 1) (by omega)
  have k2 := t2 (L2.length - 1) (by omega)
  have g1 : ∀ h, ((hall0 400).answers L)[L.length - 1]'h = ⟨0, false, 0, false, Wd, false, 0⟩ := fun h => by
    rw [List.getLast?_eq_getElem?, hX1, List.getElem?_eq_getElem (by omega)] at s1
    exact Option.some.inj s1
  have g2 : ∀ h, ((hall0 400).answers L2)[L2.length - 1]'h = ⟨0, false, 0, false, Wd, false, 0⟩ := fun h => by
    rw [List.getLast?_eq_getElem?, hX2, List.getElem?_eq_getElem (by omega)] at s2
    exact Option.some.inj s2
  rw [g1] at k1
  rw [g2] at k2
  clear g1 g2 t1 t2 s1 s2 hX1 hX2 HL HL2 HLEN HWITH HV8 HV10 HS6 HS7 HS9 HB8 HB10 HF6 HR6 HV6 HOK HPA HPB hn1 hn2
  obtain ⟨N1, hN1⟩ : ∃ N, N = L.length := ⟨_, rfl⟩
  obtain ⟨N2, hN2⟩ : ∃ N, N = L2.length := ⟨_, rfl⟩
  rw [← hN1] at hL1 k1
  rw [← hN2] at hL2 k2
  rw [← hN1, ← hN2]
  clear hN1 hN2
  obtain ⟨p1, hp1⟩ : ∃ p, p = N1 - 1 := ⟨_, rfl⟩
  obtain ⟨p2, hp2⟩ : ∃ p, p = N2 - 1 := ⟨_, rfl⟩
  rw [← hp1] at k1
  rw [← hp2] at k2
  have m1 : (N1 : Int) - 1 = (p1 : Int) := by omega
  have m2 : (N2 : Int) - 1 = (p2 : Int) := by omega
  have j1 : (p1 : Int) < (N1 : Int) := by omega
  have j2 : (p2 : Int) < (N2 : Int) := by omega
  clear hp1 hp2
  obtain ⟨e0, e1, e2, e3, e4, e5, e6⟩ := k1
  obtain ⟨f0, f1, f2, f3, f4, f5, f6⟩ := k2
  dsimp only at e0 e1 e2 e3 e4 e5 e6 f0 f1 f2 f3 f4 f5 f6
  go_quiet (fail)
  go_wp2_with fail
  refine bodyPost_ret (v := .bool true) (by simp [results, Try.results10, go_sem, *]) rfl ⟨rfl, below_drewN HBW.out _⟩
end Go.Proofs.Ytbeilcaadpopmaa
