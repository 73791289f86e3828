/- Texts on the machine of threads, put together: Tf. -/
import Derived.Test.YtbeilcaadpopmaaZg
import Derived.Test.YtbeilcaadpopmaaZ4
set_option linter.unusedVariables false
set_option linter.unusedSimpArgs false
/- Walk: limewashtop.TopFree. -/
namespace Go.Proofs.Ytbeilcaadpopmaa
open Go.RowKit Go.Maps

def freeTail : List ActM := [⟨11, 0, 0, 0, 400⟩, ⟨10, 0, 0, 0, 0⟩, ⟨11, 0, 0, 0, 400⟩, ⟨12, 0, 0, 0, 0⟩]
theorem freeTail_ok : ∀ r ∈ freeTail, OkAct r := by
  intro r hr
  simp only [freeTail, List.mem_cons, List.not_mem_nil, or_false] at hr
  rcases hr with rfl | rfl | rfl | rfl <;> constructor <;> dsimp only <;> omega
theorem zero_abort (A : List ActM) {t : Nat} (ht : t < 4) : A ++ zeroAll.take (5 * t) ++ [abortA t] = A ++ zeroAll.take (5 * t + 1 + 0) := by
  rw [List.append_assoc]
  rcases (show t = 0 ∨ t = 1 ∨ t = 2 ∨ t = 3 by omega) with rfl | rfl | rfl | rfl <;> rfl
theorem zero_reg (A : List ActM) {t r : Nat} (ht : t < 4) (hr : r < 4) : A ++ zeroAll.take (5 * t + 1 + r) ++ [zeroA t r] = A ++ zeroAll.take (5 * t + 1 + (r + 1)) := by
  rw [List.append_assoc]
  rcases (show t = 0 ∨ t = 1 ∨ t = 2 ∨ t = 3 by omega) with rfl | rfl | rfl | rfl <;> rcases (show r = 0 ∨ r = 1 ∨ r = 2 ∨ r = 3 by omega) with rfl | rfl | rfl | rfl <;> rfl
theorem zero_len (A : List ActM) (k : Nat) (hA : A.length ≤ 72) : (A ++ zeroAll.take k).length < 800 := by
  have : zeroAll.length = 20 := rfl
  rw [List.length_append, List.length_take]; omega

set_option maxRecDepth 100000 in
set_option maxHeartbeats 4000000 in
theorem topFree_any (v : Value) (rs : List Raw4) (w : World) (h : Raws w v rs) : Calls Try.prog 13 #[v] w fun e w' => e = .returned (.bool true) ∧ Below w.heap.size w w' := by
  have HR : Hid (∀ W, Below w.heap.size w W → Raws W v rs) := fun W hW => h.below (Nat.le_refl _) hW
  clear h
  go_enter Try.func13, Try.ntmps13
  go_upto_region 2 with (first
    | (go_at_call 24; refine (shared_any _).mono ?_; rintro e w1 ⟨hb1, a1, c1, rfl, hv1⟩; have HS1 : Hid (Sofar w w1 (.slice a1 12 c1) sharedL) := ⟨hv1, hb1, shared_ok⟩; clear hb1 hv1)
    | (go_at_call 35; refine (acts_any v rs 60 4 w1 (HR.out _ HS1.out.2.1) (by omega) (by omega)).mono ?_; rintro e w2 ⟨hb2, l, a2, c2, rfl, hv2, hl, hok⟩; have HS2 := Lib.hid (HS1.out.below hb2); have HV2 := Lib.hid hv2; have HOK := Lib.hid hok; clear hb2 hv2 hok)
    | (at_builtin; refine wpl_append_So rfl _ _ rfl (.slice a1 12 c1) sharedL rfl HS2.out _ l rfl HV2.out.row (fun r hr => (HOK.out r hr).1) (by rw [sharedL_len]; omega) ?_; intro v3 w3 hs3 hg3; have HS3 := Lib.hid hs3; clear hs3 hg3))
  obtain ⟨A, hA⟩ : ∃ A, A = sharedL ++ l := ⟨_, rfl⟩
  have hAl : A.length ≤ 72 := by rw [hA, List.length_append, sharedL_len]; omega
  rw [← hA] at HS3
  clear hA HS2 HV2 HOK HR HS1
  have HST : Hid (Sofar w w3 v3 (A ++ zeroAll.take (5 * 0))) := by rw [Nat.mul_zero, List.take_zero, List.append_nil]; exact HS3.out
  go_wp2_with fail
  go_loopw [3, 12] (fun u3 u wr => ∃ k : Nat, k ≤ 4 ∧ u = .int .i64 k ∧ Sofar w wr u3 (A ++ zeroAll.take (5 * k))) (fun _ u _ => 4 - (intOf u).toNat)
  case atStart => exact ⟨0, by omega, rfl, HST.out⟩
  case round =>
    obtain ⟨k, hk4, rfl, hs⟩ := hrel
    have HS := Lib.hid hs
    clear hs HST HS3
    by_cases hk : k < 4
    · have hk' : (k : Int) < 4 := by omega
      have HN : Hid (A ++ zeroAll.take (5 * k) ++ [abortA k] = A ++ zeroAll.take (5 * k + 1 + 0) ∧ OkAct (abortA k) ∧ (A ++ zeroAll.take (5 * k)).length < 800) :=
        ⟨zero_abort A hk, by constructor <;> simp only [abortA] <;> omega, zero_len _ _ hAl⟩
      go_wp2_with (at_builtin; refine wpl_append_So rfl _ _ rfl u3 (A ++ zeroAll.take (5 * k)) rfl (HS.out.below (by repeat (first | exact Below.refl _ _ | with_reducible refine below_drewN ?_ _ | with_reducible refine Below.drew ?_ | with_reducible refine Below.alloc ?_ (by first | exact Nat.le_refl _ | (simp; done) | omega | (simp; omega)) _ | with_reducible refine Below.setCell ?_ (by first | exact Nat.le_refl _ | (simp; done) | omega | (simp; omega)) _))) _ [abortA k] rfl (row_Act _ (abortA k) rfl) (by intro r hr; rw [List.mem_singleton.1 hr]; exact HN.out.2.1) (by have := HN.out.2.2; simp only [List.length_singleton]; omega) ?_; intro v9 w9 hs9 hg9; rw [HN.out.1] at hs9; have HS9 := Lib.hid hs9; clear hs9 hg9)
      clear HN HS
      go_loopw [3, 20] (fun x3 u wq => ∃ r : Nat, r ≤ 4 ∧ u = .int .i64 r ∧ Sofar w wq x3 (A ++ zeroAll.take (5 * k + 1 + r))) (fun _ u _ => 4 - (intOf u).toNat)
      case atStart => exact ⟨0, by omega, rfl, HS9.out⟩
      case round =>
        obtain ⟨r, hr4, rfl, hs⟩ := hrel
        have HS := Lib.hid hs
        clear hs HS9
        by_cases hr : r < 4
        · have hr' : (r : Int) < 4 := by omega
          have HN : Hid (A ++ zeroAll.take (5 * k + 1 + r) ++ [zeroA k r] = A ++ zeroAll.take (5 * k + 1 + (r + 1)) ∧ OkAct (zeroA k r) ∧ (A ++ zeroAll.take (5 * k + 1 + r)).length < 800) :=
            ⟨zero_reg A hk hr, by constructor <;> simp only [zeroA] <;> omega, zero_len _ _ hAl⟩
          go_wp2_with (at_builtin; refine wpl_append_So rfl _ _ rfl u3 (A ++ zeroAll.take (5 * k + 1 + r)) rfl (HS.out.below (by repeat (first | exact Below.refl _ _ | with_reducible refine below_drewN ?_ _ | with_reducible refine Below.drew ?_ | with_reducible refine Below.alloc ?_ (by first | exact Nat.le_refl _ | (simp; done) | omega | (simp; omega)) _ | with_reducible refine Below.setCell ?_ (by first | exact Nat.le_refl _ | (simp; done) | omega | (simp; omega)) _))) _ [zeroA k r] rfl (row_Act _ (zeroA k r) rfl) (by intro s hs; rw [List.mem_singleton.1 hs]; exact HN.out.2.1) (by have := HN.out.2.2; simp only [List.length_singleton]; omega) ?_; intro v9 w9 hs9 hg9; rw [HN.out.1] at hs9; have HS9 := Lib.hid hs9; clear hs9 hg9)
          exact ⟨⟨r + 1, by omega, by go_num, HS9.out⟩, by simp [intOf]; omega⟩
        · have : r = 4 := by omega
          subst this
          go_wp2_with fail
          exact ⟨⟨k + 1, by omega, by go_num, HS.out⟩, by simp [intOf]; omega⟩
    · have : k = 4 := by omega
      subst this
      have HE : Hid (A ++ zeroAll.take (5 * 4) = A ++ zeroAll ∧ (A ++ zeroAll).length ≤ 92) := ⟨rfl, by rw [List.length_append]; show A.length + 20 ≤ 92; omega⟩
      rw [HE.out.1] at HS
      obtain ⟨L, hL⟩ : ∃ L, L = (A ++ zeroAll) ++ freeTail := ⟨_, rfl⟩
      have HLE : Hid (A ++ freeEnd = L) := by rw [Hid, hL, List.append_assoc]; rfl
      have hLL : L.length ≤ 96 ∧ 4 ≤ L.length := by rw [hL, List.length_append]; have := HE.out.2; have : freeTail.length = 4 := rfl; omega
      have HLA : Hid (A ++ zeroAll ++ freeTail = L) := hL.symm
      clear hL
      go_upto_region 14 with (first
        | (at_builtin; refine wpl_append_So rfl _ _ rfl u3 (A ++ zeroAll) rfl (HS.out.below (by repeat (first | exact Below.refl _ _ | with_reducible refine below_drewN ?_ _ | with_reducible refine Below.drew ?_ | with_reducible refine Below.alloc ?_ (by first | exact Nat.le_refl _ | (simp; done) | omega | (simp; omega)) _ | with_reducible refine Below.setCell ?_ (by first | exact Nat.le_refl _ | (simp; done) | omega | (simp; omega)) _))) _ freeTail rfl (acts_built _ freeTail _ _ 4 rfl rfl (by decide) (by decide) (fun r hr => (freeTail_ok r hr).I)).2 freeTail_ok (by have := HE.out.2; have : freeTail.length = 4 := rfl; omega) ?_; intro v9 w9 hs9 hg9; rw [HLA.out] at hs9; obtain ⟨a9, c9, rfl⟩ := hs9.shape; have HS9 := Lib.hid hs9; clear hs9 hg9)
        | (go_at_call 28; refine (trun_any _ L _ HS9.out.acts (by omega)).mono ?_; rintro e w5 ⟨hb5, a5, c5, rfl, hv5⟩; have HB5 := Lib.hid hb5; have HV5 := Lib.hid hv5; clear hb5 hv5))
      have hN5 := HV5.out.row
      have hX := free_last A (by omega)
      rw [HLE.out] at hX
      obtain ⟨b, o, rfl, hbz, hat⟩ := ansRow_at hN5 (by rw [answers_len]; omega)
      have hXl : ((hall0 400).answers L).length = L.length := answers_len _ _
      have k6 := hat (L.length - 1) (by omega)
      have g6 : ∀ h, ((hall0 400).answers L)[L.length - 1]'h = AnsM.nil := fun h => by
        rw [List.getLast?_eq_getElem?, hXl, List.getElem?_eq_getElem (by omega)] at hX
        exact Option.some.inj hX
      rw [g6] at k6
      clear g6 hat hN5 hXl hX
      obtain ⟨N, hN⟩ : ∃ N, N = L.length := ⟨_, rfl⟩
      rw [← hN] at hLL k6
      rw [← hN]
      clear hN
      obtain ⟨q6, hq6⟩ : ∃ q, q = N - 1 := ⟨_, rfl⟩
      rw [← hq6] at k6
      have m6 : (N : Int) - 1 = (q6 : Int) := by omega
      have l6 : (q6 : Int) < (N : Int) := by omega
      have HBW : Hid (Below w.heap.size w w5) := HS9.out.2.1.trans (HB5.out.mono HS9.out.2.1.size)
      clear hq6 HV5 HS HS9 HB5 HE HLE HLA
      obtain ⟨u0, u1, u2, u3, u4, u5, u6⟩ := k6
      simp only [AnsM.nil] at u0 u1 u2 u3 u4 u5 u6
      go_wp2_with fail
      refine bodyPost_ret (v := .bool true) (by simp [results, Try.results13, go_sem, *]) rfl ⟨rfl, HBW.out⟩
end Go.Proofs.Ytbeilcaadpopmaa
