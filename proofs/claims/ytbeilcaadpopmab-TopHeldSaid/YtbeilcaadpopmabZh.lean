/- Texts on the machine of threads, put together: Th. -/
import Derived.Test.YtbeilcaadpopmabZg
import Derived.Test.YtbeilcaadpopmabZ4
set_option linter.unusedVariables false
set_option linter.unusedSimpArgs false
/- Walk: limewashtop.TopHeld. -/
namespace Go.Proofs.Ytbeilcaadpopmab
open Go.RowKit Go.Maps

def heldTail : List ActM := [⟨11, 0, 0, 0, 400⟩, ⟨10, 0, 0, 0, 0⟩, ⟨11, 0, 0, 0, 400⟩, ⟨12, 0, 0, 0, 0⟩, ⟨10, 0, 0, 0, 0⟩, ⟨11, 0, 0, 0, 400⟩, ⟨12, 0, 0, 0, 0⟩]
theorem heldTail_ok : ∀ r ∈ heldTail, OkAct r := by
  intro r hr
  simp only [heldTail, List.mem_cons, List.not_mem_nil, or_false] at hr
  rcases hr with rfl | rfl | rfl | rfl | rfl | rfl | rfl <;> constructor <;> dsimp only <;> omega

set_option maxRecDepth 100000 in
set_option maxHeartbeats 4000000 in
theorem topHeld_any (v : Value) (rs : List Raw4) (w : World) (h : Raws w v rs) : Calls Try.prog 5 #[v] w fun e w' => e = .returned (.bool true) ∧ Below w.heap.size w w' := by
  have HR : Hid (∀ W, Below w.heap.size w W → Raws W v rs) := fun W hW => h.below (Nat.le_refl _) hW
  clear h
  go_enter Try.func5, Try.ntmps5
  go_upto_region 2 with (first
    | (go_at_call 24; refine (shared_any _).mono ?_; rintro e w1 ⟨hb1, a1, c1, rfl, hv1⟩; have HS1 : Hid (Sofar w w1 (.slice a1 12 c1) sharedL) := ⟨hv1, hb1, shared_ok⟩; clear hb1 hv1)
    | (go_at_call 25; refine (acts_any v rs 60 4 w1 (HR.out _ HS1.out.2.1) (by omega) (by omega)).mono ?_; rintro e w2 ⟨hb2, l, a2, c2, rfl, hv2, hl, hok⟩; have HS2 := Lib.hid (HS1.out.below hb2); have HV2 := Lib.hid hv2; have HOK := Lib.hid hok; clear hb2 hv2 hok)
    | (at_builtin; refine wpl_append_So rfl _ _ rfl (.slice a1 12 c1) sharedL rfl HS2.out _ l rfl HV2.out.row (fun r hr => (HOK.out r hr).1) (by rw [sharedL_len]; omega) ?_; intro v3 w3 hs3 hg3; have HS3 := Lib.hid hs3; clear hs3 hg3))
  obtain ⟨A, hA⟩ : ∃ A, A = sharedL ++ l := ⟨_, rfl⟩
  have hAl : A.length ≤ 72 := by rw [hA, List.length_append, sharedL_len]; omega
  rw [← hA] at HS3
  clear hA HS2 HV2 HOK HR HS1
  have HST : Hid (Sofar w w3 v3 (A ++ shutAll.take 0)) := by rw [List.take_zero, List.append_nil]; exact HS3.out
  go_wp2_with fail
  go_loopw [3, 12] (fun u3 u wr => ∃ k : Nat, k ≤ 4 ∧ u = .int .i64 k ∧ Sofar w wr u3 (A ++ shutAll.take k)) (fun _ u _ => 4 - (intOf u).toNat)
  case atStart => exact ⟨0, by omega, rfl, HST.out⟩
  case round =>
    obtain ⟨k, hk4, rfl, hs⟩ := hrel
    have HS := Lib.hid hs
    clear hs HST HS3
    by_cases hk : k < 4
    · have hk' : (k : Int) < 4 := by omega
      have HN : Hid (A ++ shutAll.take k ++ [abortA k] = A ++ shutAll.take (k + 1) ∧ OkAct (abortA k) ∧ (A ++ shutAll.take k).length < 800) := by
        refine ⟨?_, ?_, ?_⟩
        · rw [List.append_assoc]; rcases (show k = 0 ∨ k = 1 ∨ k = 2 ∨ k = 3 by omega) with rfl | rfl | rfl | rfl <;> rfl
        · constructor <;> simp only [abortA] <;> omega
        · rw [List.length_append, List.length_take]; omega
      go_wp2_with (at_builtin; refine wpl_append_So rfl _ _ rfl u3 (A ++ shutAll.take k) rfl (HS.out.below (by repeat (first | exact Below.refl _ _ | with_reducible refine below_drewN ?_ _ | with_reducible refine Below.drew ?_ | with_reducible refine Below.alloc ?_ (by first | exact Nat.le_refl _ | (simp; done) | omega | (simp; omega)) _ | with_reducible refine Below.setCell ?_ (by first | exact Nat.le_refl _ | (simp; done) | omega | (simp; omega)) _))) _ [abortA k] rfl (row_Act _ (abortA k) rfl) (by intro r hr; rw [List.mem_singleton.1 hr]; exact HN.out.2.1) (by have := HN.out.2.2; simp only [List.length_singleton]; omega) ?_; intro v9 w9 hs9 hg9; rw [HN.out.1] at hs9; have HS9 := Lib.hid hs9; clear hs9 hg9)
      exact ⟨⟨k + 1, by omega, by go_num, HS9.out⟩, by simp [intOf]; omega⟩
    · have : k = 4 := by omega
      subst this
      have HE : Hid (A ++ shutAll.take 4 = A ++ shutAll ∧ (A ++ shutAll).length ≤ 76) := ⟨rfl, by rw [List.length_append]; show A.length + 4 ≤ 76; omega⟩
      rw [HE.out.1] at HS
      obtain ⟨L, hL⟩ : ∃ L, L = (A ++ shutAll) ++ heldTail := ⟨_, rfl⟩
      have HLE : Hid (A ++ heldEnd = L) := by rw [Hid, hL, List.append_assoc]; rfl
      have hLL : L.length ≤ 83 ∧ 7 ≤ L.length := by rw [hL, List.length_append]; have := HE.out.2; have : heldTail.length = 7 := rfl; omega
      have HLA : Hid (A ++ shutAll ++ heldTail = L) := hL.symm
      clear hL
      go_upto_region 9 with (first
        | (at_builtin; refine wpl_append_So rfl _ _ rfl u3 (A ++ shutAll) rfl (HS.out.below (by repeat (first | exact Below.refl _ _ | with_reducible refine below_drewN ?_ _ | with_reducible refine Below.drew ?_ | with_reducible refine Below.alloc ?_ (by first | exact Nat.le_refl _ | (simp; done) | omega | (simp; omega)) _ | with_reducible refine Below.setCell ?_ (by first | exact Nat.le_refl _ | (simp; done) | omega | (simp; omega)) _))) _ heldTail rfl (acts_built _ heldTail _ _ 7 rfl rfl (by decide) (by decide) (fun r hr => (heldTail_ok r hr).I)).2 heldTail_ok (by have := HE.out.2; have : heldTail.length = 7 := rfl; omega) ?_; intro v9 w9 hs9 hg9; rw [HLA.out] at hs9; obtain ⟨a9, c9, rfl⟩ := hs9.shape; have HS9 := Lib.hid hs9; clear hs9 hg9)
        | (go_at_call 26; refine (trun_any _ L _ HS9.out.acts (by omega)).mono ?_; rintro e w5 ⟨hb5, a5, c5, rfl, hv5⟩; have HB5 := Lib.hid hb5; have HV5 := Lib.hid hv5; clear hb5 hv5))
      have hN5 := HV5.out.row
      obtain ⟨x0, x1, x2, x3, x4, x5, x6, hX, hgd, hfr, hfc⟩ := held_last A (by omega)
      rw [HLE.out] at hX
      obtain ⟨b, o, rfl, hbz, hat⟩ := ansRow_at hN5 (by rw [answers_len]; omega)
      have hXl : ((hall0 400).answers L).length = L.length := answers_len _ _
      obtain ⟨p, hp⟩ : ∃ p, p = ((hall0 400).answers (A ++ shutAll)).length := ⟨_, rfl⟩
      have hLp : L.length = p + 7 := by rw [← hXl, hX, List.length_append, ← hp]; rfl
      have k6 := hat (p + 6) (by omega)
      have k5 := hat (p + 5) (by omega)
      have k3 := hat (p + 3) (by omega)
      have g6 : ∀ h, ((hall0 400).answers L)[p + 6]'h = x6 := fun h => by simp only [hX]; rw [List.getElem_append_right (by omega)]; simp [← hp]
      have g5 : ∀ h, ((hall0 400).answers L)[p + 5]'h = x5 := fun h => by simp only [hX]; rw [List.getElem_append_right (by omega)]; simp [← hp]
      have g3 : ∀ h, ((hall0 400).answers L)[p + 3]'h = x3 := fun h => by simp only [hX]; rw [List.getElem_append_right (by omega)]; simp [← hp]
      rw [g6, hgd] at k6
      rw [g5, hfr, hfc] at k5
      rw [g3] at k3
      clear g6 g5 g3 hat hN5 hXl hX hgd hfr hfc hp
      obtain ⟨N, hN⟩ : ∃ N, N = L.length := ⟨_, rfl⟩
      rw [← hN] at hLp hLL
      rw [← hN]
      clear hN
      obtain ⟨q6, hq6⟩ : ∃ q, q = p + 6 := ⟨_, rfl⟩
      obtain ⟨q5, hq5⟩ : ∃ q, q = p + 5 := ⟨_, rfl⟩
      obtain ⟨q3, hq3⟩ : ∃ q, q = p + 3 := ⟨_, rfl⟩
      rw [← hq6] at k6; rw [← hq5] at k5; rw [← hq3] at k3
      have m6 : (N : Int) - 1 = (q6 : Int) := by omega
      have m5 : (N : Int) - 2 = (q5 : Int) := by omega
      have m3 : (N : Int) - 4 = (q3 : Int) := by omega
      have l6 : (q6 : Int) < (N : Int) := by omega
      have l5 : (q5 : Int) < (N : Int) := by omega
      have l3 : (q3 : Int) < (N : Int) := by omega
      have HBW : Hid (Below w.heap.size w w5) := HS9.out.2.1.trans (HB5.out.mono HS9.out.2.1.size)
      clear hq6 hq5 hq3 hLp HV5 HS HS9 HB5 HE HLE HLA
      obtain ⟨u0, u1, u2, u3, u4, u5, u6⟩ := k6
      obtain ⟨v0, v1, v2, v3, v4, v5, v6⟩ := k5
      obtain ⟨s0, s1, s2, s3, s4, s5, s6⟩ := k3
      go_upto_region 10 with fail
      go_quiet (fail)
      go_wp2_with fail
      refine bodyPost_ret (v := .bool true) (by simp [results, Try.results5, go_sem, *]) rfl ⟨rfl, below_drewN HBW.out _⟩
end Go.Proofs.Ytbeilcaadpopmab
