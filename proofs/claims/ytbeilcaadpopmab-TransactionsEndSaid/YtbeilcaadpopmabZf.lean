/- Texts on the machine of threads, put together: Te. -/
import Derived.Test.YtbeilcaadpopmabZe
set_option linter.unusedVariables false
set_option linter.unusedSimpArgs false
/- Walk: limewashkeep.TransactionsEnd. -/
namespace Go.Proofs.Ytbeilcaadpopmab
open Go.RowKit Go.Maps

set_option maxRecDepth 100000 in
theorem krun_any (v : Value) (l : List ActM) (w : World) (h : Acts w v l) (hl : l.length ≤ 400) : Calls Try.prog 46 #[v] w fun e w' => Below w.heap.size w w' ∧ ∃ a c, e = .returned (.slice a l.length c) ∧ OwnAns w' w.heap.size (.slice a l.length c) ((hall0 400).answers l) := by
  have HA : Hid (Acts w v l) := h
  obtain ⟨a, c, rfl, hc, hcm, _⟩ := h.len
  clear h
  go_enter Try.func46, Try.ntmps46
  go_wp2_with (go_at_call 42; refine (run_any 400 _ l _ HA.out).mono ?_; rintro e w1 ⟨hb1, ⟨hno, _⟩ | ⟨_, hno, _⟩ | ⟨_, _, aa, ac, ha, hc', t, xs, lp, rfl, hv, _⟩⟩; exact absurd ⟨by omega, by omega⟩ hno; exact absurd hl (by omega); have HV := Lib.hid hv; have HB := Lib.hid hb1; clear hv hb1)
  refine bodyPost_ret (v := .slice aa l.length ac) (by simp [results, Try.results46, go_sem, *]) rfl ⟨(by repeat (first | exact Below.refl _ _ | with_reducible refine Below.trans ?_ (Below.mono HB.out (by first | exact Nat.le_refl _ | (simp; done) | omega | (simp; omega) | (have z0 := Below.size HB.out; omega) | (have z0 := Below.size HB.out; simp at *; omega))) | with_reducible refine below_drewN ?_ _ | with_reducible refine Below.drew ?_ | with_reducible refine Below.alloc ?_ (by first | exact Nat.le_refl _ | (simp; done) | omega | (simp; omega) | (have z0 := Below.size HB.out; omega) | (have z0 := Below.size HB.out; simp at *; omega)) _ | with_reducible refine Below.setCell ?_ (by first | exact Nat.le_refl _ | (simp; done) | omega | (simp; omega) | (have z0 := Below.size HB.out; omega) | (have z0 := Below.size HB.out; simp at *; omega)) _)), _, _, rfl, ?_⟩
  exact HV.out.keep fun j hj => by
    have := HV.out.lt hj
    exact (show Below w1.heap.size w1 _ from (by repeat (first | exact Below.refl _ _ | with_reducible refine below_drewN ?_ _ | with_reducible refine Below.drew ?_ | with_reducible refine Below.alloc ?_ (by first | exact Nat.le_refl _ | (simp; done) | omega | (simp; omega)) _ | with_reducible refine Below.setCell ?_ (by first | exact Nat.le_refl _ | (simp; done) | omega | (simp; omega)) _))).block j this.2

theorem endActs_I (k e : Int) (h0 : 0 ≤ k) (h1 : k < 1000) (he : e = 2 ∨ e = 3) : ∀ r ∈ endActs k e, I64 r.kind ∧ I64 r.t ∧ I64 r.a ∧ I64 r.b ∧ I64 r.n := by
  intro r hr
  simp only [endActs, List.mem_cons, List.not_mem_nil, or_false] at hr
  unfold I64
  rcases hr with rfl | rfl | rfl | rfl | rfl | rfl | rfl | rfl | rfl | rfl | rfl <;> dsimp only <;> omega

set_option maxRecDepth 100000 in
set_option maxHeartbeats 4000000 in
theorem transactionsEnd_any (n : Int) (keep : Bool) (w : World) (h0 : I64 n) : Calls Try.prog 13 #[.int .i64 n, .bool keep] w fun e w' => e = .returned (.bool true) ∧ Below w.heap.size w w' := by
  unfold I64 at h0
  have hk0 := pick_lo n 1000 (by omega)
  have hk1 := pick_hi n 1000 (by omega)
  obtain ⟨k, hk⟩ : ∃ k, k = pick n 1000 := ⟨_, rfl⟩
  rw [← hk] at hk0 hk1
  have HK : Hid (pick n 1000 = k) := hk.symm
  clear hk
  cases keep
  · go_enter Try.func13, Try.ntmps13
    go_upto_region 8 with (go_at_call 15; refine (picked_any _ _ _ (by omega) (by omega) (by omega) (by omega)).mono ?_; rintro e w' ⟨rfl, rfl⟩; rw [HK.out])
    go_upto_region 9 with (go_at_call 46; refine (krun_any _ (endActs k 3) _ (acts_built _ _ _ _ 11 rfl rfl (by simp [endActs]) (by simp [endActs]) (endActs_I k 3 hk0 hk1 (.inr rfl))) (by simp [endActs])).mono ?_; rintro e w1 ⟨hb1, a1, c1, rfl, hv1⟩; have hL : (endActs k 3).length = 11 := rfl; rw [hL] at hv1; rw [hL]; obtain ⟨b1, o1, rfl, hbs, hat⟩ := ansRow_at hv1.row (by rw [answers_len, hL]; omega); have hT := hat 10 (by rw [answers_len, hL]; omega); have hE := end_answers k 3 hk0 hk1 (.inr rfl); rw [List.getD_eq_getElem?_getD, List.getElem?_eq_getElem (by rw [answers_len, hL]; omega), Option.getD_some] at hE; rw [hE] at hT; obtain ⟨x0, x1, x2, x3, x4, x5, x6⟩ := hT; clear hat hE; simp only [show ¬ ((3 : Int) = 2) by omega, if_false] at x2; have HB := Lib.hid hb1; clear hb1 hv1)
    go_wp2
    refine bodyPost_ret (v := .bool true) (by simp [results, Try.results13, go_sem, *]) rfl ⟨rfl, (by repeat (first | exact Below.refl _ _ | with_reducible refine Below.trans ?_ (Below.mono HB.out (by first | exact Nat.le_refl _ | (simp; done) | omega | (simp; omega) | (have z0 := Below.size HB.out; omega) | (have z0 := Below.size HB.out; simp at *; omega))) | with_reducible refine below_drewN ?_ _ | with_reducible refine Below.drew ?_ | with_reducible refine Below.alloc ?_ (by first | exact Nat.le_refl _ | (simp; done) | omega | (simp; omega) | (have z0 := Below.size HB.out; omega) | (have z0 := Below.size HB.out; simp at *; omega)) _ | with_reducible refine Below.setCell ?_ (by first | exact Nat.le_refl _ | (simp; done) | omega | (simp; omega) | (have z0 := Below.size HB.out; omega) | (have z0 := Below.size HB.out; simp at *; omega)) _))⟩
  · go_enter Try.func13, Try.ntmps13
    go_upto_region 8 with (go_at_call 15; refine (picked_any _ _ _ (by omega) (by omega) (by omega) (by omega)).mono ?_; rintro e w' ⟨rfl, rfl⟩; rw [HK.out])
    go_upto_region 9 with (go_at_call 46; refine (krun_any _ (endActs k 2) _ (acts_built _ _ _ _ 11 rfl rfl (by simp [endActs]) (by simp [endActs]) (endActs_I k 2 hk0 hk1 (.inl rfl))) (by simp [endActs])).mono ?_; rintro e w1 ⟨hb1, a1, c1, rfl, hv1⟩; have hL : (endActs k 2).length = 11 := rfl; rw [hL] at hv1; rw [hL]; obtain ⟨b1, o1, rfl, hbs, hat⟩ := ansRow_at hv1.row (by rw [answers_len, hL]; omega); have hT := hat 10 (by rw [answers_len, hL]; omega); have hE := end_answers k 2 hk0 hk1 (.inl rfl); rw [List.getD_eq_getElem?_getD, List.getElem?_eq_getElem (by rw [answers_len, hL]; omega), Option.getD_some] at hE; rw [hE] at hT; obtain ⟨x0, x1, x2, x3, x4, x5, x6⟩ := hT; clear hat hE; simp only [if_true] at x2; have HB := Lib.hid hb1; clear hb1 hv1)
    go_wp2
    refine bodyPost_ret (v := .bool true) (by simp [results, Try.results13, go_sem, *]) rfl ⟨rfl, (by repeat (first | exact Below.refl _ _ | with_reducible refine Below.trans ?_ (Below.mono HB.out (by first | exact Nat.le_refl _ | (simp; done) | omega | (simp; omega) | (have z0 := Below.size HB.out; omega) | (have z0 := Below.size HB.out; simp at *; omega))) | with_reducible refine below_drewN ?_ _ | with_reducible refine Below.drew ?_ | with_reducible refine Below.alloc ?_ (by first | exact Nat.le_refl _ | (simp; done) | omega | (simp; omega) | (have z0 := Below.size HB.out; omega) | (have z0 := Below.size HB.out; simp at *; omega)) _ | with_reducible refine Below.setCell ?_ (by first | exact Nat.le_refl _ | (simp; done) | omega | (simp; omega) | (have z0 := Below.size HB.out; omega) | (have z0 := Below.size HB.out; simp at *; omega)) _))⟩
end Go.Proofs.Ytbeilcaadpopmab
