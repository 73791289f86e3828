/- The builtin make at slices of integers; heap.New. -/
import Derived.Test.YtbeilcaadpopmabAp
set_option linter.unusedVariables false
set_option linter.unusedSimpArgs false
namespace Go.Proofs.Ytbeilcaadpopmab
open Go.RowKit

theorem madeInts (n : Nat) : (madeCells (Value.int .i64 0).cells (n * 1)).toList = (List.replicate n 0).map (Value.int .i64) := by
  simp only [Nat.mul_one, madeCells, Value.cells]
  apply List.ext_getElem
  · simp
  · intro i h1 h2
    have : i % 1 = 0 := Nat.mod_one i
    simp [this]

/-- What the make comes to, as the walk meets it. -/
theorem wpl_make_ints {ops : Array Oper} {rest : List Oper} {o : Oper} {a : Act} {Q : Exit → Act → World → Prop} {w : World} (hg : o.guard = none) (l c : Operand)
    (ho : o.op = Op.makeSlice 23 l c) (base : Nat) (n : Nat) (N : Int) (hN : N = (n : Int)) (hl : a.eval l = .int .i64 N) (hc : a.eval c = .int .i64 N) (hlen : n ≤ 17592186044416) (hbase : base ≤ w.heap.size)
    (h : ∀ w', OwnInts w' base (.slice (some ⟨w.heap.size, 0, none⟩) n n) (List.replicate n 0) → w.grownBy w' none → wpList Try.prog ops Q rest (a.put o.dst (.slice (some ⟨w.heap.size, 0, none⟩) n n)) w') : wpList Try.prog ops Q (o :: rest) a w := by
  obtain ⟨i, hi, hz, h4, h5⟩ := info_parts Try.infoInt
  refine wpList_make_full w hg l c 23 ho base 3 i (.int .i64 0) 1 Try.underlying23 hi hz h4 .i64 .i64 N N n hl hc hN hN (by rw [h5]; omega) (by unfold maxLen; omega) hbase (fun w' h1 h2 => h w' ⟨⟨fun x hx => ?_, by simpa using hlen⟩, ?_⟩ h2)
  · rw [List.eq_of_mem_replicate hx]; unfold I64; omega
  · rw [madeInts] at h1
    simpa using h1

/-- It returned a new heap of n words. -/
def RetNew (w : World) (n : Int) (e : Ending) (w' : World) : Prop :=
  Below w.heap.size w w' ∧ ((∃ (m : Nat) (a : Option Addr) (c : Nat), n = (m : Int) ∧ 1 ≤ m ∧ m ≤ 400 ∧ e = .returned (.tuple #[.agg #[.slice a m c, .int .i64 1], .int .i64 0]) ∧ OwnInts w' w.heap.size (.slice a m c) (List.replicate m 0)) ∨
    (¬ (1 ≤ n ∧ n ≤ 400) ∧ e = .returned (.tuple #[.agg #[.slice none 0 0, .int .i64 0], .int .i64 2])))

set_option maxHeartbeats 400000 in
theorem new_any (n : Int) (w : World) : Calls Try.prog 16 #[.int .i64 n] w (RetNew w n) := by
  by_cases h1 : n < 1
  · go_enter Try.func16, Try.ntmps16
    go_wp2
    refine bodyPost_ret (v := .tuple #[.agg #[.slice none 0 0, .int .i64 0], .int .i64 2]) (by simp [results, Try.results16, go_sem, *]) rfl ⟨(by repeat (first | exact Below.refl _ _ | with_reducible refine below_drewN ?_ _ | with_reducible refine Below.drew ?_ | with_reducible refine Below.alloc ?_ (by first | exact Nat.le_refl _ | (simp; done) | omega | (simp; omega)) _ | with_reducible refine Below.setCell ?_ (by first | exact Nat.le_refl _ | (simp; done) | omega | (simp; omega)) _)), .inr ⟨by omega, rfl⟩⟩
  · by_cases h2 : 400 < n
    · go_enter Try.func16, Try.ntmps16
      go_wp2
      refine bodyPost_ret (v := .tuple #[.agg #[.slice none 0 0, .int .i64 0], .int .i64 2]) (by simp [results, Try.results16, go_sem, *]) rfl ⟨(by repeat (first | exact Below.refl _ _ | with_reducible refine below_drewN ?_ _ | with_reducible refine Below.drew ?_ | with_reducible refine Below.alloc ?_ (by first | exact Nat.le_refl _ | (simp; done) | omega | (simp; omega)) _ | with_reducible refine Below.setCell ?_ (by first | exact Nat.le_refl _ | (simp; done) | omega | (simp; omega)) _)), .inr ⟨by omega, rfl⟩⟩
    · obtain ⟨m, rfl⟩ := Int.eq_ofNat_of_zero_le (show 0 ≤ n by omega)
      go_enter Try.func16, Try.ntmps16
      go_wp2_with (at_make; refine wpl_make_ints rfl _ _ rfl (w.heap.size + 1) m _ rfl rfl rfl (by omega) (by simp) ?_; intro w' hv' hg; simp only [World.size_alloc] at hv'; have hb := Below.grown (Below.refl _ _) hg (Nat.le_refl _) (by simp); have zc1 := Nat.lt_of_lt_of_le (show w.heap.size < _ from (by first | (simp; done) | omega | (simp; omega))) (Below.size hb); have fc1_0 := Below.cell hb (p := ⟨w.heap.size, 0, none⟩) (by first | (simp; done) | omega | (simp; omega)); have gc1_0 := Below.frozen hb (p := ⟨w.heap.size, 0, none⟩) (by first | (simp; done) | omega | (simp; omega)); have fc1_1 := Below.cell hb (p := ⟨w.heap.size, 1, none⟩) (by first | (simp; done) | omega | (simp; omega)); have gc1_1 := Below.frozen hb (p := ⟨w.heap.size, 1, none⟩) (by first | (simp; done) | omega | (simp; omega)); (try simp at fc1_0 gc1_0 fc1_1 gc1_1))
      refine bodyPost_ret (v := .tuple #[.agg #[.slice (some ⟨w.heap.size + 1, 0, none⟩) m m, .int .i64 1], .int .i64 0]) (by simp [results, Try.results16, go_sem, *]) rfl ⟨(by repeat (first | exact Below.refl _ _ | with_reducible refine Below.trans ?_ (Below.mono hb (by first | exact Nat.le_refl _ | (simp; done) | omega | (simp; omega) | (have z0 := Below.size hb; omega) | (have z0 := Below.size hb; simp at *; omega))) | with_reducible refine below_drewN ?_ _ | with_reducible refine Below.drew ?_ | with_reducible refine Below.alloc ?_ (by first | exact Nat.le_refl _ | (simp; done) | omega | (simp; omega) | (have z0 := Below.size hb; omega) | (have z0 := Below.size hb; simp at *; omega)) _ | with_reducible refine Below.setCell ?_ (by first | exact Nat.le_refl _ | (simp; done) | omega | (simp; omega) | (have z0 := Below.size hb; omega) | (have z0 := Below.size hb; simp at *; omega)) _)), .inl ⟨m, some ⟨w.heap.size + 1, 0, none⟩, m, rfl, by omega, by omega, rfl, ?_⟩⟩
      exact (by refine OwnInts.via hv' (base' := w.heap.size) ?_ ?_; (repeat (first | exact hv' | with_reducible refine OwnInts.setBelow ?_ ?_ _ | with_reducible refine OwnInts.below ?_ (Below.drew (Below.refl _ _)) | with_reducible refine OwnInts.below ?_ (below_drewN (Below.refl _ _) _) | with_reducible refine OwnInts.below ?_ (Below.alloc (Below.refl _ _) (Nat.le_refl _) _))); all_goals (first | exact Nat.le_refl _ | (simp; done) | omega | (simp; omega)))

end Go.Proofs.Ytbeilcaadpopmab
