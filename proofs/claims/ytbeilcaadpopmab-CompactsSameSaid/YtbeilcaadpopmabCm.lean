/- Moves in a slice of the call's own; the first entry of a map that is written out. -/
import Derived.Test.YtbeilcaadpopmabCq
import Derived.Test.YtbeilcaadpopmabMk
set_option linter.unusedVariables false
set_option linter.unusedSimpArgs false
namespace Go.Proofs.Ytbeilcaadpopmab
open Go.RowKit Go.Maps

/-- 'map[int]int{x: y}', an entry at the operation. -/
theorem wpl_funIns {ops : Array Oper} {rest : List Oper} {o : Oper} {a : Act} {Q : Exit → Act → World → Prop} {w : World} (hg : o.guard = none) (m x v : Operand)
    (hop : o.op = Op.insert 71 m x v) (b n : Nat) (f : Int → Option Int) (hm : a.eval m = .map (some b)) (hS : FunMap w b n f) (hn : n < 1000000) (X Y : Int) (hx : a.eval x = .int .i64 X) (hX : I64 X) (hv : a.eval v = .int .i64 Y) (hY : I64 Y)
    (hK : ∀ w', FunMap w' b (n + 1) (fun z => if z = X then some Y else f z) → w.grownBy w' (some b) → wpList Try.prog ops Q rest (a.put o.dst undef) w') : wpList Try.prog ops Q (o :: rest) a w := by
  obtain ⟨D, h1, h2, h3⟩ := hS
  refine wpList_plain hg fun K' hK' => ?_
  obtain ⟨w', hrun, r1, r2⟩ := h1.update lawI Try.underlying71 (by unfold maxLen; omega) (key := .int .i64 X) (val := .int .i64 Y) (keyOf_int_mk Try.underlying3 (wf_of_i64 hX)) (plainElem_int Try.underlying3 (wf_of_i64 hY))
  unfold Oper.wp
  simp [execOp, hop, hm, hx, hv, hrun, Result.andThen]
  refine hK' _ _ (hK w' ⟨_, r1, h2.put _ _, fun y => ?_⟩ r2)
  by_cases e : y = X
  · subst e
    rw [atKey_put_same h2 (litKey_int _), has_put_same h2 (litKey_int _)]
    simp
  · rw [atKey_put_other (by simpa using e), has_put_other (by simpa using e), (h3 y).1, (h3 y).2]
    simp [e]

def cellsM (ms : List (Nat × Nat)) : List Value := ms.flatMap fun m => [.int .i64 (m.1 : Int), .int .i64 (m.2 : Int)]
theorem cellsM_len (ms : List (Nat × Nat)) : (cellsM ms).length = ms.length * 2 := by
  induction ms with
  | nil => rfl
  | cons m ms ih => simp only [cellsM, List.flatMap_cons, List.length_append, List.length_cons, List.length_nil] at *; omega
theorem cellsM_append (a b : List (Nat × Nat)) : cellsM (a ++ b) = cellsM a ++ cellsM b := by simp [cellsM]
theorem cellsM_at : ∀ (ms : List (Nat × Nat)) (i : Nat) (h : i < ms.length), (cellsM ms)[i * 2]? = some (.int .i64 (ms[i].1 : Int)) ∧ (cellsM ms)[i * 2 + 1]? = some (.int .i64 (ms[i].2 : Int))
  | [], i, h => by simp at h
  | m :: ms, 0, h => ⟨rfl, rfl⟩
  | m :: ms, i + 1, h => by
    have := cellsM_at ms i (by simpa using h)
    have e : cellsM (m :: ms) = .int .i64 (m.1 : Int) :: .int .i64 (m.2 : Int) :: cellsM ms := rfl
    rw [e, show (i + 1) * 2 = i * 2 + 1 + 1 by omega]
    simpa using this

/-- A new slice of the call's own, from block base on, that reads as the moves ms. -/
def OwnMoves (w : World) (base : Nat) (v : Value) (ms : List (Nat × Nat)) : Prop := ms.length ≤ 1000000 ∧ w.ownsRow base 73 2 v ms.length (cellsM ms)
theorem OwnMoves.nil (w : World) (base : Nat) : OwnMoves w base (.slice none 0 0) [] := ⟨by simp, World.ownsRow_nil _ _ _ _⟩
theorem OwnMoves.shape {w : World} {base : Nat} {v : Value} {ms : List (Nat × Nat)} (h : OwnMoves w base v ms) : ∃ a c, v = .slice a ms.length c ∧ ms.length ≤ c ∧ c ≤ 9223372036854775807 := by
  rcases h.2.2 with ⟨e, e'⟩ | ⟨g, cap, cur, e, _, _, h1, h2, _⟩
  · rw [e, e']; exact ⟨none, 0, rfl, by omega, by omega⟩
  · exact ⟨_, _, e, h1, by simp only [maxLen] at h2; omega⟩
theorem OwnMoves.mono {w : World} {base base' : Nat} {v : Value} {ms : List (Nat × Nat)} (h : OwnMoves w base v ms) (hb : base' ≤ base) : OwnMoves w base' v ms := ⟨h.1, ownsRow_mono h.2 hb⟩
theorem OwnMoves.below {w w' : World} {base : Nat} {v : Value} {ms : List (Nat × Nat)} (h : OwnMoves w base v ms) (hb : Below w.heap.size w w') : OwnMoves w' base v ms :=
  ⟨h.1, h.2.kept (grownBy_of_below (B := 0) hb none) (by cases hv : v.ownBlock <;> simp)⟩
theorem OwnMoves.grown {w w' : World} {base : Nat} {v : Value} {ms : List (Nat × Nat)} {row : Option Nat} (h : OwnMoves w base v ms) (hg : w.grownBy w' row) (hne : v.ownBlock = none ∨ v.ownBlock ≠ row) : OwnMoves w' base v ms := ⟨h.1, h.2.kept hg hne⟩
theorem OwnMoves.lt {w : World} {base : Nat} {v : Value} {ms : List (Nat × Nat)} (h : OwnMoves w base v ms) {k : Nat} (hk : v.ownBlock = some k) : base ≤ k ∧ k < w.heap.size := h.2.lt k hk
theorem OwnMoves.setFar {w : World} {base : Nat} {v : Value} {ms : List (Nat × Nat)} (h : OwnMoves w base v ms) {a : Addr} (ha : v.ownBlock ≠ some a.block) (u : Value) : OwnMoves (w.setCell a u) base v ms := by
  refine ⟨h.1, h.2.1, ?_⟩
  rcases h.2.2 with h2 | ⟨g, cap, cur, hv, hg, hh, r⟩
  · exact .inl h2
  · exact .inr ⟨g, cap, cur, hv, hg, by rw [Below.heap_setCell _ _ _ _ (by rintro rfl; exact ha (by rw [hv]; rfl))]; exact hh, r⟩
/-- The i-th move. -/
theorem OwnMoves.at {w : World} {base n c : Nat} {a : Option Addr} {ms : List (Nat × Nat)} (h : OwnMoves w base (.slice a n c) ms) {i : Nat} (hi : i < ms.length) :
    ∃ g, a = some ⟨g, 0, none⟩ ∧ base ≤ g ∧ g < w.heap.size ∧ w.cell? ⟨g, i * 2, none⟩ = some (.int .i64 (ms[i].1 : Int)) ∧ w.cell? ⟨g, i * 2 + 1, none⟩ = some (.int .i64 (ms[i].2 : Int)) := by
  rcases h.2.2 with ⟨e, e2⟩ | ⟨g, cap, cur, e, hg, hh, hnc, hcm, hcs, ht⟩
  · omega
  · simp only [Value.slice.injEq] at e
    obtain ⟨rfl, rfl, rfl⟩ := e
    have hlt : g < w.heap.size := (Array.getElem?_eq_some_iff.1 hh).1
    have hc : ∀ j, j < ms.length * 2 → w.cell? ⟨g, j, none⟩ = (cellsM ms)[j]? := fun j hj => by
      rw [cell_of_row w g j cur 73 (0, 0) hh, ← ht, List.getElem?_take, if_pos hj]
      simp
    obtain ⟨h1, h2⟩ := cellsM_at ms i hi
    exact ⟨g, rfl, hg, hlt, (hc _ (by omega)).trans h1, (hc _ (by omega)).trans h2⟩

theorem Try.infoMove : (Try.prog.info? 73).map (fun i => (i.zero, i.size, i.bytes)) = some (some (.agg #[.int .i64 0, .int .i64 0]), 2, 16) := by kernel_rfl

/-- A move that is written out. -/
theorem row_move (w : World) (p t : Nat) {n : Nat} (hn : n = w.heap.size) : Row (w.alloc (.cells #[.int .i64 (p : Int), .int .i64 (t : Int)] 73)) (.slice (some ⟨n, 0, none⟩) 1 1) 1 2 (cellsM [(p, t)]) := by
  subst hn
  refine ⟨rfl, by omega, _, 1, rfl, Nat.le_refl _, by unfold maxLen; omega, (fun h => by cases h), fun _ => ⟨w.heap.size, 0, rfl, by simp, fun i hi => ?_⟩⟩
  have : i = 0 ∨ i = 1 := by simp [cellsM] at hi; omega
  rcases this with rfl | rfl <;> simp [cellsM]

/-- 'moves = append(moves, m)' at the operation. -/
theorem wpl_append_move {ops : Array Oper} {rest : List Oper} {o : Oper} {a : Act} {Q : Exit → Act → World → Prop} {w : World} (hg : o.guard = none) (s x : Operand)
    (ho : o.op = .call { callee := .builtin .append, args := #[s, x], argTypes := #[53, 53] }) (base : Nat) (v : Value) (ms : List (Nat × Nat)) (hs : a.eval s = v) (hown : OwnMoves w base v ms)
    (sv : Value) (p t : Nat) (hx : a.eval x = sv) (hy : Row w sv 1 2 (cellsM [(p, t)])) (hlen : ms.length < 900000) (hbase : base ≤ w.heap.size)
    (h : ∀ v' w', OwnMoves w' base v' (ms ++ [(p, t)]) → w.grownBy w' v.ownBlock → wpList Try.prog ops Q rest (a.put o.dst v') w') : wpList Try.prog ops Q (o :: rest) a w := by
  refine wpList_plain hg fun K' hK' => ?_
  obtain ⟨i, hi, hz, h4, h5⟩ := info_parts Try.infoMove
  obtain ⟨v', w', hrun, h1, h2, h3, h6⟩ := run_append_row (P := Try.prog) w base 53 o.type 73 i (.agg #[.int .i64 0, .int .i64 0]) 2 16 Try.underlying53 hi hz h4 h5 rfl (by decide) v ms.length _ hown.2 sv 1 _ hy (by
      intro u hu
      simp only [cellsM, List.flatMap_cons, List.flatMap_nil, List.append_nil, List.mem_cons, List.not_mem_nil, or_false] at hu
      rcases hu with rfl | rfl <;> rfl) (by omega) (by decide) hbase
  unfold Oper.wp
  simp [execOp, ho, resolve, invoke, builtin, hs, hx, hrun, Result.andThen]
  refine hK' _ _ (h v' w' ⟨by simp; omega, ?_⟩ h2)
  rw [cellsM_append]
  simpa using h1
end Go.Proofs.Ytbeilcaadpopmab
