/- Maps from integers: a set (map[int]bool) and a function (map[int]int), as the walk meets them. -/
import Derived.Test.YtbeilcaadpopmabLib
import Derived.Maps.OwnOps
import Derived.Maps.OwnSet
import Derived.Maps.Views
set_option linter.unusedVariables false
set_option linter.unusedSimpArgs false
namespace Go.Proofs.Ytbeilcaadpopmab
open Go.RowKit Go.Maps

theorem lawI : Keyed Try.prog 3 := int_keyed Try.underlying3
theorem zeroB (w : World) : (zeroValue 4).run Try.prog w = .ok (.bool false) w := by kernel_rfl
theorem zeroI (w : World) : (zeroValue 3).run Try.prog w = .ok (.int .i64 0) w := by kernel_rfl

theorem wf_of_i64 {x : Int} (h : I64 x) : (Lit.int .i64 x).wf = true := by
  unfold I64 at h
  simp only [Lit.wf, IntKind.min, IntKind.max, IntKind.signed, IntKind.bits, Bool.and_eq_true, decide_eq_true_eq, if_true]
  omega

theorem plainElem_bool_inv {H : Type} {P : Program} {e : TypeId} (he : P.underlying e = some .bool) {v : Value} {z : DataW H × List MemPlace} (h : plainElem P e v = some z) : ∃ x, v = .bool x ∧ z = (.lit (.bool x), []) := by
  unfold plainElem at h
  rw [he] at h
  cases v <;> simp at h
  exact ⟨_, rfl, h.symm⟩

theorem litKey_int (x : Int) : WideAt.IsKeyLit (.int .i64 x) := by simp [WideAt.IsKeyLit]

/-- Block b is a map[int]bool that says true just at the numbers in S. -/
def SetMap (w : World) (b n : Nat) (S : List Int) : Prop :=
  ∃ D : DataW Unit, w.ownsMap Try.prog 3 (plainElem Try.prog 4) b n D ∧ IsMap D ∧ ∀ x, D.atKey (.int .i64 x) (.lit (.bool false)) = .lit (.bool (decide (x ∈ S)))

theorem setMap_made (w : World) : SetMap (w.alloc (.map #[] 0)) w.heap.size 0 [] := ⟨.map [], World.ownsMap_made _ _ _ _, isMap_empty, fun x => by simp [DataW.atKey]⟩

theorem SetMap.below {w w' : World} {b n : Nat} {S : List Int} (h : SetMap w b n S) (hb : Below w.heap.size w w') : SetMap w' b n S := by
  obtain ⟨D, h1, h2, h3⟩ := h
  exact ⟨D, h1.kept (grownBy_of_below (B := 0) hb none) (by simp), h2, h3⟩
theorem SetMap.setCell {w : World} {b n : Nat} {S : List Int} (h : SetMap w b n S) {a : Addr} (ha : b ≠ a.block) (u : Value) : SetMap (w.setCell a u) b n S := by
  obtain ⟨D, h1, h2, h3⟩ := h
  exact ⟨D, h1.setCell ha u, h2, h3⟩
theorem SetMap.grown {w w' : World} {row : Option Nat} {b n : Nat} {S : List Int} (h : SetMap w b n S) (hg : w.grownBy w' row) (hne : some b ≠ row) : SetMap w' b n S := by
  obtain ⟨D, h1, h2, h3⟩ := h
  exact ⟨D, h1.kept hg hne, h2, h3⟩
theorem SetMap.lt {w : World} {b n : Nat} {S : List Int} (h : SetMap w b n S) : b < w.heap.size := by obtain ⟨D, h1, _⟩ := h; exact h1.lt

/-- 'm[x]' at the operation. -/
theorem wpl_setLook {ops : Array Oper} {rest : List Oper} {o : Oper} {a : Act} {Q : Exit → Act → World → Prop} {w : World} (hg : o.guard = none) (m x : Operand)
    (hop : o.op = Op.lookup 99 m x false) (b n : Nat) (S : List Int) (hm : a.eval m = .map (some b)) (hS : SetMap w b n S) (X : Int) (hx : a.eval x = .int .i64 X) (hX : I64 X)
    (hK : wpList Try.prog ops Q rest (a.put o.dst (.bool (decide (X ∈ S)))) w) : wpList Try.prog ops Q (o :: rest) a w := by
  refine wpList_plain hg fun K' hK' => ?_
  obtain ⟨D, h1, h2, h3⟩ := hS
  obtain ⟨v, ps, hrun, hv⟩ := h1.lookup lawI Try.underlying99 (zeroB w) (plainElem_bool Try.underlying4 false) (keyOf_int_mk Try.underlying3 (wf_of_i64 hX))
  obtain ⟨c, rfl, hc⟩ := plainElem_bool_inv Try.underlying4 hv
  rw [h3] at hc
  simp only [Prod.mk.injEq, DataW.lit.injEq, Lit.bool.injEq] at hc
  rw [← hc.1] at hrun
  unfold Oper.wp
  simp [execOp, hop, hm, hx, hrun, Result.andThen]
  exact hK' _ _ hK

/-- 'm[x] = true' at the operation. -/
theorem wpl_setAdd {ops : Array Oper} {rest : List Oper} {o : Oper} {a : Act} {Q : Exit → Act → World → Prop} {w : World} (hg : o.guard = none) (m x v : Operand)
    (hop : o.op = Op.mapUpdate 99 m x v) (b n : Nat) (S : List Int) (hm : a.eval m = .map (some b)) (hS : SetMap w b n S) (hn : n < 1000000) (X : Int) (hx : a.eval x = .int .i64 X) (hX : I64 X) (hv : a.eval v = .bool true)
    (hK : ∀ w', SetMap w' b (n + 1) (X :: S) → w.grownBy w' (some b) → wpList Try.prog ops Q rest (a.put o.dst undef) w') : wpList Try.prog ops Q (o :: rest) a w := by
  obtain ⟨D, h1, h2, h3⟩ := hS
  refine wpList_mapUpdate_own _ hg m x v 99 hop _ _ lawI Try.underlying99 _ b n D hm h1 (by unfold maxLen; omega) _ _ (.int .i64 X) hx hv (keyOf_int_mk Try.underlying3 (wf_of_i64 hX)) _ [] (plainElem_bool Try.underlying4 true) ?_
  intro w' h1' hgr
  refine hK w' ⟨_, h1', h2.put _ _, fun y => ?_⟩ hgr
  by_cases e : y = X
  · subst e
    rw [atKey_put_same h2 (litKey_int _)]
    simp
  · rw [atKey_put_other (by simpa using e), h3]
    simp [e]

/-- Block b is a map[int]int that holds just what f says. -/
def FunMap (w : World) (b n : Nat) (f : Int → Option Int) : Prop :=
  ∃ D : DataW Unit, w.ownsMap Try.prog 3 (plainElem Try.prog 3) b n D ∧ IsMap D ∧ ∀ x, has D (.int .i64 x) = (f x).isSome ∧ D.atKey (.int .i64 x) (.lit (.int .i64 0)) = .lit (.int .i64 ((f x).getD 0))

theorem funMap_made (w : World) : FunMap (w.alloc (.map #[] 0)) w.heap.size 0 (fun _ => none) := ⟨.map [], World.ownsMap_made _ _ _ _, isMap_empty, fun x => by simp [DataW.atKey, has_eq]⟩
theorem FunMap.below {w w' : World} {b n : Nat} {f : Int → Option Int} (h : FunMap w b n f) (hb : Below w.heap.size w w') : FunMap w' b n f := by
  obtain ⟨D, h1, h2, h3⟩ := h
  exact ⟨D, h1.kept (grownBy_of_below (B := 0) hb none) (by simp), h2, h3⟩
theorem FunMap.setCell {w : World} {b n : Nat} {f : Int → Option Int} (h : FunMap w b n f) {a : Addr} (ha : b ≠ a.block) (u : Value) : FunMap (w.setCell a u) b n f := by
  obtain ⟨D, h1, h2, h3⟩ := h
  exact ⟨D, h1.setCell ha u, h2, h3⟩
theorem FunMap.grown {w w' : World} {row : Option Nat} {b n : Nat} {f : Int → Option Int} (h : FunMap w b n f) (hg : w.grownBy w' row) (hne : some b ≠ row) : FunMap w' b n f := by
  obtain ⟨D, h1, h2, h3⟩ := h
  exact ⟨D, h1.kept hg hne, h2, h3⟩
theorem FunMap.lt {w : World} {b n : Nat} {f : Int → Option Int} (h : FunMap w b n f) : b < w.heap.size := by obtain ⟨D, h1, _⟩ := h; exact h1.lt

/-- 'm[x]' at the operation. -/
theorem wpl_funLook {ops : Array Oper} {rest : List Oper} {o : Oper} {a : Act} {Q : Exit → Act → World → Prop} {w : World} (hg : o.guard = none) (m x : Operand)
    (hop : o.op = Op.lookup 71 m x false) (b n : Nat) (f : Int → Option Int) (hm : a.eval m = .map (some b)) (hS : FunMap w b n f) (X : Int) (hx : a.eval x = .int .i64 X) (hX : I64 X)
    (hK : wpList Try.prog ops Q rest (a.put o.dst (.int .i64 ((f X).getD 0))) w) : wpList Try.prog ops Q (o :: rest) a w := by
  obtain ⟨D, h1, h2, h3⟩ := hS
  refine wpList_lookup_own_int _ hg m x _ hop _ _ .i64 lawI Try.underlying71 Try.underlying3 (zeroI w) b n D hm h1 _ _ hx (keyOf_int_mk Try.underlying3 (wf_of_i64 hX)) ?_
  intro c hc _
  rw [(h3 X).2] at hc
  simp only [DataW.lit.injEq, Lit.int.injEq, true_and] at hc
  rw [← hc]; exact hK

/-- 'v, ok := m[x]' at the operation. -/
theorem wpl_funLookOk {ops : Array Oper} {rest : List Oper} {o : Oper} {a : Act} {Q : Exit → Act → World → Prop} {w : World} (hg : o.guard = none) (m x : Operand)
    (hop : o.op = Op.lookup 71 m x true) (b n : Nat) (f : Int → Option Int) (hm : a.eval m = .map (some b)) (hS : FunMap w b n f) (X : Int) (hx : a.eval x = .int .i64 X) (hX : I64 X)
    (hK : wpList Try.prog ops Q rest (a.put o.dst (.tuple #[.int .i64 ((f X).getD 0), .bool (f X).isSome])) w) : wpList Try.prog ops Q (o :: rest) a w := by
  obtain ⟨D, h1, h2, h3⟩ := hS
  refine wpList_lookup_own_ok_int _ hg m x _ hop _ _ .i64 lawI Try.underlying71 Try.underlying3 (zeroI w) b n D hm h1 _ _ hx (keyOf_int_mk Try.underlying3 (wf_of_i64 hX)) ?_
  intro c hc _
  rw [(h3 X).2] at hc
  simp only [DataW.lit.injEq, Lit.int.injEq, true_and] at hc
  rw [← hc, (h3 X).1]; exact hK

/-- 'm[x] = y' at the operation. -/
theorem wpl_funPut {ops : Array Oper} {rest : List Oper} {o : Oper} {a : Act} {Q : Exit → Act → World → Prop} {w : World} (hg : o.guard = none) (m x v : Operand)
    (hop : o.op = Op.mapUpdate 71 m x v) (b n : Nat) (f : Int → Option Int) (hm : a.eval m = .map (some b)) (hS : FunMap w b n f) (hn : n < 1000000) (X Y : Int) (hx : a.eval x = .int .i64 X) (hX : I64 X) (hv : a.eval v = .int .i64 Y) (hY : I64 Y)
    (hK : ∀ w', FunMap w' b (n + 1) (fun z => if z = X then some Y else f z) → w.grownBy w' (some b) → wpList Try.prog ops Q rest (a.put o.dst undef) w') : wpList Try.prog ops Q (o :: rest) a w := by
  obtain ⟨D, h1, h2, h3⟩ := hS
  refine wpList_mapUpdate_own _ hg m x v 71 hop _ _ lawI Try.underlying71 _ b n D hm h1 (by unfold maxLen; omega) _ _ (.int .i64 X) hx hv (keyOf_int_mk Try.underlying3 (wf_of_i64 hX)) _ [] (plainElem_int Try.underlying3 (wf_of_i64 hY)) ?_
  intro w' h1' hgr
  refine hK w' ⟨_, h1', h2.put _ _, fun y => ?_⟩ hgr
  by_cases e : y = X
  · subst e
    rw [atKey_put_same h2 (litKey_int _), has_put_same h2 (litKey_int _)]
    simp
  · rw [atKey_put_other (by simpa using e), has_put_other (by simpa using e), (h3 y).1, (h3 y).2]
    simp [e]

end Go.Proofs.Ytbeilcaadpopmab
