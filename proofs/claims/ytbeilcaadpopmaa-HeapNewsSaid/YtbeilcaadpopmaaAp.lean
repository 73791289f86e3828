/- The builtin append at slices of integers: one law for every source. -/
import Derived.Test.YtbeilcaadpopmaaLib
import Derived.Deep.RegionLaw
set_option linter.unusedVariables false
set_option linter.unusedSimpArgs false
namespace Go.Proofs.Ytbeilcaadpopmaa
open Go.RowKit

theorem Try.infoInt : (Try.prog.info? 3).map (fun i => (i.zero, i.size, i.bytes)) = some (some (.int .i64 0), 1, 8) := by kernel_rfl

/-- What the append comes to. -/
theorem run_append_ints (w : World) (ty : TypeId) (base : Nat) (v : Value) (xs : List Int) (hown : OwnInts w base v xs)
    (sv : Value) (ys : List Int) (hy : Ints w sv ys) (hlen : xs.length + ys.length ≤ 17592186043904) (hbase : base ≤ w.heap.size) :
    ∃ v' w', (Builtin.append_ #[24, 24] ty #[v, sv]).run Try.prog w = .ok v' w' ∧ OwnInts w' base v' (xs ++ ys) ∧ w.grownBy w' v.ownBlock ∧ (v' = .slice none 0 0 ↔ v = .slice none 0 0 ∧ ys = []) := by
  obtain ⟨i, hi, hz, h4, h5⟩ := info_parts Try.infoInt
  have hr : ∀ z ∈ xs ++ ys, I64 z := fun z hz => by
    rcases List.mem_append.1 hz with hz | hz
    · exact hown.1.1 z hz
    · exact hy.1.1 z hz
  obtain ⟨sa, sc, rfl, hsc, _, hnone⟩ := hy.len
  cases sa with
  | none =>
    have := hnone rfl
    subst this
    have hy0 : ys = [] := List.eq_nil_of_length_eq_zero (by omega)
    subst hy0
    have hrun := run_append_owned_none (P := Try.prog) w base 24 ty 3 i 1 Try.underlying24 hi v xs.length _ hown.2
    exact ⟨v, w, hrun, by simpa using hown, World.grownBy.refl _ _, by simp⟩
  | some ad =>
    have hnews : ∀ j u, (ys.map (Value.int .i64))[j]? = some u → w.cell? (ad.add j) = some u := by
      intro j u hu
      have hj : j < ys.length := by
        have := (List.getElem?_eq_some_iff.1 hu).1
        simpa using this
      obtain ⟨b, off, e, _, hc⟩ := hy.at (by omega)
      obtain rfl := Option.some.inj e
      rw [Addr.add_lit, hc j hj]
      rw [← hu]
      simp [List.getD, hj]
    obtain ⟨v', w', hrun, h1, h2, h3⟩ := run_append_own (P := Try.prog) w base 24 ty 3 i (.int .i64 0) 1 8 Try.underlying24 hi hz h4 h5 rfl (by decide) v xs.length _ hown.2 ad ys.length sc (ys.map (Value.int .i64)) (by simp) hnews (by
      intro u hu
      obtain ⟨_, _, rfl⟩ := List.mem_map.1 hu
      rfl) (by unfold maxLen; omega) (by omega) hbase
    exact ⟨v', w', hrun, ⟨⟨hr, by simpa using hlen⟩, by simpa using h1⟩, h2, h3.trans (by rw [List.length_eq_zero_iff])⟩

theorem wp_append_ints {o : Oper} {a : Act} {K : Act → World → Prop} {Q : Exit → Act → World → Prop} {w : World} (s x : Operand)
    (ho : o.op = .call { callee := .builtin .append, args := #[s, x], argTypes := #[24, 24] }) (base : Nat) (v : Value) (xs : List Int) (hs : a.eval s = v) (hown : OwnInts w base v xs)
    (sv : Value) (ys : List Int) (hx : a.eval x = sv) (hy : Ints w sv ys) (hlen : xs.length + ys.length ≤ 17592186043904) (hbase : base ≤ w.heap.size)
    (h : ∀ v' w', OwnInts w' base v' (xs ++ ys) → w.grownBy w' v.ownBlock → (v' = .slice none 0 0 ↔ v = .slice none 0 0 ∧ ys = []) → K (a.put o.dst v') w') : o.wp Try.prog a w K Q := by
  obtain ⟨v', w', hrun, h1, h2, h3⟩ := run_append_ints w o.type base v xs hown sv ys hy hlen hbase
  unfold Oper.wp
  simp [execOp, ho, resolve, invoke, builtin, hs, hx, hrun, Result.andThen]
  exact h v' w' h1 h2 h3

/-- As the walk meets it. -/
theorem wpl_append_ints {ops : Array Oper} {rest : List Oper} {o : Oper} {a : Act} {Q : Exit → Act → World → Prop} {w : World} (hg : o.guard = none) (s x : Operand)
    (ho : o.op = .call { callee := .builtin .append, args := #[s, x], argTypes := #[24, 24] }) (base : Nat) (v : Value) (xs : List Int) (hs : a.eval s = v) (hown : OwnInts w base v xs)
    (sv : Value) (ys : List Int) (hx : a.eval x = sv) (hy : Ints w sv ys) (hlen : xs.length + ys.length ≤ 17592186043904) (hbase : base ≤ w.heap.size)
    (h : ∀ v' w', OwnInts w' base v' (xs ++ ys) → w.grownBy w' v.ownBlock → (v' = .slice none 0 0 ↔ v = .slice none 0 0 ∧ ys = []) → wpList Try.prog ops Q rest (a.put o.dst v') w') : wpList Try.prog ops Q (o :: rest) a w :=
  wpList_plain hg fun K' hK' => wp_append_ints s x ho base v xs hs hown sv ys hx hy hlen hbase fun v' w' h1 h2 h3 => hK' _ _ (h v' w' h1 h2 h3)

/-- As a step of a region that draws its order. -/
theorem step_append_ints {ops : Array Oper} {o : Oper} {a : Act} {w : World} {K : Act → World → Prop} {Q : Exit → Act → World → Prop} {E : Prop} (hg : o.guard = none) (s x : Operand)
    (ho : o.op = .call { callee := .builtin .append, args := #[s, x], argTypes := #[24, 24] }) (base : Nat) (v : Value) (xs : List Int) (hs : a.eval s = v) (hown : OwnInts w base v xs)
    (sv : Value) (ys : List Int) (hx : a.eval x = sv) (hy : Ints w sv ys) (hlen : xs.length + ys.length ≤ 17592186043904) (hbase : base ≤ w.heap.size)
    (h : ∀ v' w', OwnInts w' base v' (xs ++ ys) → w.grownBy w' v.ownBlock → (v' = .slice none 0 0 ↔ v = .slice none 0 0 ∧ ys = []) → K (a.put o.dst v') w') :
    if Region.wanted o (yielded ops a.tmps) = true then Oper.wp Try.prog o a w K Q else E := by
  have hw : Region.wanted o (yielded ops a.tmps) = true := by simp [Region.wanted, hg]
  rw [if_pos hw]
  exact wp_append_ints s x ho base v xs hs hown sv ys hx hy hlen hbase h
end Go.Proofs.Ytbeilcaadpopmaa
