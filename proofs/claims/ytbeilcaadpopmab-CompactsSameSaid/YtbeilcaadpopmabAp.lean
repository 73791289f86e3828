/- The builtin append: one law for every source, at whatever element type; at slices of integers. -/
import Derived.Test.YtbeilcaadpopmabLib
import Derived.Deep.RegionLaw
set_option linter.unusedVariables false
set_option linter.unusedSimpArgs false
namespace Go.Proofs.Ytbeilcaadpopmab
open Go.RowKit

theorem ownsRow_mono {w : World} {base base' : Nat} {e : TypeId} {size : Nat} {v : Value} {n : Nat} {xs : List Value} (h : w.ownsRow base e size v n xs) (hb : base' ≤ base) : w.ownsRow base' e size v n xs := by
  refine ⟨h.1, ?_⟩
  rcases h.2 with h2 | ⟨g, cap, cur, e, hg, r⟩
  · exact .inl h2
  · exact .inr ⟨g, cap, cur, e, by omega, r⟩

theorem grownBy_none {w w' : World} (h : w.grownBy w' none) (row : Option Nat) : w.grownBy w' row := ⟨h.os, h.tape, h.output, h.size, fun k hk _ => h.block k hk (by simp)⟩

/-- What an append to a slice of the call's own comes to. -/
theorem run_append_row {P : Program} (w : World) (base : Nat) (t ty e : TypeId) (i : TypeInfo) (z : Value) (size bytes : Nat) (ht : P.underlying t = some (.slice e)) (hi : P.info? e = some i) (hz : i.zero = some z)
    (hsize : i.size = size) (hby : i.bytes = bytes) (hzs : z.cells.size = size) (hsz : 0 < size)
    (v : Value) (n : Nat) (xs : List Value) (hown : w.ownsRow base e size v n xs) (sv : Value) (m : Nat) (news : List Value) (hs : Row w sv m size news) (h1 : ∀ u ∈ news, u.oneCell' = true)
    (hbytes : (n + m) * bytes ≤ 140737488355328) (hb1 : 0 < bytes) (hbase : base ≤ w.heap.size) :
    ∃ v' w', (Builtin.append_ #[t, t] ty #[v, sv]).run P w = .ok v' w' ∧ w'.ownsRow base e size v' (n + m) (xs ++ news) ∧ w.grownBy w' v.ownBlock ∧ (v' = .slice none 0 0 ↔ v = .slice none 0 0 ∧ m = 0) ∧
      (v'.ownBlock = v.ownBlock ∨ (w'.ownsRow w.heap.size e size v' (n + m) (xs ++ news) ∧ w.grownBy w' none)) := by
  have h63 : n + m ≤ maxLen := by
    have : n + m ≤ (n + m) * bytes := Nat.le_mul_of_pos_right _ hb1
    unfold maxLen; omega
  obtain ⟨hl, hmle, sa, sc, rfl, hsc, hscm, hnone, hcell⟩ := hs
  cases sa with
  | none =>
    have := hnone rfl
    subst this
    have hm0 : m = 0 := by omega
    subst hm0
    have hn0 : news = [] := List.eq_nil_of_length_eq_zero (by simpa using hl)
    subst hn0
    exact ⟨v, w, run_append_owned_none (P := P) w base t ty e i size ht hi v n xs hown, by simpa using hown, World.grownBy.refl _ _, by simp, .inl rfl⟩
  | some ad =>
    have hnews : ∀ j u, news[j]? = some u → w.cell? (ad.add j) = some u := by
      intro j u hu
      have hj : j < news.length := (List.getElem?_eq_some_iff.1 hu).1
      obtain ⟨b, off, e', _, hc⟩ := hcell (by
        rcases Nat.eq_zero_or_pos m with h0 | h0
        · subst h0; simp at hl; rw [hl] at hj; simp at hj
        · exact h0)
      obtain rfl := Option.some.inj e'
      rw [Addr.add_lit, hc j hj, ← hu]
      simp [List.getD, hj]
    have hown2 := hown
    obtain ⟨hxl, hcase⟩ := hown
    rcases hcase with ⟨rfl, rfl⟩ | ⟨g, cap, cur, rfl, hbg, hg, hnc, hcm, hcs, htake⟩
    · obtain ⟨v', w', hrun, r1, r2, r3⟩ := run_append_own (P := P) w w.heap.size t ty e i z size bytes ht hi hz hsize hby hzs hsz (.slice none 0 0) 0 xs ⟨hxl, .inl ⟨rfl, rfl⟩⟩ ad m sc news hl hnews h1 h63 hbytes (Nat.le_refl _)
      exact ⟨v', w', hrun, ownsRow_mono r1 hbase, r2, r3, .inr ⟨r1, r2⟩⟩
    · by_cases hroom : n + m ≤ cap
      · obtain ⟨w', hrun, r1, r2⟩ := run_append_fits (P := P) w base t ty e i size ht hi hsize g n cap xs hown2 ad m sc news hl hnews h1 hroom
        exact ⟨_, w', hrun, r1, r2, by simp, .inl rfl⟩
      · obtain ⟨v', w', hrun, r1, r2⟩ := run_append_arg_grows (P := P) w t ty e i z size bytes ht hi hz hsize hby hzs hsz ⟨g, 0, none⟩ n cap xs hxl (hown2.cells (g := g) rfl) ad m sc news hl hnews (by omega) h63 hbytes
        refine ⟨v', w', hrun, ownsRow_mono r1 hbase, grownBy_none r2 _, ?_, .inr ⟨r1, r2⟩⟩
        constructor
        · intro e'
          rcases r1.2 with ⟨_, h0⟩ | ⟨g', cap', cur', e2, _⟩
          · have : ¬ (n + m ≤ cap) := hroom
            omega
          · rw [e'] at e2; cases e2
        · rintro ⟨h, _⟩; cases h

theorem Try.infoInt : (Try.prog.info? 3).map (fun i => (i.zero, i.size, i.bytes)) = some (some (.int .i64 0), 1, 8) := by kernel_rfl

/-- An append left its slice where it was, or laid it anew. -/
def Moved (w w' : World) (v v' : Value) (xs : List Int) : Prop := v'.ownBlock = v.ownBlock ∨ (OwnInts w' w.heap.size v' xs ∧ w.grownBy w' none)

/-- What the append comes to. -/
theorem run_append_ints (w : World) (ty : TypeId) (base : Nat) (v : Value) (xs : List Int) (hown : OwnInts w base v xs)
    (sv : Value) (ys : List Int) (hy : Ints w sv ys) (hlen : xs.length + ys.length ≤ 17592186044416) (hbase : base ≤ w.heap.size) :
    ∃ v' w', (Builtin.append_ #[23, 23] ty #[v, sv]).run Try.prog w = .ok v' w' ∧ OwnInts w' base v' (xs ++ ys) ∧ w.grownBy w' v.ownBlock ∧ Moved w w' v v' (xs ++ ys) := by
  obtain ⟨i, hi, hz, h4, h5⟩ := info_parts Try.infoInt
  have hr : ∀ z ∈ xs ++ ys, I64 z := fun z hz => by
    rcases List.mem_append.1 hz with hz | hz
    · exact hown.1.1 z hz
    · exact hy.1.1 z hz
  obtain ⟨v', w', hrun, h1, h2, h3, h6⟩ := run_append_row (P := Try.prog) w base 23 ty 3 i (.int .i64 0) 1 8 Try.underlying23 hi hz h4 h5 rfl (by decide) v xs.length _ hown.2 sv ys.length _ hy.2 (by
      intro u hu
      obtain ⟨_, _, rfl⟩ := List.mem_map.1 hu
      rfl) (by omega) (by decide) hbase
  refine ⟨v', w', hrun, ⟨⟨hr, by simpa using hlen⟩, by simpa using h1⟩, h2, ?_⟩
  rcases h6 with h6 | ⟨h6, h7⟩
  · exact .inl h6
  · exact .inr ⟨⟨⟨hr, by simpa using hlen⟩, by simpa using h6⟩, h7⟩

theorem wp_append_ints {o : Oper} {a : Act} {K : Act → World → Prop} {Q : Exit → Act → World → Prop} {w : World} (s x : Operand)
    (ho : o.op = .call { callee := .builtin .append, args := #[s, x], argTypes := #[23, 23] }) (base : Nat) (v : Value) (xs : List Int) (hs : a.eval s = v) (hown : OwnInts w base v xs)
    (sv : Value) (ys : List Int) (hx : a.eval x = sv) (hy : Ints w sv ys) (hlen : xs.length + ys.length ≤ 17592186044416) (hbase : base ≤ w.heap.size)
    (h : ∀ v' w', OwnInts w' base v' (xs ++ ys) → w.grownBy w' v.ownBlock → Moved w w' v v' (xs ++ ys) → K (a.put o.dst v') w') : o.wp Try.prog a w K Q := by
  obtain ⟨v', w', hrun, h1, h2, h3⟩ := run_append_ints w o.type base v xs hown sv ys hy hlen hbase
  unfold Oper.wp
  simp [execOp, ho, resolve, invoke, builtin, hs, hx, hrun, Result.andThen]
  exact h v' w' h1 h2 h3

/-- As the walk meets it. -/
theorem wpl_append_ints {ops : Array Oper} {rest : List Oper} {o : Oper} {a : Act} {Q : Exit → Act → World → Prop} {w : World} (hg : o.guard = none) (s x : Operand)
    (ho : o.op = .call { callee := .builtin .append, args := #[s, x], argTypes := #[23, 23] }) (base : Nat) (v : Value) (xs : List Int) (hs : a.eval s = v) (hown : OwnInts w base v xs)
    (sv : Value) (ys : List Int) (hx : a.eval x = sv) (hy : Ints w sv ys) (hlen : xs.length + ys.length ≤ 17592186044416) (hbase : base ≤ w.heap.size)
    (h : ∀ v' w', OwnInts w' base v' (xs ++ ys) → w.grownBy w' v.ownBlock → Moved w w' v v' (xs ++ ys) → wpList Try.prog ops Q rest (a.put o.dst v') w') : wpList Try.prog ops Q (o :: rest) a w :=
  wpList_plain hg fun K' hK' => wp_append_ints s x ho base v xs hs hown sv ys hx hy hlen hbase fun v' w' h1 h2 h3 => hK' _ _ (h v' w' h1 h2 h3)

/-- As a step of a region that draws its order. -/
theorem step_append_ints {ops : Array Oper} {o : Oper} {a : Act} {w : World} {K : Act → World → Prop} {Q : Exit → Act → World → Prop} {E : Prop} (hg : o.guard = none) (s x : Operand)
    (ho : o.op = .call { callee := .builtin .append, args := #[s, x], argTypes := #[23, 23] }) (base : Nat) (v : Value) (xs : List Int) (hs : a.eval s = v) (hown : OwnInts w base v xs)
    (sv : Value) (ys : List Int) (hx : a.eval x = sv) (hy : Ints w sv ys) (hlen : xs.length + ys.length ≤ 17592186044416) (hbase : base ≤ w.heap.size)
    (h : ∀ v' w', OwnInts w' base v' (xs ++ ys) → w.grownBy w' v.ownBlock → Moved w w' v v' (xs ++ ys) → K (a.put o.dst v') w') :
    if Region.wanted o (yielded ops a.tmps) = true then Oper.wp Try.prog o a w K Q else E := by
  have hw : Region.wanted o (yielded ops a.tmps) = true := by simp [Region.wanted, hg]
  rw [if_pos hw]
  exact wp_append_ints s x ho base v xs hs hown sv ys hx hy hlen hbase h

/-- A slice that is written out. -/
theorem OwnInts.built (w : World) (xs : List Int) (hr : ∀ x ∈ xs, I64 x) (hl : xs.length ≤ 17592186044416) :
    OwnInts (w.alloc (.cells (xs.map (Value.int .i64)).toArray 3)) w.heap.size (.slice (some ⟨w.heap.size, 0, none⟩) xs.length xs.length) xs :=
  ⟨⟨hr, hl⟩, by simp, .inr ⟨w.heap.size, xs.length, _, rfl, Nat.le_refl _, heap_alloc_new w _, Nat.le_refl _, by unfold maxLen; omega, by simp, by simp [List.take_of_length_le]⟩⟩

/-- An owned slice while another one grows. -/
theorem OwnInts.grown {w w' : World} {base : Nat} {v : Value} {xs : List Int} {row : Option Nat} (h : OwnInts w base v xs) (hg : w.grownBy w' row) (hne : v.ownBlock = none ∨ v.ownBlock ≠ row) : OwnInts w' base v xs := ⟨h.1, h.2.kept hg hne⟩

theorem OwnInts.lt {w : World} {base : Nat} {v : Value} {xs : List Int} (h : OwnInts w base v xs) {k : Nat} (hk : v.ownBlock = some k) : base ≤ k ∧ k < w.heap.size := h.2.lt k hk

theorem built_one (w : World) (x : Int) (hx : I64 x) : Ints (w.alloc (.cells #[.int .i64 x] 3)) (.slice (some ⟨w.heap.size, 0, none⟩) 1 1) [x] :=
  (OwnInts.built w [x] (by simpa using hx) (by simp)).ints

theorem built_at (w : World) (x : Int) {n : Nat} (hn : n = w.heap.size) (hx : I64 x) : Ints (w.alloc (.cells #[.int .i64 x] 3)) (.slice (some ⟨n, 0, none⟩) 1 1) [x] := by
  subst hn; exact built_one w x hx
theorem moved_ne {w w' : World} {v v' : Value} {xs : List Int} {g : Nat} (hm : Moved w w' v v' xs) (hg : g < w.heap.size) (hne : v.ownBlock ≠ some g) : v'.ownBlock ≠ some g := by
  rcases hm with hm | ⟨hm, _⟩
  · rw [hm]; exact hne
  · intro e
    have := (hm.lt e).1
    omega
theorem moved_ne' {w w' : World} {base : Nat} {u v v' : Value} {xs ys : List Int} (hm : Moved w w' v v' xs) (hu : OwnInts w base u ys) (hne : u.ownBlock = none ∨ u.ownBlock ≠ v.ownBlock) : u.ownBlock = none ∨ u.ownBlock ≠ v'.ownBlock := by
  cases hb : u.ownBlock with
  | none => exact .inl rfl
  | some g => exact .inr (fun e => moved_ne hm (hu.lt hb).2 (fun e' => by rcases hne with h | h; (rw [hb] at h; cases h); exact h (by rw [hb, e'])) e.symm)

theorem OwnInts.take {w : World} {base n c k : Nat} {a : Addr} {xs : List Int} (h : OwnInts w base (.slice (some a) n c) xs) (hk : k ≤ xs.length) : OwnInts w base (.slice (some a) k c) (xs.take k) := by
  obtain ⟨⟨h1, h2⟩, h3, h4⟩ := h
  refine ⟨⟨fun x hx => h1 x (List.mem_of_mem_take hx), by simp; omega⟩, by simp, ?_⟩
  rcases h4 with ⟨e, _⟩ | ⟨g, cap, cur, e, hg, hh, hn, hc, hs, ht⟩
  · cases e
  · simp only [Value.slice.injEq, Option.some.injEq] at e
    obtain ⟨rfl, rfl, rfl⟩ := e
    have hl : (xs.take k).length = k := by simp; omega
    refine .inr ⟨g, c, cur, by rw [hl], hg, hh, by rw [hl]; omega, hc, hs, ?_⟩
    rw [hl, List.map_take, ← ht, List.take_take]
    congr 1; simp; omega
end Go.Proofs.Ytbeilcaadpopmab
