/- Plain definitions: how a slice of integers reads in a world, and what carries it on. No program is named here. -/
import Derived.Test.YtbeilcaadpopmabRows
import Derived.WalkKit
import Derived.WalkSpells
import Derived.WalkLawsBesides
import Derived.Deep.QuietTactic
import Derived.BigQuiet
import Derived.Lib.Hide
set_option linter.unusedVariables false
set_option linter.unusedSimpArgs false
namespace Go.Proofs.Ytbeilcaadpopmab
open Go.RowKit

theorem ret_bool {a b : Bool} (h : a = b) : Ending.returned (.bool a) = .returned (.bool b) := by rw [h]
theorem ret_ints {a b c : Int} (h : a = b) : Ending.returned (.tuple #[.int .i64 a, .int .i64 c]) = .returned (.tuple #[.int .i64 b, .int .i64 c]) := by rw [h]
theorem int_eq {a b : Int} (h : a = b) : Value.int .i64 a = .int .i64 b := by rw [h]
theorem ret_int {a b : Int} (h : a = b) : Ending.returned (.int .i64 a) = .returned (.int .i64 b) := by rw [h]

theorem and_one_i64 (x : Int) : bits BinOp.and IntKind.i64 x 1 = x % 2 := by
  show IntKind.i64.wrap ((BitVec.ofInt 64 x &&& BitVec.ofInt 64 1).toNat : Int) = _
  have h1 : (BitVec.ofInt 64 1).toNat = 1 := by decide
  rw [BitVec.toNat_and, h1, Nat.and_one_is_mod, BitVec.toNat_ofInt, IntKind.wrap_i64]
  omega

/-- Behind a contract that ends in Below: the old cells and the old marks read as before. -/
theorem bcell {W w1 : World} (hb : Below W.heap.size W w1) : (∀ b o, b < W.heap.size → w1.cell? ⟨b, o, none⟩ = W.cell? ⟨b, o, none⟩) ∧ (∀ b o, b < W.heap.size → w1.frozen? ⟨b, o, none⟩ = W.frozen? ⟨b, o, none⟩) :=
  ⟨fun b o h => hb.cell (p := ⟨b, o, none⟩) h, fun b o h => hb.frozen (p := ⟨b, o, none⟩) h⟩

/-- Behind a contract: the cells that a region's condition names, and what lay below. -/
theorem keep_two {w0 W w1 : World} {b : Nat} {A B : Value} (hb : Below W.heap.size W w1) (h : W.cell? ⟨b, 0, none⟩ = some A ∧ W.cell? ⟨b, 1, none⟩ = some B ∧ Below w0.heap.size w0 W) :
    w1.cell? ⟨b, 0, none⟩ = some A ∧ w1.cell? ⟨b, 1, none⟩ = some B ∧ Below w0.heap.size w0 w1 := by
  have hlt : b < W.heap.size := World.block_lt_of_cell? W _ h.1
  exact ⟨(hb.cell (p := ⟨b, 0, none⟩) hlt).trans h.1, (hb.cell (p := ⟨b, 1, none⟩) hlt).trans h.2.1, h.2.2.trans (hb.mono h.2.2.size)⟩

/-- An integer of 64 bits. -/
def I64 (x : Int) : Prop := -9223372036854775808 ≤ x ∧ x ≤ 9223372036854775807

theorem i64_of_wf {x : Int} (h : (Lit.int .i64 x).wf = true) : I64 x := by
  simp only [Lit.wf, IntKind.min, IntKind.max, IntKind.signed, IntKind.bits, Bool.and_eq_true, decide_eq_true_eq, if_true] at h
  unfold I64; omega

/-- The slice value v reads as the cells cs, size cells an element, n elements, in w. -/
def Row (w : World) (v : Value) (n size : Nat) (cs : List Value) : Prop :=
  cs.length = n * size ∧ n ≤ 140737488355328 ∧
  ∃ a cap, v = .slice a n cap ∧ n ≤ cap ∧ cap ≤ maxLen ∧ (a = none → cap = 0) ∧
    (0 < n → ∃ b o, a = some ⟨b, o, none⟩ ∧ b < w.heap.size ∧ ∀ i, i < cs.length → w.cell? ⟨b, o + i, none⟩ = some (cs.getD i undef))

theorem Row.below {w w' : World} {v : Value} {n size : Nat} {cs : List Value} {B : Nat} (h : Row w v n size cs) (hB : w.heap.size ≤ B) (hb : Below B w w') : Row w' v n size cs := by
  obtain ⟨h1, h2, a, cap, h3, h4, h5, h6, h7⟩ := h
  refine ⟨h1, h2, a, cap, h3, h4, h5, h6, fun hn => ?_⟩
  obtain ⟨b, o, ha, hbs, hc⟩ := h7 hn
  refine ⟨b, o, ha, Nat.lt_of_lt_of_le hbs hb.size, fun i hi => ?_⟩
  rw [hb.cell (p := ⟨b, o + i, none⟩) (Nat.lt_of_lt_of_le hbs hB)]
  exact hc i hi

theorem Row.len {w : World} {v : Value} {n size : Nat} {cs : List Value} (h : Row w v n size cs) : ∃ a cap, v = .slice a n cap ∧ n ≤ cap ∧ cap ≤ 9223372036854775807 ∧ (a = none → cap = 0) := by
  obtain ⟨_, _, a, cap, e, h4, h5, h6, _⟩ := h
  exact ⟨a, cap, e, h4, by simp only [maxLen] at h5; omega, h6⟩

theorem Row.at {w : World} {a : Option Addr} {m c n size : Nat} {cs : List Value} (h : Row w (.slice a m c) n size cs) (hn : 0 < n) :
    ∃ b o, a = some ⟨b, o, none⟩ ∧ b < w.heap.size ∧ ∀ i, i < cs.length → w.cell? ⟨b, o + i, none⟩ = some (cs.getD i undef) := by
  obtain ⟨_, _, a', cap, e, _, _, _, h7⟩ := h
  simp only [Value.slice.injEq] at e
  obtain ⟨rfl, rfl, rfl⟩ := e
  exact h7 hn

/-- A row of the call's own reads as its cells. -/
theorem Row.of_own {w : World} {base : Nat} {e : TypeId} {size : Nat} {v : Value} {n : Nat} {xs : List Value} (h : w.ownsRow base e size v n xs) (hn : n ≤ 140737488355328) : Row w v n size xs := by
  obtain ⟨h1, h2⟩ := h
  refine ⟨h1, hn, ?_⟩
  rcases h2 with ⟨rfl, rfl⟩ | ⟨g, cap, cur, rfl, hb, hg, hnc, hcm, hcs, ht⟩
  · exact ⟨none, 0, rfl, Nat.le_refl _, Nat.zero_le _, fun _ => rfl, fun h => absurd h (by omega)⟩
  · refine ⟨some ⟨g, 0, none⟩, cap, rfl, hnc, hcm, (fun h => by cases h), fun hn0 => ⟨g, 0, rfl, (Array.getElem?_eq_some_iff.1 hg).1, fun i hi => ?_⟩⟩
    have h1' : i < n * size := by omega
    have h2' : n * size ≤ cur.size := by rw [hcs]; exact Nat.mul_le_mul_right _ hnc
    have h3' : cur[i]? = some (xs.getD i undef) := by
      subst ht
      have : i < cur.size := by omega
      simp [List.getD, List.getElem?_take, h1', this]
    simp [World.cell?, hg, h3']

/-- The slice value v reads as the integers xs in w. -/
def Ints (w : World) (v : Value) (xs : List Int) : Prop := ((∀ x ∈ xs, I64 x) ∧ xs.length ≤ 17592186044416) ∧ Row w v xs.length 1 (xs.map (Value.int .i64))

theorem Ints.below {w w' : World} {v : Value} {xs : List Int} {B : Nat} (h : Ints w v xs) (hB : w.heap.size ≤ B) (hb : Below B w w') : Ints w' v xs := ⟨h.1, h.2.below hB hb⟩

theorem Ints.len {w : World} {v : Value} {xs : List Int} (h : Ints w v xs) : ∃ a cap, v = .slice a xs.length cap ∧ xs.length ≤ cap ∧ cap ≤ 9223372036854775807 ∧ (a = none → cap = 0) := h.2.len

theorem Ints.le {w : World} {v : Value} {xs : List Int} (h : Ints w v xs) : xs.length ≤ 17592186044416 := h.1.2

theorem Ints.at {w : World} {a : Option Addr} {n c : Nat} {xs : List Int} (h : Ints w (.slice a n c) xs) (hn : 0 < xs.length) :
    ∃ b o, a = some ⟨b, o, none⟩ ∧ b < w.heap.size ∧ ∀ i, i < xs.length → w.cell? ⟨b, o + i, none⟩ = some (.int .i64 (xs.getD i 0)) := by
  obtain ⟨b, o, rfl, hb, hc⟩ := h.2.at hn
  refine ⟨b, o, rfl, hb, fun i hi => ?_⟩
  rw [hc i (by simpa using hi)]
  simp [List.getD, hi]

theorem Ints.range {w : World} {v : Value} {xs : List Int} (h : Ints w v xs) (i : Nat) : -9223372036854775808 ≤ xs.getD i 0 ∧ xs.getD i 0 ≤ 9223372036854775807 := by
  by_cases hi : i < xs.length
  · have := h.1.1 (xs.getD i 0) (by simp [List.getD, hi])
    exact this
  · simp [List.getD, hi]

theorem ints_nil (w : World) : Ints w (.slice none 0 0) [] := ⟨⟨by simp, by simp⟩, by simp, by simp, none, 0, rfl, Nat.le_refl _, Nat.zero_le _, fun _ => rfl, fun h => absurd h (by simp)⟩

/-- A new slice of the call's own, from block base on, that reads as the integers xs. -/
def OwnInts (w : World) (base : Nat) (v : Value) (xs : List Int) : Prop :=
  ((∀ x ∈ xs, I64 x) ∧ xs.length ≤ 17592186044416) ∧ w.ownsRow base 3 1 v xs.length (xs.map (Value.int .i64))

theorem OwnInts.ints {w : World} {base : Nat} {v : Value} {xs : List Int} (h : OwnInts w base v xs) : Ints w v xs := ⟨h.1, Row.of_own h.2 (Nat.le_trans h.1.2 (by omega))⟩

theorem OwnInts.shape {w : World} {base : Nat} {v : Value} {xs : List Int} (h : OwnInts w base v xs) : ∃ a c, v = .slice a xs.length c := by
  rcases h.2.2 with ⟨e, e'⟩ | ⟨g, cap, cur, e, _⟩
  · rw [e']; exact ⟨none, 0, e⟩
  · exact ⟨_, _, e⟩

theorem OwnInts.spot {w : World} {base n c : Nat} {a : Option Addr} {xs : List Int} (h : OwnInts w base (.slice a n c) xs) (hn : 0 < xs.length) :
    ∃ g, a = some ⟨g, 0, none⟩ ∧ base ≤ g ∧ g < w.heap.size ∧ (∀ i, i < xs.length → w.cell? ⟨g, i, none⟩ = some (.int .i64 (xs.getD i 0))) ∧ ∀ i, w.frozen? ⟨g, i, none⟩ = false := by
  obtain ⟨b, o, rfl, hb, hc⟩ := Ints.at (xs := xs) (w := w) (n := n) (c := c) ⟨h.1, Row.of_own h.2 (Nat.le_trans h.1.2 (by omega))⟩ hn
  rcases h.2.2 with ⟨e, _⟩ | ⟨g, cap, cur, e, hg, hh, _⟩
  · cases e
  · simp only [Value.slice.injEq, Option.some.injEq, Addr.mk.injEq] at e
    obtain ⟨⟨rfl, rfl, _⟩, rfl, rfl⟩ := e
    exact ⟨b, rfl, hg, hb, fun i hi => by simpa using hc i hi, fun i => by simp [World.frozen?, hh]⟩

theorem grownBy_of_below {w w' : World} {B : Nat} (hb : Below w.heap.size w w') (row : Option Nat) : w.grownBy w' row :=
  ⟨hb.os, hb.tape, hb.output, hb.size, fun k hk _ => hb.block k hk⟩

theorem OwnInts.below {w w' : World} {base : Nat} {v : Value} {xs : List Int} (h : OwnInts w base v xs) (hb : Below w.heap.size w w') : OwnInts w' base v xs :=
  ⟨h.1, h.2.kept (grownBy_of_below (B := 0) hb none) (by cases hv : v.ownBlock <;> simp)⟩

theorem OwnInts.setBelow {w : World} {base : Nat} {v : Value} {xs : List Int} (h : OwnInts w base v xs) {a : Addr} (ha : a.block < base) (u : Value) : OwnInts (w.setCell a u) base v xs := ⟨h.1, ownsRow_setCell_below h.2 ha u⟩

theorem OwnInts.mono {w : World} {base base' : Nat} {v : Value} {xs : List Int} (h : OwnInts w base v xs) (hb : base' ≤ base) : OwnInts w base' v xs := by
  refine ⟨h.1, h.2.1, ?_⟩
  rcases h.2.2 with h2 | ⟨g, cap, cur, e, hg, r⟩
  · exact .inl h2
  · exact .inr ⟨g, cap, cur, e, by omega, r⟩

theorem OwnInts.via {w0 w : World} {base base' : Nat} {v0 v : Value} {xs0 xs : List Int} (_h0 : OwnInts w0 base v0 xs0) (h : OwnInts w base v xs) (hb : base' ≤ base) : OwnInts w base' v xs := h.mono hb

/-- A store into such a slice. -/
theorem OwnInts.set {w : World} {base g c : Nat} {n : Nat} {xs : List Int} (h : OwnInts w base (.slice (some ⟨g, 0, none⟩) n c) xs) {i : Nat} (hi : i < xs.length) {x : Int} (hx : I64 x) :
    OwnInts (w.setCell ⟨g, i, none⟩ (.int .i64 x)) base (.slice (some ⟨g, 0, none⟩) n c) (xs.set i x) := by
  obtain ⟨⟨h1, h2⟩, h3, h4⟩ := h
  refine ⟨⟨fun y hy => ?_, by simpa using h2⟩, by simp, ?_⟩
  · rcases List.mem_or_eq_of_mem_set hy with hy | rfl
    · exact h1 y hy
    · exact hx
  · rcases h4 with ⟨e, _⟩ | ⟨g', cap, cur, e, hg, hh, hn, hc, hs, ht⟩
    · cases e
    · simp only [Value.slice.injEq, Option.some.injEq, Addr.mk.injEq] at e
      obtain ⟨⟨rfl, _⟩, rfl, rfl⟩ := e
      refine .inr ⟨g, c, cur.setIfInBounds i (.int .i64 x), by simp, hg, ?_, by simpa using hn, hc, by simpa using hs, ?_⟩
      · simp only [World.setCell, Array.getElem?_modify, if_true, hh]
        rfl
      · simp only [List.length_set, Array.toList_setIfInBounds, List.map_set]
        rw [← ht, List.take_set]

end Go.Proofs.Ytbeilcaadpopmab
