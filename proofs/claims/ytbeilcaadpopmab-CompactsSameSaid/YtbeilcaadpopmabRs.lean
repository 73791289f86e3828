/- Slices of Raw: how they read in a world, and an argument that is one. The opening theorem is turned from the guide's page on structs. -/
import Derived.Test.YtbeilcaadpopmabLift
set_option linter.unusedVariables false
set_option linter.unusedSimpArgs false
set_option maxRecDepth 100000
namespace Go.Proofs.Ytbeilcaadpopmab
open Go.ChangeShapes Go.WideShapes Go.RowKit Go.Joins Go.Deep
section
variable {H : Type} {enc : TypeId × Value → H} {P : Program} {w : World} {base : Nat} {spare : Nat → Bool} {held : Bool}
theorem open_slice_fields {t e : TypeId} {fs : Array Field} {fuel : Nat} {cs : List Value} {x : DataW H × List MemPlace} (ht : P.underlying t = some (.slice e)) (he : P.underlying e = some (.struct fs))
    (hone : oneCellFields P fs = true) (hC : P.cellsOf e = fs.size) (h : DataW.trod enc P w base spare held fuel t cs = some x) :
    (cs = [.slice none 0 0] ∧ x = (.nil, [])) ∨
    ∃ (a : Addr) (len cap m : Nat) (D : Nat → DataW H) (Pl : Nat → List MemPlace), cs = [.slice (some a) len cap] ∧ base ≤ a.block ∧ len ≤ cap ∧ cap ≤ maxLen ∧ m = (if spare a.block then cap else len) ∧
      x = (.slice ((List.range len).map D) ((List.range (m - len)).map fun j => D (len + j)), MemPlace.row a (m * fs.size) ++ (List.range m).flatMap Pl) ∧
      ∀ i, i < m → ∃ (ys : List (DataW H × List MemPlace)) (n : Nat), D i = .agg (ys.map (·.1)) ∧ Pl i = ys.flatMap (·.2) ∧ ys.length = fs.size ∧
        ∀ (j : Nat) (f : Field), fs[j]? = some f → ∃ (v : Value) (y : DataW H × List MemPlace), w.cell? (a.add (i * fs.size + j)) = some v ∧ ys[j]? = some y ∧ DataW.trod enc P w base spare held n f.type [v] = some y := by
  rcases open_slice ht h with h0 | ⟨a, len, cap, m, n, D, Pl, hcs, hb, hl, hm, hmm, hx, hi⟩
  · exact .inl h0
  · refine .inr ⟨a, len, cap, m, D, Pl, hcs, hb, hl, hm, hmm, by rw [hC] at hx; exact hx, fun i him => ?_⟩
    obtain ⟨cs', hc, ht'⟩ := hi i him
    rw [hC] at hc
    obtain ⟨ys, n', hn', hy, hlen, hyl, hf⟩ := DataW.trod_struct he ht'
    obtain ⟨_, hcl, hat⟩ := World.cells?_some hc
    simp only [Prod.mk.injEq] at hy
    refine ⟨ys, n', hy.1, hy.2, hyl, fun j f hj => ?_⟩
    obtain ⟨ho, hk⟩ := hone_of hone j f hj
    have hjl : j < fs.size := (Array.getElem?_eq_some_iff.1 hj).1
    have hcell := hat j hjl
    have hv : cs'[j]? = some (cs'[j]'(by omega)) := List.getElem?_eq_getElem (by omega)
    have h1 := hf j f hj
    rw [ho, hk] at h1
    have hone' : (cs'.drop j).take 1 = [cs'[j]'(by omega)] := by
      rw [List.drop_eq_getElem_cons (by omega)]
      rfl
    rw [hone'] at h1
    have hys : ys[j]? = some (ys[j]'(by omega)) := List.getElem?_eq_getElem (by omega)
    refine ⟨_, _, ?_, hys, h1.trans hys⟩
    rw [← Go.Deep.add_add, hcell, hv]
end
theorem list_of {α : Type} (P : Nat → α → Prop) : ∀ n, (∀ i, i < n → ∃ r, P i r) → ∃ l : List α, l.length = n ∧ ∀ i (h : i < l.length), P i l[i]
  | 0, _ => ⟨[], rfl, fun i h => by simp at h⟩
  | n + 1, h => by
    obtain ⟨l, h1, h2⟩ := list_of P n (fun i hi => h i (by omega))
    obtain ⟨r, hr⟩ := h n (by omega)
    refine ⟨l ++ [r], by simp [h1], fun i hi => ?_⟩
    by_cases e : i < l.length
    · rw [List.getElem_append_left e]; exact h2 i e
    · have e2 : i = l.length := by simp at hi; omega
      subst e2
      rw [List.getElem_concat_length rfl]
      rw [h1]; exact hr
structure Raw4 where
  (k a b c : Int)
  deriving DecidableEq
def cellsRaw (l : List Raw4) : List Value := l.flatMap fun r => [.int .i64 r.k, .int .i64 r.a, .int .i64 r.b, .int .i64 r.c]
theorem cellsRaw_len (l : List Raw4) : (cellsRaw l).length = l.length * 4 := by
  induction l with
  | nil => rfl
  | cons m ms ih => simp only [cellsRaw, List.flatMap_cons, List.length_append, List.length_cons, List.length_nil] at *; omega
theorem cellsRaw_append (a b : List Raw4) : cellsRaw (a ++ b) = cellsRaw a ++ cellsRaw b := by simp [cellsRaw]
theorem cellsRaw_at : ∀ (l : List Raw4) (i : Nat) (h : i < l.length), (cellsRaw l)[i * 4 + 0]? = some (.int .i64 l[i].k) ∧ (cellsRaw l)[i * 4 + 1]? = some (.int .i64 l[i].a) ∧ (cellsRaw l)[i * 4 + 2]? = some (.int .i64 l[i].b) ∧ (cellsRaw l)[i * 4 + 3]? = some (.int .i64 l[i].c)
  | [], i, h => by simp at h
  | m :: ms, 0, h => ⟨rfl, rfl, rfl, rfl⟩
  | m :: ms, i + 1, h => by
    have := cellsRaw_at ms i (by simpa using h)
    have e : cellsRaw (m :: ms) = .int .i64 m.k :: .int .i64 m.a :: .int .i64 m.b :: .int .i64 m.c :: cellsRaw ms := rfl
    rw [e]
    simp only [show ∀ k, (i + 1) * 4 + k = i * 4 + k + 1 + 1 + 1 + 1 by intro k; omega]
    simpa using this
/-- The slice value v reads as the list l in w. -/
def Raws (w : World) (v : Value) (l : List Raw4) : Prop := ((∀ r ∈ l, I64 r.k ∧ I64 r.a ∧ I64 r.b ∧ I64 r.c) ∧ l.length ≤ 17592186044416) ∧ Row w v l.length 4 (cellsRaw l)
theorem Raws.below {w w' : World} {v : Value} {l : List Raw4} {B : Nat} (h : Raws w v l) (hB : w.heap.size ≤ B) (hb : Below B w w') : Raws w' v l := ⟨h.1, h.2.below hB hb⟩
theorem Raws.len {w : World} {v : Value} {l : List Raw4} (h : Raws w v l) : ∃ a cap, v = .slice a l.length cap ∧ l.length ≤ cap ∧ cap ≤ 9223372036854775807 ∧ (a = none → cap = 0) := h.2.len
theorem Raws.le {w : World} {v : Value} {l : List Raw4} (h : Raws w v l) : l.length ≤ 17592186044416 := h.1.2
theorem Raws.at {w : World} {a : Option Addr} {n c : Nat} {l : List Raw4} (h : Raws w (.slice a n c) l) (hn : 0 < l.length) :
    ∃ b o, a = some ⟨b, o, none⟩ ∧ b < w.heap.size ∧ ∀ i (hi : i < l.length), (w.cell? ⟨b, o + i * 4, none⟩ = some (.int .i64 l[i].k) ∧ w.cell? ⟨b, o + i * 4 + 1, none⟩ = some (.int .i64 l[i].a) ∧ w.cell? ⟨b, o + i * 4 + 2, none⟩ = some (.int .i64 l[i].b) ∧ w.cell? ⟨b, o + i * 4 + 3, none⟩ = some (.int .i64 l[i].c)) ∧ (I64 l[i].k ∧ I64 l[i].a ∧ I64 l[i].b ∧ I64 l[i].c) := by
  obtain ⟨b, o, rfl, hb, hc⟩ := h.2.at hn
  refine ⟨b, o, rfl, hb, fun i hi => ⟨?_, h.1.1 _ (List.getElem_mem hi)⟩⟩
  have hl := cellsRaw_len l
  obtain ⟨h0, h1, h2, h3⟩ := cellsRaw_at l i hi
  have key : ∀ k, k < 4 → w.cell? ⟨b, o + (i * 4 + k), none⟩ = (cellsRaw l)[i * 4 + k]? := fun k hk => by
    have hlt : i * 4 + k < (cellsRaw l).length := by omega
    rw [hc _ hlt, List.getD_eq_getElem?_getD, List.getElem?_eq_getElem hlt]; rfl
  exact ⟨by have e := (key 0 (by omega)).trans h0; rwa [← Nat.add_assoc] at e, by have e := (key 1 (by omega)).trans h1; rwa [← Nat.add_assoc] at e, by have e := (key 2 (by omega)).trans h2; rwa [← Nat.add_assoc] at e, by have e := (key 3 (by omega)).trans h3; rwa [← Nat.add_assoc] at e⟩
section
variable {H : Type} {enc : TypeId × Value → H} {W : World} {r : Reach} {b0 : Nat} {v : Value} {d : DataW H} {p : List MemPlace}
theorem open_raws {t : TypeId} (ht : t = 41) (hv : Value.okWide Try.prog W r b0 t v) (h : DataW.Trod enc Try.prog W 0 (fun _ => true) true t v d p)
    (hw : ∀ x ∈ d.weights Try.prog t, x ≤ reachBytes) (hlt : ∀ y ∈ p, y.block < W.heap.size) : ∃ l : List Raw4, Raws W v l := by
  subst ht
  obtain ⟨fuel, hf⟩ := h
  obtain ⟨a0, len, cap, rfl⟩ := okWide_slice Try.underlying41 hv
  rcases open_slice_fields Try.underlying41 Try.underlying61 (by kernel_rfl) (by kernel_rfl) (by simpa [Value.cells] using hf) with ⟨hcs, hx⟩ | ⟨a, len', cap', m, D, Pl, hcs, _, hl, hm, hmm, hx, hi⟩
  · simp at hcs
    obtain ⟨rfl, rfl, rfl⟩ := hcs
    exact ⟨[], ⟨by simp, by simp⟩, by simp [cellsRaw], by simp, none, 0, rfl, Nat.le_refl _, Nat.zero_le _, fun _ => rfl, fun h => absurd h (by simp)⟩
  · simp only [List.cons.injEq, Value.slice.injEq, and_true] at hcs
    obtain ⟨rfl, rfl, rfl⟩ := hcs
    simp only [Prod.mk.injEq] at hx
    obtain ⟨rfl, rfl⟩ := hx
    simp only [if_true] at hmm
    have hz := hw ((len + (m - len)) * Try.prog.bytesOf 61) (by simp [DataW.weights, Try.underlying41])
    rw [show Try.prog.bytesOf 61 = 32 by kernel_rfl] at hz
    simp only [reachBytes] at hz
    obtain ⟨l, hll, hlat⟩ := list_of (fun i (r : Raw4) => (W.cell? (a.add (i * 4 + 0)) = some (.int .i64 r.k) ∧ W.cell? (a.add (i * 4 + 1)) = some (.int .i64 r.a) ∧ W.cell? (a.add (i * 4 + 2)) = some (.int .i64 r.b) ∧ W.cell? (a.add (i * 4 + 3)) = some (.int .i64 r.c)) ∧ (I64 r.k ∧ I64 r.a ∧ I64 r.b ∧ I64 r.c)) len (fun i hilt => by
      obtain ⟨ys, n, hD, hPl, hys, hf⟩ := hi i (by omega)
      obtain ⟨v0, y0, hc0, hy0, ht0⟩ := hf 0 _ rfl
      obtain ⟨z0, e0, rfl, w0⟩ := DataW.trod_int Try.underlying3 ht0
      simp at e0
      subst e0
      obtain ⟨v1, y1, hc1, hy1, ht1⟩ := hf 1 _ rfl
      obtain ⟨z1, e1, rfl, w1⟩ := DataW.trod_int Try.underlying3 ht1
      simp at e1
      subst e1
      obtain ⟨v2, y2, hc2, hy2, ht2⟩ := hf 2 _ rfl
      obtain ⟨z2, e2, rfl, w2⟩ := DataW.trod_int Try.underlying3 ht2
      simp at e2
      subst e2
      obtain ⟨v3, y3, hc3, hy3, ht3⟩ := hf 3 _ rfl
      obtain ⟨z3, e3, rfl, w3⟩ := DataW.trod_int Try.underlying3 ht3
      simp at e3
      subst e3
      exact ⟨⟨z0, z1, z2, z3⟩, ⟨hc0, hc1, hc2, hc3⟩, i64_of_wf w0, i64_of_wf w1, i64_of_wf w2, i64_of_wf w3⟩)
    subst hll
    refine ⟨l, ⟨fun y hy => ?_, by omega⟩, cellsRaw_len l, by omega, some a, cap, rfl, hl, hm, (fun h => by cases h), fun hn => ?_⟩
    · obtain ⟨i, hi', rfl⟩ := List.mem_iff_getElem.1 hy
      exact (hlat i hi').2
    · obtain ⟨b, off, spot⟩ := a
      have hspot : spot = none := by simpa [Addr.add] using World.cell?_spot (hlat 0 hn).1.1
      subst hspot
      refine ⟨b, off, rfl, hlt (.cell b off) (List.mem_append_left _ (MemPlace.mem_row.2 ⟨0, by simp; omega, by simp⟩)), fun j hj => ?_⟩
      rw [cellsRaw_len] at hj
      obtain ⟨q, k, hk, rfl⟩ : ∃ q k, k < 4 ∧ j = q * 4 + k := ⟨j / 4, j % 4, Nat.mod_lt _ (by omega), by have := Nat.div_add_mod j 4; omega⟩
      have hd : q < l.length := by omega
      obtain ⟨h0, h1, h2, h3⟩ := (hlat q hd).1
      obtain ⟨g0, g1, g2, g3⟩ := cellsRaw_at l q hd
      have hjl : q * 4 + k < (cellsRaw l).length := by rw [cellsRaw_len]; omega
      rw [List.getD_eq_getElem?_getD, List.getElem?_eq_getElem hjl, Option.getD_some, ← List.getElem?_eq_getElem hjl, ← add_plain]
      have hk : k = 0 ∨ k = 1 ∨ k = 2 ∨ k = 3 := by omega
      rcases hk with rfl | rfl | rfl | rfl
      · exact h0.trans g0.symm
      · exact h1.trans g1.symm
      · exact h2.trans g2.symm
      · exact h3.trans g3.symm
end
section
variable {H : Type} {enc : TypeId × Value → H} {W : World} {r : Reach} {b0 : Nat} {v : Value} {d : DataW H} {p : List MemPlace}
theorem open_raw (hv : Value.okWide Try.prog W r b0 61 v) (h : DataW.Trod enc Try.prog W 0 (fun _ => true) true 61 v d p) :
    ∃ k a b c, v = .agg #[.int .i64 k, .int .i64 a, .int .i64 b, .int .i64 c] ∧ I64 k ∧ I64 a ∧ I64 b ∧ I64 c := by
  obtain ⟨c0, c1, c2, c3, y0, y1, y2, y3, m, rfl, rfl, rfl, h0, h1, h2, h3⟩ := open_agg4 Try.underlying61 (by kernel_rfl) (by kernel_rfl) hv h
  obtain ⟨z0, e0, rfl, w0⟩ := DataW.trod_int Try.underlying3 h0
  obtain ⟨z1, e1, rfl, w1⟩ := DataW.trod_int Try.underlying3 h1
  obtain ⟨z2, e2, rfl, w2⟩ := DataW.trod_int Try.underlying3 h2
  obtain ⟨z3, e3, rfl, w3⟩ := DataW.trod_int Try.underlying3 h3
  simp at e0 e1 e2 e3
  subst e0 e1 e2 e3
  exact ⟨z0, z1, z2, z3, rfl, i64_of_wf w0, i64_of_wf w1, i64_of_wf w2, i64_of_wf w3⟩
end
end Go.Proofs.Ytbeilcaadpopmab
