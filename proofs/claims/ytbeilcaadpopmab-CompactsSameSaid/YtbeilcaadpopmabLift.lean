/- How a law's statement follows from a contract 'it returns true and changes nothing that was there': the end of every proof; how the parameters' kinds read. -/
import Derived.Test.YtbeilcaadpopmabLib
import Derived.ProofKit
import Derived.Lib.SmallJoins
import Derived.Deep.Slices
import Derived.Deep.Fields
import Derived.ChangeSame
set_option linter.unusedVariables false
set_option linter.unusedSimpArgs false
set_option maxRecDepth 100000
namespace Go.Proofs.Ytbeilcaadpopmab
open Go.ChangeShapes Go.WideShapes Go.ChangeAt Go.RowKit Go.Joins

theorem Try.own : ownKnob Try.prog.godebug = none := by kernel_rfl
theorem Try.laidOut : laidOutB Try.prog = true := by kernel_rfl

theorem trodAll_below {H : Type} {enc : TypeId × Value → H} {P : Program} (hl : laidOutB P = true) {W W' : World} (hb : Below W.heap.size W W') :
    ∀ (ts : List TypeId) (vs : List Value) (ds : List (DataW H)) (ps : List MemPlace), ts.all (fun t => P.readableRec t && decide (t < P.types.size)) = true → (∀ x ∈ ps, x.block < W.heap.size) →
      DataW.TrodAll enc P W 0 (fun _ => true) true ts vs ds ps → DataW.TrodAll enc P W' 0 (fun b => decide (b < W.heap.size)) true ts vs ds ps
  | [], [], [], ps, _, _, h => h
  | t :: ts, v :: vs, d :: ds, ps, hr, hlt, h => by
    obtain ⟨p, q, h1, h2, rfl⟩ := h
    simp only [List.all_cons, Bool.and_eq_true, decide_eq_true_eq] at hr
    exact ⟨p, q, Below.trod hl hr.1.1 hr.1.2 h1 hb (fun x hx => hlt x (by simp [hx])), trodAll_below hl hb ts vs ds q hr.2 (fun x hx => hlt x (by simp [hx])) h2, rfl⟩
  | [], _ :: _, _, _, _, _, h => by simp [DataW.TrodAll] at h
  | [], [], _ :: _, _, _, _, h => by simp [DataW.TrodAll] at h
  | _ :: _, [], _, _, _, _, h => by simp [DataW.TrodAll] at h
  | _ :: _, _ :: _, [], _, _, _, h => by simp [DataW.TrodAll] at h

/-- THE END OF EVERY LAW: it returned true, and below the old heap nothing has changed. -/
theorem law_end {H : Type} {enc : TypeId × Value → H} {P : Program} {f : Func} {s : ChangeSpec} {W W' : World} {args : Array Value} {ds gs : List (DataW H)} {before : List MemPlace} {tb : TypeId}
    (hl : laidOutB P = true) (hW : DataW.Whole enc P f.params.toList s.vars false W args.toList ds gs before) (hvars : s.vars = []) (hr : f.resultTypes = #[tb]) (htb : P.underlying tb = some .bool)
    (hp : f.params.toList.all (fun t => P.readableRec t && decide (t < P.types.size)) = true)
    (hres : (s.fn H (ds ++ gs)).results = [.lit (.bool true)]) (harg : (s.fn H (ds ++ gs)).args = ds) (hv : (s.fn H (ds ++ gs)).vars = [])
    (hb : Below W.heap.size W W') : s.post enc P f false true false false W args (.bool true) W' := by
  have hW0 := hW
  obtain ⟨p, q, hA, hV, rfl, hfz, hnd⟩ := hW
  rw [hvars] at hV
  have hlt : ∀ x ∈ p, x.block < W.heap.size := fun x hx => by simpa using hW0.lt x (by simp [hx])
  refine ⟨ds, gs, p ++ q, [] ++ [], p, [], hW0, ?_, ?_, ?_, hb.frame _, fun h => by cases h⟩
  · rw [hres, hr]
    exact ⟨[], [], shut_bool htb true, rfl, rfl⟩
  · rw [harg]
    exact trodAll_below hl hb _ _ _ _ hp hlt hA
  · rw [hvars, hv]; rfl

section
variable {H : Type} {enc : TypeId × Value → H} {W : World} {r : Reach} {b0 : Nat} {v : Value} {d : DataW H} {p : List MemPlace}

theorem open_i {t : TypeId} (ht : Try.prog.underlying t = some (.int .i64)) (hv : Value.okWide Try.prog W r b0 t v) (h : DataW.Trod enc Try.prog W 0 (fun _ => true) true t v d p) : ∃ x, v = .int .i64 x ∧ I64 x := by
  obtain ⟨a, rfl, rfl, rfl, wa⟩ := open_int ht hv h
  exact ⟨a, rfl, i64_of_wf wa⟩

theorem Try.cellsValue : Try.prog.cellsOf 36 = 2 := by kernel_rfl
theorem Try.cellsHeap : Try.prog.cellsOf 25 = 2 := by kernel_rfl
theorem Try.cellsInt : Try.prog.cellsOf 3 = 1 := by kernel_rfl
theorem Try.bytesInt : Try.prog.bytesOf 3 = 8 := by kernel_rfl

theorem open_value (hv : Value.okWide Try.prog W r b0 36 v) (h : DataW.Trod enc Try.prog W 0 (fun _ => true) true 36 v d p) : ∃ k n, v = .agg #[.int .i64 k, .int .i64 n] ∧ I64 k ∧ I64 n := by
  obtain ⟨c0, c1, y0, y1, m, rfl, rfl, rfl, h0, h1⟩ := open_agg2 Try.underlying36 (by kernel_rfl) Try.cellsValue hv h
  obtain ⟨k, e0, rfl, w0⟩ := DataW.trod_int Try.underlying3 h0
  obtain ⟨n, e1, rfl, w1⟩ := DataW.trod_int Try.underlying3 h1
  simp at e0 e1
  subst e0 e1
  exact ⟨k, n, rfl, i64_of_wf w0, i64_of_wf w1⟩

theorem open_ints_trod {fuel : Nat} {x : DataW H × List MemPlace} (hf : DataW.trod enc Try.prog W 0 (fun _ => true) true fuel 23 [v] = some x)
    (hz : ∀ elems spare, x.1 = .slice elems spare → (elems.length + spare.length) * 8 ≤ reachBytes) (hlt : ∀ y ∈ x.2, y.block < W.heap.size) : ∃ xs, Ints W v xs ∧ xs.length ≤ 17592186043904 := by
  rcases open_ints Try.underlying23 Try.underlying3 Try.cellsInt hf with ⟨hcs, hx⟩ | ⟨a, len, cap, zs, hcs, _, hl, hm, hzl, hx, hcell, hwz⟩
  · simp at hcs
    subst hcs
    exact ⟨[], ⟨⟨by simp, by simp⟩, by simp, by simp, none, 0, rfl, Nat.le_refl _, Nat.zero_le _, fun _ => rfl, fun h => absurd h (by simp)⟩, by simp⟩
  · simp at hcs
    subst hcs
    subst hx
    simp only [if_true] at hzl
    have hz := hz _ _ rfl
    have hlen : (zs.take len).length = len := by simp; omega
    simp only [lits, List.length_map, List.length_take, List.length_drop, reachBytes] at hz
    refine ⟨zs.take len, ⟨⟨fun y hy => i64_of_wf (hwz y (List.mem_of_mem_take hy)), by omega⟩, by simp, by omega, some a, cap, by rw [hlen], by rw [hlen]; exact hl, hm, fun h => by simp at h, fun hn => ?_⟩, by omega⟩
    · rw [hlen] at hn
      obtain ⟨b, off, spot⟩ := a
      have hspot : spot = none := by simpa [Addr.add] using World.cell?_spot (hcell 0 (by omega))
      subst hspot
      refine ⟨b, off, rfl, hlt (.cell b off) (MemPlace.mem_row.2 ⟨0, by omega, by simp⟩), fun i hi => ?_⟩
      simp only [List.length_map, hlen] at hi
      have hiz : i < zs.length := by omega
      rw [← add_plain, hcell i hiz]
      simp [List.getD, List.getElem?_take, hi, hiz]

theorem open_heap (hv : Value.okWide Try.prog W r b0 25 v) (h : DataW.Trod enc Try.prog W 0 (fun _ => true) true 25 v d p)
    (hw : ∀ x ∈ d.weights Try.prog 25, x ≤ reachBytes) (hlt : ∀ y ∈ p, y.block < W.heap.size) : ∃ a xs top, v = .agg #[a, .int .i64 top] ∧ Ints W a xs ∧ I64 top := by
  obtain ⟨c0, c1, y0, y1, m, rfl, rfl, rfl, h0, h1⟩ := open_agg2 Try.underlying25 (by kernel_rfl) Try.cellsHeap hv h
  obtain ⟨n, e1, rfl, w1⟩ := DataW.trod_int Try.underlying3 h1
  simp at e1
  subst e1
  obtain ⟨xs, hxs, _⟩ := open_ints_trod h0 (fun elems spare e => by
    have := hw ((elems.length + spare.length) * Try.prog.bytesOf 3) (by simp [DataW.weights, DataW.weightsEach, Try.underlying25, Try.underlying23, e])
    rwa [Try.bytesInt] at this) (fun y hy => hlt y (by simp [hy]))
  exact ⟨c0, xs, n, rfl, hxs, i64_of_wf w1⟩

theorem open_intsArg {t : TypeId} (ht : t = 23) (hv : Value.okWide Try.prog W r b0 t v) (h : DataW.Trod enc Try.prog W 0 (fun _ => true) true t v d p)
    (hw : ∀ x ∈ d.weights Try.prog t, x ≤ reachBytes) (hlt : ∀ y ∈ p, y.block < W.heap.size) : ∃ xs, Ints W v xs ∧ xs.length ≤ 17592186043904 := by
  subst ht
  obtain ⟨fuel, hf⟩ := h
  obtain ⟨a0, len, cap, rfl⟩ := okWide_slice Try.underlying23 hv
  refine open_ints_trod (by simpa [Value.cells] using hf) (fun elems spare e => ?_) hlt
  have := hw ((elems.length + spare.length) * Try.prog.bytesOf 3) (by simp only at e; subst e; simp [DataW.weights, Try.underlying23])
  rwa [Try.bytesInt] at this

/-- What the form's own reach says of the argument in place j. -/
theorem weights_at {P : Program} {ts : List TypeId} {ds : List (DataW H)} (h : (DataW.weightsEach P ts ds).all (· ≤ reachBytes) = true) {j : Nat} {t : TypeId} (ht : ts[j]? = some t) (hd : ds[j]? = some d) : ∀ x ∈ d.weights P t, x ≤ reachBytes := by
  intro x hx
  have := List.all_eq_true.1 h _ (DataW.weights_mem_each ht hd x hx)
  simpa using this
end
end Go.Proofs.Ytbeilcaadpopmab
