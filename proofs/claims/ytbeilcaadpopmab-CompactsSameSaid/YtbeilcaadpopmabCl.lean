/- Walks: sameMoves, and the law GcCompacts. -/
import Derived.Test.YtbeilcaadpopmabCo
import Derived.Test.YtbeilcaadpopmabWd
set_option linter.unusedVariables false
set_option linter.unusedSimpArgs false
namespace Go.Proofs.Ytbeilcaadpopmab
open Go.RowKit

/-- The slice value v reads as the moves ms in w. -/
def Moves (w : World) (v : Value) (ms : List (Nat × Nat)) : Prop := ms.length ≤ 1000000 ∧ Row w v ms.length 2 (cellsM ms)
theorem OwnMoves.moves {w : World} {base : Nat} {v : Value} {ms : List (Nat × Nat)} (h : OwnMoves w base v ms) : Moves w v ms := ⟨h.1, Row.of_own h.2 (Nat.le_trans h.1 (by omega))⟩
theorem moves_nil (w : World) : Moves w (.slice none 0 0) [] := (OwnMoves.nil w 0).moves
theorem Moves.below {w w' : World} {v : Value} {ms : List (Nat × Nat)} {B : Nat} (h : Moves w v ms) (hB : w.heap.size ≤ B) (hb : Below B w w') : Moves w' v ms := ⟨h.1, h.2.below hB hb⟩
theorem Moves.at {w : World} {a : Option Addr} {n c : Nat} {ms : List (Nat × Nat)} (h : Moves w (.slice a n c) ms) (hn : 0 < ms.length) :
    ∃ b o, a = some ⟨b, o, none⟩ ∧ b < w.heap.size ∧ ∀ i (hi : i < ms.length), w.cell? ⟨b, o + i * 2, none⟩ = some (.int .i64 (ms[i].1 : Int)) ∧ w.cell? ⟨b, o + i * 2 + 1, none⟩ = some (.int .i64 (ms[i].2 : Int)) := by
  obtain ⟨b, o, rfl, hb, hc⟩ := h.2.at hn
  refine ⟨b, o, rfl, hb, fun i hi => ?_⟩
  have hl := cellsM_len ms
  obtain ⟨h1, h2⟩ := cellsM_at ms i hi
  have key : ∀ j, j < (cellsM ms).length → w.cell? ⟨b, o + j, none⟩ = (cellsM ms)[j]? := fun j hj => by
    rw [hc j hj, List.getD_eq_getElem?_getD, List.getElem?_eq_getElem hj]; rfl
  exact ⟨(key _ (by omega)).trans h1, (key (i * 2 + 1) (by omega)).trans h2⟩

set_option maxHeartbeats 400000 in
theorem sameMoves_any (a b : Value) (ms : List (Nat × Nat)) (w : World) (ha : Moves w a ms) (hb : Moves w b ms) :
    Calls Try.prog 29 #[a, b] w fun e w' => e = .returned (.bool true) ∧ Below w.heap.size w w' := by
  obtain ⟨aa, ac, rfl, hac, hacm, _⟩ := ha.2.len
  obtain ⟨ba, bc, rfl, hbc, hbcm, _⟩ := hb.2.len
  have hle := ha.1
  have HA := Lib.hid ha; clear ha
  have HB := Lib.hid hb; clear hb
  go_enter Try.func29, Try.ntmps29
  go_wp2
  go_loopw [5] (fun i wr => ∃ k : Nat, k ≤ ms.length ∧ i = .int .i64 k ∧ Below w.heap.size w wr) (fun i _ => ms.length - (intOf i).toNat)
  case atStart => exact ⟨0, Nat.zero_le _, rfl, Below.refl _ _⟩
  case round =>
    obtain ⟨k, hk, rfl, hbel⟩ := hrel
    by_cases hlt : k < ms.length
    · obtain ⟨ab, ao, rfl, _, c1⟩ := Moves.at (HA.out.below (Nat.le_refl _) hbel) (by omega)
      obtain ⟨bb, bo, rfl, _, c2⟩ := Moves.at (HB.out.below (Nat.le_refl _) hbel) (by omega)
      obtain ⟨c1, c3⟩ := c1 k hlt
      obtain ⟨c2, c4⟩ := c2 k hlt
      go_wp2
      go_quiet (fail)
      go_wp2
      go_roundw
      case rel => exact ⟨k + 1, by omega, by go_num, below_drewN hbel _⟩
      case measure => simp [intOf]; omega
    · go_wp2
      go_ret
      exact ⟨rfl, hbel⟩

/-- What closing a heap up comes to, in plain words. -/
def ClosedRes (xs : List Int) (top : Int) (keep : List Int) (os : List Int) (ot : Int) (ms : List (Nat × Nat)) (er : Int) : Prop :=
  (¬ HeapOk xs top ∧ os = [] ∧ ot = 0 ∧ ms = [] ∧ er = 5) ∨ ∃ (t : Nat) (l : List Nat), top = (t : Int) ∧ HeapIs xs t l ∧ ((¬ KeepOk l keep ∧ os = [] ∧ ot = 0 ∧ ms = [] ∧ er = 4) ∨
    ∃ ks, keep = intsOf ks ∧ KeepIs l ks ∧ ((outW xs (mvs xs ks 1) ks = none ∧ os = [] ∧ ot = 0 ∧ ms = [] ∧ er = 5) ∨
      ∃ L, outW xs (mvs xs ks 1) ks = some L ∧ os = padTo xs.length (0 :: L) ∧ ot = (topOf xs ks 1 : Nat) ∧ ms = mvs xs ks 1 ∧ er = 0))

theorem ClosedRes.uniq {xs : List Int} {top : Int} {keep os os' : List Int} {ot ot' : Int} {ms ms' : List (Nat × Nat)} {er er' : Int} (h : ClosedRes xs top keep os ot ms er) (h' : ClosedRes xs top keep os' ot' ms' er') :
    os = os' ∧ ot = ot' ∧ ms = ms' ∧ er = er' := by
  rcases h with ⟨n, rfl, rfl, rfl, rfl⟩ | ⟨t, l, rfl, hi, h⟩
  · rcases h' with ⟨_, rfl, rfl, rfl, rfl⟩ | ⟨t', l', rfl, hi', _⟩
    · exact ⟨rfl, rfl, rfl, rfl⟩
    · exact absurd ⟨t', l', rfl, hi'⟩ n
  · rcases h' with ⟨n, _⟩ | ⟨t', l', ht, hi', h'⟩
    · exact absurd ⟨t, l, rfl, hi⟩ n
    · obtain rfl := Int.ofNat_inj.1 ht
      obtain rfl := hi.uniq hi'
      rcases h with ⟨n, rfl, rfl, rfl, rfl⟩ | ⟨ks, rfl, hk, h⟩
      · rcases h' with ⟨_, rfl, rfl, rfl, rfl⟩ | ⟨ks, rfl, hk, _⟩
        · exact ⟨rfl, rfl, rfl, rfl⟩
        · exact absurd ⟨ks, rfl, hk⟩ n
      · rcases h' with ⟨n, _⟩ | ⟨ks', e, hk', h'⟩
        · exact absurd ⟨ks, rfl, hk⟩ n
        · obtain rfl := intsOf_inj e
          rcases h with ⟨e, rfl, rfl, rfl, rfl⟩ | ⟨L, e, rfl, rfl, rfl, rfl⟩
          · rcases h' with ⟨_, rfl, rfl, rfl, rfl⟩ | ⟨L, e', _⟩
            · exact ⟨rfl, rfl, rfl, rfl⟩
            · rw [e] at e'; cases e'
          · rcases h' with ⟨e', _⟩ | ⟨L', e', rfl, rfl, rfl, rfl⟩
            · rw [e] at e'; cases e'
            · rw [e] at e'
              cases e'
              exact ⟨rfl, rfl, rfl, rfl⟩

theorem RetClosed.res {w w' : World} {xs : List Int} {top : Int} {keep : List Int} {e : Ending} (h : RetClosed w xs top keep e w') :
    Below w.heap.size w w' ∧ ∃ ov os ot mv ms er, ClosedRes xs top keep os ot ms er ∧ e = .returned (.tuple #[.agg #[ov, .int .i64 ot], mv, .int .i64 er]) ∧ Ints w' ov os ∧ Moves w' mv ms := by
  obtain ⟨hb, h⟩ := h
  refine ⟨hb, ?_⟩
  rcases h with ⟨n, rfl⟩ | ⟨t, l, rfl, hi, ⟨n, rfl⟩ | ⟨ks, rfl, hk, ⟨n, rfl⟩ | ⟨L, ov, mv, e, rfl, ho, hm⟩⟩⟩
  · exact ⟨_, [], _, _, [], _, .inl ⟨n, rfl, rfl, rfl, rfl⟩, rfl, ints_nil _, moves_nil _⟩
  · exact ⟨_, [], _, _, [], _, .inr ⟨t, l, rfl, hi, .inl ⟨n, rfl, rfl, rfl, rfl⟩⟩, rfl, ints_nil _, moves_nil _⟩
  · exact ⟨_, [], _, _, [], _, .inr ⟨t, l, rfl, hi, .inr ⟨ks, rfl, hk, .inl ⟨n, rfl, rfl, rfl, rfl⟩⟩⟩, rfl, ints_nil _, moves_nil _⟩
  · exact ⟨_, _, _, _, _, _, .inr ⟨t, l, rfl, hi, .inr ⟨ks, rfl, hk, .inr ⟨L, e, rfl, rfl, rfl, rfl⟩⟩⟩, rfl, ho.ints, hm.moves⟩

set_option maxRecDepth 100000 in
set_option maxHeartbeats 8000000 in
theorem gcCompacts_any (v kv : Value) (xs : List Int) (top : Int) (keep : List Int) (w : World) (h : Ints w v xs) (hr : Ints w kv keep) :
    Calls Try.prog 6 #[.agg #[v, .int .i64 top], kv] w fun e w' => e = .returned (.bool true) ∧ Below w.heap.size w w' := by
  obtain ⟨a, c, rfl, hc, hcm, _⟩ := h.len
  have HF : Hid (∀ w2, Below w.heap.size w w2 → Ints w2 (.slice a xs.length c) xs) := fun w2 hb2 => h.below (Nat.le_refl _) hb2
  have HR : Hid (∀ w2, Below w.heap.size w w2 → Ints w2 kv keep) := fun w2 hb2 => hr.below (Nat.le_refl _) hb2
  clear h hr
  have HC2 : Hid (∀ W, Below (w.alloc (.cells #[.slice a xs.length c, .int .i64 top] 25)).heap.size (w.alloc (.cells #[.slice a xs.length c, .int .i64 top] 25)) W → W.cell? ⟨w.heap.size, 0, none⟩ = some (.slice a xs.length c) ∧ W.cell? ⟨w.heap.size, 1, none⟩ = some (.int .i64 top)) := fun W hW =>
    ⟨(hW.cell (p := ⟨w.heap.size, 0, none⟩) (by simp)).trans (by simp), (hW.cell (p := ⟨w.heap.size, 1, none⟩) (by simp)).trans (by simp)⟩
  go_enter Try.func6, Try.ntmps6
  go_upto_region 4 with (first
    | (go_at_call 20; refine (refCopy_any _ xs _ _ (HF.out _ (by repeat (first | exact Below.refl _ _ | with_reducible refine below_drewN ?_ _ | with_reducible refine Below.drew ?_ | with_reducible refine Below.alloc ?_ (by first | exact Nat.le_refl _ | (simp; done) | omega | (simp; omega)) _ | with_reducible refine Below.setCell ?_ (by first | exact Nat.le_refl _ | (simp; done) | omega | (simp; omega)) _)))).mono ?_; rintro e w0 ⟨a0, c0, rfl, hv0, hb0⟩; have HV0 := Lib.hid hv0; clear hv0; have HC5 : Hid (∀ W, Below (w0.alloc (.cells #[.slice a0 xs.length c0, .int .i64 top] 25)).heap.size (w0.alloc (.cells #[.slice a0 xs.length c0, .int .i64 top] 25)) W → W.cell? ⟨w0.heap.size, 0, none⟩ = some (.slice a0 xs.length c0) ∧ W.cell? ⟨w0.heap.size, 1, none⟩ = some (.int .i64 top)) := (fun W hW => ⟨(hW.cell (p := ⟨w0.heap.size, 0, none⟩) (by simp)).trans (by simp), (hW.cell (p := ⟨w0.heap.size, 1, none⟩) (by simp)).trans (by simp)⟩))
    | (go_at_call 27; refine (compact_any _ _ xs keep _ _ (HV0.out.ints.below (Nat.le_refl _) (by repeat (first | exact Below.refl _ _ | with_reducible refine below_drewN ?_ _ | with_reducible refine Below.drew ?_ | with_reducible refine Below.alloc ?_ (by first | exact Nat.le_refl _ | (simp; done) | omega | (simp; omega)) _ | with_reducible refine Below.setCell ?_ (by first | exact Nat.le_refl _ | (simp; done) | omega | (simp; omega)) _))) (HR.out _ (by repeat (first | exact Below.refl _ _ | with_reducible refine Below.trans ?_ (Below.mono hb0 (by first | exact Nat.le_refl _ | (simp; done) | omega | (simp; omega) | (have z0 := Below.size hb0; omega) | (have z0 := Below.size hb0; simp at *; omega))) | with_reducible refine below_drewN ?_ _ | with_reducible refine Below.drew ?_ | with_reducible refine Below.alloc ?_ (by first | exact Nat.le_refl _ | (simp; done) | omega | (simp; omega) | (have z0 := Below.size hb0; omega) | (have z0 := Below.size hb0; simp at *; omega)) _ | with_reducible refine Below.setCell ?_ (by first | exact Nat.le_refl _ | (simp; done) | omega | (simp; omega) | (have z0 := Below.size hb0; omega) | (have z0 := Below.size hb0; simp at *; omega)) _)))).mono ?_; intro e w1 hret; obtain ⟨hb, v1, os1, ot1, mv1, ms1, er1, hr1, rfl, hv1, hm1⟩ := hret.res; clear hret; obtain ⟨a1, c1, rfl, _, _, _⟩ := hv1.len; have HR1 := Lib.hid hr1; have HV1 := Lib.hid hv1; have HM1 := Lib.hid hm1; clear hr1 hv1 hm1; obtain ⟨f0, f1⟩ := HC2.out (w1.alloc (.cells #[.slice a1 os1.length c1, .int .i64 ot1] 25)) (by repeat (first | exact Below.refl _ _ | with_reducible refine Below.trans ?_ (Below.mono hb (by first | exact Nat.le_refl _ | (simp; done) | omega | (simp; omega) | (have z := Below.size hb; omega) | (have z := Below.size hb0; omega) | (have z0 := Below.size hb; have z1 := Below.size hb0; omega) | (have z0 := Below.size hb; have z1 := Below.size hb0; simp at *; omega))) | with_reducible refine Below.trans ?_ (Below.mono hb0 (by first | exact Nat.le_refl _ | (simp; done) | omega | (simp; omega) | (have z := Below.size hb; omega) | (have z := Below.size hb0; omega) | (have z0 := Below.size hb; have z1 := Below.size hb0; omega) | (have z0 := Below.size hb; have z1 := Below.size hb0; simp at *; omega))) | with_reducible refine below_drewN ?_ _ | with_reducible refine Below.drew ?_ | with_reducible refine Below.alloc ?_ (by first | exact Nat.le_refl _ | (simp; done) | omega | (simp; omega) | (have z := Below.size hb; omega) | (have z := Below.size hb0; omega) | (have z0 := Below.size hb; have z1 := Below.size hb0; omega) | (have z0 := Below.size hb; have z1 := Below.size hb0; simp at *; omega)) _ | with_reducible refine Below.setCell ?_ (by first | exact Nat.le_refl _ | (simp; done) | omega | (simp; omega) | (have z := Below.size hb; omega) | (have z := Below.size hb0; omega) | (have z0 := Below.size hb; have z1 := Below.size hb0; omega) | (have z0 := Below.size hb; have z1 := Below.size hb0; simp at *; omega)) _)); have HC6 : Hid (∀ W, Below (w1.alloc (.cells #[.slice a1 os1.length c1, .int .i64 ot1] 25)).heap.size (w1.alloc (.cells #[.slice a1 os1.length c1, .int .i64 ot1] 25)) W → W.cell? ⟨w1.heap.size, 0, none⟩ = some (.slice a1 os1.length c1) ∧ W.cell? ⟨w1.heap.size, 1, none⟩ = some (.int .i64 ot1)) := (fun W hW => ⟨(hW.cell (p := ⟨w1.heap.size, 0, none⟩) (by simp)).trans (by simp), (hW.cell (p := ⟨w1.heap.size, 1, none⟩) (by simp)).trans (by simp)⟩))
    | (go_at_call 28; refine (closedOf_any _ _ xs keep _ _ (HF.out _ (by repeat (first | exact Below.refl _ _ | with_reducible refine Below.trans ?_ (Below.mono hb (by first | exact Nat.le_refl _ | (simp; done) | omega | (simp; omega) | (have z := Below.size hb; omega) | (have z := Below.size hb0; omega) | (have z0 := Below.size hb; have z1 := Below.size hb0; omega) | (have z0 := Below.size hb; have z1 := Below.size hb0; simp at *; omega))) | with_reducible refine Below.trans ?_ (Below.mono hb0 (by first | exact Nat.le_refl _ | (simp; done) | omega | (simp; omega) | (have z := Below.size hb; omega) | (have z := Below.size hb0; omega) | (have z0 := Below.size hb; have z1 := Below.size hb0; omega) | (have z0 := Below.size hb; have z1 := Below.size hb0; simp at *; omega))) | with_reducible refine below_drewN ?_ _ | with_reducible refine Below.drew ?_ | with_reducible refine Below.alloc ?_ (by first | exact Nat.le_refl _ | (simp; done) | omega | (simp; omega) | (have z := Below.size hb; omega) | (have z := Below.size hb0; omega) | (have z0 := Below.size hb; have z1 := Below.size hb0; omega) | (have z0 := Below.size hb; have z1 := Below.size hb0; simp at *; omega)) _ | with_reducible refine Below.setCell ?_ (by first | exact Nat.le_refl _ | (simp; done) | omega | (simp; omega) | (have z := Below.size hb; omega) | (have z := Below.size hb0; omega) | (have z0 := Below.size hb; have z1 := Below.size hb0; omega) | (have z0 := Below.size hb; have z1 := Below.size hb0; simp at *; omega)) _))) (HR.out _ (by repeat (first | exact Below.refl _ _ | with_reducible refine Below.trans ?_ (Below.mono hb (by first | exact Nat.le_refl _ | (simp; done) | omega | (simp; omega) | (have z := Below.size hb; omega) | (have z := Below.size hb0; omega) | (have z0 := Below.size hb; have z1 := Below.size hb0; omega) | (have z0 := Below.size hb; have z1 := Below.size hb0; simp at *; omega))) | with_reducible refine Below.trans ?_ (Below.mono hb0 (by first | exact Nat.le_refl _ | (simp; done) | omega | (simp; omega) | (have z := Below.size hb; omega) | (have z := Below.size hb0; omega) | (have z0 := Below.size hb; have z1 := Below.size hb0; omega) | (have z0 := Below.size hb; have z1 := Below.size hb0; simp at *; omega))) | with_reducible refine below_drewN ?_ _ | with_reducible refine Below.drew ?_ | with_reducible refine Below.alloc ?_ (by first | exact Nat.le_refl _ | (simp; done) | omega | (simp; omega) | (have z := Below.size hb; omega) | (have z := Below.size hb0; omega) | (have z0 := Below.size hb; have z1 := Below.size hb0; omega) | (have z0 := Below.size hb; have z1 := Below.size hb0; simp at *; omega)) _ | with_reducible refine Below.setCell ?_ (by first | exact Nat.le_refl _ | (simp; done) | omega | (simp; omega) | (have z := Below.size hb; omega) | (have z := Below.size hb0; omega) | (have z0 := Below.size hb; have z1 := Below.size hb0; omega) | (have z0 := Below.size hb; have z1 := Below.size hb0; simp at *; omega)) _)))).mono ?_; intro e w2 hret; obtain ⟨hb2, v2, os2, ot2, mv2, ms2, er2, hr2, rfl, hv2, hm2⟩ := hret.res; clear hret; obtain ⟨rfl, rfl, rfl, rfl⟩ := HR1.out.uniq hr2; obtain ⟨a2, c2, rfl, _, _, _⟩ := hv2.len; have HV2 := Lib.hid hv2; have HM2 := Lib.hid hm2; clear hr2 hv2 hm2 f0 f1; obtain ⟨g0, g1⟩ := HC6.out (w2.alloc (.cells #[.slice a2 os1.length c2, .int .i64 ot1] 25)) (by repeat (first | exact Below.refl _ _ | with_reducible refine Below.trans ?_ (Below.mono hb2 (by first | exact Nat.le_refl _ | (simp; done) | omega | (simp; omega) | (have z0 := Below.size hb2; omega) | (have z0 := Below.size hb2; simp at *; omega))) | with_reducible refine below_drewN ?_ _ | with_reducible refine Below.drew ?_ | with_reducible refine Below.alloc ?_ (by first | exact Nat.le_refl _ | (simp; done) | omega | (simp; omega) | (have z0 := Below.size hb2; omega) | (have z0 := Below.size hb2; simp at *; omega)) _ | with_reducible refine Below.setCell ?_ (by first | exact Nat.le_refl _ | (simp; done) | omega | (simp; omega) | (have z0 := Below.size hb2; omega) | (have z0 := Below.size hb2; simp at *; omega)) _))))
  obtain ⟨X, hX⟩ : ∃ X, X = w2.heap.size := ⟨_, rfl⟩
  obtain ⟨W, hW⟩ : ∃ W, W = w2.alloc (.cells #[.slice a2 os1.length c2, .int .i64 ot1] 25) := ⟨_, rfl⟩
  have x0 : W.cell? ⟨X, 0, none⟩ = some (.slice a2 os1.length c2) := by rw [hW, hX]; simp
  have x1 : W.cell? ⟨X, 1, none⟩ = some (.int .i64 ot1) := by rw [hW, hX]; simp
  have HB2W : Hid (Below w1.heap.size w1 W) := by rw [Hid, hW]; exact (by repeat (first | exact Below.refl _ _ | with_reducible refine Below.trans ?_ (Below.mono hb2 (by first | exact Nat.le_refl _ | (simp; done) | omega | (simp; omega) | (have z0 := Below.size hb2; omega) | (have z0 := Below.size hb2; simp at *; omega))) | with_reducible refine below_drewN ?_ _ | with_reducible refine Below.drew ?_ | with_reducible refine Below.alloc ?_ (by first | exact Nat.le_refl _ | (simp; done) | omega | (simp; omega) | (have z0 := Below.size hb2; omega) | (have z0 := Below.size hb2; simp at *; omega)) _ | with_reducible refine Below.setCell ?_ (by first | exact Nat.le_refl _ | (simp; done) | omega | (simp; omega) | (have z0 := Below.size hb2; omega) | (have z0 := Below.size hb2; simp at *; omega)) _))
  have HB1W : Hid (Below w0.heap.size w0 W) := by
    have h1 : Below w0.heap.size w0 w1 := (by repeat (first | exact Below.refl _ _ | with_reducible refine Below.trans ?_ (Below.mono hb (by first | exact Nat.le_refl _ | (simp; done) | omega | (simp; omega) | (have z0 := Below.size hb; omega) | (have z0 := Below.size hb; simp at *; omega))) | with_reducible refine below_drewN ?_ _ | with_reducible refine Below.drew ?_ | with_reducible refine Below.alloc ?_ (by first | exact Nat.le_refl _ | (simp; done) | omega | (simp; omega) | (have z0 := Below.size hb; omega) | (have z0 := Below.size hb; simp at *; omega)) _ | with_reducible refine Below.setCell ?_ (by first | exact Nat.le_refl _ | (simp; done) | omega | (simp; omega) | (have z0 := Below.size hb; omega) | (have z0 := Below.size hb; simp at *; omega)) _))
    exact h1.trans (HB2W.out.mono h1.size)
  have HBW : Hid (Below w.heap.size w W) := by
    have h1 : Below w.heap.size w w0 := (by repeat (first | exact Below.refl _ _ | with_reducible refine Below.trans ?_ (Below.mono hb0 (by first | exact Nat.le_refl _ | (simp; done) | omega | (simp; omega) | (have z0 := Below.size hb0; omega) | (have z0 := Below.size hb0; simp at *; omega))) | with_reducible refine below_drewN ?_ _ | with_reducible refine Below.drew ?_ | with_reducible refine Below.alloc ?_ (by first | exact Nat.le_refl _ | (simp; done) | omega | (simp; omega) | (have z0 := Below.size hb0; omega) | (have z0 := Below.size hb0; simp at *; omega)) _ | with_reducible refine Below.setCell ?_ (by first | exact Nat.le_refl _ | (simp; done) | omega | (simp; omega) | (have z0 := Below.size hb0; omega) | (have z0 := Below.size hb0; simp at *; omega)) _))
    exact h1.trans (HB1W.out.mono h1.size)
  obtain ⟨p0, p1⟩ := HC5.out W (by rw [hW]; exact (by repeat (first | exact Below.refl _ _ | with_reducible refine Below.trans ?_ (Below.mono hb2 (by first | exact Nat.le_refl _ | (simp; done) | omega | (simp; omega) | (have z := Below.size hb2; omega) | (have z := Below.size hb; omega) | (have z0 := Below.size hb2; have z1 := Below.size hb; omega) | (have z0 := Below.size hb2; have z1 := Below.size hb; simp at *; omega))) | with_reducible refine Below.trans ?_ (Below.mono hb (by first | exact Nat.le_refl _ | (simp; done) | omega | (simp; omega) | (have z := Below.size hb2; omega) | (have z := Below.size hb; omega) | (have z0 := Below.size hb2; have z1 := Below.size hb; omega) | (have z0 := Below.size hb2; have z1 := Below.size hb; simp at *; omega))) | with_reducible refine below_drewN ?_ _ | with_reducible refine Below.drew ?_ | with_reducible refine Below.alloc ?_ (by first | exact Nat.le_refl _ | (simp; done) | omega | (simp; omega) | (have z := Below.size hb2; omega) | (have z := Below.size hb; omega) | (have z0 := Below.size hb2; have z1 := Below.size hb; omega) | (have z0 := Below.size hb2; have z1 := Below.size hb; simp at *; omega)) _ | with_reducible refine Below.setCell ?_ (by first | exact Nat.le_refl _ | (simp; done) | omega | (simp; omega) | (have z := Below.size hb2; omega) | (have z := Below.size hb; omega) | (have z0 := Below.size hb2; have z1 := Below.size hb; omega) | (have z0 := Below.size hb2; have z1 := Below.size hb; simp at *; omega)) _)))
  obtain ⟨q0, q1⟩ := HC2.out W (by rw [hW]; exact (by repeat (first | exact Below.refl _ _ | with_reducible refine Below.trans ?_ (Below.mono hb2 (by first | exact Nat.le_refl _ | (simp; done) | omega | (simp; omega) | (have z := Below.size hb2; omega) | (have z := Below.size hb; omega) | (have z := Below.size hb0; omega) | (have z0 := Below.size hb2; have z1 := Below.size hb; have z2 := Below.size hb0; omega) | (have z0 := Below.size hb2; have z1 := Below.size hb; have z2 := Below.size hb0; simp at *; omega))) | with_reducible refine Below.trans ?_ (Below.mono hb (by first | exact Nat.le_refl _ | (simp; done) | omega | (simp; omega) | (have z := Below.size hb2; omega) | (have z := Below.size hb; omega) | (have z := Below.size hb0; omega) | (have z0 := Below.size hb2; have z1 := Below.size hb; have z2 := Below.size hb0; omega) | (have z0 := Below.size hb2; have z1 := Below.size hb; have z2 := Below.size hb0; simp at *; omega))) | with_reducible refine Below.trans ?_ (Below.mono hb0 (by first | exact Nat.le_refl _ | (simp; done) | omega | (simp; omega) | (have z := Below.size hb2; omega) | (have z := Below.size hb; omega) | (have z := Below.size hb0; omega) | (have z0 := Below.size hb2; have z1 := Below.size hb; have z2 := Below.size hb0; omega) | (have z0 := Below.size hb2; have z1 := Below.size hb; have z2 := Below.size hb0; simp at *; omega))) | with_reducible refine below_drewN ?_ _ | with_reducible refine Below.drew ?_ | with_reducible refine Below.alloc ?_ (by first | exact Nat.le_refl _ | (simp; done) | omega | (simp; omega) | (have z := Below.size hb2; omega) | (have z := Below.size hb; omega) | (have z := Below.size hb0; omega) | (have z0 := Below.size hb2; have z1 := Below.size hb; have z2 := Below.size hb0; omega) | (have z0 := Below.size hb2; have z1 := Below.size hb; have z2 := Below.size hb0; simp at *; omega)) _ | with_reducible refine Below.setCell ?_ (by first | exact Nat.le_refl _ | (simp; done) | omega | (simp; omega) | (have z := Below.size hb2; omega) | (have z := Below.size hb; omega) | (have z := Below.size hb0; omega) | (have z0 := Below.size hb2; have z1 := Below.size hb; have z2 := Below.size hb0; omega) | (have z0 := Below.size hb2; have z1 := Below.size hb; have z2 := Below.size hb0; simp at *; omega)) _)))
  have HI2 : Hid (Ints W (.slice a2 os1.length c2) os1) := by rw [Hid, hW]; exact HV2.out.below (Nat.le_refl _) ((Below.refl _ _).alloc (Nat.le_refl _) _)
  have HMV2 : Hid (Moves W mv2 ms1) := by rw [Hid, hW]; exact HM2.out.below (Nat.le_refl _) ((Below.refl _ _).alloc (Nat.le_refl _) _)
  have g0' := g0
  have g1' := g1
  rw [← hW] at g0' g1'
  rw [← hX, ← hW]
  clear g0 g1
  clear hX hW
  have HI1 := Lib.hid (HV1.out.below (Nat.le_refl _) HB2W.out)
  have HI0 := Lib.hid (HV0.out.ints.below (Nat.le_refl _) HB1W.out)
  have HIF := Lib.hid (HF.out W HBW.out)
  have HMV1 := Lib.hid (HM1.out.below (Nat.le_refl _) HB2W.out)
  have z0 : w.heap.size < W.heap.size := World.block_lt_of_cell? W _ q0
  have z5 : w0.heap.size < W.heap.size := World.block_lt_of_cell? W _ p0
  have HCW : Hid (∀ W', Below W.heap.size W W' → W'.cell? ⟨w.heap.size, 0, none⟩ = some (.slice a xs.length c) ∧ W'.cell? ⟨w.heap.size, 1, none⟩ = some (.int .i64 top) ∧ W'.cell? ⟨w0.heap.size, 0, none⟩ = some (.slice a0 xs.length c0) ∧ W'.cell? ⟨w0.heap.size, 1, none⟩ = some (.int .i64 top)) := fun W' h =>
    ⟨(h.cell (p := ⟨w.heap.size, 0, none⟩) z0).trans q0, (h.cell (p := ⟨w.heap.size, 1, none⟩) z0).trans q1, (h.cell (p := ⟨w0.heap.size, 0, none⟩) z5).trans p0, (h.cell (p := ⟨w0.heap.size, 1, none⟩) z5).trans p1⟩
  clear HB2W HB1W hb hb2 hb0 p0 p1 q0 q1 HC2 HC5 HC6 HV0 HV1 HV2 HM1 HM2 HF HR HR1
  go_wp2_with (first
    | (go_at_call 23; first | (with_reducible refine (sameHeap_any _ _ os1 os1 ot1 ot1 _ ?_ ?_).mono ?_; (exact HI1.out); (exact HI2.out); rintro e w3 ⟨rfl, hb3⟩; rw [show sameH os1 ot1 os1 ot1 = true by simp [sameH]]) | (refine (sameHeap_any _ _ xs xs top top _ ?_ ?_).mono ?_; (exact (HI0.out.below (Nat.le_refl _) (hb3.trans (hb4.mono hb3.size)))); (exact (HIF.out.below (Nat.le_refl _) (hb3.trans (hb4.mono hb3.size)))); rintro e w5 ⟨rfl, hb5⟩; rw [show sameH xs top xs top = true by simp [sameH]]))
    | (go_at_call 29; refine (sameMoves_any _ _ ms1 _ (HMV1.out.below (Nat.le_refl _) hb3) (HMV2.out.below (Nat.le_refl _) hb3)).mono ?_; rintro e w4 ⟨rfl, hb4⟩; obtain ⟨q0, q1, p0, p1⟩ := HCW.out w4 (hb3.trans (hb4.mono hb3.size))))
  go_ret
  exact ⟨ret_bool (by simp), HBW.out.trans ((hb3.trans (hb4.mono hb3.size)).trans (hb5.mono (hb3.trans (hb4.mono hb3.size)).size) |>.mono HBW.out.size)⟩
end Go.Proofs.Ytbeilcaadpopmab
