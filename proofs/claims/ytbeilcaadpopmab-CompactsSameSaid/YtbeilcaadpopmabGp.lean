/- Walk: (*gc.Marker).Push. -/
import Derived.Test.YtbeilcaadpopmabMb
import Derived.Test.YtbeilcaadpopmabAp
set_option linter.unusedVariables false
set_option linter.unusedSimpArgs false
namespace Go.Proofs.Ytbeilcaadpopmab
open Go.RowKit Go.Maps

/-- 'm[x]', the run itself. -/
theorem SetMap.run {w : World} {b n : Nat} {S : List Int} (hS : SetMap w b n S) {X : Int} (hX : I64 X) : (Instr.lookup 99 (.map (some b)) (.int .i64 X) false).run Try.prog w = .ok (.bool (decide (X ∈ S))) w := by
  obtain ⟨D, h1, h2, h3⟩ := hS
  obtain ⟨v, ps, hrun, hv⟩ := h1.lookup lawI Try.underlying99 (zeroB w) (plainElem_bool Try.underlying4 false) (keyOf_int_mk Try.underlying3 (wf_of_i64 hX))
  obtain ⟨c, rfl, hc⟩ := plainElem_bool_inv Try.underlying4 hv
  rw [h3] at hc
  simp only [Prod.mk.injEq, DataW.lit.injEq, Lit.bool.injEq] at hc
  rw [← hc.1] at hrun
  exact hrun

/-- The marker at place o of box M, its map in block B, its gray places (value gv) from block base on; all of the call that began in w0. -/
def Mk (w0 w : World) (M o B base : Nat) (gv : Value) (gray S : List Int) : Prop :=
  w0.heap.size ≤ B ∧ w0.heap.size ≤ M ∧ B ≠ M ∧ w0.heap.size ≤ base ∧ base ≤ w.heap.size ∧ gv.ownBlock ≠ some B ∧ gv.ownBlock ≠ some M ∧ w.cell? ⟨M, o, none⟩ = some gv ∧ w.cell? ⟨M, o + 1, none⟩ = some (.map (some B)) ∧ w.frozen? ⟨M, o, none⟩ = false ∧ w.frozen? ⟨M, o + 1, none⟩ = false ∧
    OwnInts w base gv gray ∧ SetMap w B S.length S ∧ Below w0.heap.size w0 w

/-- What pushing a place makes of the gray ones and of those that are marked. -/
def pushG (p : Int) (gray S : List Int) : List Int := if p = 0 ∨ p ∈ S then gray else gray ++ [p]
def pushS (p : Int) (S : List Int) : List Int := if p = 0 ∨ p ∈ S then S else p :: S

/-- Only the marker's blocks may have turned, and of its box only place o. -/
def Turned (w w' : World) (M o B : Nat) (gv gv' : Value) : Prop :=
  w.heap.size ≤ w'.heap.size ∧ (∀ k, k < w.heap.size → k ≠ M → k ≠ B → gv.ownBlock ≠ some k → w'.heap[k]? = w.heap[k]?) ∧ (∀ k, k < w.heap.size → gv.ownBlock ≠ some k → gv'.ownBlock ≠ some k) ∧
    (∀ i, i ≠ o → w'.cell? ⟨M, i, none⟩ = w.cell? ⟨M, i, none⟩) ∧ (∀ i, w'.frozen? ⟨M, i, none⟩ = w.frozen? ⟨M, i, none⟩)

theorem Turned.refl (w : World) (M o B : Nat) (gv : Value) : Turned w w M o B gv gv := ⟨Nat.le_refl _, fun _ _ _ _ _ => rfl, fun _ _ h => h, fun _ _ => rfl, fun _ => rfl⟩
theorem Turned.trans {w1 w2 w3 : World} {M o B : Nat} {g1 g2 g3 : Value} (h : Turned w1 w2 M o B g1 g2) (k : Turned w2 w3 M o B g2 g3) : Turned w1 w3 M o B g1 g3 := by
  obtain ⟨a1, a2, a3, a4, a5⟩ := h
  obtain ⟨b1, b2, b3, b4, b5⟩ := k
  refine ⟨Nat.le_trans a1 b1, fun k hk h1 h2 h3 => (b2 k (Nat.lt_of_lt_of_le hk a1) h1 h2 (a3 k hk h3)).trans (a2 k hk h1 h2 h3), fun k hk h3 => b3 k (Nat.lt_of_lt_of_le hk a1) (a3 k hk h3), fun i hi => (b4 i hi).trans (a4 i hi), fun i => (b5 i).trans (a5 i)⟩

def RetPush (w0 w : World) (M o B base : Nat) (gv : Value) (gray S : List Int) (p : Int) (e : Ending) (w' : World) : Prop :=
  e = .returned (.tuple #[]) ∧ ∃ gv', Mk w0 w' M o B base gv' (pushG p gray S) (pushS p S) ∧ Turned w w' M o B gv gv'

theorem grown_cell {w w' : World} {row : Option Nat} (hg : w.grownBy w' row) {M i : Nat} (hM : M < w.heap.size) (hr : some M ≠ row) : w'.cell? ⟨M, i, none⟩ = w.cell? ⟨M, i, none⟩ ∧ w'.frozen? ⟨M, i, none⟩ = w.frozen? ⟨M, i, none⟩ := by
  have := hg.5 M hM hr
  simp [World.cell?, World.frozen?, this]

theorem OwnInts.setFar {w : World} {base : Nat} {v : Value} {xs : List Int} (h : OwnInts w base v xs) {a : Addr} (ha : v.ownBlock ≠ some a.block) (u : Value) : OwnInts (w.setCell a u) base v xs := by
  refine ⟨h.1, h.2.1, ?_⟩
  rcases h.2.2 with h2 | ⟨g, cap, cur, hv, hg, hh, r⟩
  · exact .inl h2
  · exact .inr ⟨g, cap, cur, hv, hg, by rw [Below.heap_setCell _ _ _ _ (by rintro rfl; exact ha (by rw [hv]; rfl))]; exact hh, r⟩

theorem frozen_setCell_any (w : World) (p q : Addr) (u : Value) : (w.setCell p u).frozen? q = w.frozen? q := by
  simp [go_sem]

set_option maxRecDepth 100000 in
set_option maxHeartbeats 1000000 in
theorem push_any (w0 w : World) (M o B base : Nat) (gv : Value) (gray S : List Int) (p : Int) (h : Mk w0 w M o B base gv gray S) (hp : I64 p) (hn : S.length < 900000) (hl : gray.length < 900000) :
    Calls Try.prog 60 #[.pointer (some ⟨M, o, none⟩), .int .i64 p] w (RetPush w0 w M o B base gv gray S p) := by
  obtain ⟨m1, m2, m3, m4, m6, hGM, hGM2, c0, c1, z0, z1, hG, hS, hb⟩ := h
  have HP := Lib.hid hp
  obtain ⟨hp1, hp2⟩ := hp
  have HG := Lib.hid hG; have HS := Lib.hid hS; have HB := Lib.hid hb
  have HGM := Lib.hid hGM; have HGM2 := Lib.hid hGM2
  clear hG hS hb hGM hGM2
  by_cases h0 : p = 0
  · subst h0
    go_enter Try.func60, Try.ntmps60
    go_wp2
    refine bodyPost_end (results_none rfl _ _ _) rfl ⟨rfl, gv, ?_, Turned.refl _ _ _ _ _⟩
    have e1 : pushG 0 gray S = gray := by simp [pushG]
    have e2 : pushS 0 S = S := by simp [pushS]
    rw [e1, e2]
    exact ⟨m1, m2, m3, m4, m6, HGM.out, HGM2.out, c0, c1, z0, z1, HG.out, HS.out, HB.out⟩
  · have h0' : (p != 0) = true := by simpa using h0
    by_cases hs : p ∈ S
    · have hd : decide (p ∈ S) = true := decide_eq_true hs
      have HE : Hid (pushG p gray S = gray ∧ pushS p S = S) := ⟨by simp [pushG, hs], by simp [pushS, hs]⟩
      clear hs
      have hrun := HS.out.run HP.out
      rw [hd] at hrun
      go_enter Try.func60, Try.ntmps60
      go_wp2
      refine bodyPost_end (results_none rfl _ _ _) rfl ⟨rfl, gv, ?_, Turned.refl _ _ _ _ _⟩
      rw [HE.out.1, HE.out.2]
      exact ⟨m1, m2, m3, m4, m6, HGM.out, HGM2.out, c0, c1, z0, z1, HG.out, HS.out, HB.out⟩
    · have hd : decide (p ∈ S) = false := decide_eq_false hs
      have HE : Hid (pushG p gray S = gray ++ [p] ∧ pushS p S = p :: S) := ⟨by simp [pushG, hs, h0], by simp [pushS, hs, h0]⟩
      clear hs
      have hMs : M < w.heap.size := World.block_lt_of_cell? w _ c0
      have hBs : B < w.heap.size := HS.out.lt
      have hrun := HS.out.run HP.out
      rw [hd] at hrun
      go_enter Try.func60, Try.ntmps60
      go_wp2_with (first | (at_mapUpdate; refine wpl_setAdd rfl _ _ _ rfl B S.length S rfl HS.out (by omega) p rfl HP.out rfl ?_; intro w1 hs1 hg1; obtain ⟨d0, f0⟩ := grown_cell hg1 (i := o) hMs (by simp; omega); obtain ⟨d1, f1⟩ := grown_cell hg1 (i := o + 1) hMs (by simp; omega); have HS1 := Lib.hid hs1; have HG1 := Lib.hid hg1; clear hs1 hg1) | (at_builtin; refine wpl_append_ints rfl _ _ rfl base gv gray rfl ((HG.out.grown HG1.out (.inr HGM.out)).below (Below.alloc (Below.refl _ _) (Nat.le_refl _) _)) _ [p] rfl (built_one _ _ HP.out) (by simp; omega) (by have := HG1.out.size; simp; omega) ?_; intro v2 w2 hv2 hg2 hm2; obtain ⟨d2, f2⟩ := grown_cell hg2 (i := o) (M := M) (by have := HG1.out.size; simp; omega) (fun e => HGM2.out e.symm); obtain ⟨d3, f3⟩ := grown_cell hg2 (i := o + 1) (M := M) (by have := HG1.out.size; simp; omega) (fun e => HGM2.out e.symm); obtain ⟨a2, c2, hvv⟩ := hv2.shape; rw [show (gray ++ [p]).length = gray.length + 1 by simp] at hvv; subst hvv; have hsz1 := HG1.out.size; have HV2 := Lib.hid hv2; have HG2 := Lib.hid hg2; have HM2 := Lib.hid hm2; clear hv2 hg2 hm2; simp [go_sem, hMs, Nat.lt_of_lt_of_le hMs hsz1] at d2 f2 d3 f3))
      have hb1 : Below w0.heap.size w0 w1 := HB.out.grown HG1.out HB.out.size (fun j hj => by cases hj; exact m1)
      have hb2 : Below w0.heap.size w0 w2 := (hb1.alloc hb1.size _).grown HG2.out (by simp; have := hb1.size; omega) (fun j hj => by have := (HG.out.lt hj).1; omega)
      have hsz2 := HG2.out.size
      rw [World.size_alloc] at hsz2
      have hn2 : Value.ownBlock (.slice a2 (gray.length + 1) c2) ≠ some M := moved_ne HM2.out (by rw [World.size_alloc]; omega) HGM2.out
      have hn1 : Value.ownBlock (.slice a2 (gray.length + 1) c2) ≠ some B := moved_ne HM2.out (by rw [World.size_alloc]; omega) HGM.out
      refine bodyPost_end (results_none rfl _ _ _) rfl ⟨rfl, _, ⟨m1, m2, m3, m4, by simp [World.setCell]; omega, hn1, hn2, World.cell?_setCell_same _ _ _ (d2.trans (d0.trans c0)), ?_, ?_, ?_, ?_, ?_, hb2.setCell (by exact m2) _⟩, by simp [World.setCell]; omega, ?_, ?_, ?_, ?_⟩
      · rw [World.cell?_setCell_other _ _ _ _ (by simp), d3, d1]; exact c1
      · simp [go_sem]; rw [f2, f0]; exact z0
      · simp [go_sem]; rw [f3, f1]; exact z1
      · rw [HE.out.1]; exact HV2.out.setFar (a := ⟨M, o, none⟩) hn2 _
      · rw [HE.out.2]
        exact (((HS1.out.below (Below.alloc (Below.refl _ _) (Nat.le_refl _) _)).grown HG2.out (fun e => HGM.out e.symm)).setCell (by exact m3) _)
      · intro k hk h1 h2 h3
        have e1 : (w2.setCell ⟨M, o, none⟩ (.slice a2 (gray.length + 1) c2)).heap[k]? = w2.heap[k]? := by
          simp only [World.setCell, Array.getElem?_modify]
          rw [if_neg (by omega)]
        rw [e1, HG2.out.block k (by simp; omega) (fun e => h3 e.symm), World.alloc]
        simp only [Array.getElem?_push]
        rw [if_neg (by omega)]
        exact HG1.out.block k hk (by simpa using h2)
      · intro k hk h1
        exact moved_ne HM2.out (by rw [World.size_alloc]; omega) h1
      · intro i hi
        rw [World.cell?_setCell_other _ _ _ _ (by simp only [ne_eq, Addr.mk.injEq]; omega), (grown_cell HG2.out (i := i) (M := M) (by rw [World.size_alloc]; omega) (fun e => HGM2.out e.symm)).1]
        rw [Below.cell ((Below.refl w1.heap.size w1).alloc (Nat.le_refl _) _) (by exact Nat.lt_of_lt_of_le hMs hsz1)]
        exact (grown_cell HG1.out (i := i) hMs (by simp; omega)).1
      · intro i
        rw [frozen_setCell_any, (grown_cell HG2.out (i := i) (M := M) (by rw [World.size_alloc]; omega) (fun e => HGM2.out e.symm)).2]
        rw [Below.frozen ((Below.refl w1.heap.size w1).alloc (Nat.le_refl _) _) (by exact Nat.lt_of_lt_of_le hMs hsz1)]
        exact (grown_cell HG1.out (i := i) hMs (by simp; omega)).2
end Go.Proofs.Ytbeilcaadpopmab
