/- Plain: what is reached can be closed up. -/
import Derived.Test.YtbeilcaadpopmabCt
import Derived.Test.YtbeilcaadpopmabRp
import Derived.Test.YtbeilcaadpopmabCp
set_option linter.unusedVariables false
set_option linter.unusedSimpArgs false
namespace Go.Proofs.Ytbeilcaadpopmab
open Go.RowKit

theorem cvts_some {ms : List (Nat × Nat)} : ∀ (ws : List Int), (∀ x ∈ ws, ∃ y, cvt ms x = some y) → ∃ ys, cvts ms ws = some ys
  | [], _ => ⟨[], rfl⟩
  | x :: ws, h => by
    obtain ⟨y, hy⟩ := h x (by simp)
    obtain ⟨ys, hys⟩ := cvts_some ws (fun z hz => h z (by simp [hz]))
    exact ⟨y :: ys, by simp [cvts, hy, hys]⟩
theorem outW_some {xs : List Int} {ms : List (Nat × Nat)} : ∀ (ks : List Nat), (∀ p ∈ ks, ∀ x ∈ fieldsOf xs p, ∃ y, cvt ms x = some y) → ∃ L, outW xs ms ks = some L
  | [], _ => ⟨[], rfl⟩
  | p :: ks, h => by
    obtain ⟨ys, hy⟩ := cvts_some _ (h p (by simp))
    obtain ⟨L, hL⟩ := outW_some ks (fun q hq => h q (by simp [hq]))
    exact ⟨(xs.getD p 0 :: (nf xs p : Int) :: ys) ++ L, by simp only [outW, objW, hy, hL, Option.map_some, Option.bind_some]⟩

/-- The places that are reached, as natural numbers. -/
def reachN (xs : List Int) (l : List Nat) (roots : List Int) : List Nat := l.filter fun p => decide ((p : Int) ∈ seenAll xs l roots)
theorem reachL_eq (xs : List Int) (l : List Nat) (roots : List Int) : reachL xs l roots = intsOf (reachN xs l roots) := by
  unfold reachL reachN intsOf
  rw [List.filter_map]
  rfl
theorem reachN_keep {xs : List Int} {t : Nat} {l : List Nat} (hi : HeapIs xs t l) (roots : List Int) : KeepIs l (reachN xs l roots) := by
  refine ⟨fun k hk => (List.mem_filter.1 hk).1, ?_⟩
  have := places_pair hi.2.2.2.1
  exact (this.imp (fun {a b} h => by omega)).sublist List.filter_sublist

theorem toF_mem {ms : List (Nat × Nat)} {q : Nat} (h : q ∈ ms.map (·.1)) : ∃ y, toF ms (q : Int) = some y := by
  unfold toF
  split
  · exact ⟨_, rfl⟩
  · cases hf : ms.find? (fun m => decide ((m.1 : Int) = (q : Int))) with
    | none =>
      rw [List.find?_eq_none] at hf
      obtain ⟨m, hm, rfl⟩ := List.mem_map.1 h
      exact absurd (by simp) (hf m hm)
    | some m => exact ⟨_, rfl⟩

theorem reach_closes {xs : List Int} {t : Nat} {l : List Nat} {roots : List Int} (hi : HeapIs xs t l) (hr : RootsOk l roots) : ∃ L, outW xs (mvs xs (reachN xs l roots) 1) (reachN xs l roots) = some L := by
  refine outW_some _ fun p hp x hx => ?_
  unfold cvt
  split
  · rename_i ho
    by_cases h0 : x / 2 = 0
    · rw [h0]; exact ⟨1, rfl⟩
    · have hpr : (p : Int) ∈ reachL xs l roots := by rw [reachL_eq]; exact List.mem_map.2 ⟨p, hp, rfl⟩
      have h1 := reachL_field hi hr hpr hx ho h0
      rw [reachL_eq] at h1
      obtain ⟨q, hq, e⟩ := List.mem_map.1 h1
      obtain ⟨y, hy⟩ := toF_mem (ms := mvs xs (reachN xs l roots) 1) (q := q) (by rw [mvs_fst]; exact hq)
      rw [← e]
      have hy' : toF (mvs xs (reachN xs l roots) 1) ((fun (n : Nat) => (n : Int)) q) = some y := hy
      rw [hy']
      exact ⟨_, rfl⟩
  · exact ⟨_, rfl⟩

/-- gc.Compact, where all is as it may be. -/
theorem RetClosed.good {w w' : World} {xs : List Int} {t : Nat} {l ks : List Nat} {L : List Int} {e : Ending} (h : RetClosed w xs t (intsOf ks) e w') (hi : HeapIs xs t l) (hk : KeepIs l ks) (hL : outW xs (mvs xs ks 1) ks = some L) :
    Below w.heap.size w w' ∧ ∃ ov mv, e = .returned (.tuple #[.agg #[ov, .int .i64 (topOf xs ks 1 : Nat)], mv, .int .i64 0]) ∧ OwnInts w' w.heap.size ov (padTo xs.length (0 :: L)) ∧ OwnMoves w' w.heap.size mv (mvs xs ks 1) := by
  obtain ⟨hb, ⟨hn, _⟩ | ⟨t', l', ht, hi', ⟨hn, _⟩ | ⟨ks', he, hk', ⟨hn, _⟩ | ⟨L', ov, mv, h1, rfl, h2, h3⟩⟩⟩⟩ := h
  · exact absurd ⟨t, l, rfl, hi⟩ hn
  · obtain rfl := Int.ofNat_inj.1 ht
    obtain rfl := hi.uniq hi'
    exact absurd ⟨ks, rfl, hk⟩ hn
  · obtain rfl := intsOf_inj he
    rw [hL] at hn; cases hn
  · obtain rfl := intsOf_inj he
    rw [hL] at h1
    cases h1
    exact ⟨hb, ov, mv, rfl, h2, h3⟩
end Go.Proofs.Ytbeilcaadpopmab
