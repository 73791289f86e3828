/- Plain: what is reached of a heap, closed. -/
import Derived.Test.YtbeilcaadpopmabGt
set_option linter.unusedVariables false
set_option linter.unusedSimpArgs false
namespace Go.Proofs.Ytbeilcaadpopmab
open Go.RowKit

/-- The places reached from some, in their order. -/
def reachL (xs : List Int) (l : List Nat) (roots : List Int) : List Int := (intsOf l).filter fun x => decide (x ∈ seenAll xs l roots)

theorem reached_in {xs : List Int} {t : Nat} {l : List Nat} {roots : List Int} (hi : HeapIs xs t l) (hr : RootsOk l roots) {x : Int} (h : Reached xs roots x) : ∃ q ∈ l, x = (q : Int) := by
  induction h with
  | root a b => exact hr _ a b
  | step a b ih =>
    obtain ⟨q, hq, rfl⟩ := ih
    exact leads_in hi q hq _ (by simpa using b)

theorem mem_reachL {xs : List Int} {t : Nat} {l : List Nat} {roots : List Int} (hi : HeapIs xs t l) (hr : RootsOk l roots) {x : Int} : x ∈ reachL xs l roots ↔ Reached xs roots x := by
  obtain ⟨S, h2, h3⟩ := look_reached xs roots (intsOf l) (fun p hp x hx => by
    obtain ⟨q, hq, rfl⟩ := List.mem_map.1 hp
    obtain ⟨q', hq', rfl⟩ := leads_in hi q hq x (by simpa using hx)
    exact List.mem_map.2 ⟨q', hq', rfl⟩) (fun p hp h0 => by
    obtain ⟨q, hq, rfl⟩ := hr p hp h0
    exact List.mem_map.2 ⟨q, hq, rfl⟩)
  rw [intsOf_length] at h2
  have e : seenAll xs l roots = S := by unfold seenAll; rw [h2]
  unfold reachL
  rw [e, List.mem_filter, decide_eq_true_eq]
  refine ⟨fun h => (h3 x).1 h.2, fun h => ⟨?_, (h3 x).2 h⟩⟩
  obtain ⟨q, hq, rfl⟩ := reached_in hi hr h
  exact List.mem_map.2 ⟨q, hq, rfl⟩

theorem reached_mono {xs : List Int} {A B : List Int} (h : ∀ p ∈ A, p ≠ 0 → Reached xs B p) {x : Int} (hx : Reached xs A x) : Reached xs B x := by
  induction hx with
  | root a b => exact h _ a b
  | step a b ih => exact .step ih b

theorem reached_ne {xs : List Int} {A : List Int} {x : Int} (hx : Reached xs A x) : x ≠ 0 := by
  cases hx with
  | root _ b => exact b
  | step _ b => obtain ⟨w, _, _, _, h⟩ := b; exact h

theorem rootsOk_reachL {xs : List Int} {t : Nat} {l : List Nat} {roots : List Int} (hi : HeapIs xs t l) (hr : RootsOk l roots) : RootsOk l (reachL xs l roots) := fun p hp _ => reached_in hi hr ((mem_reachL hi hr).1 hp)

theorem reachL_again {xs : List Int} {t : Nat} {l : List Nat} {roots : List Int} (hi : HeapIs xs t l) (hr : RootsOk l roots) : reachL xs l (reachL xs l roots) = reachL xs l roots := by
  have h1 : ∀ x, x ∈ reachL xs l (reachL xs l roots) ↔ x ∈ reachL xs l roots := fun x => by
    rw [mem_reachL hi (rootsOk_reachL hi hr), mem_reachL hi hr]
    exact ⟨fun h => reached_mono (fun p hp _ => (mem_reachL hi hr).1 hp) h, fun h => .root ((mem_reachL hi hr).2 h) (reached_ne h)⟩
  unfold reachL at h1 ⊢
  apply List.filter_congr
  intro x hx
  have h2 := h1 x
  simp only [List.mem_filter, decide_eq_true_eq, hx, true_and] at h2
  exact decide_eq_decide.2 h2

/-- Reach, where all is as it may be. -/
theorem RetReach.good {w w' : World} {xs : List Int} {t : Nat} {l : List Nat} {roots : List Int} {e : Ending} (h : RetReach w xs t roots e w') (hi : HeapIs xs t l) (hr : RootsOk l roots) :
    Below w.heap.size w w' ∧ ∃ v, e = .returned (.tuple #[v, .int .i64 0]) ∧ OwnInts w' w.heap.size v (reachL xs l roots) := by
  obtain ⟨hb, ⟨hn, _⟩ | ⟨t', l', ht, hi', ⟨hn, _⟩ | ⟨_, v, rfl, hv⟩⟩⟩ := h
  · exact absurd ⟨t, l, rfl, hi⟩ hn
  · obtain rfl := Int.ofNat_inj.1 ht
    obtain rfl := hi.uniq hi'
    exact absurd hr hn
  · obtain rfl := Int.ofNat_inj.1 ht
    obtain rfl := hi.uniq hi'
    exact ⟨hb, v, rfl, hv⟩

/-- A small heap. -/
theorem heap_two : HeapIs [0, 0, 0, 0, 1, 3] 6 [1, 3] := by
  refine ⟨by decide, by decide, by decide, rfl, ?_, ?_⟩
  · intro p hp
    simp only [List.mem_cons, List.not_mem_nil, or_false] at hp
    rcases hp with rfl | rfl
    · exact ⟨by decide, by decide, fun k hk => absurd hk (by show ¬ k < 0; omega)⟩
    · refine ⟨by decide, by decide, fun k hk => ?_⟩
      have : k = 0 := by have h : k < 1 := hk; omega
      subst this
      exact ⟨fun h => absurd h (by decide), fun _ _ => ⟨1, by simp, by decide⟩⟩
  · intro i h1 h2
    simp at h2
    omega
theorem roots_two : RootsOk [1, 3] [3] := fun p hp _ => ⟨3, by simp, by simpa using hp⟩
theorem reach_two : reachL [0, 0, 0, 0, 1, 3] [1, 3] [3] = [1, 3] := by decide

/-- What an object's word leads to is reached, too. -/
theorem reachL_field {xs : List Int} {t : Nat} {l : List Nat} {roots : List Int} (hi : HeapIs xs t l) (hr : RootsOk l roots) {p : Nat} (hp : (p : Int) ∈ reachL xs l roots) {x : Int} (hx : x ∈ fieldsOf xs p) (h1 : x % 2 = 1) (h2 : x / 2 ≠ 0) : x / 2 ∈ reachL xs l roots :=
  (mem_reachL hi hr).2 (.step ((mem_reachL hi hr).1 hp) ⟨x, by simpa using hx, h1, rfl, h2⟩)
theorem reachL_root {xs : List Int} {t : Nat} {l : List Nat} {roots : List Int} (hi : HeapIs xs t l) (hr : RootsOk l roots) {p : Int} (hp : p ∈ roots) (h0 : p ≠ 0) : p ∈ reachL xs l roots := (mem_reachL hi hr).2 (.root hp h0)
theorem reachL_sub {xs : List Int} {t : Nat} {l : List Nat} {A B : List Int} (hi : HeapIs xs t l) (hA : RootsOk l A) (hB : RootsOk l B) (h : ∀ p ∈ A, p ∈ B) {x : Int} (hx : x ∈ reachL xs l A) : x ∈ reachL xs l B :=
  (mem_reachL hi hB).2 (reached_mono (fun p hp h0 => .root (h p hp) h0) ((mem_reachL hi hA).1 hx))
end Go.Proofs.Ytbeilcaadpopmab
