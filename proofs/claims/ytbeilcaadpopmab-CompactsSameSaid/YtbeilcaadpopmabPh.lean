/- Plain: a heap whose words are changed in place. -/
import Derived.Test.YtbeilcaadpopmabPg
set_option linter.unusedVariables false
set_option linter.unusedSimpArgs false
namespace Go.Proofs.Ytbeilcaadpopmab
open Go.RowKit

theorem plF_congr {xs xs' : List Int} {top : Nat} : ∀ (f p : Nat) (l : List Nat), plF xs top f p = some l → (∀ q ∈ l, xs'.getD (q + 1) 0 = xs.getD (q + 1) 0) → plF xs' top f p = some l
  | 0, p, l, h, _ => h
  | f + 1, p, l, h, he => by
    rw [plF] at h ⊢
    split at h
    · rename_i h1
      rw [if_pos h1]
      split at h
      · cases h
      · rename_i h2
        rw [if_neg h2]
        split at h
        · rename_i h3
          obtain ⟨r, hr, rfl⟩ := Option.map_eq_some_iff.1 h
          have hp := he p (by simp)
          rw [hp, if_pos h3, plF_congr f _ r hr (fun q hq => he q (by simp [hq]))]
          rfl
        · cases h
    · rename_i h1
      rw [if_neg h1]; exact h

theorem places_sep {xs : List Int} {t : Nat} {l : List Nat} (h : places xs t = some l) {p q : Nat} (hp : p ∈ l) (hq : q ∈ l) : p = q ∨ p + 2 + nf xs p ≤ q ∨ q + 2 + nf xs q ≤ p := by
  have h1 := places_pair h
  obtain ⟨i, hi, rfl⟩ := List.mem_iff_getElem.1 hp
  obtain ⟨j, hj, rfl⟩ := List.mem_iff_getElem.1 hq
  rcases Nat.lt_trichotomy i j with h | h | h
  · exact .inr (.inl (List.pairwise_iff_getElem.1 h1 i j hi hj h))
  · subst h; exact .inl rfl
  · exact .inr (.inr (List.pairwise_iff_getElem.1 h1 j i hj hi h))

theorem HeapIs.congr {xs xs' : List Int} {t : Nat} {l : List Nat} (h : HeapIs xs t l) (hl : xs'.length = xs.length) (h1 : ∀ q ∈ l, xs'.getD (q + 1) 0 = xs.getD (q + 1) 0)
    (h2 : ∀ q ∈ l, 0 ≤ xs'.getD q 0 ∧ xs'.getD q 0 ≤ 2147483648) (h3 : ∀ q ∈ l, ∀ k, k < nf xs q → WordOk l (xs'.getD (q + 2 + k) 0)) (h4 : ∀ i, t ≤ i → i < xs.length → xs'.getD i 0 = 0) : HeapIs xs' t l := by
  obtain ⟨i1, i2, i3, i4, i5, i6⟩ := h
  refine ⟨by omega, i2, by omega, plF_congr _ _ _ i4 h1, fun p hp => ⟨(h2 p hp).1, (h2 p hp).2, fun k hk => h3 p hp k ?_⟩, fun i hi hi2 => h4 i hi (by omega)⟩
  have : nf xs' p = nf xs p := by unfold nf; rw [h1 p hp]
  omega

/-- A field's word is another. -/
theorem HeapIs.setField {xs : List Int} {t : Nat} {l : List Nat} (h : HeapIs xs t l) {q k : Nat} {x : Int} (hq : q ∈ l) (hk : k < nf xs q) (hw : WordOk l x) : HeapIs (xs.set (q + 2 + k) x) t l := by
  have hs := fun p hp => places_sep h.2.2.2.1 (p := p) hp hq
  have ho := places_obj h.2.2.2.1 q hq
  obtain ⟨o1, o2, o3, o4⟩ := ho
  refine h.congr (by simp) (fun p hp => ?_) (fun p hp => ?_) (fun p hp j hj => ?_) (fun i hi hi2 => ?_)
  · rw [getD_set_ne]; rcases hs p hp with h | h | h <;> omega
  · rw [getD_set_ne (by rcases hs p hp with h | h | h <;> omega)]
    exact ⟨(h.2.2.2.2.1 p hp).1, (h.2.2.2.2.1 p hp).2.1⟩
  · by_cases e : q + 2 + k = p + 2 + j
    · rw [← e, getD_set_eq (by have := h.2.2.1; omega)]; exact hw
    · rw [getD_set_ne e]; exact (h.2.2.2.2.1 p hp).2.2 j hj
  · rw [getD_set_ne (by omega)]; exact h.2.2.2.2.2 i hi hi2

/-- An object's state is another. -/
theorem HeapIs.setState {xs : List Int} {t : Nat} {l : List Nat} (h : HeapIs xs t l) {q : Nat} {x : Int} (hq : q ∈ l) (hx : 0 ≤ x) (hx2 : x ≤ 2147483648) : HeapIs (xs.set q x) t l := by
  have hs := fun p hp => places_sep h.2.2.2.1 (p := p) hp hq
  obtain ⟨o1, o2, o3, o4⟩ := places_obj h.2.2.2.1 q hq
  refine h.congr (by simp) (fun p hp => ?_) (fun p hp => ?_) (fun p hp j hj => ?_) (fun i hi hi2 => ?_)
  · rw [getD_set_ne]; rcases hs p hp with h | h | h <;> omega
  · by_cases e : q = p
    · subst e; rw [getD_set_eq (by have := h.2.2.1; omega)]; exact ⟨hx, hx2⟩
    · rw [getD_set_ne e]; exact ⟨(h.2.2.2.2.1 p hp).1, (h.2.2.2.2.1 p hp).2.1⟩
  · rw [getD_set_ne (by rcases hs p hp with h | h | h <;> omega)]; exact (h.2.2.2.2.1 p hp).2.2 j hj
  · rw [getD_set_ne (by omega)]; exact h.2.2.2.2.2 i hi hi2
end Go.Proofs.Ytbeilcaadpopmab
