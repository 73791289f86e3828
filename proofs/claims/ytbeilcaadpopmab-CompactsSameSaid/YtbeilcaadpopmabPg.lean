/- Plain: a heap with one object more. -/
import Derived.Test.YtbeilcaadpopmabPl
set_option linter.unusedVariables false
set_option linter.unusedSimpArgs false
namespace Go.Proofs.Ytbeilcaadpopmab
open Go.RowKit

theorem getD_set_ne {xs : List Int} {i j : Nat} {x : Int} (h : i ≠ j) : (xs.set i x).getD j 0 = xs.getD j 0 := by
  simp [List.getD, List.getElem?_set, h]
theorem getD_set_eq {xs : List Int} {i : Nat} {x : Int} (h : i < xs.length) : (xs.set i x).getD i 0 = x := by
  simp [List.getD, List.getElem?_set, h]

theorem plF_snoc {xs : List Int} {t m : Nat} (h6 : m ≤ 6) (hl : t + 2 + m ≤ xs.length) : ∀ (f p f' : Nat) (l : List Nat), plF xs t f p = some l → p ≤ t → t + 2 + m ≤ p + 2 * f' → plF (xs.set (t + 1) (m : Int)) (t + 2 + m) f' p = some (l ++ [t])
  | f, p, f', l, h, hp, hf => by
    by_cases he : p = t
    · subst he
      have hl0 : l = [] := by
        cases f <;> simp [plF] at h <;> exact h
      subst hl0
      obtain ⟨f'', rfl⟩ : ∃ k, f' = k + 1 := ⟨f' - 1, by omega⟩
      rw [plF, if_pos (by omega), if_neg (by omega), getD_set_eq (by omega), if_pos ⟨by omega, by omega, by omega⟩]
      have : plF (xs.set (p + 1) (m : Int)) (p + 2 + m) f'' (p + 2 + (m : Int).toNat) = some [] := by
        cases f'' <;> simp [plF]
      rw [this]; rfl
    · have hlt : p < t := by omega
      cases f with
      | zero => simp [plF, hlt] at h
      | succ f =>
        rw [plF, if_pos hlt] at h
        split at h
        · cases h
        · rename_i h2
          split at h
          · rename_i h3
            obtain ⟨r, hr, rfl⟩ := Option.map_eq_some_iff.1 h
            obtain ⟨f'', rfl⟩ : ∃ k, f' = k + 1 := ⟨f' - 1, by omega⟩
            have ih := plF_snoc h6 hl f _ f'' r hr h3.2.2 (by omega)
            rw [plF, if_pos (by omega), if_neg (by omega), getD_set_ne (by omega), if_pos ⟨h3.1, h3.2.1, by omega⟩, ih]
            rfl
          · cases h

theorem WordOk.mono {l l' : List Nat} {x : Int} (h : WordOk l x) (hl : ∀ q ∈ l, q ∈ l') : WordOk l' x :=
  ⟨h.1, fun h1 h2 => by obtain ⟨q, hq, e⟩ := h.2 h1 h2; exact ⟨q, hl q hq, e⟩⟩
theorem WordOk.zero (l : List Nat) : WordOk l 0 := ⟨fun _ => by omega, fun h => by omega⟩

/-- A heap with one object more. -/
theorem HeapIs.grow {xs : List Int} {t m : Nat} {l : List Nat} (h : HeapIs xs t l) (h6 : m ≤ 6) (hl : t + 2 + m ≤ xs.length) : HeapIs (xs.set (t + 1) (m : Int)) (t + 2 + m) (l ++ [t]) := by
  obtain ⟨i1, i2, i3, i4, i5, i6⟩ := h
  have hz : ∀ i, t ≤ i → i < xs.length → xs.getD i 0 = 0 := i6
  refine ⟨by simpa using i1, by omega, by simpa using hl, plF_snoc h6 hl 400 1 400 l i4 i2 (by omega), ?_, ?_⟩
  · intro p hp
    rcases List.mem_append.1 hp with hp | hp
    · obtain ⟨o1, o2, o3⟩ := i5 p hp
      obtain ⟨p1, p2, p3, p4⟩ := places_obj i4 p hp
      have hn : nf (xs.set (t + 1) (m : Int)) p = nf xs p := by unfold nf; rw [getD_set_ne (by omega)]
      refine ⟨by rw [getD_set_ne (by omega)]; exact o1, by rw [getD_set_ne (by omega)]; exact o2, fun k hk => ?_⟩
      rw [hn] at hk
      rw [getD_set_ne (by omega)]
      exact (o3 k hk).mono (fun q hq => List.mem_append_left _ hq)
    · have hpt : p = t := by simpa using hp
      subst hpt
      have hn : nf (xs.set (p + 1) (m : Int)) p = m := by unfold nf; rw [getD_set_eq (by omega)]; simp
      refine ⟨by rw [getD_set_ne (by omega), hz p (by omega) (by omega)]; omega, by rw [getD_set_ne (by omega), hz p (by omega) (by omega)]; omega, fun k hk => ?_⟩
      rw [hn] at hk
      rw [getD_set_ne (by omega), hz _ (by omega) (by omega)]
      exact WordOk.zero _
  · intro i h1 h2
    rw [List.length_set] at h2
    rw [getD_set_ne (by omega)]
    exact hz i (by omega) h2

theorem HeapIs.new {k : Nat} (h1 : 1 ≤ k) (h2 : k ≤ 400) : HeapIs (List.replicate k 0) 1 [] := by
  refine ⟨by simpa using h2, Nat.le_refl _, by simpa using h1, by simp [places, plF], by simp, fun i _ hi => ?_⟩
  rw [List.length_replicate] at hi
  simp [List.getD, List.getElem?_replicate, hi]

end Go.Proofs.Ytbeilcaadpopmab
