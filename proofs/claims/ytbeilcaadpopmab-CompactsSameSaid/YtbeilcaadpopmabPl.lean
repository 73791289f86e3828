/- Plain: the places of a heap's objects; no program is named. -/
import Derived.Test.YtbeilcaadpopmabLib
set_option linter.unusedVariables false
set_option linter.unusedSimpArgs false
namespace Go.Proofs.Ytbeilcaadpopmab
open Go.RowKit

/-- The places from p on, in words xs with top top. -/
def plF (xs : List Int) (top : Nat) : Nat → Nat → Option (List Nat)
  | 0, p => if p < top then none else some []
  | f + 1, p => if p < top then (if top < p + 2 then none else if 0 ≤ xs.getD (p + 1) 0 ∧ xs.getD (p + 1) 0 ≤ 6 ∧ p + 2 + (xs.getD (p + 1) 0).toNat ≤ top then (plF xs top f (p + 2 + (xs.getD (p + 1) 0).toNat)).map (p :: ·) else none) else some []

def places (xs : List Int) (top : Nat) : Option (List Nat) := plF xs top 400 1

/-- What a round of the loop knows. -/
def PlInv (xs : List Int) (top : Nat) (p : Nat) (acc : List Nat) : Prop :=
  ∃ f, places xs top = (plF xs top f p).map (acc ++ ·) ∧ top ≤ p + 2 * f ∧ p ≤ top ∧ 1 ≤ p ∧ acc.length * 2 + 1 ≤ p ∧ (∀ q ∈ acc, q < p)

theorem PlInv.start {xs : List Int} {top : Nat} (h1 : 1 ≤ top) (h2 : top ≤ 400) : PlInv xs top 1 [] :=
  ⟨400, by unfold places; cases plF xs top 400 1 <;> simp, by omega, h1, by omega, by simp, by simp⟩

theorem PlInv.done {xs : List Int} {top p : Nat} {acc : List Nat} (h : PlInv xs top p acc) (hp : ¬ p < top) : places xs top = some acc := by
  obtain ⟨f, h1, _⟩ := h
  rw [h1]
  cases f <;> simp [plF, hp]

theorem PlInv.short {xs : List Int} {top p : Nat} {acc : List Nat} (h : PlInv xs top p acc) (hp : p < top) (hs : top < p + 2) : places xs top = none := by
  obtain ⟨f, h1, h2, _⟩ := h
  rw [h1]
  cases f with
  | zero => omega
  | succ f => simp [plF, hp, hs]

theorem PlInv.bad {xs : List Int} {top p : Nat} {acc : List Nat} (h : PlInv xs top p acc) (hp : p < top) (hb : ¬ (0 ≤ xs.getD (p + 1) 0 ∧ xs.getD (p + 1) 0 ≤ 6 ∧ p + 2 + (xs.getD (p + 1) 0).toNat ≤ top)) : places xs top = none := by
  obtain ⟨f, h1, h2, _⟩ := h
  rw [h1]
  cases f with
  | zero => omega
  | succ f =>
    rw [plF, if_pos hp]
    by_cases hs : top < p + 2
    · simp [hs]
    · rw [if_neg hs, if_neg hb]; rfl

theorem PlInv.step {xs : List Int} {top p m : Nat} {acc : List Nat} (h : PlInv xs top p acc) (hp : p < top) (hs : ¬ top < p + 2) (hm : xs.getD (p + 1) 0 = (m : Int)) (h6 : m ≤ 6) (ht : p + 2 + m ≤ top) : PlInv xs top (p + 2 + m) (acc ++ [p]) := by
  obtain ⟨f, h1, h2, h3, h4, h5, h7⟩ := h
  cases f with
  | zero => omega
  | succ f =>
    refine ⟨f, ?_, by omega, ht, by omega, by simp; omega, ?_⟩
    · rw [h1, plF, if_pos hp, if_neg hs, hm, if_pos ⟨by omega, by omega, by simpa using ht⟩]
      simp only [Int.toNat_natCast, Option.map_map]
      congr 1
      funext l
      simp
    · intro q hq
      rcases List.mem_append.1 hq with hq | hq
      · have := h7 q hq; omega
      · simp at hq; omega

/-- How many fields the object at p has. -/
def nf (xs : List Int) (p : Nat) : Nat := (xs.getD (p + 1) 0).toNat
/-- There is an object at p. -/
def ObjAt (xs : List Int) (top p : Nat) : Prop := 1 ≤ p ∧ xs.getD (p + 1) 0 = (nf xs p : Int) ∧ nf xs p ≤ 6 ∧ p + 2 + nf xs p ≤ top

theorem plF_spec {xs : List Int} {top : Nat} : ∀ (f p : Nat) (l : List Nat), 1 ≤ p → plF xs top f p = some l → (∀ q ∈ l, p ≤ q ∧ ObjAt xs top q) ∧ l.Pairwise (fun a b => a + 2 + nf xs a ≤ b)
  | 0, p, l, hp, h => by
    unfold plF at h
    split at h
    · cases h
    · cases h; simp
  | f + 1, p, l, hp, h => by
    unfold plF at h
    split at h
    · split at h
      · cases h
      · split at h
        · rename_i h1 h2 h3
          obtain ⟨r, hr, rfl⟩ := Option.map_eq_some_iff.1 h
          obtain ⟨i1, i2⟩ := plF_spec f _ r (by omega) hr
          refine ⟨fun q hq => ?_, List.pairwise_cons.2 ⟨fun q hq => ?_, i2⟩⟩
          · rcases List.mem_cons.1 hq with rfl | hq
            · exact ⟨Nat.le_refl _, hp, by unfold nf; omega, by unfold nf; omega, by unfold nf; omega⟩
            · have := i1 q hq
              exact ⟨by omega, this.2⟩
          · exact (i1 q hq).1
        · cases h
    · cases h; simp

theorem places_obj {xs : List Int} {top : Nat} {l : List Nat} (h : places xs top = some l) : ∀ q ∈ l, ObjAt xs top q := fun q hq => ((plF_spec _ _ _ (Nat.le_refl _) h).1 q hq).2
theorem places_pair {xs : List Int} {top : Nat} {l : List Nat} (h : places xs top = some l) : l.Pairwise (fun a b => a + 2 + nf xs a ≤ b) := (plF_spec _ _ _ (Nat.le_refl _) h).2
theorem places_len {xs : List Int} {top : Nat} {l : List Nat} (h : places xs top = some l) (ht : 1 ≤ top) : l.length * 2 + 1 ≤ top := by
  have : ∀ (f p : Nat) (l : List Nat), p ≤ top → plF xs top f p = some l → l.length * 2 + p ≤ top := by
    intro f
    induction f with
    | zero =>
      intro p l hp h
      unfold plF at h
      split at h
      · cases h
      · cases h; simpa using hp
    | succ f ih =>
      intro p l hp h
      unfold plF at h
      split at h
      · split at h
        · cases h
        · split at h
          · rename_i h1 h2 h3
            obtain ⟨r, hr, rfl⟩ := Option.map_eq_some_iff.1 h
            have := ih _ r h3.2.2 hr
            simp only [List.length_cons]
            omega
          · cases h
      · cases h; simpa using hp
  exact this _ _ _ ht h

/-- A word that may stand in a field. -/
def WordOk (l : List Nat) (x : Int) : Prop := (x % 2 = 0 → -2199023255552 ≤ x ∧ x ≤ 2199023255552) ∧ (x % 2 = 1 → x ≠ 1 → ∃ q ∈ l, x / 2 = (q : Int))
/-- The object at p is as it may be. -/
def ObjOk (xs : List Int) (l : List Nat) (p : Nat) : Prop := 0 ≤ xs.getD p 0 ∧ xs.getD p 0 ≤ 2147483648 ∧ ∀ k, k < nf xs p → WordOk l (xs.getD (p + 2 + k) 0)
/-- A heap that may be, its places l. -/
def HeapIs (xs : List Int) (top : Nat) (l : List Nat) : Prop :=
  xs.length ≤ 400 ∧ 1 ≤ top ∧ top ≤ xs.length ∧ places xs top = some l ∧ (∀ p ∈ l, ObjOk xs l p) ∧ ∀ i, top ≤ i → i < xs.length → xs.getD i 0 = 0
def HeapOk (xs : List Int) (top : Int) : Prop := ∃ (t : Nat) (l : List Nat), top = (t : Int) ∧ HeapIs xs t l

theorem heapOk_bounds {xs : List Int} {top : Int} (h : HeapOk xs top) : 1 ≤ xs.length ∧ xs.length ≤ 400 ∧ 1 ≤ top ∧ top ≤ xs.length := by
  obtain ⟨t, l, rfl, h1, h2, h3, _⟩ := h
  omega
end Go.Proofs.Ytbeilcaadpopmab
