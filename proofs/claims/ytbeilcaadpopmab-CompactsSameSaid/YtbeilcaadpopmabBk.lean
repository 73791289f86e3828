/- Plain: a heap as its objects one after the other; no program is named. -/
import Derived.Test.YtbeilcaadpopmabPl
set_option linter.unusedVariables false
set_option linter.unusedSimpArgs false
namespace Go.Proofs.Ytbeilcaadpopmab
open Go.RowKit

/-- An object: its state and its fields' words. -/
abbrev Blk := Int × List Int
def enc (bs : List Blk) : List Int := bs.flatMap fun b => b.1 :: (b.2.length : Int) :: b.2
def starts : Nat → List Blk → List Nat
  | _, [] => []
  | s, b :: bs => s :: starts (s + 2 + b.2.length) bs

theorem enc_cons (b : Blk) (bs : List Blk) : enc (b :: bs) = (b.1 :: (b.2.length : Int) :: b.2) ++ enc bs := by simp [enc]
theorem enc_append (a b : List Blk) : enc (a ++ b) = enc a ++ enc b := by simp [enc]
theorem starts_len : ∀ (s : Nat) (bs : List Blk), (starts s bs).length = bs.length
  | _, [] => rfl
  | s, b :: bs => by simp [starts, starts_len]
theorem starts_append : ∀ (s : Nat) (a b : List Blk), starts s (a ++ b) = starts s a ++ starts (s + (enc a).length) b
  | s, [], b => by simp [starts, enc]
  | s, x :: a, b => by
    simp only [List.cons_append, starts, starts_append (s + 2 + x.2.length) a b, enc_cons, List.length_append, List.length_cons]
    congr 3
    omega

/-- The words at an object's place. -/
theorem at_start : ∀ (bs : List Blk) (pre post : List Int) (i : Nat) (h : i < bs.length) (h' : i < (starts pre.length bs).length),
    (pre ++ (enc bs ++ post)).getD (starts pre.length bs)[i] 0 = bs[i].1 ∧ (pre ++ (enc bs ++ post)).getD ((starts pre.length bs)[i] + 1) 0 = (bs[i].2.length : Int) ∧
      (∀ k (hk : k < bs[i].2.length), (pre ++ (enc bs ++ post)).getD ((starts pre.length bs)[i] + 2 + k) 0 = bs[i].2[k]) ∧ pre.length ≤ (starts pre.length bs)[i] ∧ (starts pre.length bs)[i] + 2 + bs[i].2.length ≤ pre.length + (enc bs).length
  | [], pre, post, i, h, _ => by simp at h
  | b :: bs, pre, post, 0, _, _ => by
    simp only [starts, List.getElem_cons_zero, enc_cons]
    refine ⟨?_, ?_, fun k hk => ?_, Nat.le_refl _, by simp; omega⟩
    · simp [List.getD_eq_getElem?_getD]
    · simp [List.getD_eq_getElem?_getD, List.getElem?_append_right]
    · rw [List.getD_eq_getElem?_getD, List.getElem?_append_right (by omega)]
      rw [show pre.length + 2 + k - pre.length = k + 1 + 1 by omega]
      simp [List.getElem?_append_left hk, List.getElem?_eq_getElem hk]
  | b :: bs, pre, post, i + 1, h, h' => by
    have e1 : pre ++ (enc (b :: bs) ++ post) = (pre ++ (b.1 :: (b.2.length : Int) :: b.2)) ++ (enc bs ++ post) := by simp [enc_cons]
    have e2 : (pre ++ (b.1 :: (b.2.length : Int) :: b.2)).length = pre.length + 2 + b.2.length := by simp; omega
    have := at_start bs (pre ++ (b.1 :: (b.2.length : Int) :: b.2)) post i (by simpa using h) (by rw [starts_len]; simpa using h)
    simp only [e2] at this
    rw [e1]
    simp only [starts, List.getElem_cons_succ]
    refine ⟨this.1, this.2.1, this.2.2.1, by have := this.2.2.2.1; omega, ?_⟩
    have h2 := this.2.2.2.2
    rw [enc_cons, List.length_append]
    simp only [List.length_cons]
    omega

theorem plF_blocks : ∀ (bs : List Blk) (pre post : List Int) (f : Nat), (∀ b ∈ bs, b.2.length ≤ 6) → (enc bs).length ≤ 2 * f →
    plF (pre ++ (enc bs ++ post)) (pre.length + (enc bs).length) f pre.length = some (starts pre.length bs)
  | [], pre, post, f, _, _ => by
    cases f <;> simp [plF, enc, starts]
  | b :: bs, pre, post, f, h6, hf => by
    have hlen : (enc (b :: bs)).length = 2 + b.2.length + (enc bs).length := by rw [enc_cons, List.length_append]; simp; omega
    cases f with
    | zero => omega
    | succ f =>
      obtain ⟨_, a2, _⟩ := at_start (b :: bs) pre post 0 (by simp) (by simp [starts])
      simp only [starts, List.getElem_cons_zero] at a2
      have h1 := h6 b (by simp)
      rw [plF, if_pos (by omega), if_neg (by omega), a2, if_pos ⟨by omega, by omega, by rw [Int.toNat_natCast]; omega⟩, Int.toNat_natCast]
      have e1 : pre ++ (enc (b :: bs) ++ post) = (pre ++ (b.1 :: (b.2.length : Int) :: b.2)) ++ (enc bs ++ post) := by simp [enc_cons]
      have e2 : (pre ++ (b.1 :: (b.2.length : Int) :: b.2)).length = pre.length + 2 + b.2.length := by simp; omega
      have ih := plF_blocks bs (pre ++ (b.1 :: (b.2.length : Int) :: b.2)) post f (fun x hx => h6 x (by simp [hx])) (by omega)
      rw [e2] at ih
      rw [e1, hlen, show pre.length + (2 + b.2.length + (enc bs).length) = pre.length + 2 + b.2.length + (enc bs).length by omega, ih]
      rfl

/-- The whole heap. -/
def heapOf (n : Nat) (bs : List Blk) : List Int := 0 :: (enc bs ++ List.replicate (n - 1 - (enc bs).length) 0)
theorem heapOf_len {n : Nat} {bs : List Blk} (h : 1 + (enc bs).length ≤ n) : (heapOf n bs).length = n := by simp [heapOf]; omega

theorem heapOf_is {n : Nat} {bs : List Blk} (h6 : ∀ b ∈ bs, b.2.length ≤ 6) (hl : 1 + (enc bs).length ≤ n) (hn : n ≤ 400) (hst : ∀ b ∈ bs, 0 ≤ b.1 ∧ b.1 ≤ 2147483648) (hw : ∀ b ∈ bs, ∀ x ∈ b.2, WordOk (starts 1 bs) x) :
    HeapIs (heapOf n bs) (1 + (enc bs).length) (starts 1 bs) := by
  refine ⟨by rw [heapOf_len hl]; exact hn, by omega, by rw [heapOf_len hl]; exact hl, ?_, fun p hp => ?_, fun i h1 h2 => ?_⟩
  · exact plF_blocks bs [0] _ 400 h6 (by omega)
  · obtain ⟨i, hi, rfl⟩ := List.mem_iff_getElem.1 hp
    have hi' : i < bs.length := by rwa [starts_len] at hi
    have hm : bs[i] ∈ bs := List.getElem_mem hi'
    obtain ⟨a1, a2, a3, _⟩ := at_start bs [0] (List.replicate (n - 1 - (enc bs).length) 0) i hi' hi
    have e : ∀ j, (heapOf n bs).getD j 0 = ([0] ++ (enc bs ++ List.replicate (n - 1 - (enc bs).length) 0)).getD j 0 := fun j => rfl
    refine ⟨?_, ?_, fun k hk => ?_⟩
    · rw [e]; exact a1 ▸ (hst _ hm).1
    · rw [e]; exact a1 ▸ (hst _ hm).2
    · have hk' : k < bs[i].2.length := by
        unfold nf at hk
        rw [e] at hk
        have : ([0] ++ (enc bs ++ List.replicate (n - 1 - (enc bs).length) 0)).getD ((starts 1 bs)[i] + 1) 0 = (bs[i].2.length : Int) := a2
        rw [this] at hk
        simpa using hk
      rw [e]
      have h3 := a3 k hk'
      have h4 : ([0] ++ (enc bs ++ List.replicate (n - 1 - (enc bs).length) 0)).getD ((starts 1 bs)[i] + 2 + k) 0 = bs[i].2[k] := h3
      rw [h4]
      exact hw _ hm _ (List.getElem_mem hk')
  · rw [heapOf_len hl] at h2
    unfold heapOf
    obtain ⟨j, rfl⟩ : ∃ j, i = j + 1 := ⟨i - 1, by omega⟩
    rw [List.getD_cons_succ, List.getD_eq_getElem?_getD, List.getElem?_append_right (by omega), List.getElem?_replicate]
    split <;> rfl
end Go.Proofs.Ytbeilcaadpopmab
