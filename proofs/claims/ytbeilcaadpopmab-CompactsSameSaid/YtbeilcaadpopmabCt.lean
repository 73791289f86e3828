/- Plain: a heap that is closed up already stays as it is. -/
import Derived.Test.YtbeilcaadpopmabCs
set_option linter.unusedVariables false
set_option linter.unusedSimpArgs false
namespace Go.Proofs.Ytbeilcaadpopmab
open Go.RowKit

/-- The words of a heap that is laid out as objects. -/
theorem heapOf_at {n : Nat} {bs : List Blk} (i : Nat) (h : i < bs.length) (h' : i < (starts 1 bs).length) :
    (heapOf n bs).getD (starts 1 bs)[i] 0 = bs[i].1 ∧ nf (heapOf n bs) (starts 1 bs)[i] = bs[i].2.length ∧ (heapOf n bs).getD ((starts 1 bs)[i] + 1) 0 = (bs[i].2.length : Int) ∧
      (∀ k (hk : k < bs[i].2.length), (heapOf n bs).getD ((starts 1 bs)[i] + 2 + k) 0 = bs[i].2[k]) ∧ (starts 1 bs)[i] + 2 + bs[i].2.length ≤ 1 + (enc bs).length := by
  obtain ⟨a1, a2, a3, _, a5⟩ := at_start bs [0] (List.replicate (n - 1 - (enc bs).length) 0) i h h'
  have a2' : (heapOf n bs).getD ((starts 1 bs)[i] + 1) 0 = (bs[i].2.length : Int) := a2
  refine ⟨a1, ?_, a2', a3, a5⟩
  unfold nf
  rw [a2', Int.toNat_natCast]

theorem heapOf_fields {n : Nat} {bs : List Blk} (hn : 1 + (enc bs).length ≤ n) (i : Nat) (h : i < bs.length) (h' : i < (starts 1 bs).length) : fieldsOf (heapOf n bs) (starts 1 bs)[i] = bs[i].2 := by
  obtain ⟨_, a2, _, a4, a5⟩ := heapOf_at (n := n) i h h'
  have hl := heapOf_len hn
  refine List.ext_getElem ?_ fun k h1 h2 => ?_
  · unfold fieldsOf; rw [a2]; simp; omega
  · have := a4 k h2
    simp only [fieldsOf, List.getElem_take, List.getElem_drop]
    rw [← this, List.getD_eq_getElem?_getD, List.getElem?_eq_getElem (by omega)]
    rfl

theorem mvs_self (xs : List Int) : ∀ (bs : List Blk) (s : Nat), (∀ i (h : i < bs.length) (h' : i < (starts s bs).length), nf xs (starts s bs)[i] = bs[i].2.length) →
    mvs xs (starts s bs) s = (starts s bs).map (fun p => (p, p)) ∧ topOf xs (starts s bs) s = s + (enc bs).length
  | [], s, _ => ⟨rfl, by simp [starts, topOf, enc]⟩
  | b :: bs, s, h => by
    have h0 : nf xs s = b.2.length := h 0 (by simp) (by simp [starts])
    obtain ⟨i1, i2⟩ := mvs_self xs bs (s + 2 + b.2.length) (fun i hi hi' => h (i + 1) (by simpa using hi) (by simpa [starts] using hi'))
    simp only [starts, mvs, topOf, List.map_cons, h0]
    rw [show s + (2 + b.2.length) = s + 2 + b.2.length by omega, i1, i2, enc_cons]
    refine ⟨rfl, by simp; omega⟩

theorem toF_self {l : List Nat} {q : Nat} (h : q ∈ l) (h0 : ∀ p ∈ l, p ≠ 0) : toF (l.map fun p => (p, p)) (q : Int) = some (q : Int) := by
  unfold toF
  rw [if_neg (by have := h0 q h; omega)]
  cases hf : (l.map fun p => (p, p)).find? (fun m => decide ((m.1 : Int) = (q : Int))) with
  | none =>
    rw [List.find?_eq_none] at hf
    exact absurd (by simp) (hf (q, q) (List.mem_map.2 ⟨q, h, rfl⟩))
  | some m =>
    have h1 := List.find?_some hf
    have h2 := List.mem_of_find?_eq_some hf
    obtain ⟨p, _, rfl⟩ := List.mem_map.1 h2
    have : (p : Int) = (q : Int) := by simpa using h1
    rw [Option.map_some, this]

theorem cvt_self {l : List Nat} {x : Int} (h : WordOk l x) (h0 : ∀ p ∈ l, p ≠ 0) : cvt (l.map fun p => (p, p)) x = some x := by
  unfold cvt
  split
  · rename_i ho
    by_cases h1 : x = 1
    · subst h1
      rfl
    · obtain ⟨q, hq, e⟩ := h.2 ho h1
      rw [e, toF_self hq h0]
      simp only [Option.map_some, ← e]
      congr 1
      omega
  · rfl

theorem cvts_self {l : List Nat} (h0 : ∀ p ∈ l, p ≠ 0) : ∀ (ws : List Int), (∀ x ∈ ws, WordOk l x) → cvts (l.map fun p => (p, p)) ws = some ws
  | [], _ => rfl
  | x :: ws, h => by
    simp only [cvts, cvt_self (h x (by simp)) h0, cvts_self h0 ws (fun y hy => h y (by simp [hy]))]
    rfl

theorem outW_self {xs : List Int} {ms : List (Nat × Nat)} : ∀ (bs : List Blk) (ks : List Nat), ks.length = bs.length →
    (∀ i (h : i < bs.length) (h' : i < ks.length), xs.getD ks[i] 0 = bs[i].1 ∧ nf xs ks[i] = bs[i].2.length ∧ cvts ms (fieldsOf xs ks[i]) = some bs[i].2) → outW xs ms ks = some (enc bs)
  | [], ks, hl, _ => by
    obtain rfl : ks = [] := List.eq_nil_of_length_eq_zero hl
    rfl
  | b :: bs, ks, hl, h => by
    cases ks with
    | nil => simp at hl
    | cons p ks =>
      obtain ⟨h1, h2, h3⟩ := h 0 (by simp) (by simp)
      simp only [List.getElem_cons_zero] at h1 h2 h3
      have ih := outW_self bs ks (by simpa using hl) (fun i hi hi' => h (i + 1) (by simpa using hi) (by simpa using hi'))
      simp only [outW, objW, h3, ih, Option.map_some, Option.bind_some, h1, h2]
      rw [enc_cons]

/-- Closing up a heap that is closed up: nothing moves. -/
theorem closed_again {n : Nat} {bs : List Blk} (hn : 1 + (enc bs).length ≤ n) (hi : HeapIs (heapOf n bs) (1 + (enc bs).length) (starts 1 bs)) :
    mvs (heapOf n bs) (starts 1 bs) 1 = (starts 1 bs).map (fun p => (p, p)) ∧ topOf (heapOf n bs) (starts 1 bs) 1 = 1 + (enc bs).length ∧ outW (heapOf n bs) (mvs (heapOf n bs) (starts 1 bs) 1) (starts 1 bs) = some (enc bs) := by
  obtain ⟨m1, m2⟩ := mvs_self (heapOf n bs) bs 1 (fun i h h' => (heapOf_at i h h').2.1)
  refine ⟨m1, m2, ?_⟩
  rw [m1]
  have h0 : ∀ p ∈ starts 1 bs, p ≠ 0 := fun p hp => by have := (places_obj hi.2.2.2.1 p hp).1; omega
  refine outW_self bs (starts 1 bs) (starts_len 1 bs) fun i h h' => ?_
  obtain ⟨a1, a2, _, a4, _⟩ := heapOf_at (n := n) i h h'
  refine ⟨a1, a2, ?_⟩
  rw [heapOf_fields hn i h h']
  refine cvts_self h0 _ fun x hx => ?_
  obtain ⟨k, hk, rfl⟩ := List.mem_iff_getElem.1 hx
  have := (hi.2.2.2.2.1 _ (List.getElem_mem h')).2.2 k (by rw [a2]; exact hk)
  rwa [a4 k hk] at this
end Go.Proofs.Ytbeilcaadpopmab
