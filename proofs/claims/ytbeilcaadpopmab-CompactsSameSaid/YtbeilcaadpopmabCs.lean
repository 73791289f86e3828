/- Plain: a closed-up heap as its objects. -/
import Derived.Test.YtbeilcaadpopmabCq
import Derived.Test.YtbeilcaadpopmabBk
set_option linter.unusedVariables false
set_option linter.unusedSimpArgs false
namespace Go.Proofs.Ytbeilcaadpopmab
open Go.RowKit

theorem blocks_of_out {xs : List Int} {ms : List (Nat × Nat)} : ∀ (ks : List Nat) (L : List Int), (∀ p ∈ ks, (fieldsOf xs p).length = nf xs p) → outW xs ms ks = some L →
    ∃ bs : List Blk, L = enc bs ∧ bs.length = ks.length ∧ ∀ i (h : i < ks.length) (h' : i < bs.length), bs[i].1 = xs.getD ks[i] 0 ∧ cvts ms (fieldsOf xs ks[i]) = some bs[i].2 ∧ bs[i].2.length = nf xs ks[i]
  | [], L, _, h => by simp [outW] at h; subst h; exact ⟨[], rfl, rfl, fun i h => by simp at h⟩
  | p :: ks, L, hf, h => by
    simp only [outW] at h
    cases h1 : objW xs ms p with
    | none => rw [h1] at h; simp at h
    | some a =>
      cases h2 : outW xs ms ks with
      | none => rw [h1, h2] at h; simp at h
      | some b =>
        rw [h1, h2] at h
        simp at h
        subst h
        obtain ⟨bs, rfl, hl, hb⟩ := blocks_of_out ks b (fun q hq => hf q (by simp [hq])) h2
        unfold objW at h1
        obtain ⟨ys, hy, rfl⟩ := Option.map_eq_some_iff.1 h1
        have hyl := cvts_len ms _ _ hy
        rw [hf p (by simp)] at hyl
        refine ⟨(xs.getD p 0, ys) :: bs, ?_, by simp [hl], fun i hi hi' => ?_⟩
        · rw [enc_cons, hyl]
        · cases i with
          | zero => exact ⟨rfl, hy, hyl⟩
          | succ i => exact hb i (by simpa using hi) (by simpa using hi')

theorem starts_mvs (xs : List Int) : ∀ (ks : List Nat) (s : Nat) (bs : List Blk), bs.length = ks.length → (∀ i (h : i < ks.length) (h' : i < bs.length), bs[i].2.length = nf xs ks[i]) → starts s bs = (mvs xs ks s).map (·.2)
  | [], s, bs, hl, _ => by
    obtain rfl : bs = [] := List.eq_nil_of_length_eq_zero hl
    rfl
  | p :: ks, s, bs, hl, h => by
    cases bs with
    | nil => simp at hl
    | cons b bs =>
      have h0 : b.2.length = nf xs p := h 0 (by simp) (by simp)
      simp only [starts, mvs, List.map_cons]
      rw [starts_mvs xs ks _ bs (by simpa using hl) (fun i hi hi' => h (i + 1) (by simpa using hi) (by simpa using hi')), h0]
      congr 3
      omega

theorem cvts_at {ms : List (Nat × Nat)} : ∀ (a ya : List Int), cvts ms a = some ya → ∀ k (h : k < a.length) (h' : k < ya.length), cvt ms a[k] = some ya[k]
  | [], ya, _, k, h, _ => by simp at h
  | x :: a, ya, he, k, h, h' => by
    simp only [cvts] at he
    cases h1 : cvt ms x with
    | none => rw [h1] at he; simp at he
    | some y =>
      cases h2 : cvts ms a with
      | none => rw [h1, h2] at he; simp at he
      | some ys =>
        rw [h1, h2] at he
        simp at he
        subst he
        cases k with
        | zero => exact h1
        | succ k => exact cvts_at a ys h2 k (by simpa using h) (by simpa using h')

theorem toF_in {ms : List (Nat × Nat)} {x y : Int} (h : toF ms x = some y) : (x = 0 ∧ y = 0) ∨ ∃ m ∈ ms, (m.1 : Int) = x ∧ (m.2 : Int) = y := by
  unfold toF at h
  split at h
  · rename_i h0; cases h; exact .inl ⟨h0, rfl⟩
  · obtain ⟨m, hm, rfl⟩ := Option.map_eq_some_iff.1 h
    exact .inr ⟨m, List.mem_of_find?_eq_some hm, by simpa using List.find?_some hm, rfl⟩

/-- A closed-up heap may be; its places are where the moves lead. -/
theorem closed_is {xs : List Int} {t : Nat} {l ks : List Nat} {L : List Int} (hi : HeapIs xs t l) (hk : KeepIs l ks) (h : outW xs (mvs xs ks 1) ks = some L) :
    ∃ bs : List Blk, L = enc bs ∧ bs.length = ks.length ∧ starts 1 bs = (mvs xs ks 1).map (·.2) ∧ topOf xs ks 1 = 1 + (enc bs).length ∧ padTo xs.length (0 :: L) = heapOf xs.length bs ∧
      (∀ i (h : i < ks.length) (h' : i < bs.length), bs[i].1 = xs.getD ks[i] 0 ∧ cvts (mvs xs ks 1) (fieldsOf xs ks[i]) = some bs[i].2 ∧ bs[i].2.length = nf xs ks[i]) ∧
      HeapIs (heapOf xs.length bs) (1 + (enc bs).length) (starts 1 bs) := by
  have hf : ∀ p ∈ ks, (fieldsOf xs p).length = nf xs p := fun p hp => fields_len hi p (hk.1 p hp)
  obtain ⟨bs, rfl, hl, hb⟩ := blocks_of_out ks L hf h
  have hs := starts_mvs xs ks 1 bs hl (fun i a b => (hb i a b).2.2)
  have ht := outW_len ks (enc bs) 1 hf h
  have hle := keep_top hi hk
  have hlen := hi.2.2.1
  refine ⟨bs, rfl, hl, hs, ht.symm, ?_, hb, ?_⟩
  · simp only [padTo, heapOf, List.cons_append, List.length_cons]
    congr 3
    omega
  · refine heapOf_is (fun b hm => ?_) (by omega) hi.1 (fun b hm => ?_) (fun b hm x hx => ?_)
    · obtain ⟨i, hi', rfl⟩ := List.mem_iff_getElem.1 hm
      have h1 := hb i (by omega) hi'
      have h2 := places_obj hi.2.2.2.1 ks[i] (hk.1 _ (List.getElem_mem (by omega)))
      obtain ⟨_, _, h3, _⟩ := h2
      omega
    · obtain ⟨i, hi', rfl⟩ := List.mem_iff_getElem.1 hm
      have h1 := hb i (by omega) hi'
      have h2 := hi.2.2.2.2.1 ks[i] (hk.1 _ (List.getElem_mem (by omega)))
      rw [h1.1]
      exact ⟨h2.1, h2.2.1⟩
    · obtain ⟨i, hi', rfl⟩ := List.mem_iff_getElem.1 hm
      obtain ⟨k, hk', rfl⟩ := List.mem_iff_getElem.1 hx
      have hil : i < ks.length := by omega
      obtain ⟨h1, h2, h3⟩ := hb i hil hi'
      have hkm := hk.1 _ (List.getElem_mem hil)
      have hfl := hf _ (List.getElem_mem hil)
      have hcv := cvts_at _ _ h2 k (by omega) hk'
      have hok := (hi.2.2.2.2.1 _ hkm).2.2 k (by omega)
      have hfe : (fieldsOf xs ks[i])[k]'(by omega) = xs.getD (ks[i] + 2 + k) 0 := by
        obtain ⟨_, _, _, o4⟩ := places_obj hi.2.2.2.1 _ hkm
        simp only [fieldsOf, List.getElem_take, List.getElem_drop]
        rw [List.getD_eq_getElem?_getD, List.getElem?_eq_getElem (by omega)]
        rfl
      rw [hfe] at hcv
      unfold cvt at hcv
      split at hcv
      · obtain ⟨y, hy, e⟩ := Option.map_eq_some_iff.1 hcv
        rw [← e]
        refine ⟨fun h => by omega, fun _ hne => ?_⟩
        rcases toF_in hy with ⟨_, rfl⟩ | ⟨m, hm', _, rfl⟩
        · omega
        · refine ⟨m.2, ?_, by omega⟩
          rw [hs]
          exact List.mem_map.2 ⟨m, hm', rfl⟩
      · rename_i hne
        have e := Option.some.inj hcv
        rw [← e]
        exact ⟨hok.1, fun h => absurd h hne⟩
end Go.Proofs.Ytbeilcaadpopmab
