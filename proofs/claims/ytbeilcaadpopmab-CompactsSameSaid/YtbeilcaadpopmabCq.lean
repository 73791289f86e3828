/- Plain: what closing a heap up comes to; no program is named. -/
import Derived.Test.YtbeilcaadpopmabGr
set_option linter.unusedVariables false
set_option linter.unusedSimpArgs false
namespace Go.Proofs.Ytbeilcaadpopmab
open Go.RowKit

/-- The moves of objects, the first one to place t. -/
def mvs (xs : List Int) : List Nat → Nat → List (Nat × Nat)
  | [], _ => []
  | p :: ks, t => (p, t) :: mvs xs ks (t + (2 + nf xs p))
/-- Where the next one would lie. -/
def topOf (xs : List Int) : List Nat → Nat → Nat
  | [], t => t
  | p :: ks, t => topOf xs ks (t + (2 + nf xs p))

theorem mvs_snoc (xs : List Int) (p : Nat) : ∀ (ks : List Nat) (t : Nat), mvs xs (ks ++ [p]) t = mvs xs ks t ++ [(p, topOf xs ks t)]
  | [], t => rfl
  | q :: ks, t => by simp [mvs, topOf, mvs_snoc xs p ks]
theorem topOf_snoc (xs : List Int) (p : Nat) : ∀ (ks : List Nat) (t : Nat), topOf xs (ks ++ [p]) t = topOf xs ks t + (2 + nf xs p)
  | [], t => rfl
  | q :: ks, t => by simp [topOf, topOf_snoc xs p ks]
theorem mvs_fst (xs : List Int) : ∀ (ks : List Nat) (t : Nat), (mvs xs ks t).map (·.1) = ks
  | [], _ => rfl
  | p :: ks, t => by simp [mvs, mvs_fst xs ks]
theorem mvs_len (xs : List Int) (ks : List Nat) (t : Nat) : (mvs xs ks t).length = ks.length := by
  have := congrArg List.length (mvs_fst xs ks t)
  simpa using this
theorem mvs_at (xs : List Int) : ∀ (ks : List Nat) (s i : Nat) (h : i < ks.length) (h' : i < (mvs xs ks s).length), (mvs xs ks s)[i] = (ks[i], topOf xs (ks.take i) s)
  | [], _, _, h, _ => by simp at h
  | p :: ks, s, 0, _, _ => rfl
  | p :: ks, s, i + 1, h, h' => by
    have := mvs_at xs ks (s + (2 + nf xs p)) i (by simpa using h) (by simpa [mvs] using h')
    simpa [mvs, topOf] using this
theorem topOf_le (xs : List Int) (T : Nat) : ∀ (ks : List Nat) (s : Nat), s ≤ T → (∀ p ∈ ks, s ≤ p ∧ p + 2 + nf xs p ≤ T) → ks.Pairwise (fun a b => a + 2 + nf xs a ≤ b) → topOf xs ks s ≤ T
  | [], s, h, _, _ => h
  | p :: ks, s, h, h1, h2 => by
    rw [List.pairwise_cons] at h2
    have hp := h1 p (by simp)
    exact topOf_le xs T ks _ (by omega) (fun q hq => ⟨by have := h2.1 q hq; omega, (h1 q (by simp [hq])).2⟩) h2.2
theorem topOf_ge (xs : List Int) : ∀ (ks : List Nat) (s : Nat), s + 2 * ks.length ≤ topOf xs ks s
  | [], s => by simp [topOf]
  | p :: ks, s => by have := topOf_ge xs ks (s + (2 + nf xs p)); simp [topOf]; omega

/-- Where a place has gone. -/
def toF (ms : List (Nat × Nat)) (x : Int) : Option Int := if x = 0 then some 0 else (ms.find? (fun m => decide ((m.1 : Int) = x))).map (fun m => (m.2 : Int))

theorem mvs_le (xs : List Int) : ∀ (ks : List Nat) (s : Nat), ∀ m ∈ mvs xs ks s, s ≤ m.2 ∧ m.2 ≤ topOf xs ks s
  | [], _, m, h => by simp [mvs] at h
  | p :: ks, s, m, h => by
    have hge := topOf_ge xs ks (s + (2 + nf xs p))
    rcases List.mem_cons.1 h with rfl | h
    · simp [topOf]; omega
    · have := mvs_le xs ks _ m h
      simp [topOf]; omega
theorem toF_le {xs : List Int} {ks : List Nat} {x y : Int} {s : Nat} (h : toF (mvs xs ks s) x = some y) : 0 ≤ y ∧ y ≤ (topOf xs ks s : Nat) := by
  unfold toF at h
  split at h
  · cases h; omega
  · obtain ⟨m, hm, rfl⟩ := Option.map_eq_some_iff.1 h
    have := mvs_le xs ks s m (List.mem_of_find?_eq_some hm)
    omega

theorem toF_snoc (ms : List (Nat × Nat)) (p t : Nat) (hp : p ≠ 0) (hn : p ∉ ms.map (·.1)) : toF (ms ++ [(p, t)]) = fun z => if z = (p : Int) then some (t : Int) else toF ms z := by
  funext z
  unfold toF
  by_cases h0 : z = 0
  · subst h0
    rw [if_pos rfl, if_neg (by omega), if_pos rfl]
  · rw [if_neg h0, if_neg h0, List.find?_append]
    by_cases hz : z = (p : Int)
    · subst hz
      have : ms.find? (fun m => decide ((m.1 : Int) = (p : Int))) = none := by
        rw [List.find?_eq_none]
        intro m hm e
        have e2 : (m.1 : Int) = (p : Int) := by simpa using e
        exact hn (List.mem_map.2 ⟨m, hm, by omega⟩)
      rw [this]
      simp
    · rw [if_neg hz]
      have e : ([(p, t)] : List (Nat × Nat)).find? (fun m => decide ((m.1 : Int) = z)) = none := by
        rw [List.find?_eq_none]
        intro m hm e
        simp at hm
        subst hm
        exact hz (by have : (p : Int) = z := by simpa using e
                     exact this.symm)
      rw [e]
      simp

/-- A field's word, turned. -/
def cvt (ms : List (Nat × Nat)) (x : Int) : Option Int := if x % 2 = 1 then (toF ms (x / 2)).map (fun y => 2 * y + 1) else some x
def cvts (ms : List (Nat × Nat)) : List Int → Option (List Int)
  | [] => some []
  | x :: ws => (cvt ms x).bind fun y => (cvts ms ws).map (y :: ·)
theorem cvts_append (ms : List (Nat × Nat)) : ∀ (a b : List Int), cvts ms (a ++ b) = (cvts ms a).bind fun ya => (cvts ms b).map (ya ++ ·)
  | [], b => by simp [cvts]
  | x :: a, b => by
    simp only [List.cons_append, cvts, cvts_append ms a b]
    cases cvt ms x <;> simp
    cases cvts ms a <;> simp
    cases cvts ms b <;> simp
theorem cvts_len (ms : List (Nat × Nat)) : ∀ (a ya : List Int), cvts ms a = some ya → ya.length = a.length
  | [], ya, h => by simp [cvts] at h; subst h; rfl
  | x :: a, ya, h => by
    simp only [cvts] at h
    cases h1 : cvt ms x with
    | none => rw [h1] at h; simp at h
    | some y =>
      cases h2 : cvts ms a with
      | none => rw [h1, h2] at h; simp at h
      | some ys => rw [h1, h2] at h; simp at h; subst h; simp [cvts_len ms a ys h2]

/-- An object's words, turned. -/
def objW (xs : List Int) (ms : List (Nat × Nat)) (p : Nat) : Option (List Int) := (cvts ms (fieldsOf xs p)).map fun ys => xs.getD p 0 :: (nf xs p : Int) :: ys
def outW (xs : List Int) (ms : List (Nat × Nat)) : List Nat → Option (List Int)
  | [] => some []
  | p :: ks => (objW xs ms p).bind fun a => (outW xs ms ks).map (a ++ ·)
theorem outW_append (xs : List Int) (ms : List (Nat × Nat)) : ∀ (a b : List Nat), outW xs ms (a ++ b) = (outW xs ms a).bind fun ya => (outW xs ms b).map (ya ++ ·)
  | [], b => by simp [outW]
  | x :: a, b => by
    simp only [List.cons_append, outW, outW_append xs ms a b]
    cases objW xs ms x <;> simp
    cases outW xs ms a <;> simp
    cases outW xs ms b <;> simp
theorem outW_len {xs : List Int} {ms : List (Nat × Nat)} : ∀ (ks : List Nat) (L : List Int) (t : Nat), (∀ p ∈ ks, (fieldsOf xs p).length = nf xs p) → outW xs ms ks = some L → t + L.length = topOf xs ks t
  | [], L, t, _, h => by simp [outW] at h; subst h; rfl
  | p :: ks, L, t, hf, h => by
    simp only [outW] at h
    cases h1 : objW xs ms p with
    | none => rw [h1] at h; simp at h
    | some a =>
      cases h2 : outW xs ms ks with
      | none => rw [h1, h2] at h; simp at h
      | some b =>
        rw [h1, h2] at h
        simp at h
        subst h
        have h3 := outW_len ks b (t + (2 + nf xs p)) (fun q hq => hf q (by simp [hq])) h2
        have h4 : a.length = 2 + nf xs p := by
          unfold objW at h1
          cases h5 : cvts ms (fieldsOf xs p) with
          | none => rw [h5] at h1; simp at h1
          | some ys =>
            rw [h5] at h1
            simp at h1
            subst h1
            have := cvts_len ms _ _ h5
            rw [hf p (by simp)] at this
            simp; omega
        simp only [List.length_append, topOf]
        omega

/-- Words, filled up with zeros. -/
def padTo (n : Nat) (A : List Int) : List Int := A ++ List.replicate (n - A.length) 0
theorem padTo_len {n : Nat} {A : List Int} (h : A.length ≤ n) : (padTo n A).length = n := by simp [padTo]; omega
theorem padTo_set {n : Nat} {A : List Int} (h : A.length < n) (v : Int) : (padTo n A).set A.length v = padTo n (A ++ [v]) := by
  unfold padTo
  rw [List.set_append_right _ _ (Nat.le_refl _), Nat.sub_self, show n - A.length = (n - (A ++ [v]).length) + 1 by simp; omega, List.replicate_succ]
  simp
theorem padTo_nil (n : Nat) : padTo n [] = List.replicate n 0 := by simp [padTo]
theorem padTo_zero {n : Nat} (h : 0 < n) : padTo n [0] = List.replicate n 0 := by
  unfold padTo
  rw [show n = (n - 1) + 1 by omega, List.replicate_succ]
  simp

/-- The places to be kept are as they may be. -/
def KeepIs (l : List Nat) (ks : List Nat) : Prop := (∀ k ∈ ks, k ∈ l) ∧ ks.Pairwise (· < ·)
def KeepOk (l : List Nat) (keep : List Int) : Prop := ∃ ks, keep = intsOf ks ∧ KeepIs l ks

theorem intsOf_append (a b : List Nat) : intsOf (a ++ b) = intsOf a ++ intsOf b := by simp [intsOf]
theorem intsOf_inj : ∀ {a b : List Nat}, intsOf a = intsOf b → a = b
  | [], [], _ => rfl
  | [], _ :: _, h => by simp [intsOf] at h
  | _ :: _, [], h => by simp [intsOf] at h
  | x :: a, y :: b, h => by
    simp only [intsOf, List.map_cons, List.cons.injEq] at h
    rw [show x = y by omega, intsOf_inj (a := a) (b := b) h.2]

theorem KeepOk.nil (l : List Nat) : KeepOk l [] := ⟨[], rfl, by simp, by simp⟩
/-- One more. -/
theorem KeepIs.snoc {l ks : List Nat} {p : Nat} (h : KeepIs l ks) (hp : p ∈ l) (hl : ∀ q ∈ ks, q < p) : KeepIs l (ks ++ [p]) := by
  refine ⟨fun k hk => ?_, ?_⟩
  · rcases List.mem_append.1 hk with hk | hk
    · exact h.1 k hk
    · simp at hk; subst hk; exact hp
  · rw [List.pairwise_append]
    exact ⟨h.2, by simp, fun a ha b hb => by simp at hb; subst hb; exact hl a ha⟩
theorem KeepIs.last {l ks : List Nat} (h : KeepIs l ks) {i : Nat} (hi : i + 1 = ks.length) {p : Nat} (hp : ks.getD i 0 < p) : ∀ q ∈ ks, q < p := by
  intro q hq
  obtain ⟨j, hj, rfl⟩ := List.mem_iff_getElem.1 hq
  by_cases e : j = i
  · subst e
    rw [List.getD_eq_getElem?_getD, List.getElem?_eq_getElem hj] at hp
    exact hp
  · have h1 := List.pairwise_iff_getElem.1 h.2 j i hj (by omega) (by omega)
    rw [List.getD_eq_getElem?_getD, List.getElem?_eq_getElem (by omega : i < ks.length)] at hp
    simp only [Option.getD_some] at hp
    omega
theorem KeepOk.at {l : List Nat} {keep : List Int} (h : KeepOk l keep) {i : Nat} (hi : i < keep.length) : (∃ q ∈ l, keep.getD i 0 = (q : Int)) ∧ (0 < i → keep.getD (i - 1) 0 < keep.getD i 0) := by
  obtain ⟨ks, rfl, h1, h2⟩ := h
  rw [intsOf_length] at hi
  have e : ∀ j, j < ks.length → (intsOf ks).getD j 0 = ((ks.getD j 0 : Nat) : Int) := fun j hj => by simp [intsOf, List.getD, hj]
  rw [e i hi]
  refine ⟨⟨_, h1 _ (by rw [List.getD_eq_getElem?_getD, List.getElem?_eq_getElem hi]; exact List.getElem_mem hi), rfl⟩, fun h0 => ?_⟩
  rw [e (i - 1) (by omega)]
  have := List.pairwise_iff_getElem.1 h2 (i - 1) i (by omega) hi (by omega)
  simp only [List.getD_eq_getElem?_getD, List.getElem?_eq_getElem hi, List.getElem?_eq_getElem (show i - 1 < ks.length by omega), Option.getD_some]
  omega

theorem fields_len {xs : List Int} {t : Nat} {l : List Nat} (hi : HeapIs xs t l) : ∀ p ∈ l, (fieldsOf xs p).length = nf xs p := by
  intro p hp
  obtain ⟨o1, o2, o3, o4⟩ := places_obj hi.2.2.2.1 p hp
  have := hi.2.2.1
  unfold fieldsOf
  simp; omega

theorem keep_pairs {xs : List Int} {t : Nat} {l ks : List Nat} (hi : HeapIs xs t l) (hk : KeepIs l ks) : ks.Pairwise (fun a b => a + 2 + nf xs a ≤ b) := by
  have h1 := places_pair hi.2.2.2.1
  refine hk.2.imp_of_mem ?_
  intro a b ha hb hab
  obtain ⟨i, hi1, rfl⟩ := List.mem_iff_getElem.1 (hk.1 a ha)
  obtain ⟨j, hj1, rfl⟩ := List.mem_iff_getElem.1 (hk.1 b hb)
  rcases Nat.lt_trichotomy i j with h | h | h
  · exact List.pairwise_iff_getElem.1 h1 i j hi1 hj1 h
  · subst h; omega
  · have := List.pairwise_iff_getElem.1 h1 j i hj1 hi1 h; omega

theorem keep_top {xs : List Int} {t : Nat} {l ks : List Nat} (hi : HeapIs xs t l) (hk : KeepIs l ks) : topOf xs ks 1 ≤ t :=
  topOf_le xs t ks 1 hi.2.1 (fun p hp => by obtain ⟨o1, o2, o3, o4⟩ := places_obj hi.2.2.2.1 p (hk.1 p hp); exact ⟨o1, o4⟩) (keep_pairs hi hk)

theorem keepIs_take {l ks : List Nat} (h : KeepIs l ks) (i : Nat) : KeepIs l (ks.take i) := ⟨fun k hk => h.1 k (List.mem_of_mem_take hk), h.2.sublist (List.take_sublist i ks)⟩
theorem keep_len {xs : List Int} {t : Nat} {l ks : List Nat} (hi : HeapIs xs t l) (hk : KeepIs l ks) : 1 + 2 * ks.length ≤ t := Nat.le_trans (topOf_ge xs ks 1) (keep_top hi hk)
end Go.Proofs.Ytbeilcaadpopmab
