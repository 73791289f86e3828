/- Plain: both ways of looking find what is reached; no program is named. -/
import Derived.Test.YtbeilcaadpopmabGl
set_option linter.unusedVariables false
set_option linter.unusedSimpArgs false
namespace Go.Proofs.Ytbeilcaadpopmab
open Go.RowKit

theorem nodup_rev {l : List Int} (h : l.Nodup) : l.reverse.Nodup := (List.reverse_perm l).nodup_iff.2 h
/-- What words lead to. -/
def leads (ws : List Int) (x : Int) : Prop := ∃ w ∈ ws, w % 2 = 1 ∧ x = w / 2 ∧ x ≠ 0

theorem seeW_one (g S : List Int) (x : Int) : ∃ n : List Int, seeW (g, S) x = (g ++ n, n.reverse ++ S) ∧ n.Nodup ∧ (∀ y ∈ n, y ∉ S) ∧ (∀ y, y ∈ n ++ S ↔ y ∈ S ∨ leads [x] y) := by
  unfold seeW
  by_cases h : x % 2 = 1
  · rw [if_pos h]
    unfold pushG pushS
    by_cases h2 : x / 2 = 0 ∨ x / 2 ∈ S
    · refine ⟨[], by simp [h2], by simp, by simp, fun y => ?_⟩
      constructor
      · intro hy; exact .inl (by simpa using hy)
      · rintro (hy | ⟨w, hw, h3, rfl, h4⟩)
        · simpa using hy
        · simp at hw; subst hw
          rcases h2 with h2 | h2
          · exact absurd h2 h4
          · simpa using h2
    · refine ⟨[x / 2], by simp [h2], by simp, ?_, fun y => ?_⟩
      · intro y hy; simp at hy; subst hy; exact fun hh => h2 (.inr hh)
      · constructor
        · intro hy
          simp at hy
          rcases hy with rfl | hy
          · exact .inr ⟨x, by simp, h, rfl, fun e => h2 (.inl e)⟩
          · exact .inl hy
        · rintro (hy | ⟨w, hw, h3, rfl, h4⟩)
          · simp [hy]
          · simp at hw; subst hw; simp
  · rw [if_neg h]
    refine ⟨[], by simp, by simp, by simp, fun y => ?_⟩
    constructor
    · intro hy; exact .inl (by simpa using hy)
    · rintro (hy | ⟨w, hw, h3, rfl, h4⟩)
      · simpa using hy
      · simp at hw; subst hw; exact absurd h3 h

theorem seeAll : ∀ (ws g S : List Int), ∃ n : List Int, ws.foldl seeW (g, S) = (g ++ n, n.reverse ++ S) ∧ n.Nodup ∧ (∀ y ∈ n, y ∉ S) ∧ (∀ y, y ∈ n ++ S ↔ y ∈ S ∨ leads ws y)
  | [], g, S => ⟨[], by simp, by simp, by simp, fun y => by simp [leads]⟩
  | x :: ws, g, S => by
    obtain ⟨n, h1, h2, h3, h4⟩ := seeW_one g S x
    obtain ⟨m, k1, k2, k3, k4⟩ := seeAll ws (g ++ n) (n.reverse ++ S)
    refine ⟨n ++ m, ?_, ?_, ?_, fun y => ?_⟩
    · rw [List.foldl_cons, h1, k1]; simp
    · rw [List.nodup_append]
      exact ⟨h2, k2, fun a ha b hb e => k3 b hb (by subst e; simp [ha])⟩
    · intro y hy
      rcases List.mem_append.1 hy with hy | hy
      · exact h3 y hy
      · exact fun hh => k3 y hy (by simp [hh])
    · have e1 : y ∈ n ++ m ++ S ↔ y ∈ m ++ (n.reverse ++ S) := by
        simp only [List.mem_append, List.mem_reverse]; constructor
        · rintro ((h | h) | h)
          · exact .inr (.inl h)
          · exact .inl h
          · exact .inr (.inr h)
        · rintro (h | h | h)
          · exact .inl (.inr h)
          · exact .inl (.inl h)
          · exact .inr h
      rw [e1, k4]
      have e2 : y ∈ n.reverse ++ S ↔ y ∈ S ∨ leads [x] y := by rw [← h4]; simp
      rw [e2]
      constructor
      · rintro ((h | ⟨w, hw, r⟩) | ⟨w, hw, r⟩)
        · exact .inl h
        · exact .inr ⟨w, by simp at hw; simp [hw], r⟩
        · exact .inr ⟨w, by simp [hw], r⟩
      · rintro (h | ⟨w, hw, r⟩)
        · exact .inl (.inl h)
        · rcases List.mem_cons.1 hw with rfl | hw
          · exact .inl (.inr ⟨w, by simp, r⟩)
          · exact .inr ⟨w, hw, r⟩

/-- A look at one object. -/
theorem lookF_step (xs : List Int) (k : Nat) (g S : List Int) (p : Int) :
    ∃ n : List Int, lookF xs (k + 1) (g ++ [p], S) = lookF xs k (g ++ n, n.reverse ++ S) ∧ n.Nodup ∧ (∀ y ∈ n, y ∉ S) ∧ (∀ y, y ∈ n ++ S ↔ y ∈ S ∨ leads (fieldsOf xs p.toNat) y) := by
  obtain ⟨n, h1, h2⟩ := seeAll (fieldsOf xs p.toNat) g S
  refine ⟨n, ?_, h2⟩
  rw [lookF, if_neg (by simp)]
  have e1 : (g ++ [p]).getLastD 0 = p := by simp
  have e2 : (g ++ [p]).dropLast = g := by simp
  show lookF xs k ((fieldsOf xs ((g ++ [p]).getLastD 0).toNat).foldl seeW ((g ++ [p]).dropLast, S)) = _
  rw [e1, e2, h1]

inductive Reached (xs : List Int) (roots : List Int) : Int → Prop
  | root {p : Int} : p ∈ roots → p ≠ 0 → Reached xs roots p
  | step {p x : Int} : Reached xs roots p → leads (fieldsOf xs p.toNat) x → Reached xs roots x

theorem nodup_len {a b : List Int} (h : a.Nodup) (hs : ∀ x ∈ a, x ∈ b) : a.length ≤ b.length := by
  induction a generalizing b with
  | nil => simp
  | cons x a ih =>
    rw [List.nodup_cons] at h
    have hx : x ∈ b := hs x (by simp)
    have := ih (b := b.erase x) h.2 (fun y hy => (List.mem_erase_of_ne (fun e => h.1 (by subst e; exact hy))).2 (hs y (by simp [hy])))
    rw [List.length_erase_of_mem hx] at this
    have hb : 0 < b.length := List.length_pos_of_mem hx
    simp; omega

/-- Looking until there is nothing gray. -/
theorem look_all (xs roots L : List Int) (hL : ∀ p ∈ L, ∀ x, leads (fieldsOf xs p.toNat) x → x ∈ L) :
    ∀ (k : Nat) (D g S : List Int), S.Perm (D ++ g) → S.Nodup → (∀ x ∈ S, x ∈ L ∧ Reached xs roots x) → (∀ p ∈ D, ∀ x, leads (fieldsOf xs p.toNat) x → x ∈ S) → L.length ≤ k + D.length →
      ∃ S', lookF xs k (g, S) = ([], S') ∧ (∀ x ∈ S, x ∈ S') ∧ (∀ x ∈ S', Reached xs roots x ∧ x ∈ L) ∧ ∀ p ∈ S', ∀ x, leads (fieldsOf xs p.toNat) x → x ∈ S' := by
  intro k
  induction k with
  | zero =>
    intro D g S hp hn hS hD hk
    have h1 := nodup_len hn (fun x hx => (hS x hx).1)
    have h2 := hp.length_eq
    simp at h2
    have : g = [] := List.eq_nil_of_length_eq_zero (by omega)
    subst this
    refine ⟨S, rfl, fun x h => h, fun x hx => (hS x hx).symm, fun p hp' x hx => hD p (by simpa using (hp.mem_iff.1 hp')) x hx⟩
  | succ k ih =>
    intro D g S hp hn hS hD hk
    rcases List.eq_nil_or_concat g with rfl | ⟨g', p, rfl⟩
    · refine ⟨S, by simp [lookF], fun x h => h, fun x hx => (hS x hx).symm, fun p hp' x hx => hD p (by simpa using (hp.mem_iff.1 hp')) x hx⟩
    · rw [List.concat_eq_append] at hp ⊢
      obtain ⟨n, h1, h2, h3, h4⟩ := lookF_step xs k g' S p
      have hpS : p ∈ S := hp.mem_iff.2 (by simp)
      have A1 : (n.reverse ++ S).Perm (D ++ [p] ++ (g' ++ n)) := by
        have e1 : (n.reverse ++ S).Perm (n ++ (D ++ (g' ++ [p]))) := (List.reverse_perm n).append hp
        have e2 : (D ++ (g' ++ [p])).Perm (D ++ [p] ++ g') := by
          rw [List.append_assoc]; exact List.Perm.append_left D List.perm_append_comm
        have e3 : (n ++ (D ++ (g' ++ [p]))).Perm (D ++ [p] ++ (g' ++ n)) := by
          have := List.perm_append_comm.trans (e2.append_right n)
          rw [List.append_assoc (D ++ [p])] at this
          exact this
        exact e1.trans e3
      have A2 : (n.reverse ++ S).Nodup := by
        rw [List.nodup_append]
        exact ⟨nodup_rev h2, hn, fun a ha b hb e => h3 a (by simpa using ha) (by subst e; exact hb)⟩
      have A3 : ∀ x ∈ n.reverse ++ S, x ∈ L ∧ Reached xs roots x := by
        intro x hx
        have : x ∈ n ++ S := by simpa using hx
        rcases (h4 x).1 this with h | h
        · exact hS x h
        · exact ⟨hL p (hS p hpS).1 x h, .step (hS p hpS).2 h⟩
      have A4 : ∀ q ∈ D ++ [p], ∀ x, leads (fieldsOf xs q.toNat) x → x ∈ n.reverse ++ S := by
        intro q hq x hx
        have hxx : x ∈ n ++ S := by
          rcases List.mem_append.1 hq with hq | hq
          · exact (h4 x).2 (.inl (hD q hq x hx))
          · simp at hq; subst hq; exact (h4 x).2 (.inr hx)
        simpa using hxx
      obtain ⟨S', k1, k2, k3, k4⟩ := ih (D ++ [p]) (g' ++ n) (n.reverse ++ S) A1 A2 A3 A4 (by simp; omega)
      exact ⟨S', h1.trans k1, fun x hx => k2 x (by simp [hx]), k3, k4⟩

/-- Roots are pushed. -/
def pushAll (roots : List Int) (s : List Int × List Int) : List Int × List Int := roots.foldl (fun s p => (pushG p s.1 s.2, pushS p s.2)) s

theorem pushAll_spec : ∀ (roots g S : List Int), ∃ n : List Int, pushAll roots (g, S) = (g ++ n, n.reverse ++ S) ∧ n.Nodup ∧ (∀ y ∈ n, y ∉ S) ∧ (∀ y, y ∈ n ++ S ↔ y ∈ S ∨ (y ∈ roots ∧ y ≠ 0))
  | [], g, S => ⟨[], by simp [pushAll], by simp, by simp, fun y => by simp⟩
  | p :: roots, g, S => by
    by_cases h : p = 0 ∨ p ∈ S
    · obtain ⟨n, h1, h2, h3, h4⟩ := pushAll_spec roots g S
      refine ⟨n, ?_, h2, h3, fun y => ?_⟩
      · rw [← h1]; simp [pushAll, pushG, pushS, h]
      · rw [h4]
        constructor
        · rintro (a | ⟨a, b⟩)
          · exact .inl a
          · exact .inr ⟨by simp [a], b⟩
        · rintro (a | ⟨a, b⟩)
          · exact .inl a
          · rcases List.mem_cons.1 a with rfl | a
            · exact .inl (h.resolve_left b)
            · exact .inr ⟨a, b⟩
    · obtain ⟨n, h1, h2, h3, h4⟩ := pushAll_spec roots (g ++ [p]) (p :: S)
      refine ⟨p :: n, ?_, ?_, ?_, fun y => ?_⟩
      · have : pushAll (p :: roots) (g, S) = pushAll roots (g ++ [p], p :: S) := by simp [pushAll, pushG, pushS, h]
        rw [this, h1]; simp
      · rw [List.nodup_cons]; exact ⟨fun hh => h3 p hh (by simp), h2⟩
      · intro y hy
        rcases List.mem_cons.1 hy with rfl | hy
        · exact fun hh => h (.inr hh)
        · exact fun hh => h3 y hy (by simp [hh])
      · have e : y ∈ p :: n ++ S ↔ y ∈ n ++ p :: S := by
          simp only [List.cons_append, List.mem_cons, List.mem_append]; constructor
          · rintro (a | a | a)
            · exact .inr (.inl a)
            · exact .inl a
            · exact .inr (.inr a)
          · rintro (a | a | a)
            · exact .inr (.inl a)
            · exact .inl a
            · exact .inr (.inr a)
        rw [e, h4]
        simp only [List.mem_cons]
        constructor
        · rintro ((rfl | a) | ⟨a, b⟩)
          · exact .inr ⟨.inl rfl, fun e => h (.inl e)⟩
          · exact .inl a
          · exact .inr ⟨.inr a, b⟩
        · rintro (a | ⟨rfl | a, b⟩)
          · exact .inl (.inr a)
          · exact .inl (.inl rfl)
          · exact .inr ⟨a, b⟩

theorem look_reached (xs roots L : List Int) (hL : ∀ p ∈ L, ∀ x, leads (fieldsOf xs p.toNat) x → x ∈ L) (hr : ∀ p ∈ roots, p ≠ 0 → p ∈ L) :
    ∃ S, lookF xs L.length (pushAll roots ([], [])) = ([], S) ∧ ∀ x, x ∈ S ↔ Reached xs roots x := by
  obtain ⟨n, h1, h2, h3, h4⟩ := pushAll_spec roots [] []
  rw [h1]
  obtain ⟨S', k1, k2, k3, k4⟩ := look_all xs roots L hL L.length [] ([] ++ n) (n.reverse ++ []) (by simp) (by simp; exact nodup_rev h2)
    (fun x hx => by
      have := (h4 x).1 (by simpa using hx)
      rcases this with h | ⟨h, h'⟩
      · simp at h
      · exact ⟨hr x h h', .root h h'⟩) (by simp) (by simp)
  refine ⟨S', k1, fun x => ⟨fun h => (k3 x h).1, fun h => ?_⟩⟩
  induction h with
  | root a b => exact k2 _ (by simpa using (h4 _).2 (.inr ⟨a, b⟩))
  | step a b ih => exact k4 _ ih _ b

/-! The reference: rounds over all objects. -/
def seeR (seen : List Int) (x : Int) : List Int := if x % 2 = 1 ∧ x / 2 ∉ seen then seen ++ [x / 2] else seen
def objR (xs : List Int) (seen : List Int) (p : Nat) : List Int := if (p : Int) ∈ seen then (fieldsOf xs p).foldl seeR seen else seen
def roundR (xs : List Int) (l : List Nat) (seen : List Int) : List Int := l.foldl (objR xs) seen
def roundsR (xs : List Int) (l : List Nat) : Nat → List Int → List Int
  | 0, seen => seen
  | k + 1, seen => roundsR xs l k (roundR xs l seen)

theorem seeR_spec : ∀ (ws seen : List Int), ∃ n, ws.foldl seeR seen = seen ++ n ∧ (∀ y ∈ n, y ∉ seen) ∧ ∀ y, y ∈ seen ++ n ↔ y ∈ seen ∨ ∃ w ∈ ws, w % 2 = 1 ∧ y = w / 2
  | [], seen => ⟨[], by simp, by simp, fun y => by simp⟩
  | x :: ws, seen => by
    by_cases h : x % 2 = 1 ∧ x / 2 ∉ seen
    · obtain ⟨n, h1, h2, h3⟩ := seeR_spec ws (seen ++ [x / 2])
      refine ⟨(x / 2) :: n, ?_, ?_, fun y => ?_⟩
      · rw [List.foldl_cons, seeR, if_pos h, h1]; simp
      · intro y hy
        rcases List.mem_cons.1 hy with rfl | hy
        · exact h.2
        · exact fun hh => h2 y hy (by simp [hh])
      · rw [show seen ++ x / 2 :: n = seen ++ [x / 2] ++ n by simp, h3]
        simp only [List.mem_append, List.mem_cons, List.not_mem_nil, or_false]
        constructor
        · rintro ((a | a) | ⟨w, a, b⟩)
          · exact .inl a
          · exact .inr ⟨x, .inl rfl, h.1, a⟩
          · exact .inr ⟨w, .inr a, b⟩
        · rintro (a | ⟨w, rfl | a, b⟩)
          · exact .inl (.inl a)
          · exact .inl (.inr b.2)
          · exact .inr ⟨w, a, b⟩
    · obtain ⟨n, h1, h2, h3⟩ := seeR_spec ws seen
      refine ⟨n, by rw [List.foldl_cons, seeR, if_neg h, h1], h2, fun y => ?_⟩
      rw [h3]
      constructor
      · rintro (a | ⟨w, a, b⟩)
        · exact .inl a
        · exact .inr ⟨w, by simp [a], b⟩
      · rintro (a | ⟨w, a, b⟩)
        · exact .inl a
        · rcases List.mem_cons.1 a with rfl | a
          · exact .inl (Classical.byContradiction fun hn => h ⟨b.1, by rw [← b.2]; exact hn⟩)
          · exact .inr ⟨w, a, b⟩

theorem objR_sub (xs seen : List Int) (p : Nat) : ∀ y ∈ seen, y ∈ objR xs seen p := by
  intro y hy
  unfold objR
  split
  · obtain ⟨n, h1, _⟩ := seeR_spec (fieldsOf xs p) seen
    rw [h1]; simp [hy]
  · exact hy
theorem roundR_sub (xs : List Int) : ∀ (l : List Nat) (seen : List Int), ∀ y ∈ seen, y ∈ roundR xs l seen
  | [], _, y, hy => hy
  | p :: l, seen, y, hy => roundR_sub xs l _ y (objR_sub xs seen p y hy)

/-- A round that finds nothing new (0 apart) leaves all closed. -/
theorem roundR_closed (xs : List Int) : ∀ (l : List Nat) (seen : List Int), (∀ y ∈ roundR xs l seen, y ≠ 0 → y ∈ seen) → (∀ p ∈ l, p ≠ 0) → ∀ p ∈ l, (p : Int) ∈ roundR xs l seen → ∀ x, leads (fieldsOf xs p) x → x ∈ seen
  | [], _, _, _ => by simp
  | q :: l, seen, h, hz => by
    intro p hp hps x hx
    have hsub : ∀ y ∈ objR xs seen q, y ≠ 0 → y ∈ seen := fun y hy h0 => h y (roundR_sub xs l _ y hy) h0
    have hpseen : (p : Int) ∈ seen := h p hps (by have := hz p hp; omega)
    rcases List.mem_cons.1 hp with rfl | hp
    · obtain ⟨n, h1, h2, h3⟩ := seeR_spec (fieldsOf xs p) seen
      have e : objR xs seen p = seen ++ n := by rw [objR, if_pos hpseen, h1]
      rw [e] at hsub
      obtain ⟨w, a, b, c, d⟩ := hx
      exact hsub x ((h3 x).2 (.inr ⟨w, a, b, c⟩)) d
    · have := roundR_closed xs l (objR xs seen q) (fun y hy h0 => objR_sub xs seen q y (h y hy h0)) (fun p hp => hz p (by simp [hp])) p hp hps x hx
      exact hsub x this (by obtain ⟨_, _, _, _, d⟩ := hx; exact d)

theorem roundR_from (xs roots : List Int) : ∀ (l : List Nat) (seen : List Int), (∀ y ∈ seen, y ≠ 0 → Reached xs roots y) → (∀ p ∈ l, p ≠ 0) → ∀ y ∈ roundR xs l seen, y ≠ 0 → Reached xs roots y
  | [], seen, h, _ => h
  | p :: l, seen, h, hz => by
    refine roundR_from xs roots l (objR xs seen p) (fun y hy h0 => ?_) (fun p hp => hz p (by simp [hp]))
    unfold objR at hy
    split at hy
    · rename_i hp
      obtain ⟨n, h1, h2, h3⟩ := seeR_spec (fieldsOf xs p) seen
      rw [h1] at hy
      rcases (h3 y).1 hy with a | ⟨w, a, b, c⟩
      · exact h y a h0
      · exact .step (h p hp (by have := hz p (by simp); omega)) ⟨w, by simpa using a, b, c, h0⟩
    · exact h y hy h0

/-- How many of the objects have been seen. -/
def seenB (s : List Int) (p : Nat) : Bool := decide ((p : Int) ∈ s)
def cnt (l : List Nat) (seen : List Int) : Nat := l.countP (seenB seen)

theorem countP_lt {f g : Nat → Bool} : ∀ (l : List Nat), (∀ x, f x = true → g x = true) → ∀ p ∈ l, f p = false → g p = true → l.countP f < l.countP g
  | [], _, p, hp, _, _ => by simp at hp
  | q :: l, h, p, hp, h1, h2 => by
    have hle : l.countP f ≤ l.countP g := List.countP_mono_left (fun x _ => h x)
    rw [List.countP_cons, List.countP_cons]
    rcases List.mem_cons.1 hp with rfl | hp
    · simp [h1, h2]; omega
    · have := countP_lt l h p hp h1 h2
      by_cases hf : f q = true
      · simp [hf, h q hf]; omega
      · by_cases hg : g q = true
        · simp [hf, hg]; omega
        · simp [hf, hg]; omega

theorem cnt_lt {l : List Nat} {a b : List Int} (h : ∀ y ∈ a, y ∈ b) {p : Nat} (hp : p ∈ l) (h1 : (p : Int) ∉ a) (h2 : (p : Int) ∈ b) : cnt l a < cnt l b :=
  countP_lt l (fun x hx => by simp only [seenB, decide_eq_true_eq] at hx ⊢; exact h _ hx) p hp (by simpa [seenB] using h1) (by simpa [seenB] using h2)

theorem cnt_le (l : List Nat) (s : List Int) : cnt l s ≤ l.length := List.countP_le_length

theorem roundsR_all (xs roots : List Int) (l : List Nat) (hz : ∀ p ∈ l, p ≠ 0) (hL : ∀ p ∈ l, ∀ x, leads (fieldsOf xs p) x → ∃ q ∈ l, x = (q : Int)) :
    ∀ (k : Nat) (seen : List Int), (∀ y ∈ seen, y ≠ 0 → Reached xs roots y ∧ ∃ q ∈ l, y = (q : Int)) → (∀ p ∈ roots, p ∈ seen) → (l.length < k + cnt l seen ∨ (∀ p ∈ l, (p : Int) ∈ seen → ∀ x, leads (fieldsOf xs p) x → x ∈ seen)) →
      ∀ p ∈ l, (p : Int) ∈ roundsR xs l k seen ↔ Reached xs roots p := by
  intro k
  induction k with
  | zero =>
    intro seen h1 h2 h3 p hp
    rcases h3 with h3 | h3
    · have := cnt_le l seen; omega
    · refine ⟨fun h => (h1 _ h (by have := hz p hp; omega)).1, fun h => ?_⟩
      have key : ∀ y, Reached xs roots y → y ∈ seen ∧ ∃ q ∈ l, y = (q : Int) := by
        intro y hy
        induction hy with
        | root a b => exact ⟨h2 _ a, (h1 _ (h2 _ a) b).2⟩
        | step a b ih =>
          obtain ⟨i1, q, hq, rfl⟩ := ih
          have hx := h3 q hq i1 _ (by simpa using b)
          exact ⟨hx, (h1 _ hx (by obtain ⟨_, _, _, _, d⟩ := b; exact d)).2⟩
      exact (key _ h).1
  | succ k ih =>
    intro seen h1 h2 h3 p hp
    rw [roundsR]
    have hfrom := roundR_from xs roots l seen (fun y hy h0 => (h1 y hy h0).1) hz
    have hin : ∀ y ∈ roundR xs l seen, y ≠ 0 → ∃ q ∈ l, y = (q : Int) := by
      intro y hy h0
      have := hfrom y hy h0
      cases this with
      | root a b => exact (h1 _ (h2 _ a) b).2
      | step a b =>
        have key : ∀ y, Reached xs roots y → ∃ q ∈ l, y = (q : Int) := by
          intro y hy
          induction hy with
          | root a b => exact (h1 _ (h2 _ a) b).2
          | step a b ih =>
            obtain ⟨q, hq, rfl⟩ := ih
            exact hL q hq _ (by simpa using b)
        exact key _ (.step a b)
    refine ih (roundR xs l seen) (fun y hy h0 => ⟨hfrom y hy h0, hin y hy h0⟩) (fun p hp => roundR_sub xs l seen p (h2 p hp)) ?_ p hp
    by_cases hc : ∀ y ∈ roundR xs l seen, y ≠ 0 → y ∈ seen
    · exact .inr (fun p hp hps x hx => roundR_sub xs l seen x (roundR_closed xs l seen hc hz p hp hps x hx))
    · rcases h3 with h3 | h3
      · left
        obtain ⟨y, hy⟩ : ∃ y, ¬ (y ∈ roundR xs l seen → y ≠ 0 → y ∈ seen) := Classical.not_forall.1 hc
        have ⟨hy1, hy'⟩ := Classical.not_imp.1 hy
        have ⟨hy2, hy3⟩ := Classical.not_imp.1 hy'
        obtain ⟨q, hq, rfl⟩ := hin y hy1 hy2
        have := cnt_lt (roundR_sub xs l seen) hq hy3 hy1
        omega
      · right
        have hkeep : ∀ (l' : List Nat) (s : List Int), (∀ p ∈ l', p ∈ l) → (∀ y ∈ seen, y ∈ s) → (∀ y ∈ s, y ≠ 0 → y ∈ seen) → ∀ y ∈ roundR xs l' s, y ≠ 0 → y ∈ seen := by
          intro l'
          induction l' with
          | nil => intro s _ _ h; exact h
          | cons q l' ih' =>
            intro s hl hs1 hs2
            refine ih' (objR xs s q) (fun p hp => hl p (by simp [hp])) (fun y hy => objR_sub xs s q y (hs1 y hy)) (fun y hy h0 => ?_)
            unfold objR at hy
            split at hy
            · rename_i hq
              obtain ⟨n, e1, e2, e3⟩ := seeR_spec (fieldsOf xs q) s
              rw [e1] at hy
              rcases (e3 y).1 hy with a | ⟨w, a, b, c⟩
              · exact hs2 y a h0
              · have hql := hl q (by simp)
                exact h3 q hql (hs2 _ hq (by have := hz q hql; omega)) y ⟨w, a, b, c, h0⟩
            · exact hs2 y hy h0
        exact absurd (hkeep l seen (fun _ h => h) (fun _ h => h) (fun _ h _ => h)) hc

theorem roundsR_reached (xs roots : List Int) (l : List Nat) (hz : ∀ p ∈ l, p ≠ 0) (hL : ∀ p ∈ l, ∀ x, leads (fieldsOf xs p) x → ∃ q ∈ l, x = (q : Int)) (hr : ∀ p ∈ roots, p ≠ 0 → ∃ q ∈ l, p = (q : Int)) :
    ∀ p ∈ l, (p : Int) ∈ roundsR xs l l.length roots ↔ Reached xs roots p := by
  refine roundsR_all xs roots l hz hL l.length roots (fun y hy h0 => ⟨.root hy h0, hr y hy h0⟩) (fun _ h => h) ?_
  by_cases h : ∃ p ∈ roots, p ≠ 0
  · left
    obtain ⟨p, hp, h0⟩ := h
    obtain ⟨q, hq, rfl⟩ := hr p hp h0
    have := cnt_lt (l := l) (a := []) (b := roots) (by simp) hq (by simp) hp
    omega
  · right
    intro p hp hps
    exact absurd ⟨(p : Int), hps, by have := hz p hp; omega⟩ h
end Go.Proofs.Ytbeilcaadpopmab
