/- Walks: slices.IndexFunc and slices.DeleteFunc at []int, whatever closure that only reads. -/
import Derived.Test.YtbeilcaadpopmabAp
import Derived.Shelf.Abstract
import Derived.Lib.SliceRun
set_option linter.unusedVariables false
set_option linter.unusedSimpArgs false
namespace Go.Proofs.Ytbeilcaadpopmab
open Go.RowKit

/-- The closure F with cap captured says pr of each of xs and leaves the world as it was, in every world that has come of w by turns of block row alone. -/
def Says (F : Nat) (cap : Array Value) (w : World) (row : Option Nat) (xs : List Int) (pr : Int → Bool) : Prop :=
  ∀ w' x, w.grownBy w' row → x ∈ xs → Calls Try.prog F (#[.int .i64 x] ++ cap) w' (fun e w'' => e = .returned (.bool (pr x)) ∧ w' = w'')

/-- The first place where pr says yes; -1: there is none. -/
def firstAt (pr : Int → Bool) (xs : List Int) : Int := if xs.any pr then (xs.findIdx pr : Int) else -1

theorem firstAt_none {pr : Int → Bool} {xs : List Int} (h : ∀ j, j < xs.length → pr (xs.getD j 0) = false) : firstAt pr xs = -1 := by
  unfold firstAt
  rw [if_neg]
  intro hh
  obtain ⟨x, hx, hp⟩ := List.any_eq_true.1 hh
  obtain ⟨j, hj, e⟩ := List.mem_iff_getElem.1 hx
  have := h j hj
  rw [List.getD_eq_getElem?_getD, List.getElem?_eq_getElem hj] at this
  simp only [Option.getD_some] at this
  rw [e, hp] at this
  cases this
theorem firstAt_some {pr : Int → Bool} {xs : List Int} {k : Nat} (hk : k < xs.length) (h : ∀ j, j < k → pr (xs.getD j 0) = false) (hy : pr (xs.getD k 0) = true) : firstAt pr xs = (k : Int) := by
  have e : ∀ j (hj : j < xs.length), xs.getD j 0 = xs[j] := fun j hj => by rw [List.getD_eq_getElem?_getD, List.getElem?_eq_getElem hj]; rfl
  rw [e k hk] at hy
  unfold firstAt
  rw [if_pos (List.any_eq_true.2 ⟨_, List.getElem_mem hk, hy⟩)]
  congr 1
  rw [List.findIdx_eq hk]
  exact ⟨hy, fun j hj => by rw [← e j (by omega)]; exact h j hj⟩

set_option maxHeartbeats 400000 in
theorem indexFunc_any (F : Nat) (cap : Array Value) (eg : ∀ args w, (callFunc F args).run Try.prog w = .ok (.enter F args) w) (pr : Int → Bool) (v : Value) (xs : List Int) (w : World) (h : Ints w v xs) (hs : Says F cap w none xs pr) :
    Calls Try.prog 73 #[v, .func (.func F) #[] cap] w (fun e w' => e = .returned (.int .i64 (firstAt pr xs)) ∧ w = w') := by
  obtain ⟨a, c, rfl, hc, hcm, _⟩ := h.len
  have hle := h.le
  have HH := Lib.hid h
  have HS : Hid (∀ x, x ∈ xs → Calls Try.prog F (#[.int .i64 x] ++ cap) w (fun e w'' => e = .returned (.bool (pr x)) ∧ w = w'')) := fun x hx => hs w x (World.grownBy.refl _ _) hx
  clear h hs
  go_enter Try.func73, Try.ntmps73
  go_wp2
  go_loop [8] (fun u => ∃ k : Nat, u = .int .i64 k ∧ k ≤ xs.length ∧ ∀ j, j < k → pr (xs.getD j 0) = false) (fun u => xs.length - (intOf u).toNat)
  case atStart => exact ⟨0, rfl, Nat.zero_le _, by omega⟩
  case round =>
    obtain ⟨k, rfl, hk, hall⟩ := hrel
    have HALL := Lib.hid hall; clear hall
    by_cases hlt : k < xs.length
    · obtain ⟨b, o, rfl, hb, hcell⟩ := HH.out.at (by omega)
      have hck := hcell k hlt
      have hmem : xs.getD k 0 ∈ xs := by rw [List.getD_eq_getElem?_getD, List.getElem?_eq_getElem hlt]; exact List.getElem_mem hlt
      have hcall := HS.out _ hmem
      have HX : Hid (pr (xs.getD k 0) = true → firstAt pr xs = (k : Int)) := fun hy => firstAt_some hlt HALL.out hy
      have HY : Hid (pr (xs.getD k 0) = false → ∀ j, j < k + 1 → pr (xs.getD j 0) = false) := fun hn j hj => by
        by_cases e : j = k
        · rw [e]; exact hn
        · exact HALL.out j (by omega)
      clear hcell hmem
      generalize xs.getD k 0 = x at hck hcall HX HY
      cases hq : pr x with
      | true =>
        rw [hq] at hcall
        have HE := Lib.hid (HX.out hq)
        clear hq HX HY
        have HC := Lib.hid hcall; clear hcall
        go_wp2_with (go_at_fn F; refine HC.out.mono ?_; rintro e w' ⟨rfl, rfl⟩)
        go_ret
        exact ⟨ret_int HE.out.symm, rfl⟩
      | false =>
        rw [hq] at hcall
        have HE := Lib.hid (HY.out hq)
        clear hq HX HY
        have HC := Lib.hid hcall; clear hcall
        go_wp2_with (go_at_fn F; refine HC.out.mono ?_; rintro e w' ⟨rfl, rfl⟩)
        go_round
        case rel => exact ⟨k + 1, by go_num, by omega, HE.out⟩
        case measure => simp [intOf]; omega
    · have HE : Hid (firstAt pr xs = -1) := firstAt_none (fun j hj => HALL.out j (by omega))
      go_wp2
      go_ret
      exact ⟨ret_int HE.out.symm, rfl⟩

theorem grown_set (w : World) (g i : Nat) (u : Value) : w.grownBy (w.setCell ⟨g, i, none⟩ u) (some g) := ⟨rfl, rfl, rfl, by simp [World.setCell], fun k _ hne => Below.heap_setCell _ _ _ _ (fun e => hne (by rw [e]))⟩
theorem grown_tr {a b c : World} {row : Option Nat} (h : a.grownBy b row) (k : b.grownBy c row) : a.grownBy c row :=
  ⟨k.os.trans h.os, k.tape.trans h.tape, k.output.trans h.output, Nat.le_trans h.size k.size, fun i hi hne => (k.block i (Nat.lt_of_lt_of_le hi h.size) hne).trans (h.block i hi hne)⟩

theorem OwnInts.zeros {base g c n : Nat} : ∀ (m o : Nat) (w : World) (ys : List Int), OwnInts w base (.slice (some ⟨g, 0, none⟩) n c) ys → o + m ≤ ys.length →
    ∃ ys', OwnInts (w.setCells g o (List.replicate m (.int .i64 0))) base (.slice (some ⟨g, 0, none⟩) n c) ys' ∧ ys'.length = ys.length ∧ ys'.take o = ys.take o ∧ w.grownBy (w.setCells g o (List.replicate m (.int .i64 0))) (some g)
  | 0, o, w, ys, h, _ => ⟨ys, h, rfl, rfl, World.grownBy.refl _ _⟩
  | m + 1, o, w, ys, h, hm => by
    obtain ⟨ys', h1, h2, h3, h4⟩ := OwnInts.zeros m (o + 1) _ _ (h.set (i := o) (by omega) (x := 0) (by unfold I64; omega)) (by simp; omega)
    refine ⟨ys', h1, by rw [h2]; simp, ?_, grown_tr (grown_set w g o _) h4⟩
    have := congrArg (List.take o) h3
    rw [List.take_take, List.take_take, Nat.min_eq_left (by omega), List.take_set_of_le (by omega)] at this
    exact this

def KeptAt (pr : Int → Bool) (xs ys : List Int) (i j : Nat) : Prop := ys.length = xs.length ∧ i < j ∧ j ≤ xs.length ∧ ys.take i = (xs.take j).filter (fun x => !pr x) ∧ ys.drop j = xs.drop j

theorem take_one {xs : List Int} {j : Nat} (h : j < xs.length) : xs.take (j + 1) = xs.take j ++ [xs.getD j 0] := by
  rw [List.take_succ_eq_append_getElem h, List.getD_eq_getElem?_getD, List.getElem?_eq_getElem h]; rfl

theorem KeptAt.skip {pr : Int → Bool} {xs ys : List Int} {i j : Nat} (h : KeptAt pr xs ys i j) (hj : j < xs.length) (hp : pr (xs.getD j 0) = true) : KeptAt pr xs ys i (j + 1) := by
  obtain ⟨h1, h2, h3, h4, h5⟩ := h
  refine ⟨h1, by omega, by omega, ?_, ?_⟩
  · rw [h4, take_one hj, List.filter_append]; simp only [List.filter_cons, hp, Bool.not_true, List.filter_nil]; simp
  · have := congrArg (List.drop 1) h5
    rw [List.drop_drop, List.drop_drop] at this
    exact this
theorem KeptAt.keep {pr : Int → Bool} {xs ys : List Int} {i j : Nat} (h : KeptAt pr xs ys i j) (hj : j < xs.length) (hp : pr (xs.getD j 0) = false) : KeptAt pr xs (ys.set i (xs.getD j 0)) (i + 1) (j + 1) := by
  obtain ⟨h1, h2, h3, h4, h5⟩ := h
  refine ⟨by simp [h1], by omega, by omega, ?_, ?_⟩
  · rw [take_one hj, List.filter_append, ← h4, take_one (by simp; omega), List.take_set_of_le (by omega)]
    simp only [List.filter_cons, hp, Bool.not_false, List.filter_nil, if_true]
    congr 2
    rw [List.getD_eq_getElem?_getD, List.getElem?_set_self (by omega)]; rfl
  · rw [List.drop_set_of_lt (by omega)]
    have := congrArg (List.drop 1) h5
    rw [List.drop_drop, List.drop_drop] at this
    exact this
theorem KeptAt.at {pr : Int → Bool} {xs ys : List Int} {i j : Nat} (h : KeptAt pr xs ys i j) (hj : j < xs.length) : ys.getD j 0 = xs.getD j 0 := by
  obtain ⟨h1, h2, h3, h4, h5⟩ := h
  have := congrArg (fun l => l[0]?) h5
  simp only [List.getElem?_drop, Nat.add_zero] at this
  rw [List.getD_eq_getElem?_getD, List.getD_eq_getElem?_getD, this]
theorem KeptAt.first {pr : Int → Bool} {xs : List Int} {k : Nat} (hk : k < xs.length) (h : ∀ j, j < k → pr (xs.getD j 0) = false) (hy : pr (xs.getD k 0) = true) : KeptAt pr xs xs k (k + 1) := by
  refine ⟨rfl, by omega, by omega, ?_, rfl⟩
  rw [take_one hk, List.filter_append]
  simp only [List.filter_cons, hy, Bool.not_true, List.filter_nil]
  have : (xs.take k).filter (fun x => !pr x) = xs.take k := by
    rw [List.filter_eq_self]
    intro x hx
    obtain ⟨j, hj, e⟩ := List.mem_iff_getElem.1 hx
    simp at hj
    have := h j (by omega)
    rw [List.getD_eq_getElem?_getD, List.getElem?_eq_getElem (by omega)] at this
    simp only [Option.getD_some] at this
    rw [List.getElem_take] at e
    rw [← e, this]; rfl
  rw [this]; simp

theorem firstAt_cases (pr : Int → Bool) (xs : List Int) : (firstAt pr xs = -1 ∧ xs.filter (fun x => !pr x) = xs) ∨ ∃ k : Nat, firstAt pr xs = (k : Int) ∧ k < xs.length ∧ KeptAt pr xs xs k (k + 1) := by
  by_cases h : xs.any pr = true
  · right
    have hk := List.findIdx_lt_length_of_exists (p := pr) (List.any_eq_true.1 h)
    refine ⟨xs.findIdx pr, by unfold firstAt; rw [if_pos h], hk, KeptAt.first hk (fun j hj => ?_) ?_⟩
    · have := List.not_of_lt_findIdx (p := pr) hj
      rw [List.getD_eq_getElem?_getD, List.getElem?_eq_getElem (by omega)]
      simpa using this
    · have := List.findIdx_getElem (p := pr) (w := hk)
      rw [List.getD_eq_getElem?_getD, List.getElem?_eq_getElem hk]
      simpa using this
  · left
    refine ⟨by unfold firstAt; rw [if_neg h], ?_⟩
    rw [List.filter_eq_self]
    intro x hx
    simp only [List.any_eq_true, not_exists, not_and, Bool.not_eq_true] at h
    rw [h x hx]; rfl

/-- What DeleteFunc gives back. -/
def RetDel (w : World) (base : Nat) (v : Value) (ys : List Int) (e : Ending) (w' : World) : Prop :=
  ∃ v', e = .returned v' ∧ OwnInts w' base v' ys ∧ w.grownBy w' v.ownBlock ∧ (v'.ownBlock = v.ownBlock)

set_option maxRecDepth 100000 in
set_option maxHeartbeats 1000000 in
theorem deleteFunc_any (F : Nat) (cap : Array Value) (eg : ∀ args w, (callFunc F args).run Try.prog w = .ok (.enter F args) w) (pr : Int → Bool) (base : Nat) (v : Value) (xs : List Int) (w : World) (h : OwnInts w base v xs) (hs : Says F cap w v.ownBlock xs pr) :
    Calls Try.prog 62 #[v, .func (.func F) #[] cap] w (RetDel w base v (xs.filter fun x => !pr x)) := by
  have hif := indexFunc_any F cap eg pr v xs w h.ints (fun w' x hg hx => hs w' x ⟨hg.os, hg.tape, hg.output, hg.size, fun k hk _ => hg.block k hk (by simp)⟩ hx)
  rcases firstAt_cases pr xs with ⟨e1, e2⟩ | ⟨k, e1, hk, hkept⟩
  · rw [e1] at hif
    have HIF := Lib.hid hif
    have HE : Hid (RetDel w base v (xs.filter fun x => !pr x) (.returned v) w) := ⟨v, rfl, by rw [e2]; exact h, World.grownBy.refl _ _, rfl⟩
    clear hif e1 e2 h hs
    go_enter Try.func62, Try.ntmps62
    go_wp2_with (go_at_call 73; refine HIF.out.mono ?_; rintro e w' ⟨rfl, rfl⟩)
    go_ret
    exact HE.out
  · rw [e1] at hif
    obtain ⟨g, c, rfl, hcn, hcm⟩ : ∃ g c, v = .slice (some ⟨g, 0, none⟩) xs.length c ∧ xs.length ≤ c ∧ c ≤ 9223372036854775807 := by
      obtain ⟨a, c, rfl, h1, h2, _⟩ := h.ints.len
      obtain ⟨g, rfl, _⟩ := h.spot (by omega)
      exact ⟨g, c, rfl, h1, h2⟩
    have hle := h.ints.le
    have HIF := Lib.hid hif; have HO := Lib.hid h; have HK := Lib.hid hkept; have HSY := Lib.hid hs
    have hk1 : ((k : Int) == -1) = false := beq_eq_false_iff_ne.2 (by omega)
    clear hif e1 h hs hkept
    go_enter Try.func62, Try.ntmps62
    go_wp2_with (go_at_call 73; refine HIF.out.mono ?_; rintro e w' ⟨rfl, rfl⟩)
    go_loopw [5, 6] (fun u u6 wr => ∃ (i j : Nat) (ys : List Int), u = .int .i64 i ∧ u6 = .int .i64 j ∧ KeptAt pr xs ys i j ∧ OwnInts wr base (.slice (some ⟨g, 0, none⟩) xs.length c) ys ∧ w.grownBy wr (some g)) (fun _ u6 _ => xs.length - (intOf u6).toNat)
    case atStart => exact ⟨k, k + 1, xs, rfl, by go_num, HK.out, HO.out, World.grownBy.refl _ _⟩
    case round =>
      obtain ⟨i, j, ys, rfl, rfl, hka, how, hgr⟩ := hrel
      have HKA := Lib.hid hka; have HOW := Lib.hid how; have HGR := Lib.hid hgr
      obtain ⟨q1, q2, q3, _, _⟩ := hka
      obtain ⟨g2, e, hg1, hg2, hcell, hfz⟩ := how.spot (by omega)
      simp only [Option.some.injEq, Addr.mk.injEq] at e
      obtain ⟨rfl, _⟩ := e
      by_cases hlt : j < xs.length
      · have cj := hcell j (by omega)
        rw [HKA.out.at hlt] at cj
        have ci := hcell i (by omega)
        have zi := hfz i
        have hmem : xs.getD j 0 ∈ xs := by rw [List.getD_eq_getElem?_getD, List.getElem?_eq_getElem hlt]; exact List.getElem_mem hlt
        have hcall := HSY.out wr _ hgr hmem
        have HI : Hid (I64 (xs.getD j 0)) := HO.out.1.1 _ hmem
        obtain ⟨x, hx⟩ : ∃ x, x = xs.getD j 0 := ⟨_, rfl⟩
        rw [← hx] at cj hcall HI
        have HX := Lib.hid hx
        generalize ys.getD i 0 = old at ci
        cases hq : pr x with
        | true =>
          rw [hq] at hcall
          have HN : Hid (KeptAt pr xs ys i (j + 1)) := HKA.out.skip hlt (by rw [← HX.out]; exact hq)
          have HC := Lib.hid hcall; clear hcall hq hx hcell hfz how hgr ci zi hmem
          go_wp2_with (go_at_fn F; refine HC.out.mono ?_; rintro e w' ⟨rfl, rfl⟩)
          go_roundw
          case rel => exact ⟨i, j + 1, ys, rfl, by go_num, HN.out, HOW.out, HGR.out⟩
          case measure => simp [intOf]; omega
        | false =>
          rw [hq] at hcall
          have HN : Hid (KeptAt pr xs (ys.set i x) (i + 1) (j + 1)) := by rw [Hid, HX.out]; exact HKA.out.keep hlt (by rw [← HX.out]; exact hq)
          have HC := Lib.hid hcall; clear hcall hq hx hcell hfz how hgr hmem
          go_wp2_with (go_at_fn F; refine HC.out.mono ?_; rintro e w' ⟨rfl, rfl⟩)
          go_roundw
          case rel => exact ⟨i + 1, j + 1, _, by go_num, by go_num, HN.out, HOW.out.set (by omega) HI.out, grown_tr HGR.out (grown_set _ _ _ _)⟩
          case measure => simp [intOf]; omega
      · obtain rfl : j = xs.length := by omega
        have hcl : ∀ ty, (Builtin.clear_ #[23] ty #[.slice (some ⟨g, i, none⟩) (xs.length - i) (c - i)]).run Try.prog wr = .ok (.tuple #[]) (wr.setCells g i (List.replicate (xs.length - i) (.int .i64 0))) := fun ty =>
          Lib.run_clear_slice wr _ _ ty _ Try.underlying23 (fun w => by kernel_rfl) rfl rfl g i _ _ (by omega) (fun t ht => by rw [hcell (i + t) (by omega)]; rfl) (fun t ht => hfz (i + t))
        obtain ⟨ys', y1, y2, y3, y4⟩ := HOW.out.zeros (xs.length - i) i wr ys (by omega)
        have HEND : Hid (RetDel w base (.slice (some ⟨g, 0, none⟩) xs.length c) (xs.filter fun x => !pr x) (.returned (.slice (some ⟨g, 0, none⟩) i c)) (wr.setCells g i (List.replicate (xs.length - i) (.int .i64 0)))) := by
          refine ⟨_, rfl, ?_, grown_tr HGR.out y4, rfl⟩
          have := y1.take (k := i) (by omega)
          have e := HKA.out.2.2.2.1
          rw [List.take_length] at e
          rw [y3, e] at this
          exact this
        have hne : (c = i) = False := by simp; omega
        have hic : i ≤ c := by omega
        have hil : i ≤ xs.length := by omega
        clear hcell hfz how hgr y1 y2 y3 y4
        go_wp2
        go_ret
        exact HEND.out
end Go.Proofs.Ytbeilcaadpopmab
