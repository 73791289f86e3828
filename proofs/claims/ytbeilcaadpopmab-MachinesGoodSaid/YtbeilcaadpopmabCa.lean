/- Walk: slices.Clone at acts (for a seat without the rest of its text). -/
import Derived.Test.YtbeilcaadpopmabZg
import Derived.Lib.SliceRun
set_option linter.unusedVariables false
set_option linter.unusedSimpArgs false
namespace Go.Proofs.Ytbeilcaadpopmab
open Go.RowKit Go.Maps

set_option maxRecDepth 100000 in
theorem cloneActs_any (v : Value) (l : List ActM) (w : World) (h : Acts w v l) (hl : l.length ≤ 1000) :
    Calls Try.prog 47 #[v] w fun e w' => Below w.heap.size w w' ∧ ∃ a c, e = .returned (.slice a l.length c) ∧ OwnAct w' w.heap.size (.slice a l.length c) l := by
  obtain ⟨a, c, rfl, hc, hcm, hn⟩ := h.len
  cases a with
  | none =>
    have := hn rfl
    subst this
    have hx : l = [] := List.eq_nil_of_length_eq_zero (by omega)
    subst hx
    clear h hn
    have hq := @Lib.run_eql_slice_nil Try.prog
    go_enter Try.func47, Try.ntmps47
    go_wp2
    go_ret
    exact ⟨(by repeat (first | exact Below.refl _ _ | with_reducible refine below_drewN ?_ _ | with_reducible refine Below.drew ?_ | with_reducible refine Below.alloc ?_ (by first | exact Nat.le_refl _ | (simp; done) | omega | (simp; omega)) _ | with_reducible refine Below.setCell ?_ (by first | exact Nat.le_refl _ | (simp; done) | omega | (simp; omega)) _)), none, 0, rfl, OwnAct.nil _ _⟩
  | some ad =>
    have H := Lib.hid h; clear h hn
    have hq := @Lib.run_eql_slice_nil Try.prog
    have hown : OwnAct (w.alloc (.cells #[] 46)) w.heap.size (.slice (some ⟨w.heap.size, 0, none⟩) 0 0) [] := ⟨by simp, World.ownsRow_made w #[] 0 (Nat.le_refl _) (Nat.zero_le _) rfl⟩
    have hin : Acts (w.alloc (.cells #[] 46)) (.slice (some ad) l.length c) l := H.out.below (Nat.le_refl _) (by repeat (first | exact Below.refl _ _ | with_reducible refine below_drewN ?_ _ | with_reducible refine Below.drew ?_ | with_reducible refine Below.alloc ?_ (by first | exact Nat.le_refl _ | (simp; done) | omega | (simp; omega)) _ | with_reducible refine Below.setCell ?_ (by first | exact Nat.le_refl _ | (simp; done) | omega | (simp; omega)) _))
    have HO := Lib.hid hown; clear hown
    have HI := Lib.hid hin; clear hin
    go_enter Try.func47, Try.ntmps47
    go_wp2_with (at_builtin; refine wpl_append_Act rfl _ _ rfl w.heap.size (.slice (some ⟨w.heap.size, 0, none⟩) 0 0) [] rfl HO.out _ l rfl HI.out.2 (by simp; omega) (by simp) ?_; intro v' w' hv' hg hmv; obtain ⟨a', c', rfl⟩ := hv'.shape)
    refine bodyPost_ret (v := .slice a' l.length c') (by simp [results, Try.results47, go_sem, *]) rfl ⟨((Below.refl _ _).alloc (Nat.le_refl _) _).grown hg (by simp) (by simp [Value.ownBlock]), a', c', rfl, ?_⟩
    simpa using hv'
end Go.Proofs.Ytbeilcaadpopmab
