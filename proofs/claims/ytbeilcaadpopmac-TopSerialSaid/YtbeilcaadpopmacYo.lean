/- Texts put together: Un. -/
import Derived.Test.YtbeilcaadpopmacY4
set_option linter.unusedVariables false
set_option linter.unusedSimpArgs false
namespace Go.Proofs.Ytbeilcaadpopmac
theorem modify_twice {α:Type} (f g:α->α):∀(l:List α) (i:Nat),(l.modify i f).modify i g=l.modify i λx=>g (f x)
  | [],i=>by simp
  | x :: l,0=>by simp
  | x :: l,i+1=>by simpa using modify_twice f g l i
theorem modify_same {α:Type} (f:α->α):∀(l:List α) (i:Nat),(∀x,l[i]? = some x->f x=x)->l.modify i f=l
  | [],i,_=>by simp
  | x :: l,0,h=>by simp[h x (by simp)]
  | x :: l,i+1,h=>by simpa using modify_same f l i (λy hy=>h y (by simpa using hy))
theorem modify_comm {α:Type} {f g:α->α} (h:∀x,f (g x)=g (f x)):∀(l:List α) (i j:Nat),(l.modify i f).modify j g=(l.modify j g).modify i f
  | [],i,j=>by simp
  | x :: l,0,0=>by simp[h]
  | x :: l,0,j+1=>by simp
  | x :: l,i+1,0=>by simp
  | x :: l,i+1,j+1=>by simpa using modify_comm h l i j
theorem backF_snoc (l:List Thing) (c:Nat × Nat × V):∀cs,backF l (cs++[c])=backF (setF l c.1 c.2.1 c.2.2) cs
  | []=>rfl
  | d :: cs=>by rw[List.cons_append,backF,backF,backF_snoc l c cs]
theorem backF_turn (n:Nat) (f:Thing->Thing) (h:∀k v x,setT k v (f x)=f (setT k v x)) (l:List Thing):∀cs,backF (turnT l n f) cs=turnT (backF l cs) n f
  | []=>rfl
  | c :: cs=>by
    rw[backF,backF,backF_turn n f h l cs]
    exact (modify_comm (λx=>h _ _ x) _ _ _).symm
theorem setF_back (l:List Thing) (n k:Nat) (v:V):setF (setF l n k v) n k ((th l n).fields.getD k (.num 0))=l:=by
  unfold setF turnT
  rw[modify_twice]
  refine modify_same _ _ _ λx hx=>?_
  have e:th l n=x:=by unfold th;rw[List.getD_eq_getElem?_getD,hx];rfl
  rw[e]
  simp only [setT,List.set_set]
  cases x with
  | mk fields version owner gone fresh kept =>
    simp only [Thing.mk.injEq,and_self,and_true]
    by_cases hk:k<fields.length
    · rw[List.getD_eq_getElem?_getD,List.getElem?_eq_getElem hk]
      exact List.set_getElem_self hk
    · exact List.set_eq_of_length_le (by omega)
structure Good (H:Hall):Prop where
  deals:DealsOk H
  cl:Cl (λf=>f.2.2=false) H
  own:OwnOk H
theorem Good.act {H:Hall} (h:Good H) (c:ActM) (hc:cleaning c=false):Good (H.act c).1 :=
  ⟨act_deals H c h.deals,h.cl.act (Q:=λf=>f.2.2=false) (by simp) rfl c hc,h.own.act h.cl h.deals c⟩
theorem Good.start (w:Nat):Good (hall0 w) :=
  ⟨deals_start w,⟨λ_ _ _ _=>trivial,λ_ _ _ _=>trivial,λ_ _ c hc=>(by cases hc),λ_ _ c hc=>(by cases hc),λ_ _ c hc=>(by cases hc),λi hi v hv=>(by have:=PI.le (by simp) hi;simp[hall0] at this;omega)⟩,
    ⟨λ_ _ c hc=>(by cases hc),λi _ t h=>(by cases h),λ_ _=>List.nodup_nil,λ_ _ c hc=>(by cases hc),λ_ _=>List.nodup_nil,λ_ _ c hc=>(by cases hc)⟩⟩
theorem Good.runs:∀(l:List ActM) {H:Hall},Good H->(∀c ∈ l,cleaning c=false)->Good (H.runs l)
  | [],H,h,_=>h
  | c :: l,H,h,hl=>Good.runs l (h.act c (hl c (by simp))) (λd hd=>hl d (by simp[hd]))
theorem Good.was_le {H:Hall} (h:Good H) {t:Nat} (ht:t<4):∀c ∈ (H.deals t).changes,1<=c.1/\c.1<=H.things.length:=λc hc=>PI.le (by simp) (h.cl.was t ht c hc).1
theorem Good.own_le {H:Hall} (h:Good H) {t:Nat} (ht:t<4):∀c ∈ (H.deals t).owned,1<=c.1/\c.1<=H.things.length:=λc hc=>PI.le (by simp) (h.cl.owned t ht c hc)
def Hall.more (H:Hall) (ex:List Thing):Hall:={ H with things:=H.things++ex }
def und (G:Hall):List Thing:=freeF (backF G.things (G.deals 0).changes) (G.deals 0).owned
theorem put2_other {α:Type} (f:Nat->Nat->α) (t r:Nat) (v:α) {u:Nat} (h:u≠t):put2 f t r v u=f u:=by
  funext i
  simp[put2,h]
end Go.Proofs.Ytbeilcaadpopmac
