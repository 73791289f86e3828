/- Texts put together: Fi. -/
import Derived.Test.YtbeilcaadpopmacYg
set_option linter.unusedVariables false
set_option linter.unusedSimpArgs false
namespace Go.Proofs.Ytbeilcaadpopmac
open Go.RowKit Go.Maps
def AnsRow (w:World) (v:Value) (X:List AnsM):Prop:=Row w v X.length 7 (cellsAns X)
theorem AnsRow.below {w w':World} {v:Value} {X:List AnsM} (h:AnsRow w v X) (hb:Below w.heap.size w w'):AnsRow w' v X:=Row.below h (Nat.le_refl _) hb
theorem OwnAns.ansRow {w:World} {base:Nat} {v:Value} {l:List AnsM} (h:OwnAns w base v l):AnsRow w v l:=h.row
theorem Row.first {w:World} {a:Option Addr} {n c size k:Nat} {cs:List Value} (h:Row w (.slice a n c) n size cs) (hk:k<=n):Row w (.slice a k c) k size (cs.take (k * size)):=by
  obtain⟨h1,h2,a',c',e,h3,h4,h5,h6⟩:=h
  simp only [Value.slice.injEq,true_and] at e
  obtain⟨rfl,rfl⟩:=e
  have hks:k * size<=n * size:=Nat.mul_le_mul_right _ hk
  refine⟨by rw[List.length_take];omega,by omega,a,c,rfl,by omega,h4,h5,λh0=>?_⟩
  obtain⟨b,o,e1,hb,hc⟩:=h6 (by omega)
  refine⟨b,o,e1,hb,λi hi=>?_⟩
  rw[List.length_take] at hi
  rw[hc i (by omega),List.getD_eq_getElem?_getD,List.getD_eq_getElem?_getD,List.getElem?_take_of_lt (by omega)]
theorem cellsAct_take:∀(l:List ActM) (k:Nat),cellsAct (l.take k)=(cellsAct l).take (k * 5)
  | [],k=>by simp[cellsAct]
  | m :: ms,0=>by simp[cellsAct]
  | m :: ms,k+1=>by
    have e:∀ns,cellsAct (m :: ns) = .int .i64 m.kind :: .int .i64 m.t :: .int .i64 m.a :: .int .i64 m.b :: .int .i64 m.n :: cellsAct ns:=λns=>rfl
    rw[List.take_succ_cons,e,e,cellsAct_take ms k,show (k+1) * 5=k * 5+1+1+1+1+1 by omega]
    simp only [List.take_succ_cons]
theorem cellsAns_take:∀(l:List AnsM) (k:Nat),cellsAns (l.take k)=(cellsAns l).take (k * 7)
  | [],k=>by simp[cellsAns]
  | m :: ms,0=>by simp[cellsAns]
  | m :: ms,k+1=>by
    have e:∀ns,cellsAns (m :: ns) = .int .i64 m.code :: .bool m.is :: .int .i64 m.number :: .bool m.yes :: .int .i64 m.words :: .bool m.going :: .int .i64 m.freed :: cellsAns ns:=λns=>rfl
    rw[List.take_succ_cons,e,e,cellsAns_take ms k,show (k+1) * 7=k * 7+1+1+1+1+1+1+1 by omega]
    simp only [List.take_succ_cons]
theorem Acts.first {w:World} {a:Option Addr} {n c k:Nat} {l:List ActM} (h:Acts w (.slice a n c) l) (hn:n=l.length) (hk:k<=n):Acts w (.slice a k c) (l.take k):=by
  subst hn
  obtain⟨⟨h1,h2⟩,h3⟩:=h
  have:=h3.first hk
  refine⟨⟨λr hr=>h1 r (List.mem_of_mem_take hr),by rw[List.length_take];omega⟩,?_⟩
  rw[cellsAct_take,List.length_take,Nat.min_eq_left hk]
  exact this
theorem AnsRow.first {w:World} {a:Option Addr} {n c k:Nat} {l:List AnsM} (h:AnsRow w (.slice a n c) l) (hn:n=l.length) (hk:k<=n):AnsRow w (.slice a k c) (l.take k):=by
  subst hn
  have:=Row.first h hk
  rw[AnsRow,cellsAns_take,List.length_take,Nat.min_eq_left hk]
  exact this
theorem upicked_any (n m:Int) (w:World) (h0 : -9223372036854775808<=n) (h1:n<=9223372036854775807) (h2:1<=m) (h3:m<=9223372036854775807) :
    Calls Try.prog 16 #[.int .i64 n,.int .i64 m] w λe w'=>e = .returned (.int .i64 (pick n m))/\w=w':=by
  go_enter Try.func16,Try.ntmps16
  go_wp2_with (go_at_call 20;refine (picked_any _ _ _ h0 h1 h2 h3).mono ?_;rintro e w' ⟨rfl,rfl⟩)
  go_ret
  exact⟨rfl,rfl⟩
end Go.Proofs.Ytbeilcaadpopmac
