/- Texts put together: Mc, Mr, Mm, Mu, Mw, Me, Mo, Mp. -/
import Derived.Test.YtbeilcaadpopmabY2
import Derived.Test.YtbeilcaadpopmabY1
import Derived.Maps.RangeWalk
import Derived.Deep.MidRow
import Derived.Deep.DeepCutAuto
import Derived.Deep.RegionHeld3
set_option linter.unusedVariables false
set_option linter.unusedSimpArgs false
namespace Go.Proofs.Ytbeilcaadpopmab
structure CU where
  p:Nat
  k:Nat
  was:Int × Int
structure CTx where
  op:Bool
  saved:Nat->Int × Int
  reads:Int->Option Int
  owned:Int->Option Int
  undo:List CU
def noTx:CTx:=⟨false,λ_=>(0,0),λ_=>none,λ_=>none,[]⟩
structure CM where
  xs:List Int
  top:Nat
  regs:Nat->Nat->Int × Int
  txs:Nat->CTx
  going:Bool
  gray:List Int
  S:List Int
def pt {α:Type} (f:Nat->α) (t:Nat) (v:α):Nat->α:=λk=>if k=t then v else f k
theorem pt_same {α:Type} (f:Nat->α) (t:Nat) (v:α):pt f t v t=v:=by simp[pt]
theorem pt_other {α:Type} (f:Nat->α) {t k:Nat} (v:α) (h:k≠t):pt f t v k=f k:=by simp[pt,h]
def pt2 {α:Type} (f:Nat->Nat->α) (t r:Nat) (v:α):Nat->Nat->α:=λk i=>if k=t/\i=r then v else f k i
def CM.push (M:CM) (p:Int):CM:={ M with gray:=pushG p M.gray M.S,S:=pushS p M.S }
def CM.see (M:CM) (v:Int × Int):CM:=if M.going=true/\v.1=1 then M.push v.2 else M
def CM.store (M:CM) (i:Nat) (v:Int × Int):CM:={ M.see (ofK (M.xs.getD i 0),ofN (M.xs.getD i 0)) with xs:=M.xs.set i (wordOf v.1 v.2) }
def redo (xs:List Int) (f:Int->Option Int):List Int:=xs.mapIdx λi x=>(f (i:Int)).getD x
def CM.back (M:CM) (us:List CU):CM:=us.foldr (λu M=>M.store (u.p+2+u.k) u.was) M
def CM.shut (M:CM) (t:Nat):CM:={ M with txs:=pt M.txs t noTx }
def CM.abort (M:CM) (t:Nat):CM :=
  { M.back (M.txs t).undo with xs:=redo (M.back (M.txs t).undo).xs (λp=>((M.txs t).owned p).map (2 * ·)),regs:=pt M.regs t (M.txs t).saved,txs:=pt M.txs t noTx }
def CM.object (M:CM) (t r:Nat) (f:Int):Int :=
  if (M.txs t).op=false then 5 else
  if (M.regs t r).1≠1\/(M.regs t r).2=0 then 7 else
  if f<0\/M.xs.getD ((M.regs t r).2.toNat+1) 0<=f then 4 else
  if M.xs.getD (M.regs t r).2.toNat 0 % 2=1/\M.xs.getD (M.regs t r).2.toNat 0≠2 * t+1 then 6 else 0
def CM.failed (M:CM) (t:Nat) (e:Int):CM:=if e=6 then M.abort t else M
def CM.setReg (M:CM) (t r:Nat) (v:Int × Int):CM:={ M with regs:=pt2 M.regs t r v }
def CTx.read (x:CTx) (p v:Int):CTx:={ x with reads:=λz=>if z=p then some v else x.reads z }
def CTx.own (x:CTx) (p v:Int):CTx:={ x with owned:=λz=>if z=p then some v else x.owned z }
def CTx.log (x:CTx) (u:CU):CTx:={ x with undo:=x.undo++[u] }
def CM.setTx (M:CM) (t:Nat) (x:CTx):CM:={ M with txs:=pt M.txs t x }
def CM.noteRead (M:CM) (t:Nat) (p:Nat):CM :=
  if (M.txs t).reads p=none/\M.xs.getD p 0≠2 * t+1 then M.setTx t ((M.txs t).read p (M.xs.getD p 0 / 2)) else M
def CM.word (M:CM) (i:Nat):Int × Int:=(ofK (M.xs.getD i 0),ofN (M.xs.getD i 0))
def CM.get (M:CM) (t a p:Nat) (f:Int):CM:=(M.noteRead t p).setReg t a (M.word (p+2+f.toNat))
def CM.takeOwn (M:CM) (t p:Nat):CM :=
  if M.xs.getD p 0≠2 * t+1 then { M.setTx t ((M.txs t).own p (M.xs.getD p 0 / 2)) with xs:=M.xs.set p (2 * t+1) } else M
def CM.log (M:CM) (t p k:Nat):CM:=M.setTx t ((M.txs t).log ⟨p,k,M.word (p+2+k)⟩)
def CM.put (M:CM) (t p k:Nat) (v:Int × Int):CM:=((M.takeOwn t p).log t p k).store (p+2+k) v
def CM.nowOf (M:CM) (t:Nat) (p:Int):Int:=match (M.txs t).owned p with
  | some was=>was
  | none=>if M.xs.getD p.toNat 0 % 2=1 then -1 else M.xs.getD p.toNat 0 / 2
def CM.Fits (M:CM) (t:Nat):Prop:=∀p v,(M.txs t).reads p=some v->M.nowOf t p=v
def CM.done (M:CM) (t:Nat):CM:={ M.shut t with xs:=redo M.xs (λp=>((M.txs t).owned p).map (λv=>2 * (v+1))) }
end Go.Proofs.Ytbeilcaadpopmab
namespace Go.Proofs.Ytbeilcaadpopmab
open Go.RowKit Go.Maps
def strike (todo:Int->Bool) (x:Int):Int->Bool:=λz=>todo z && !decide (z=x)
def FunRange (w:World) (b r n:Nat) (f:Int->Option Int) (todo:Int->Bool) (cnt:Nat):Prop :=
  ∃(D:DataW Unit) (left:Lit->Bool),w.ranges Try.prog 3 (plainElem Try.prog 3) b r n D left cnt/\IsMap D/\(∀x,has D (.int .i64 x)=(f x).isSome/\D.atKey (.int .i64 x) (.lit (.int .i64 0)) = .lit (.int .i64 ((f x).getD 0)))/\∀x,todo x=left (.int .i64 x)
theorem FunRange.map {w:World} {b r n cnt:Nat} {f:Int->Option Int} {todo:Int->Bool} (h:FunRange w b r n f todo cnt):FunMap w b n f:=by
  obtain⟨D,left,h1,h2,h3,_⟩:=h
  exact⟨D,h1.owns,h2,h3⟩
theorem FunRange.left_eq {w:World} {b r n cnt:Nat} {f:Int->Option Int} {todo:Int->Bool} (h:FunRange w b r n f todo cnt):w.rangeLeft b r=cnt:=by
  obtain⟨D,left,h1,_⟩:=h
  exact h1.left_eq
theorem FunRange.keep {w w':World} {b r n cnt:Nat} {f:Int->Option Int} {todo:Int->Bool} (h:FunRange w b r n f todo cnt) (e1:w'.heap[b]? = w.heap[b]?) (e2:w'.heap[r]? = w.heap[r]?):FunRange w' b r n f todo cnt:=by
  obtain⟨D,left,⟨es,clock,since,seen,c0,g1,g2,g3,g4,g5,g6⟩,h2⟩:=h
  exact⟨D,left,⟨es,clock,since,seen,c0,e1.trans g1,g2,g3,g4,e2.trans g5,g6⟩,h2⟩
theorem FunRange.lt {w:World} {b r n cnt:Nat} {f:Int->Option Int} {todo:Int->Bool} (h:FunRange w b r n f todo cnt):b<w.heap.size/\r<w.heap.size:=by
  obtain⟨D,left,⟨es,clock,since,seen,c0,g1,g2,g3,g4,g5,g6⟩,h2⟩:=h
  exact⟨(Array.getElem?_eq_some_iff.1 g1).1,(Array.getElem?_eq_some_iff.1 g5).1⟩
theorem FunMap.keep {w w':World} {b n:Nat} {f:Int->Option Int} (h:FunMap w b n f) (e1:w'.heap[b]? = w.heap[b]?):FunMap w' b n f:=by
  obtain⟨D,⟨es,clock,g1,g2⟩,h2⟩:=h
  exact⟨D,⟨es,clock,e1.trans g1,g2⟩,h2⟩
theorem SetMap.keep {w w':World} {b n:Nat} {S:List Int} (h:SetMap w b n S) (e1:w'.heap[b]? = w.heap[b]?):SetMap w' b n S:=by
  obtain⟨D,⟨es,clock,g1,g2⟩,h2⟩:=h
  exact⟨D,⟨es,clock,e1.trans g1,g2⟩,h2⟩
theorem ownsRow_keep {w w':World} {base:Nat} {e:TypeId} {size n:Nat} {v:Value} {xs:List Value} (h:w.ownsRow base e size v n xs) (k:∀b,v.ownBlock=some b->w'.heap[b]? = w.heap[b]?):w'.ownsRow base e size v n xs:=by
  refine⟨h.1,?_⟩
  rcases h.2 with h2|⟨g,cap,cur,hv,hg,hh,r⟩
  · exact .inl h2
  · exact .inr ⟨g,cap,cur,hv,hg,(k g (by rw[hv];rfl)).trans hh,r⟩
theorem OwnInts.keep {w w':World} {base:Nat} {v:Value} {xs:List Int} (h:OwnInts w base v xs) (k:∀b,v.ownBlock=some b->w'.heap[b]? = w.heap[b]?):OwnInts w' base v xs:=⟨h.1,ownsRow_keep h.2 k⟩
theorem wpl_rangeFun {ops:Array Oper} {rest:List Oper} {o:Oper} {a:Act} {Q:Exit->Act->World->Prop} {w:World} (hg:o.guard=none) (m:Operand)
    (hop:o.op=Op.range 71 m) (b n:Nat) (f:Int->Option Int) (hm:a.eval m = .map (some b)) (hS:FunMap w b n f)
    (hK:∀w' cnt,FunRange w' b w.heap.size n f (λx=>(f x).isSome) cnt->w.grownBy w' none->w'.heap.size=w.heap.size+1->wpList Try.prog ops Q rest (a.put o.dst (.pointer (some ⟨w.heap.size,0,none⟩))) w'):wpList Try.prog ops Q (o :: rest) a w:=by
  obtain⟨D,h1,h2,h3⟩:=hS
  refine wpList_range_own _ hg m 71 hop _ _ lawI Try.underlying71 _ b n D hm h1 ?_
  intro w' hr hg' hs
  exact hK w' _ ⟨D,_,hr,h2,h3,λx=>((h3 x).1).symm⟩ hg' hs
theorem wpl_nextFun {ops:Array Oper} {rest:List Oper} {o:Oper} {a:Act} {Q:Exit->Act->World->Prop} {w:World} (hg:o.guard=none) (it:Operand)
    (hop:o.op=Op.next it false) (b r n cnt:Nat) (f:Int->Option Int) (todo:Int->Bool) (hit:a.eval it = .pointer (some ⟨r,0,none⟩)) (h:FunRange w b r n f todo cnt)
    (hDone:(∀x,todo x=false)->wpList Try.prog ops Q rest (a.put o.dst (.tuple #[.bool false])) w)
    (hMore:∀(x c:Int) (w':World) (cnt':Nat),I64 x->I64 c->todo x=true->f x=some c->FunRange w' b r n f (strike todo x) cnt'->cnt'<cnt->w.grownBy w' (some r)->w'.heap.size=w.heap.size ->
      (Instr.entry (.pointer (some ⟨r,0,none⟩))).run Try.prog w' = .ok (.tuple #[.int .i64 x,.int .i64 c]) w'->wpList Try.prog ops Q rest (a.put o.dst (.tuple #[.bool true,.int .i64 x,.int .i64 c])) w'):wpList Try.prog ops Q (o :: rest) a w:=by
  obtain⟨D,left,h1,h2,h3,h4⟩:=h
  refine wpList_next_ranges_ii _ hg it hop _ _ .i64 .i64 lawI Try.underlying3 Try.underlying3 b r n D left cnt hit h1 ?_ ?_
  · intro _ hl
    exact hDone λx=>(h4 x).trans (hl _)
  · intro x c w' cnt' hwx hwc hlx hat hrg hlt hgr hsz hen
    have hhas:has D (.int .i64 x)=true:=has_true_of_atKey hat
    have hf:f x=some c:=by
      have e1:=(h3 x).1
      have e2:=(h3 x).2
      rw[hhas] at e1
      rw[hat] at e2
      cases hfx:f x with
      | none=>rw[hfx] at e1;cases e1
      | some y =>
        rw[hfx] at e2
        simp only [Option.getD_some,DataW.lit.injEq,Lit.int.injEq,true_and] at e2
        rw[e2]
    refine hMore x c w' cnt' (i64_of_wf hwx) (i64_of_wf hwc) ((h4 x).trans hlx) hf ⟨D,_,hrg,h2,h3,λz=>?_⟩ hlt hgr hsz hen
    show (todo z && !decide (z=x))=_
    rw[h4 z]
    by_cases e:z=x
    · subst e
      rw[WideAt.sameKey_self (litKey_int _)]
      simp
    · rw[sameKey_ne (by simpa using e)]
      simp[e]
structure Chg (X:Nat->Prop) (w w':World):Prop where
  os:w'.os=w.os
  tape:w'.tape=w.tape
  output:w'.output=w.output
  size:w.heap.size<=w'.heap.size
  block:∀k,k<w.heap.size->¬ X k->w'.heap[k]? = w.heap[k]?
theorem Chg.refl (X:Nat->Prop) (w:World):Chg X w w:=⟨rfl,rfl,rfl,Nat.le_refl _,λ_ _ _=>rfl⟩
theorem Chg.trans {X:Nat->Prop} {a b c:World} (h:Chg X a b) (k:Chg X b c):Chg X a c :=
  ⟨k.os.trans h.os,k.tape.trans h.tape,k.output.trans h.output,Nat.le_trans h.size k.size,λi hi hx=>(k.block i (Nat.lt_of_lt_of_le hi h.size) hx).trans (h.block i hi hx)⟩
theorem Chg.mono {X Y:Nat->Prop} {a b:World} (h:Chg X a b) (k:∀i,i<a.heap.size->X i->Y i):Chg Y a b:=⟨h.os,h.tape,h.output,h.size,λi hi hy=>h.block i hi (λhx=>hy (k i hi hx))⟩
theorem Chg.set (X:Nat->Prop) (w:World) (a:Addr) (u:Value) (h:X a.block):Chg X w (w.setCell a u):=⟨rfl,rfl,rfl,by simp[World.setCell],λk _ hx=>Below.heap_setCell _ _ _ _ (λe=>hx (by rw[e];exact h))⟩
theorem chgS {X:Nat->Prop} {w W:World} {a:Addr} {u:Value} (h:Chg X w W) (e:X a.block):Chg X w (W.setCell a u):=⟨h.os,h.tape,h.output,by simpa [World.setCell] using h.size,λk hk hx=>(Below.heap_setCell _ _ _ _ (λq=>hx (by rw[q];exact e))).trans (h.block k hk hx)⟩
theorem Chg.alloc (X:Nat->Prop) (w:World) (o:Obj):Chg X w (w.alloc o):=⟨rfl,rfl,rfl,by simp,λk hk _=>Below.heap_alloc _ _ _ hk⟩
theorem Chg.drewN (X:Nat->Prop) (w:World) (n:Nat):Chg X w (w.drewN n):=⟨rfl,rfl,rfl,Nat.le_refl _,λ_ _ _=>rfl⟩
theorem Chg.drew (X:Nat->Prop) (w:World):Chg X w w.drew:=⟨rfl,rfl,rfl,Nat.le_refl _,λ_ _ _=>rfl⟩
theorem Chg.ofBelow {w w':World} (X:Nat->Prop) (h:Below w.heap.size w w'):Chg X w w':=⟨h.os,h.tape,h.output,h.size,λk hk _=>h.block k hk⟩
theorem Chg.ofGrown {w w':World} {row:Option Nat} (X:Nat->Prop) (h:w.grownBy w' row) (k:∀i,row=some i->X i):Chg X w w':=⟨h.os,h.tape,h.output,h.size,λi hi hx=>h.block i hi (λe=>hx (k i e.symm))⟩
theorem Chg.below {X:Nat->Prop} {w w':World} {B:Nat} (h:Chg X w w') (hB:B<=w.heap.size) (k:∀i,i<w.heap.size->X i->B<=i):Below B w w':=⟨h.os,h.tape,h.output,h.size,λi hi=>h.block i (by omega) (λhx=>by have:=k i (by omega) hx;omega)⟩
theorem Chg.keep {X:Nat->Prop} {w w':World} (h:Chg X w w') {k:Nat} (hk:k<w.heap.size) (hx:¬ X k):w'.heap[k]? = w.heap[k]?:=h.block k hk hx
end Go.Proofs.Ytbeilcaadpopmab
namespace Go.Proofs.Ytbeilcaadpopmab
open Go.RowKit Go.Maps
def cellsU (us:List CU):List Value:=us.flatMap λu=>[.int .i64 (u.p:Int),.int .i64 (u.k:Int),.int .i64 u.was.1,.int .i64 u.was.2]
theorem cellsU_len (us:List CU):(cellsU us).length=us.length * 4:=by
  induction us with
  | nil=>rfl
  | cons u us ih=>simp only [cellsU,List.flatMap_cons,List.length_append,List.length_cons,List.length_nil] at *;omega
theorem cellsU_append (a b:List CU):cellsU (a++b)=cellsU a++cellsU b:=by simp[cellsU]
theorem cellsU_at:∀(us:List CU) (i:Nat) (h:i<us.length),(cellsU us)[i * 4]? = some (.int .i64 (us[i].p:Int))/\(cellsU us)[i * 4+1]? = some (.int .i64 (us[i].k:Int))/\(cellsU us)[i * 4+2]? = some (.int .i64 us[i].was.1)/\(cellsU us)[i * 4+3]? = some (.int .i64 us[i].was.2)
  | [],i,h=>by simp at h
  | u :: us,0,h=>⟨rfl,rfl,rfl,rfl⟩
  | u :: us,i+1,h=>by
    have:=cellsU_at us i (by simpa using h)
    have e:cellsU (u :: us) = .int .i64 (u.p:Int) :: .int .i64 (u.k:Int) :: .int .i64 u.was.1 :: .int .i64 u.was.2 :: cellsU us:=rfl
    rw[e,show (i+1) * 4=i * 4+1+1+1+1 by omega]
    simpa using this
def OwnU (w:World) (base:Nat) (v:Value) (us:List CU):Prop:=us.length<=1000000/\w.ownsRow base 151 4 v us.length (cellsU us)
theorem OwnU.nil (w:World) (base:Nat):OwnU w base (.slice none 0 0) []:=⟨by simp,World.ownsRow_nil _ _ _ _⟩
theorem OwnU.shape {w:World} {base:Nat} {v:Value} {us:List CU} (h:OwnU w base v us):∃a c,v = .slice a us.length c/\us.length<=c/\c<=9223372036854775807:=by
  rcases h.2.2 with ⟨e,e'⟩|⟨g,cap,cur,e,_,_,h1,h2,_⟩
  · rw[e,e'];exact⟨none,0,rfl,by omega,by omega⟩
  · exact⟨_,_,e,h1,by simp only [maxLen] at h2;omega⟩
theorem OwnU.keep {w w':World} {base:Nat} {v:Value} {us:List CU} (h:OwnU w base v us) (k:∀b,v.ownBlock=some b->w'.heap[b]? = w.heap[b]?):OwnU w' base v us:=⟨h.1,ownsRow_keep h.2 k⟩
theorem OwnU.lt {w:World} {base:Nat} {v:Value} {us:List CU} (h:OwnU w base v us) {k:Nat} (hk:v.ownBlock=some k):base<=k/\k<w.heap.size:=h.2.lt k hk
theorem OwnU.at {w:World} {base n c:Nat} {a:Option Addr} {us:List CU} (h:OwnU w base (.slice a n c) us) {i:Nat} (hi:i<us.length) :
    ∃g,a=some ⟨g,0,none⟩/\base<=g/\g<w.heap.size/\w.cell? ⟨g,i * 4,none⟩=some (.int .i64 (us[i].p:Int))/\w.cell? ⟨g,i * 4+1,none⟩=some (.int .i64 (us[i].k:Int))/\w.cell? ⟨g,i * 4+2,none⟩=some (.int .i64 us[i].was.1)/\w.cell? ⟨g,i * 4+3,none⟩=some (.int .i64 us[i].was.2)/\(∀j,w.frozen? ⟨g,j,none⟩=false):=by
  rcases h.2.2 with ⟨e,e2⟩|⟨g,cap,cur,e,hg,hh,hnc,hcm,hcs,ht⟩
  · omega
  · simp only [Value.slice.injEq] at e
    obtain⟨rfl,rfl,rfl⟩:=e
    have hlt:g<w.heap.size:=(Array.getElem?_eq_some_iff.1 hh).1
    have hc:∀j,j<us.length * 4->w.cell? ⟨g,j,none⟩=(cellsU us)[j]?:=λj hj=>by
      rw[cell_of_row w g j cur 151 (0,0) hh,<- ht,List.getElem?_take,if_pos hj]
      simp
    obtain⟨h1,h2,h3,h4⟩:=cellsU_at us i hi
    exact⟨g,rfl,hg,hlt,(hc _ (by omega)).trans h1,(hc _ (by omega)).trans h2,(hc _ (by omega)).trans h3,(hc _ (by omega)).trans h4,λj=>by simp[World.frozen?,hh]⟩
theorem Try.infoUndo:(Try.prog.info? 151).map (λi=>(i.zero,i.size,i.bytes))=some (some (.agg #[.int .i64 0,.int .i64 0,.int .i64 0,.int .i64 0]),4,32):=by kernel_rfl
theorem row_undo (w:World) (u:CU) {n:Nat} (hn:n=w.heap.size):Row (w.alloc (.cells #[.int .i64 (u.p:Int),.int .i64 (u.k:Int),.int .i64 u.was.1,.int .i64 u.was.2] 151)) (.slice (some ⟨n,0,none⟩) 1 1) 1 4 (cellsU [u]):=by
  subst hn
  refine⟨rfl,by omega,_,1,rfl,Nat.le_refl _,by unfold maxLen;omega,(λh=>by cases h),λ_=>⟨w.heap.size,0,rfl,by simp,λi hi=>?_⟩⟩
  have:i=0\/i=1\/i=2\/i=3:=by simp[cellsU] at hi;omega
  rcases this with rfl|rfl|rfl|rfl <;> simp[cellsU]
structure Nm where
  hv:Value
  rb:Nat->Option Nat
  ob:Nat->Option Nat
  uv:Nat->Value
  gv:Value
  mb:Option Nat
  N:Nat
inductive Ro where
  | box
  | words
  | reads (t:Nat)
  | owned (t:Nat)
  | undo (t:Nat)
  | gray
  | mark
deriving DecidableEq
def Ro.ok:Ro->Prop
  | .reads t=>t<4
  | .owned t=>t<4
  | .undo t=>t<4
  | _=>True
def role (B:Nat) (nm:Nm):Ro->Option Nat
  | .box=>some B
  | .words=>nm.hv.ownBlock
  | .reads t=>nm.rb t
  | .owned t=>nm.ob t
  | .undo t=>(nm.uv t).ownBlock
  | .gray=>nm.gv.ownBlock
  | .mark=>nm.mb
def valC (v:Int × Int) (j:Nat):Value:=.int .i64 (if j=0 then v.1 else v.2)
def txC (nm:Nm) (x:CTx) (t q:Nat):Value :=
  if q=0 then .bool x.op else if q<9 then valC (x.saved ((q - 1) / 2)) ((q - 1) % 2) else if q=9 then .map (nm.rb t) else if q=10 then .map (nm.ob t) else nm.uv t
def cellOf (nm:Nm) (M:CM) (i:Nat):Value :=
  if i=0 then nm.hv else if i=1 then .int .i64 (M.top:Int) else
  if i<34 then valC (M.regs ((i - 2) / 8) ((i - 2) % 8 / 2)) ((i - 2) % 2) else
  if i<82 then txC nm (M.txs ((i - 34) / 12)) ((i - 34) / 12) ((i - 34) % 12) else
  if i=82 then .bool M.going else if i=83 then nm.gv else .map nm.mb
def Box (w:World) (B:Nat) (c:Nat->Value):Prop:=∀i,i<85->w.cell? ⟨B,i,none⟩=some (c i)/\w.frozen? ⟨B,i,none⟩=false
def MapAt (w:World) (b:Option Nat) (N:Nat) (f:Int->Option Int):Prop:=match b with
  | none=>∀x,f x=none
  | some b=>∃n,n<=N/\FunMap w b n f
def Part (base B:Nat) (nm:Nm) (M:CM) (w:World):Ro->Prop
  | .box=>Box w B (cellOf nm M)
  | .words=>OwnInts w base nm.hv M.xs
  | .reads t=>MapAt w (nm.rb t) nm.N (M.txs t).reads
  | .owned t=>MapAt w (nm.ob t) nm.N (M.txs t).owned
  | .undo t=>OwnU w base (nm.uv t) (M.txs t).undo
  | .gray=>OwnInts w base nm.gv M.gray
  | .mark=>M.going=true->∃b,nm.mb=some b/\SetMap w b M.S.length M.S
structure Mach (base:Nat) (w:World) (B:Nat) (nm:Nm) (M:CM):Prop where
  part:∀i:Ro,i.ok->Part base B nm M w i
  lo:∀(i:Ro) k,i.ok->role B nm i=some k->base<=k/\k<w.heap.size
  apart:∀(i j:Ro) k,i.ok->j.ok->role B nm i=some k->role B nm j=some k->i=j
  opn:∀t,t<4->(M.txs t).op=true->(nm.rb t).isSome=true/\(nm.ob t).isSome=true
  base_le:base<=w.heap.size
def Has (B:Nat) (nm:Nm) (k:Nat):Prop:=∃i:Ro,i.ok/\role B nm i=some k
structure Went (d:Nat) (w w':World) (B:Nat) (nm nm':Nm):Prop where
  chg:Chg (Has B nm) w w'
  own:∀k,k<w.heap.size->Has B nm' k->Has B nm k
  few:nm'.N<=nm.N+d
theorem Went.refl (w:World) (B:Nat) (nm:Nm):Went 0 w w B nm nm:=⟨Chg.refl _ _,λ_ _ h=>h,Nat.le_refl _⟩
theorem Went.trans {d e:Nat} {w1 w2 w3:World} {B:Nat} {n1 n2 n3:Nm} (h:Went d w1 w2 B n1 n2) (k:Went e w2 w3 B n2 n3):Went (d+e) w1 w3 B n1 n3:=by
  refine⟨⟨k.chg.os.trans h.chg.os,k.chg.tape.trans h.chg.tape,k.chg.output.trans h.chg.output,Nat.le_trans h.chg.size k.chg.size,λi hi hx=>?_⟩,λi hi hx=>h.own i hi (k.own i (Nat.lt_of_lt_of_le hi h.chg.size) hx),by have:=h.few;have:=k.few;omega⟩
  exact (k.chg.block i (Nat.lt_of_lt_of_le hi h.chg.size) (λh3=>hx (h.own i hi h3))).trans (h.chg.block i hi hx)
theorem Went.le {d e:Nat} {w w':World} {B:Nat} {n1 n2:Nm} (h:Went d w w' B n1 n2) (k:d<=e):Went e w w' B n1 n2:=⟨h.chg,h.own,by have:=h.few;omega⟩
theorem MapAt.keep {w w':World} {b:Option Nat} {N:Nat} {f:Int->Option Int} (h:MapAt w b N f) (k:∀i,b=some i->w'.heap[i]? = w.heap[i]?):MapAt w' b N f:=by
  cases b with
  | none=>exact h
  | some b=>obtain⟨n,hn,h⟩:=h;exact⟨n,hn,h.keep (k b rfl)⟩
theorem MapAt.le {w:World} {b:Option Nat} {N N':Nat} {f:Int->Option Int} (h:MapAt w b N f) (k:N<=N'):MapAt w b N' f:=by
  cases b with
  | none=>exact h
  | some b=>obtain⟨n,hn,h⟩:=h;exact⟨n,by omega,h⟩
theorem Box.keep {w w':World} {B:Nat} {c:Nat->Value} (h:Box w B c) (k:w'.heap[B]? = w.heap[B]?):Box w' B c:=λi hi =>
  ⟨(World.cell?_of_block (w:=w) (a:=⟨B,i,none⟩) k).trans (h i hi).1,(World.frozen?_of_block (w:=w) (a:=⟨B,i,none⟩) k).trans (h i hi).2⟩
theorem Part.keep {base B:Nat} {nm:Nm} {M:CM} {w w':World} {i:Ro} (h:Part base B nm M w i) (k:∀b,role B nm i=some b->w'.heap[b]? = w.heap[b]?):Part base B nm M w' i:=by
  cases i with
  | box=>exact Box.keep h (k B rfl)
  | words=>exact OwnInts.keep h k
  | reads t=>exact MapAt.keep h k
  | owned t=>exact MapAt.keep h k
  | undo t=>exact OwnU.keep h k
  | gray=>exact OwnInts.keep h k
  | mark =>
    intro hg
    obtain⟨b,e,hs⟩:=h hg
    exact⟨b,e,hs.keep (k b e)⟩
def ins (c:Nat->Value) (o:Nat) (v:Value) (i:Nat):Value:=if i=o then v else c i
def insL (c:Nat->Value) (o:Nat) (vs:List Value) (i:Nat):Value:=if o<=i/\i<o+vs.length then vs.getD (i - o) undef else c i
theorem Box.set {w:World} {B:Nat} {c:Nat->Value} (h:Box w B c) {o:Nat} (ho:o<85) (v:Value):Box (w.setCell ⟨B,o,none⟩ v) B (ins c o v):=λi hi=>by
  refine⟨?_,by rw[frozen_setCell_any];exact (h i hi).2⟩
  unfold ins
  by_cases e:i=o
  · subst e
    rw[if_pos rfl]
    exact World.cell?_setCell_same _ _ _ (h i hi).1
  · rw[if_neg e,World.cell?_setCell_other _ _ _ _ (by simp only [ne_eq,Addr.mk.injEq];omega)]
    exact (h i hi).1
theorem Box.setFar {w:World} {B:Nat} {c:Nat->Value} (h:Box w B c) {a:Addr} (ha:a.block≠B) (v:Value):Box (w.setCell a v) B c:=h.keep (Below.heap_setCell _ _ _ _ (λe=>ha e.symm))
theorem Box.there {w:World} {B:Nat} {c:Nat->Value} (h:Box w B c) {o n:Nat} (ho:o+n<=85):w.there B o n:=λj hj=>⟨by rw[(h (o+j) (by omega)).1];rfl,(h (o+j) (by omega)).2⟩
theorem Box.setL {w:World} {B:Nat} {c:Nat->Value} (h:Box w B c) {o:Nat} (vs:List Value) (ho:o+vs.length<=85):Box (w.setCells B o vs) B (insL c o vs):=λi hi=>by
  refine⟨?_,by rw[World.frozen?_setCells];exact (h i hi).2⟩
  unfold insL
  split
  · rename_i hi2
    have:=World.cell?_setCells_in B vs o w (λj hj=>((h.there (o:=o) (n:=vs.length) ho) j hj).1) (i - o) (by omega)
    rw[show o+(i - o)=i by omega] at this
    rw[this,List.getD_eq_getElem?_getD,List.getElem?_eq_getElem (by omega)]
    rfl
  · rename_i hi2
    rw[World.cell?_setCells_out B vs o w ⟨B,i,none⟩ (λ_ _=>by show i<o\/o+vs.length<=i;omega)]
    exact (h i hi).1
theorem Box.range {w:World} {B:Nat} {c:Nat->Value} (h:Box w B c) (o:Nat) (cs:List Value) (hl:o+cs.length<=85) (hc:∀j (hj:j<cs.length),c (o+j)=cs[j]):w.rangeAt B o cs:=λj v hv=>by
  have hj:j<cs.length:=(List.getElem?_eq_some_iff.1 hv).1
  rw[(h (o+j) (by omega)).1,hc j hj]
  rw[List.getElem?_eq_getElem hj] at hv
  exact hv
theorem Box.congr {w:World} {B:Nat} {c c':Nat->Value} (h:Box w B c) (k:∀i,i<85->c i=c' i):Box w B c':=λi hi=>by rw[<- k i hi];exact h i hi
theorem Box.lt {w:World} {B:Nat} {c:Nat->Value} (h:Box w B c):B<w.heap.size:=World.block_lt_of_cell? w _ (h 0 (by omega)).1
theorem cellOf_reg (nm:Nm) (M:CM) {t r:Nat} (ht:t<4) (hr:r<4):cellOf nm M (2+t * 8+r * 2) = .int .i64 (M.regs t r).1/\cellOf nm M (2+t * 8+r * 2+1) = .int .i64 (M.regs t r).2:=by
  constructor
  · unfold cellOf
    rw[if_neg (by omega),if_neg (by omega),if_pos (by omega),show (2+t * 8+r * 2 - 2) / 8=t by omega,show (2+t * 8+r * 2 - 2) % 8 / 2=r by omega,show (2+t * 8+r * 2 - 2) % 2=0 by omega]
    rfl
  · unfold cellOf
    rw[if_neg (by omega),if_neg (by omega),if_pos (by omega),show (2+t * 8+r * 2+1 - 2) / 8=t by omega,show (2+t * 8+r * 2+1 - 2) % 8 / 2=r by omega,show (2+t * 8+r * 2+1 - 2) % 2=1 by omega]
    rfl
theorem cellOf_tx (nm:Nm) (M:CM) {t q:Nat} (ht:t<4) (hq:q<12):cellOf nm M (34+t * 12+q)=txC nm (M.txs t) t q:=by
  unfold cellOf
  rw[if_neg (by omega),if_neg (by omega),if_neg (by omega),if_pos (by omega),show (34+t * 12+q - 34) / 12=t by omega,show (34+t * 12+q - 34) % 12=q by omega]
theorem Mach.upd {base B:Nat} {w w':World} {nm nm':Nm} {M M':CM} (h:Mach base w B nm M) (X:Ro->Prop) (d:Nat) (hN:nm'.N<=nm.N+d)
    (hchg:Chg (λk=>∃i:Ro,i.ok/\X i/\role B nm i=some k) w w')
    (hsame:∀i:Ro,i.ok->¬ X i->role B nm' i=role B nm i/\(Part base B nm M w' i->Part base B nm' M' w' i))
    (hnew:∀i:Ro,i.ok->X i->Part base B nm' M' w' i/\(role B nm' i=role B nm i\/∀k,role B nm' i=some k->w.heap.size<=k/\k<w'.heap.size))
    (hfresh:∀(i j:Ro) k,i.ok->j.ok->X i->X j->role B nm' i=some k->role B nm' j=some k->w.heap.size<=k->i=j)
    (hopn:∀t,t<4->(M'.txs t).op=true->(nm'.rb t).isSome=true/\(nm'.ob t).isSome=true):Mach base w' B nm' M'/\Went d w w' B nm nm':=by
  have hrole:∀i:Ro,i.ok->role B nm' i=role B nm i\/∀k,role B nm' i=some k->w.heap.size<=k/\k<w'.heap.size:=λi hi=>by
    by_cases hx:X i
    · exact (hnew i hi hx).2
    · exact .inl (hsame i hi hx).1
  refine⟨⟨λi hi=>?_,λi k hi hk=>?_,λi j k hi hj h1 h2=>?_,hopn,Nat.le_trans h.base_le hchg.size⟩,hchg.mono (λk _ ⟨i,hi,_,e⟩=>⟨i,hi,e⟩),λk hk ⟨i,hi,e⟩=>?_,hN⟩
  · by_cases hx:X i
    · exact (hnew i hi hx).1
    · refine (hsame i hi hx).2 ((h.part i hi).keep λb hb=>hchg.block b (h.lo i b hi hb).2 ?_)
      rintro ⟨j,hj,hxj,e⟩
      exact hx ((h.apart i j b hi hj hb e) ▸ hxj)
  · rcases hrole i hi with e|e
    · rw[e] at hk
      have:=h.lo i k hi hk
      have:=hchg.size
      omega
    · have:=e k hk
      have:=h.base_le
      omega
  · rcases hrole i hi with e|e
    · rcases hrole j hj with e2|e2
      · exact h.apart i j k hi hj (e ▸ h1) (e2 ▸ h2)
      · have:=(h.lo i k hi (e ▸ h1)).2
        have:=(e2 k h2).1
        omega
    · have hk:=(e k h1).1
      have hXi:X i:=Classical.byContradiction λhx=>by
        rw[(hsame i hi hx).1] at h1
        have:=(h.lo i k hi h1).2
        omega
      have hXj:X j:=Classical.byContradiction λhx=>by
        rw[(hsame j hj hx).1] at h2
        have:=(h.lo j k hj h2).2
        omega
      exact hfresh i j k hi hj hXi hXj h1 h2 hk
  · rcases hrole i hi with e2|e2
    · exact⟨i,hi,e2 ▸ e⟩
    · have:=(e2 k e).1
      omega
end Go.Proofs.Ytbeilcaadpopmab
namespace Go.Proofs.Ytbeilcaadpopmab
open Go.RowKit Go.Maps
theorem Mach.box {base B:Nat} {w:World} {nm:Nm} {M:CM} (h:Mach base w B nm M):Box w B (cellOf nm M):=h.part .box trivial
theorem Mach.boxOnly {base B:Nat} {w w':World} {nm:Nm} {M M':CM} (h:Mach base w B nm M) (hchg:Chg (λk=>k=B) w w') (hbox:Box w' B (cellOf nm M')) (e1:M'.xs=M.xs)
    (e2:∀t,(M'.txs t).reads=(M.txs t).reads/\(M'.txs t).owned=(M.txs t).owned/\(M'.txs t).undo=(M.txs t).undo) (e3:M'.gray=M.gray) (e4:M'.S=M.S) (e5:M'.going=true->M.going=true)
    (e6:∀t,t<4->(M'.txs t).op=true->(M.txs t).op=true):Mach base w' B nm M'/\Went 0 w w' B nm nm:=by
  refine h.upd (λi=>i = .box) 0 (Nat.le_refl _) (hchg.mono λk _ e=>⟨.box,trivial,rfl,by rw[e];rfl⟩) ?_ ?_ ?_ (λt ht ho=>h.opn t ht (e6 t ht ho))
  · intro i hi hx
    refine⟨rfl,λp=>?_⟩
    cases i with
    | box=>exact absurd rfl hx
    | words=>show OwnInts w' base nm.hv M'.xs;rw[e1];exact p
    | reads t=>show MapAt w' (nm.rb t) nm.N (M'.txs t).reads;rw[(e2 t).1];exact p
    | owned t=>show MapAt w' (nm.ob t) nm.N (M'.txs t).owned;rw[(e2 t).2.1];exact p
    | undo t=>show OwnU w' base (nm.uv t) (M'.txs t).undo;rw[(e2 t).2.2];exact p
    | gray=>show OwnInts w' base nm.gv M'.gray;rw[e3];exact p
    | mark=>intro hg;rw[e4];exact p (e5 hg)
  · rintro i hi rfl
    exact⟨hbox,.inl rfl⟩
  · rintro i j k hi hj rfl rfl _ _ _
    rfl
theorem Mach.spot {base B:Nat} {w:World} {nm:Nm} {M:CM} (h:Mach base w B nm M) (hn:0<M.xs.length) :
    ∃g c,nm.hv = .slice (some ⟨g,0,none⟩) M.xs.length c/\M.xs.length<=c/\c<=9223372036854775807/\g<w.heap.size/\g≠B/\(∀i,i<M.xs.length->w.cell? ⟨g,i,none⟩=some (.int .i64 (M.xs.getD i 0)))/\∀i,w.frozen? ⟨g,i,none⟩=false:=by
  have hp:OwnInts w base nm.hv M.xs:=h.part .words trivial
  obtain⟨a,c,e,hc1,hc2,_⟩:=hp.ints.len
  rw[e] at hp
  obtain⟨g,rfl,_,hg,hc,hf⟩:=hp.spot hn
  refine⟨g,c,e,hc1,hc2,hg,λe2=>?_,hc,hf⟩
  have:=h.apart .words .box g trivial trivial (by show nm.hv.ownBlock=_;rw[e];rfl) (by rw[e2];rfl)
  cases this
theorem Mach.setWord {base B:Nat} {w:World} {nm:Nm} {M:CM} (h:Mach base w B nm M) {g n c:Nat} (hv:nm.hv = .slice (some ⟨g,0,none⟩) n c) {i:Nat} (hi:i<M.xs.length) {x:Int} (hx:I64 x) :
    Mach base (w.setCell ⟨g,i,none⟩ (.int .i64 x)) B nm { M with xs:=M.xs.set i x }/\Went 0 w (w.setCell ⟨g,i,none⟩ (.int .i64 x)) B nm nm:=by
  refine h.upd (λi=>i = .words) 0 (Nat.le_refl _) (Chg.set _ _ _ _ ⟨.words,trivial,rfl,by show nm.hv.ownBlock=_;rw[hv];rfl⟩) ?_ ?_ ?_ h.opn
  · intro i hi hx
    refine⟨rfl,λp=>?_⟩
    cases i with
    | words=>exact absurd rfl hx
    | box=>exact p
    | reads t=>exact p
    | owned t=>exact p
    | undo t=>exact p
    | gray=>exact p
    | mark=>exact p
  · rintro j hj rfl
    have hp:OwnInts w base nm.hv M.xs:=h.part .words trivial
    refine⟨?_,.inl rfl⟩
    show OwnInts _ base nm.hv (M.xs.set i x)
    rw[hv] at hp ⊢
    exact hp.set hi hx
  · rintro i j k hi hj rfl rfl _ _ _
    rfl
def cut (w:World) (n:Nat):World:={ w with heap:=w.heap.extract 0 n }
theorem cut_size {w:World} {n:Nat} (h:n<=w.heap.size):(cut w n).heap.size=n:=by simp[cut];omega
theorem cut_below {w:World} {n:Nat} (h:n<=w.heap.size):Below n (cut w n) w:=⟨rfl,rfl,rfl,by rw[cut_size h];exact h,λk hk=>by simp[cut,Array.getElem?_extract];omega⟩
theorem Mach.marker {base B:Nat} {w:World} {nm:Nm} {M:CM} (h:Mach base w B nm M) (hg:M.going=true):∃b,nm.mb=some b/\Mk (cut w base) w B 83 b base nm.gv M.gray M.S:=by
  obtain⟨b,e,hs⟩:=(h.part .mark trivial:M.going=true->∃b,nm.mb=some b/\SetMap w b M.S.length M.S) hg
  have hbx:=h.box
  have l1:=h.lo .box B trivial rfl
  have l2:=h.lo .mark b trivial e
  have hz:=cut_size h.base_le
  refine⟨b,e,by omega,by omega,λe2=>?_,by omega,h.base_le,λe2=>?_,λe2=>?_,(hbx 83 (by omega)).1,?_,(hbx 83 (by omega)).2,(hbx 84 (by omega)).2,h.part .gray trivial,hs,by rw[hz];exact cut_below h.base_le⟩
  · have:=h.apart .mark .box b trivial trivial e (by rw[e2];rfl);cases this
  · have:=h.apart .mark .gray b trivial trivial e e2;cases this
  · have:=h.apart .box .gray B trivial trivial rfl e2;cases this
  · rw[(hbx 84 (by omega)).1,<- e];rfl
theorem Mach.turned {base B b:Nat} {w w':World} {nm:Nm} {M:CM} {gv':Value} {gray' S':List Int} (h:Mach base w B nm M) (e:nm.mb=some b)
    (hm:Mk (cut w base) w' B 83 b base gv' gray' S') (ht:Turned w w' B 83 b nm.gv gv'):Mach base w' B { nm with gv:=gv' } { M with gray:=gray',S:=S' }/\Went 0 w w' B nm { nm with gv:=gv' }:=by
  obtain⟨m1,m2,m3,m4,m6,m7,m8,c0,c1,z0,z1,hG,hS,hb⟩:=hm
  obtain⟨t1,t2,t3,t4,t5⟩:=ht
  have hbx:=h.box
  refine h.upd (λi=>i = .box\/i = .gray\/i = .mark) 0 (Nat.le_refl _) ⟨hb.os,hb.tape,hb.output,t1,λk hk hx=>t2 k hk ?_ ?_ ?_⟩ ?_ ?_ ?_ h.opn
  · exact λe2=>hx ⟨.box,trivial,.inl rfl,by rw[e2];rfl⟩
  · exact λe2=>hx ⟨.mark,trivial,.inr (.inr rfl),by rw[e2];exact e⟩
  · exact λe2=>hx ⟨.gray,trivial,.inr (.inl rfl),e2⟩
  · intro i hi hx
    refine⟨?_,λp=>?_⟩
    · cases i with
      | gray=>exact absurd (.inr (.inl rfl)) hx
      | box=>rfl
      | words=>rfl
      | reads t=>rfl
      | owned t=>rfl
      | undo t=>rfl
      | mark=>rfl
    · cases i with
      | gray=>exact absurd (.inr (.inl rfl)) hx
      | mark=>exact absurd (.inr (.inr rfl)) hx
      | box=>exact absurd (.inl rfl) hx
      | words=>exact p
      | reads t=>exact p
      | owned t=>exact p
      | undo t=>exact p
  · rintro i hi (rfl|rfl|rfl)
    · refine⟨λi hi=>?_,.inl rfl⟩
      refine⟨?_,by rw[t5];exact (hbx i hi).2⟩
      by_cases e2:i=83
      · subst e2;exact c0
      · rw[t4 i e2,(hbx i hi).1]
        congr 1
        unfold cellOf
        simp only [e2,if_false]
        rfl
    · refine⟨hG,?_⟩
      show gv'.ownBlock=nm.gv.ownBlock\/∀k,gv'.ownBlock=some k->w.heap.size<=k/\k<w'.heap.size
      cases hg:gv'.ownBlock with
      | none=>exact .inr λk hk=>by cases hk
      | some k =>
        by_cases hk:k<w.heap.size
        · refine .inl ?_
          exact (Classical.byContradiction λhne=>t3 k hk (λe3=>hne e3.symm) hg)
        · exact .inr λk' hk'=>by cases hk';exact⟨by omega,(hG.lt hg).2⟩
    · exact⟨λ_=>⟨b,e,hS⟩,.inl rfl⟩
  · rintro i j k hi hj (rfl|rfl|rfl) (rfl|rfl|rfl) h1 h2 hk
    all_goals first
      | rfl
      | (exfalso;have:=(h.lo .box k trivial h1).2;omega)
      | (exfalso;have:=(h.lo .box k trivial h2).2;omega)
      | (exfalso;have:=(h.lo .mark k trivial h1).2;omega)
      | (exfalso;have:=(h.lo .mark k trivial h2).2;omega)
theorem Mach.other {base B:Nat} {w w':World} {nm:Nm} {M:CM} (h:Mach base w B nm M) (hb:Chg (λk=>¬ Has B nm k) w w'):Mach base w' B nm M:=by
  refine⟨λi hi=>(h.part i hi).keep λb hb2=>hb.block b (h.lo i b hi hb2).2 (λhn=>hn ⟨i,hi,hb2⟩),λi k hi hk=>?_,h.apart,h.opn,Nat.le_trans h.base_le hb.size⟩
  have:=h.lo i k hi hk
  have:=hb.size
  omega
theorem Mach.below {base B:Nat} {w w':World} {nm:Nm} {M:CM} (h:Mach base w B nm M) (hb:Below w.heap.size w w'):Mach base w' B nm M:=h.other (.ofBelow _ hb)
theorem Mach.noteRead {base B b n:Nat} {w w':World} {nm:Nm} {M:CM} (h:Mach base w B nm M) {t:Nat} (ht:t<4) (hb:nm.rb t=some b) {p v:Int} (hn:n<=nm.N) (hf:FunMap w' b (n+1) (λz=>if z=p then some v else (M.txs t).reads z)) (hg:w.grownBy w' (some b)) :
    Mach base w' B { nm with N:=nm.N+1 } (M.setTx t ((M.txs t).read p v))/\Went 1 w w' B nm { nm with N:=nm.N+1 }:=by
  have hT:∀u,((M.setTx t ((M.txs t).read p v)).txs u).owned=(M.txs u).owned/\((M.setTx t ((M.txs t).read p v)).txs u).undo=(M.txs u).undo/\((M.setTx t ((M.txs t).read p v)).txs u).op=(M.txs u).op/\((M.setTx t ((M.txs t).read p v)).txs u).saved=(M.txs u).saved/\(u≠t->((M.setTx t ((M.txs t).read p v)).txs u).reads=(M.txs u).reads):=λu=>by
    by_cases e:u=t
    · subst e
      simp[CM.setTx,pt,CTx.read]
    · simp[CM.setTx,pt,e]
  refine h.upd (λi=>i = .reads t) 1 (Nat.le_refl _) (Chg.ofGrown _ hg λi e=>⟨.reads t,ht,rfl,by cases e;exact hb⟩) ?_ ?_ ?_ (λu hu ho=>h.opn u hu (by rw[<- (hT u).2.2.1];exact ho))
  · intro i hi hx
    refine⟨?_,λp=>?_⟩
    · cases i <;> rfl
    · cases i with
      | words=>exact p
      | box =>
        refine Box.congr p λi hi=>?_
        unfold cellOf txC
        rw[(hT _).2.2.1,(hT _).2.2.2.1]
        rfl
      | reads u =>
        have hu:u≠t:=λe=>hx (by rw[e])
        show MapAt w' (nm.rb u) (nm.N+1) _
        rw[(hT u).2.2.2.2 hu]
        exact MapAt.le p (by omega)
      | owned u =>
        show MapAt w' (nm.ob u) (nm.N+1) _
        rw[(hT u).1]
        exact MapAt.le p (by omega)
      | undo u =>
        show OwnU w' base (nm.uv u) _
        rw[(hT u).2.1]
        exact p
      | gray=>exact p
      | mark=>exact p
  · rintro i hi rfl
    refine⟨?_,.inl rfl⟩
    show MapAt w' (nm.rb t) (nm.N+1) _
    rw[hb]
    refine⟨n+1,by omega,?_⟩
    have e:((M.setTx t ((M.txs t).read p v)).txs t).reads=λz=>if z=p then some v else (M.txs t).reads z:=by simp[CM.setTx,pt,CTx.read]
    rw[e];exact hf
  · rintro i j k hi hj rfl rfl _ _ _
    rfl
theorem Mach.noteOwn {base B b n:Nat} {w w':World} {nm:Nm} {M:CM} (h:Mach base w B nm M) {t:Nat} (ht:t<4) (hb:nm.ob t=some b) {p v:Int} (hn:n<=nm.N) (hf:FunMap w' b (n+1) (λz=>if z=p then some v else (M.txs t).owned z)) (hg:w.grownBy w' (some b)) :
    Mach base w' B { nm with N:=nm.N+1 } (M.setTx t ((M.txs t).own p v))/\Went 1 w w' B nm { nm with N:=nm.N+1 }:=by
  have hT:∀u,((M.setTx t ((M.txs t).own p v)).txs u).reads=(M.txs u).reads/\((M.setTx t ((M.txs t).own p v)).txs u).undo=(M.txs u).undo/\((M.setTx t ((M.txs t).own p v)).txs u).op=(M.txs u).op/\((M.setTx t ((M.txs t).own p v)).txs u).saved=(M.txs u).saved/\(u≠t->((M.setTx t ((M.txs t).own p v)).txs u).owned=(M.txs u).owned):=λu=>by
    by_cases e:u=t
    · subst e
      simp[CM.setTx,pt,CTx.own]
    · simp[CM.setTx,pt,e]
  refine h.upd (λi=>i = .owned t) 1 (Nat.le_refl _) (Chg.ofGrown _ hg λi e=>⟨.owned t,ht,rfl,by cases e;exact hb⟩) ?_ ?_ ?_ (λu hu ho=>h.opn u hu (by rw[<- (hT u).2.2.1];exact ho))
  · intro i hi hx
    refine⟨?_,λp=>?_⟩
    · cases i <;> rfl
    · cases i with
      | words=>exact p
      | box =>
        refine Box.congr p λi hi=>?_
        unfold cellOf txC
        rw[(hT _).2.2.1,(hT _).2.2.2.1]
        rfl
      | owned u =>
        have hu:u≠t:=λe=>hx (by rw[e])
        show MapAt w' (nm.ob u) (nm.N+1) _
        rw[(hT u).2.2.2.2 hu]
        exact MapAt.le p (by omega)
      | reads u =>
        show MapAt w' (nm.rb u) (nm.N+1) _
        rw[(hT u).1]
        exact MapAt.le p (by omega)
      | undo u =>
        show OwnU w' base (nm.uv u) _
        rw[(hT u).2.1]
        exact p
      | gray=>exact p
      | mark=>exact p
  · rintro i hi rfl
    refine⟨?_,.inl rfl⟩
    show MapAt w' (nm.ob t) (nm.N+1) _
    rw[hb]
    refine⟨n+1,by omega,?_⟩
    have e:((M.setTx t ((M.txs t).own p v)).txs t).owned=λz=>if z=p then some v else (M.txs t).owned z:=by simp[CM.setTx,pt,CTx.own]
    rw[e];exact hf
  · rintro i j k hi hj rfl rfl _ _ _
    rfl
theorem cellOf_other (nm nm':Nm) (M M':CM) (t:Nat) (ht:t<4) (e0:nm'.hv=nm.hv) (e1:M'.top=M.top) (e2:M'.regs=M.regs) (e3:∀u,u≠t->M'.txs u=M.txs u/\nm'.rb u=nm.rb u/\nm'.ob u=nm.ob u/\nm'.uv u=nm.uv u)
    (e4:M'.going=M.going) (e5:nm'.gv=nm.gv) (e6:nm'.mb=nm.mb) {i:Nat} (hi:¬ (34+t * 12<=i/\i<34+t * 12+12)):cellOf nm' M' i=cellOf nm M i:=by
  unfold cellOf
  rw[e0,e1,e2,e4,e5,e6]
  by_cases h0:i=0
  · simp[h0]
  by_cases h1:i=1
  · simp[h1]
  by_cases h2:i<34
  · simp[h0,h1,h2]
  by_cases h3:i<82
  · have hu:(i - 34) / 12≠t:=by omega
    simp only [h0,h1,h2,h3,if_true,if_false]
    unfold txC
    rw[(e3 _ hu).1,(e3 _ hu).2.1,(e3 _ hu).2.2.1,(e3 _ hu).2.2.2]
  · simp[h0,h1,h2,h3]
theorem Mach.newTx {base B:Nat} {w w':World} {nm:Nm} {M:CM} (h:Mach base w B nm M) {t:Nat} (ht:t<4) (x:CTx) (rb ob:Option Nat) (uv:Value)
    (hchg:Chg (λk=>k=B\/nm.rb t=some k\/nm.ob t=some k\/(nm.uv t).ownBlock=some k) w w')
    (hbox:∀i,i<85->w'.cell? ⟨B,i,none⟩=some (if 34+t * 12<=i/\i<34+t * 12+12 then txC { nm with rb:=pt nm.rb t rb,ob:=pt nm.ob t ob,uv:=pt nm.uv t uv } x t (i - 34 - t * 12) else cellOf nm M i)/\w'.frozen? ⟨B,i,none⟩=false)
    (h1:MapAt w' rb nm.N x.reads) (h2:MapAt w' ob nm.N x.owned) (h3:OwnU w' base uv x.undo)
    (n1:rb=nm.rb t\/∀k,rb=some k->w.heap.size<=k/\k<w'.heap.size) (n2:ob=nm.ob t\/∀k,ob=some k->w.heap.size<=k/\k<w'.heap.size) (n3:uv.ownBlock=(nm.uv t).ownBlock\/∀k,uv.ownBlock=some k->w.heap.size<=k/\k<w'.heap.size)
    (n4:∀k,w.heap.size<=k->rb=some k->ob≠some k) (n5:∀k,w.heap.size<=k->rb=some k->uv.ownBlock≠some k) (n6:∀k,w.heap.size<=k->ob=some k->uv.ownBlock≠some k)
    (ho:x.op=true->rb.isSome=true/\ob.isSome=true) :
    Mach base w' B { nm with rb:=pt nm.rb t rb,ob:=pt nm.ob t ob,uv:=pt nm.uv t uv } (M.setTx t x)/\Went 0 w w' B nm { nm with rb:=pt nm.rb t rb,ob:=pt nm.ob t ob,uv:=pt nm.uv t uv }:=by
  have hT:∀u,u≠t->(M.setTx t x).txs u=M.txs u:=λu e=>pt_other _ _ e
  have hTt:(M.setTx t x).txs t=x:=pt_same _ _ _
  obtain⟨nm',hnm⟩:∃nm',nm' = ({ nm with rb:=pt nm.rb t rb,ob:=pt nm.ob t ob,uv:=pt nm.uv t uv }:Nm):=⟨_,rfl⟩
  have q1:nm'.rb t=rb/\nm'.ob t=ob/\nm'.uv t=uv:=by subst hnm;exact⟨pt_same _ _ _,pt_same _ _ _,pt_same _ _ _⟩
  have q2:∀u,u≠t->nm'.rb u=nm.rb u/\nm'.ob u=nm.ob u/\nm'.uv u=nm.uv u:=λu e=>by subst hnm;exact⟨pt_other _ _ e,pt_other _ _ e,pt_other _ _ e⟩
  have q3:nm'.hv=nm.hv/\nm'.gv=nm.gv/\nm'.mb=nm.mb/\nm'.N=nm.N:=by subst hnm;exact⟨rfl,rfl,rfl,rfl⟩
  rw[<- hnm] at hbox ⊢
  clear hnm
  obtain⟨q4,q5,q6⟩:=q1
  obtain⟨q7,q8,q9,q10⟩:=q3
  refine h.upd (λi=>i = .box\/i = .reads t\/i = .owned t\/i = .undo t) 0 (by omega) (hchg.mono λk _ e=>?_) ?_ ?_ ?_ (λu hu hop=>?_)
  · rcases e with e|e|e|e
    · exact⟨.box,trivial,.inl rfl,by rw[e];rfl⟩
    · exact⟨.reads t,ht,.inr (.inl rfl),e⟩
    · exact⟨.owned t,ht,.inr (.inr (.inl rfl)),e⟩
    · exact⟨.undo t,ht,.inr (.inr (.inr rfl)),e⟩
  · intro i hi hx
    simp only [not_or] at hx
    obtain⟨x1,x2,x3,x4⟩:=hx
    cases i with
    | box=>exact absurd rfl x1
    | words=>exact⟨by show nm'.hv.ownBlock=_;rw[q7];rfl,λp=>by show OwnInts w' base nm'.hv M.xs;rw[q7];exact p⟩
    | reads u =>
      have e:u≠t:=λe=>x2 (by rw[e])
      exact⟨(q2 u e).1,λp=>by show MapAt w' (nm'.rb u) nm'.N _;rw[(q2 u e).1,q10,hT u e];exact p⟩
    | owned u =>
      have e:u≠t:=λe=>x3 (by rw[e])
      exact⟨(q2 u e).2.1,λp=>by show MapAt w' (nm'.ob u) nm'.N _;rw[(q2 u e).2.1,q10,hT u e];exact p⟩
    | undo u =>
      have e:u≠t:=λe=>x4 (by rw[e])
      exact⟨by show (nm'.uv u).ownBlock=_;rw[(q2 u e).2.2];rfl,λp=>by show OwnU w' base (nm'.uv u) _;rw[(q2 u e).2.2,hT u e];exact p⟩
    | gray=>exact⟨by show nm'.gv.ownBlock=_;rw[q8];rfl,λp=>by show OwnInts w' base nm'.gv M.gray;rw[q8];exact p⟩
    | mark=>exact⟨q9,λp hg=>by rw[q9];exact p hg⟩
  · rintro i hi (rfl|rfl|rfl|rfl)
    · refine⟨λi hi=>⟨?_,(hbox i hi).2⟩,.inl rfl⟩
      rw[(hbox i hi).1]
      congr 1
      split
      · rename_i hr
        have:=cellOf_tx nm' (M.setTx t x) ht (q:=i - 34 - t * 12) (by omega)
        rw[show 34+t * 12+(i - 34 - t * 12)=i by omega,hTt] at this
        exact this.symm
      · rename_i hr
        exact (cellOf_other nm nm' M (M.setTx t x) t ht q7 rfl rfl (λu e=>⟨hT u e,q2 u e⟩) rfl q8 q9 hr).symm
    · refine⟨by show MapAt w' (nm'.rb t) nm'.N _;rw[q4,q10,hTt];exact h1,?_⟩
      show nm'.rb t=nm.rb t\/_
      rw[q4]
      rcases n1 with n1|n1
      · exact .inl n1
      · exact .inr λk hk=>n1 k (by rw[<- q4];exact hk)
    · refine⟨by show MapAt w' (nm'.ob t) nm'.N _;rw[q5,q10,hTt];exact h2,?_⟩
      show nm'.ob t=nm.ob t\/_
      rw[q5]
      rcases n2 with n2|n2
      · exact .inl n2
      · exact .inr λk hk=>n2 k (by rw[<- q5];exact hk)
    · refine⟨by show OwnU w' base (nm'.uv t) _;rw[q6,hTt];exact h3,?_⟩
      show (nm'.uv t).ownBlock=(nm.uv t).ownBlock\/_
      rw[q6]
      rcases n3 with n3|n3
      · exact .inl n3
      · exact .inr λk hk=>n3 k (by rw[<- q6];exact hk)
  · intro i j k hi hj xi xj h1 h2 hk
    have r:∀l,role B nm' .box=some l->l<w.heap.size:=λl e=>(h.lo .box l trivial e).2
    have e1:role B nm' (.reads t)=rb:=q4
    have e2:role B nm' (.owned t)=ob:=q5
    have e3:role B nm' (.undo t)=uv.ownBlock:=by show (nm'.uv t).ownBlock=_;rw[q6]
    rcases xi with rfl|rfl|rfl|rfl
    · have:=r k h1;omega
    all_goals rcases xj with rfl|rfl|rfl|rfl
    all_goals first
      | rfl
      | (exfalso;have:=r k h2;omega)
      | (exfalso;rw[e1] at h1;rw[e2] at h2;exact n4 k hk h1 h2)
      | (exfalso;rw[e1] at h1;rw[e3] at h2;exact n5 k hk h1 h2)
      | (exfalso;rw[e2] at h1;rw[e1] at h2;exact n4 k hk h2 h1)
      | (exfalso;rw[e2] at h1;rw[e3] at h2;exact n6 k hk h1 h2)
      | (exfalso;rw[e3] at h1;rw[e1] at h2;exact n5 k hk h2 h1)
      | (exfalso;rw[e3] at h1;rw[e2] at h2;exact n6 k hk h2 h1)
  · by_cases e:u=t
    · subst e
      rw[hTt] at hop
      rw[q4,q5]
      exact ho hop
    · rw[hT u e] at hop
      rw[(q2 u e).1,(q2 u e).2.1]
      exact h.opn u hu hop
end Go.Proofs.Ytbeilcaadpopmab
namespace Go.Proofs.Ytbeilcaadpopmab
open Go.RowKit Go.Maps
def RetM (d base:Nat) (w:World) (B:Nat) (nm:Nm) (M':CM) (r:Value) (e:Ending) (w':World):Prop:=e = .returned r/\∃nm',Mach base w' B nm' M'/\Went d w w' B nm nm'
theorem Went.below {d B:Nat} {w w' w'':World} {nm nm':Nm} (h:Went d w w' B nm nm') (hb:Below w'.heap.size w' w'') (hl:∀k,Has B nm' k->k<w'.heap.size):Went d w w'' B nm nm':=by
  refine⟨⟨hb.os.trans h.chg.os,hb.tape.trans h.chg.tape,hb.output.trans h.chg.output,Nat.le_trans h.chg.size hb.size,λk hk hx=>?_⟩,h.own,h.few⟩
  exact (hb.block k (Nat.lt_of_lt_of_le hk h.chg.size)).trans (h.chg.block k hk hx)
theorem Went.after {d B:Nat} {w w' w'':World} {nm nm':Nm} (hb:Below w.heap.size w w') (h:Went d w' w'' B nm nm'):Went d w w'' B nm nm':=by
  refine⟨⟨h.chg.os.trans hb.os,h.chg.tape.trans hb.tape,h.chg.output.trans hb.output,Nat.le_trans hb.size h.chg.size,λk hk hx=>?_⟩,λk hk hx=>h.own k (Nat.lt_of_lt_of_le hk hb.size) hx,h.few⟩
  exact (h.chg.block k (Nat.lt_of_lt_of_le hk hb.size) hx).trans (hb.block k hk)
theorem Mach.has_lt {base B:Nat} {w:World} {nm:Nm} {M:CM} (h:Mach base w B nm M) (k:Nat) (hk:Has B nm k):k<w.heap.size:=by
  obtain⟨i,hi,e⟩:=hk
  exact (h.lo i k hi e).2
theorem Mach.lt {base B:Nat} {w:World} {nm:Nm} {M:CM} (h:Mach base w B nm M):B<w.heap.size:=(h.lo .box B trivial rfl).2
theorem Mach.c82 {base B:Nat} {w:World} {nm:Nm} {M:CM} (h:Mach base w B nm M):w.cell? ⟨B,82,none⟩=some (.bool M.going):=(h.box 82 (by omega)).1
theorem Went.cell {d B:Nat} {w w':World} {nm nm':Nm} (h:Went d w w' B nm nm') {k:Nat} (hk:k<w.heap.size) (hn:¬ Has B nm k) (o:Nat):w'.cell? ⟨k,o,none⟩=w.cell? ⟨k,o,none⟩/\w'.frozen? ⟨k,o,none⟩=w.frozen? ⟨k,o,none⟩ :=
  ⟨World.cell?_of_block (w:=w) (a:=⟨k,o,none⟩) (h.chg.block k hk hn),World.frozen?_of_block (w:=w) (a:=⟨k,o,none⟩) (h.chg.block k hk hn)⟩
theorem Mach.not_has {base B:Nat} {w:World} {nm:Nm} {M:CM} (h:Mach base w B nm M) {k:Nat} (hk:w.heap.size<=k):¬ Has B nm k:=λhn=>by
  have:=h.has_lt k hn
  omega
theorem Went.not_has {d B:Nat} {w w':World} {nm nm':Nm} (h:Went d w w' B nm nm') {k:Nat} (hk:k<w.heap.size) (hn:¬ Has B nm k):¬ Has B nm' k:=λh'=>hn (h.own k hk h')
theorem Chg.cell {X:Nat->Prop} {w w':World} (h:Chg X w w') {k:Nat} (hk:k<w.heap.size) (hx:¬ X k) (o:Nat):w'.cell? ⟨k,o,none⟩=w.cell? ⟨k,o,none⟩/\w'.frozen? ⟨k,o,none⟩=w.frozen? ⟨k,o,none⟩ :=
  ⟨World.cell?_of_block (w:=w) (a:=⟨k,o,none⟩) (h.block k hk hx),World.frozen?_of_block (w:=w) (a:=⟨k,o,none⟩) (h.block k hk hx)⟩
set_option maxRecDepth 100000 in
theorem mine_any (t:Nat) (w:World) (ht:t<4):Calls Try.prog 95 #[.int .i64 (t:Int)] w (λe w'=>e = .returned (.int .i64 (2 * (t:Int)+1))/\w' = w):=by
  have h1:IntKind.i64.wrap (2 * (t:Int))=2 * (t:Int):=IntWalk.i64_in _ (by omega)
  have h2:IntKind.i64.wrap (2 * (t:Int)+1)=2 * (t:Int)+1:=IntWalk.i64_in _ (by omega)
  go_enter Try.func95,Try.ntmps95
  go_wp2
  exact bodyPost_ret (v:=.int .i64 (2 * (t:Int)+1)) (by simp[results,Try.results95,go_sem, *]) rfl ⟨rfl,rfl⟩
set_option maxRecDepth 100000 in
set_option maxHeartbeats 1000000 in
theorem see_any (base:Nat) (w:World) (B:Nat) (nm:Nm) (M:CM) (h:Mach base w B nm M) (v:Int × Int) (hk:I64 v.1) (hv:I64 v.2) (hn:M.going=true->M.S.length<900000/\M.gray.length<900000) :
    Calls Try.prog 98 #[.pointer (some ⟨B,0,none⟩),.agg #[.int .i64 v.1,.int .i64 v.2]] w (RetM 0 base w B nm (M.see v) (.tuple #[])):=by
  obtain⟨k,n⟩:=v
  have HM:=Lib.hid h
  have hB:=h.lt
  have c82:=h.c82
  have HV:=Lib.hid hv;have HK:=Lib.hid hk;have HN:=Lib.hid hn
  clear h hv hk hn
  cases hg:M.going with
  | false =>
    have HE:Hid (M.see (k,n)=M):=by simp[Hid,CM.see,hg]
    rw[hg] at c82
    clear hg
    go_enter Try.func98,Try.ntmps98
    go_wp2
    refine bodyPost_end (results_none rfl _ _ _) rfl ⟨rfl,nm,?_,?_⟩
    · rw[HE.out];exact HM.out.below (by ((repeat first|exact bR _ _|with_reducible first|refine bN ?_|refine bD ?_|refine bA ?_ ?_|refine bS ?_ ?_);all_goals first|exact Nat.le_refl _|(simp;done)|omega|(simp;omega)))
    · exact (Went.refl w B nm).below (by ((repeat first|exact bR _ _|with_reducible first|refine bN ?_|refine bD ?_|refine bA ?_ ?_|refine bS ?_ ?_);all_goals first|exact Nat.le_refl _|(simp;done)|omega|(simp;omega))) HM.out.has_lt
  | true =>
    have HG:=Lib.hid hg
    rw[hg] at c82
    clear hg
    by_cases hk1:k=1
    · subst hk1
      have HE:Hid (M.see (1,n)={ M with gray:=pushG n M.gray M.S,S:=pushS n M.S }):=by simp[Hid,CM.see,HG.out,CM.push]
      go_enter Try.func98,Try.ntmps98
      go_wp2_with fail
      obtain⟨w1,hw1⟩:∃w1,w1=w.alloc (.cells #[.int .i64 1,.int .i64 n] 36):=⟨_,rfl⟩
      have x1:w1.cell? ⟨w.heap.size,1,none⟩=some (.int .i64 n):=by rw[hw1];simp
      have HB1:Hid (Below w.heap.size w w1):=by rw[Hid,hw1];exact (by ((repeat first|exact bR _ _|with_reducible first|refine bN ?_|refine bD ?_|refine bA ?_ ?_|refine bS ?_ ?_);all_goals first|exact Nat.le_refl _|(simp;done)|omega|(simp;omega)))
      rw[<- hw1]
      clear hw1
      obtain⟨w2,hw2⟩:∃w2,w2=w1.drew:=⟨_,rfl⟩
      have x2:w2.cell? ⟨w.heap.size,1,none⟩=some (.int .i64 n):=by rw[hw2];exact x1
      have HB2:Hid (Below w.heap.size w w2):=by rw[Hid,hw2];exact HB1.out.drew
      refine still_tail_at 5 (by kernel_rfl) (by kernel_rfl) hw2 ?_;simp only [List.take_succ_cons,List.take_zero,List.drop_succ_cons,List.drop_zero];clear hw2;(repeat still_step);refine wpStill_nil ?_
      have HM2:Hid (Mach base w2 B nm M):=HM.out.below HB2.out
      obtain⟨b,hb,hmk⟩:=HM2.out.marker HG.out
      have HMK:=Lib.hid hmk;have HBB:=Lib.hid hb
      clear hmk hb
      go_wp2_with (go_at_call 60;refine (push_any (cut w2 base) w2 B 83 b base nm.gv M.gray M.S n HMK.out HV.out (HN.out HG.out).1 (HN.out HG.out).2).mono ?_;rintro e w5 ⟨rfl,gv5,hM5,hT5⟩;have HM5:=Lib.hid hM5;have HT5:=Lib.hid hT5;clear hM5 hT5)
      obtain⟨q1,q2⟩:=HM2.out.turned HBB.out HM5.out HT5.out
      rw[<- HE.out] at q1
      exact bodyPost_end (results_none rfl _ _ _) rfl ⟨rfl,_,q1,q2.after HB2.out⟩
    · have hk2:(k == 1)=false:=by simpa using hk1
      have HE:Hid (M.see (k,n)=M):=by simp[Hid,CM.see,hk1]
      clear hk1
      go_enter Try.func98,Try.ntmps98
      go_wp2
      refine bodyPost_end (results_none rfl _ _ _) rfl ⟨rfl,nm,?_,?_⟩
      · rw[HE.out];exact HM.out.below (by ((repeat first|exact bR _ _|with_reducible first|refine bN ?_|refine bD ?_|refine bA ?_ ?_|refine bS ?_ ?_);all_goals first|exact Nat.le_refl _|(simp;done)|omega|(simp;omega)))
      · exact (Went.refl w B nm).below (by ((repeat first|exact bR _ _|with_reducible first|refine bN ?_|refine bD ?_|refine bA ?_ ?_|refine bS ?_ ?_);all_goals first|exact Nat.le_refl _|(simp;done)|omega|(simp;omega))) HM.out.has_lt
theorem Mach.c0 {base B:Nat} {w:World} {nm:Nm} {M:CM} (h:Mach base w B nm M):w.cell? ⟨B,0,none⟩=some nm.hv:=(h.box 0 (by omega)).1
theorem Mach.c1 {base B:Nat} {w:World} {nm:Nm} {M:CM} (h:Mach base w B nm M):w.cell? ⟨B,1,none⟩=some (.int .i64 (M.top:Int)):=(h.box 1 (by omega)).1
theorem CM.see_xs (M:CM) (v:Int × Int):(M.see v).xs=M.xs:=by unfold CM.see;split <;> rfl
set_option maxRecDepth 100000 in
set_option maxHeartbeats 1000000 in
theorem store_any (base:Nat) (w:World) (B:Nat) (nm:Nm) (M:CM) (h:Mach base w B nm M) (p k:Nat) (v:Int × Int) (hi:p+2+k<M.xs.length) (hk:I64 v.1) (hv0 : -4611686018427387904<=v.2) (hv1:v.2<4611686018427387904) (hn:M.going=true->M.S.length<900000/\M.gray.length<900000) :
    Calls Try.prog 93 #[.pointer (some ⟨B,0,none⟩),.int .i64 (p:Int),.int .i64 (k:Int),.agg #[.int .i64 v.1,.int .i64 v.2]] w (RetM 0 base w B nm (M.store (p+2+k) v) (.tuple #[])):=by
  obtain⟨vk,vn⟩:=v
  obtain⟨i,hie⟩:∃i,i=p+2+k:=⟨_,rfl⟩
  rw[<- hie] at hi ⊢
  have hle:=((h.part .words trivial:OwnInts w base nm.hv M.xs)).1.2
  obtain⟨g,c,e,hc1,hc2,hg,hgB,hcell,hfz⟩:=h.spot (by omega)
  have c0:=h.c0
  have hx:=hcell _ hi
  have hr:=((h.part .words trivial:OwnInts w base nm.hv M.xs)).ints.range i
  obtain⟨x,hxe⟩:∃x,x=M.xs.getD i 0:=⟨_,rfl⟩
  rw[<- hxe] at hx hr
  obtain⟨hr1,hr2⟩:=hr
  have hB:=h.lt
  have HM:=Lib.hid h;have HXE:=Lib.hid hxe;have HK:=Lib.hid hk;have HN:=Lib.hid hn;have HE:=Lib.hid e;have HCELL:=Lib.hid hcell;have HF:=Lib.hid hfz
  rw[e] at c0
  clear h hxe hk hn e hcell hfz
  have w1:IntKind.i64.wrap ((p:Int)+2)=(p:Int)+2:=IntWalk.i64_in _ (by omega)
  have w2:IntKind.i64.wrap ((p:Int)+2+k)=(i:Int):=by rw[IntWalk.i64_in _ (by omega)];omega
  have HIE:=Lib.hid hie
  clear hie
  have HSEE:Hid (∀W,Mach base W B nm M->Calls Try.prog 98 #[.pointer (some ⟨B,0,none⟩),.agg #[.int .i64 (ofK x),.int .i64 (ofN x)]] W (RetM 0 base W B nm (M.see (ofK x,ofN x)) (.tuple #[]))) :=
    λW hW=>see_any base W B nm M hW (ofK x,ofN x) (by unfold I64 ofK;omega) (by unfold I64 ofN;omega) HN.out
  have i2:(i:Int)<(M.xs.length:Int):=by omega
  go_enter Try.func93,Try.ntmps93
  go_upto_region 3 with (first|(go_at_call 37;refine (of_any x _ hr1 hr2).mono ?_;rintro e w4 ⟨rfl,hb4⟩;have HB4:=Lib.hid hb4;clear hb4)|(go_at_call 98;refine (HSEE.out _ (HM.out.below (by ((repeat first|exact bR _ _|with_reducible first|refine bT ?_ HB4.out ?_|refine bN ?_|refine bD ?_|refine bA ?_ ?_|refine bS ?_ ?_);all_goals first|exact Nat.le_refl _|(simp;done)|omega|(simp;omega)|(have z0:=Below.size HB4.out;omega)|(have z0:=Below.size HB4.out;simp at *;omega))))).mono ?_;rintro e w5 ⟨rfl,nm5,hM5,hW5⟩;have HM5:=Lib.hid hM5;have HW5:=Lib.hid hW5;clear hM5 hW5))
  have zc:=HB4.out.size
  rw[World.size_alloc] at zc
  have zc5:=HW5.out.chg.size
  have x0:w5.cell? ⟨w.heap.size,0,none⟩=some (.int .i64 vk):=((HW5.out.cell (by omega) (HM.out.not_has (Nat.le_refl _)) 0).1.trans (HB4.out.cell (p:=⟨w.heap.size,0,none⟩) (by simp))).trans (by simp)
  have x1:w5.cell? ⟨w.heap.size,1,none⟩=some (.int .i64 vn):=((HW5.out.cell (by omega) (HM.out.not_has (Nat.le_refl _)) 1).1.trans (HB4.out.cell (p:=⟨w.heap.size,1,none⟩) (by simp))).trans (by simp)
  have hi5:i<(M.see (ofK x,ofN x)).xs.length:=by rw[CM.see_xs];exact hi
  obtain⟨g5,c5,e5,hc51,hc52,hg5,hgB5,hcell5,hfz5⟩:=HM5.out.spot (by omega)
  have d0:=HM5.out.c0
  rw[e5] at d0
  have hB5:=HM5.out.lt
  have dx:=hcell5 _ hi5
  have dz:=hfz5 i
  have HW1:Hid (Went 0 w w5 B nm nm5):=HW5.out.after (show Below w.heap.size w w4 from (by ((repeat first|exact bR _ _|with_reducible first|refine bT ?_ HB4.out ?_|refine bN ?_|refine bD ?_|refine bA ?_ ?_|refine bS ?_ ?_);all_goals first|exact Nat.le_refl _|(simp;done)|omega|(simp;omega)|(have z0:=Below.size HB4.out;omega)|(have z0:=Below.size HB4.out;simp at *;omega))))
  have hlen:(M.see (ofK x,ofN x)).xs.length=M.xs.length:=by rw[CM.see_xs]
  have hgn:g5≠w.heap.size:=λe=>HW5.out.not_has (by omega) (HM.out.not_has (Nat.le_refl _)) (⟨.words,trivial,by show nm5.hv.ownBlock=_;rw[e5,<- e];rfl⟩:Has B nm5 w.heap.size)
  have hn5:w.heap.size<w5.heap.size:=by omega
  rw[hlen] at hc51 d0
  have HE5:=Lib.hid e5
  have b5:i<=c5:=by omega
  clear hx hr1 hr2 HSEE HCELL HF c0 hcell5 hfz5 e5 zc zc5 hlen
  have HKEEP:Hid (∀W,Chg (λi=>i=g5) w5 W->W.cell? ⟨B,0,none⟩=some (.slice (some ⟨g5,0,none⟩) M.xs.length c5)/\W.cell? ⟨w.heap.size,0,none⟩=some (.int .i64 vk)/\W.cell? ⟨w.heap.size,1,none⟩=some (.int .i64 vn)/\Chg (λi=>i=g5) w5 W) :=
    λW hW=>⟨(hW.cell hB5 (λe=>hgB5 e.symm) 0).1.trans d0,(hW.cell hn5 (λe=>hgn e.symm) 0).1.trans x0,(hW.cell hn5 (λe=>hgn e.symm) 1).1.trans x1,hW⟩
  clear d0 x0 x1
  go_region_held3 (λW=>W.cell? ⟨B,0,none⟩=some (.slice (some ⟨g5,0,none⟩) M.xs.length c5)/\W.cell? ⟨w.heap.size,0,none⟩=some (.int .i64 vk)/\W.cell? ⟨w.heap.size,1,none⟩=some (.int .i64 vn)/\Chg (λi=>i=g5) w5 W)
    (first|exact HKEEP.out _ (Chg.drew _ _)|exact HKEEP.out _ ((Chg.drew _ _).trans (.ofBelow _ hb6))|exact HKEEP.out _ (((Chg.drew _ _).trans (.ofBelow _ hb6)).trans (Chg.set _ _ _ _ rfl)))
    ((go_at_call 53;refine (word_any vk vn _ hv0 hv1).mono ?_;rintro e w6 ⟨rfl,hb6⟩;have f6:=(hb6.cell (p:=⟨g5,i,none⟩) hg5).trans dx;have z6:=(hb6.frozen (p:=⟨g5,i,none⟩) hg5).trans dz))
  have HM6:Hid (Mach base w6 B nm5 (M.see (ofK x,ofN x))):=HM5.out.below (show Below w5.heap.size w5 w6 from (by ((repeat first|exact bR _ _|with_reducible first|refine bT ?_ hb6 ?_|refine bN ?_|refine bD ?_|refine bA ?_ ?_|refine bS ?_ ?_);all_goals first|exact Nat.le_refl _|(simp;done)|omega|(simp;omega)|(have z0:=Below.size hb6;omega)|(have z0:=Below.size hb6;simp at *;omega))))
  have HW6:Hid (Went 0 w w6 B nm nm5):=HW1.out.below (show Below w5.heap.size w5 w6 from (by ((repeat first|exact bR _ _|with_reducible first|refine bT ?_ hb6 ?_|refine bN ?_|refine bD ?_|refine bA ?_ ?_|refine bS ?_ ?_);all_goals first|exact Nat.le_refl _|(simp;done)|omega|(simp;omega)|(have z0:=Below.size hb6;omega)|(have z0:=Below.size hb6;simp at *;omega)))) HM5.out.has_lt
  obtain⟨q1,q2⟩:=HM6.out.setWord (x:=wordOf vk vn) HE5.out hi5 (by unfold wordOf I64;split <;> omega)
  have e1:({ M.see (ofK x,ofN x) with xs:=(M.see (ofK x,ofN x)).xs.set i (wordOf vk vn) }:CM)=M.store i (vk,vn):=by
    unfold CM.store
    rw[<- HXE.out,CM.see_xs]
  rw[e1] at q1
  exact bodyPost_end (results_none rfl _ _ _) rfl ⟨rfl,_,q1,HW6.out.trans q2⟩
end Go.Proofs.Ytbeilcaadpopmab
namespace Go.Proofs.Ytbeilcaadpopmab
open Go.RowKit Go.Maps
theorem setCells_chg (B:Nat):∀(vs:List Value) (o:Nat) (w:World),Chg (λk=>k=B) w (w.setCells B o vs)
  | [],o,w=>Chg.refl _ _
  | v :: vs,o,w=>by
    rw[World.setCells]
    exact (Chg.set (λk=>k=B) w ⟨B,o,none⟩ v rfl).trans (setCells_chg B vs (o+1) _)
theorem wpl_storeBox {ops:Array Oper} {rest:List Oper} {o:Oper} {a:Act} {Q:Exit->Act->World->Prop} {w:World} (hg:o.guard=none) (ty:TypeId) (x y:Operand) (hop:o.op = .store ty x y)
    (B off:Nat) (cells:Array Value) (hx:a.eval x = .pointer (some ⟨B,off,none⟩)) (hy:a.eval y = .agg cells) (c:Nat->Value) (hB:Box w B c) (ho:off+cells.size<=85)
    (hi:(Try.prog.info? ty).map (·.size)=some cells.size) (h1:cells.all (·.oneCell')=true)
    (hK:Box (w.setCells B off cells.toList) B (insL c off cells.toList)->Chg (λk=>k=B) w (w.setCells B off cells.toList)->wpList Try.prog ops Q rest (a.put o.dst undef) (w.setCells B off cells.toList)):wpList Try.prog ops Q (o :: rest) a w :=
  wpList_store_mid hg ty x y hop B off cells hx hy (hB.there ho) hi h1 (hK (hB.setL _ (by simpa using ho)) (setCells_chg B _ _ _))
theorem still_loadBox {ops:Array Oper} {rest:List Oper} {o:Oper} {a:Act} {Q:Act->Prop} {w:World} (hg:o.guard=none) (ty:TypeId) (x:Operand) (hop:o.op = .load ty x)
    (B off:Nat) (hx:a.eval x = .pointer (some ⟨B,off,none⟩)) (cs:List Value) (hc:w.rangeAt B off cs)
    (d:TypeDesc) (hu:Try.prog.underlying ty=some d) (hd:d.isRow=true) (hi:(Try.prog.info? ty).map (·.size)=some cs.length)
    (h:wpStill Try.prog ops w Q rest (a.put o.dst (.agg cs.toArray))):wpStill Try.prog ops w Q (o :: rest) a:=by
  unfold wpStill
  have hw:Region.wanted o (yielded ops a.tmps)=true:=by simp[Region.wanted,hg]
  rw[if_pos hw]
  unfold Oper.still execOp
  simp only [hop,hx,run_loadAt_mid (P:=Try.prog) w B off ty cs d hc hu hd hi,Sem.run_bind,Sem.run_pure,Result.andThen_ok]
  exact⟨rfl,h⟩
theorem still_call {ops:Array Oper} {rest:List Oper} {o:Oper} {a:Act} {Q:Act->Prop} {w:World} {f:FuncId} {args:Array Value} (v:Value) (hw:Region.wanted o (yielded ops a.tmps)=true) (hrun:(execOp a.eval o).run Try.prog w = .ok (.enter f args) w)
    (hc:Calls Try.prog f args w (λe w'=>e = .returned v/\w' = w)) (h:wpStill Try.prog ops w Q rest (a.put o.dst v)):wpStill Try.prog ops w Q (o :: rest) a:=by
  unfold wpStill
  rw[if_pos hw]
  unfold Oper.still
  rw[hrun]
  exact⟨rfl,v,hc,h⟩
theorem undRegs:Try.prog.underlying 109 = some (.array 4 36):=Try.underlying109
theorem Try.sizeRegs:(Try.prog.info? 109).map (·.size)=some 8:=by kernel_rfl
theorem Try.sizeVal:(Try.prog.info? 36).map (·.size)=some 2:=by kernel_rfl
def savedL (s:Nat->Int × Int):List Value:=[.int .i64 (s 0).1,.int .i64 (s 0).2,.int .i64 (s 1).1,.int .i64 (s 1).2,.int .i64 (s 2).1,.int .i64 (s 2).2,.int .i64 (s 3).1,.int .i64 (s 3).2]
def txL (x:CTx) (rb ob:Option Nat) (uv:Value):List Value:=.bool x.op :: (savedL x.saved++[.map rb,.map ob,uv])
theorem txC_L (nm:Nm) (x:CTx) (t q:Nat) (hq:q<12):txC nm x t q=(txL x (nm.rb t) (nm.ob t) (nm.uv t)).getD q undef:=by
  have:q=0\/q=1\/q=2\/q=3\/q=4\/q=5\/q=6\/q=7\/q=8\/q=9\/q=10\/q=11:=by omega
  rcases this with rfl|rfl|rfl|rfl|rfl|rfl|rfl|rfl|rfl|rfl|rfl|rfl <;> rfl
theorem cellOf_saved (nm:Nm) (M:CM) {t:Nat} (ht:t<4) (j:Nat) (hj:j<8):cellOf nm M (34+t * 12+1+j)=(savedL (M.txs t).saved).getD j undef:=by
  rw[show 34+t * 12+1+j=34+t * 12+(1+j) by omega,cellOf_tx nm M ht (by omega),txC_L _ _ _ _ (by omega)]
  have:j=0\/j=1\/j=2\/j=3\/j=4\/j=5\/j=6\/j=7:=by omega
  rcases this with rfl|rfl|rfl|rfl|rfl|rfl|rfl|rfl <;> rfl
theorem cellOf_regs (nm:Nm) (M:CM) {t:Nat} (ht:t<4) (j:Nat) (hj:j<8):cellOf nm M (2+t * 8+j)=(savedL (M.regs t)).getD j undef:=by
  have h2:∀r,r<4->cellOf nm M (2+t * 8+r * 2) = .int .i64 (M.regs t r).1/\cellOf nm M (2+t * 8+r * 2+1) = .int .i64 (M.regs t r).2:=λr hr=>cellOf_reg nm M ht hr
  have:j=0\/j=1\/j=2\/j=3\/j=4\/j=5\/j=6\/j=7:=by omega
  rcases this with rfl|rfl|rfl|rfl|rfl|rfl|rfl|rfl
  · exact (h2 0 (by omega)).1
  · exact (h2 0 (by omega)).2
  · exact (h2 1 (by omega)).1
  · exact (h2 1 (by omega)).2
  · exact (h2 2 (by omega)).1
  · exact (h2 2 (by omega)).2
  · exact (h2 3 (by omega)).1
  · exact (h2 3 (by omega)).2
theorem Mach.storeTx {base B:Nat} {w w':World} {nm:Nm} {M:CM} (h:Mach base w B nm M) {t:Nat} (ht:t<4) (x:CTx) (rb ob:Option Nat) (uv:Value)
    (hchg:Chg (λk=>k=B\/nm.rb t=some k\/nm.ob t=some k\/(nm.uv t).ownBlock=some k) w w')
    (hbox:Box w' B (insL (cellOf nm M) (34+t * 12) (txL x rb ob uv)))
    (h1:MapAt w' rb nm.N x.reads) (h2:MapAt w' ob nm.N x.owned) (h3:OwnU w' base uv x.undo)
    (n1:rb=nm.rb t\/∀k,rb=some k->w.heap.size<=k/\k<w'.heap.size) (n2:ob=nm.ob t\/∀k,ob=some k->w.heap.size<=k/\k<w'.heap.size) (n3:uv.ownBlock=(nm.uv t).ownBlock\/∀k,uv.ownBlock=some k->w.heap.size<=k/\k<w'.heap.size)
    (n4:∀k,w.heap.size<=k->rb=some k->ob≠some k) (n5:∀k,w.heap.size<=k->rb=some k->uv.ownBlock≠some k) (n6:∀k,w.heap.size<=k->ob=some k->uv.ownBlock≠some k)
    (ho:x.op=true->rb.isSome=true/\ob.isSome=true) :
    Mach base w' B { nm with rb:=pt nm.rb t rb,ob:=pt nm.ob t ob,uv:=pt nm.uv t uv } (M.setTx t x)/\Went 0 w w' B nm { nm with rb:=pt nm.rb t rb,ob:=pt nm.ob t ob,uv:=pt nm.uv t uv }:=by
  refine h.newTx ht x rb ob uv hchg (λi hi=>⟨?_,(hbox i hi).2⟩) h1 h2 h3 n1 n2 n3 n4 n5 n6 ho
  rw[(hbox i hi).1]
  congr 1
  unfold insL
  have hl:(txL x rb ob uv).length=12:=rfl
  rw[hl]
  split
  · rename_i hr
    rw[txC_L _ _ _ _ (by omega)]
    dsimp only
    rw[pt_same,pt_same,pt_same,show i - 34 - t * 12=i - (34+t * 12) by omega]
  · rfl
def Nm.shut (nm:Nm) (t:Nat):Nm:={ nm with rb:=pt nm.rb t none,ob:=pt nm.ob t none,uv:=pt nm.uv t (.slice none 0 0) }
set_option maxRecDepth 100000 in
set_option maxHeartbeats 1000000 in
theorem end_any (base:Nat) (w:World) (B:Nat) (nm:Nm) (M:CM) (h:Mach base w B nm M) (t:Nat) (ht:t<4) :
    Calls Try.prog 92 #[.pointer (some ⟨B,0,none⟩),.int .i64 (t:Int)] w (RetM 0 base w B nm (M.shut t) (.tuple #[])):=by
  have HM:=Lib.hid h
  have HBX:=Lib.hid h.box
  have hB:=h.lt
  have i1:(t:Int)<4:=by omega
  clear h
  go_enter Try.func92,Try.ntmps92
  go_wp2_with (refine wpl_storeBox rfl _ _ _ rfl B (34+t * 12) _ rfl rfl _ HBX.out (by simp;omega) (by kernel_rfl) (by simp[Value.oneCell']) ?_;intro hbx hcg;have HBX2:=Lib.hid hbx;have HCG:=Lib.hid hcg;clear hbx hcg)
  obtain⟨q1,q2⟩:=HM.out.storeTx ht noTx none none (.slice none 0 0) (HCG.out.mono λ_ _ e=>.inl e) HBX2.out (λ_=>rfl) (λ_=>rfl) (OwnU.nil _ _) (.inr λk e=>by cases e) (.inr λk e=>by cases e) (.inr λk e=>by cases e) (λk _ e=>by cases e) (λk _ e=>by cases e) (λk _ e=>by cases e) (λe=>by cases e)
  exact bodyPost_end (results_none rfl _ _ _) rfl ⟨rfl,_,q1,q2⟩
end Go.Proofs.Ytbeilcaadpopmab
namespace Go.Proofs.Ytbeilcaadpopmab
open Go.RowKit Go.Maps
theorem CM.see_more (M:CM) (v:Int × Int):(M.see v).S.length<=M.S.length+1/\(M.see v).gray.length<=M.gray.length+1:=by
  unfold CM.see CM.push pushG pushS
  split <;> (try split) <;> simp_all
theorem CM.see_rest (M:CM) (v:Int × Int):(M.see v).top=M.top/\(M.see v).regs=M.regs/\(M.see v).txs=M.txs/\(M.see v).going=M.going:=by
  unfold CM.see CM.push
  split <;> exact⟨rfl,rfl,rfl,rfl⟩
theorem CM.store_rest (M:CM) (i:Nat) (v:Int × Int):(M.store i v).top=M.top/\(M.store i v).regs=M.regs/\(M.store i v).txs=M.txs/\(M.store i v).going=M.going/\(M.store i v).xs.length=M.xs.length/\(M.store i v).S.length<=M.S.length+1/\(M.store i v).gray.length<=M.gray.length+1:=by
  obtain⟨h1,h2,h3,h4⟩:=CM.see_rest M (ofK (M.xs.getD i 0),ofN (M.xs.getD i 0))
  obtain⟨h5,h6⟩:=CM.see_more M (ofK (M.xs.getD i 0),ofN (M.xs.getD i 0))
  exact⟨h1,h2,h3,h4,by simp[CM.store],h5,h6⟩
theorem CM.back_rest (M:CM):∀us:List CU,(M.back us).top=M.top/\(M.back us).regs=M.regs/\(M.back us).txs=M.txs/\(M.back us).going=M.going/\(M.back us).xs.length=M.xs.length/\(M.back us).S.length<=M.S.length+us.length/\(M.back us).gray.length<=M.gray.length+us.length
  | []=>⟨rfl,rfl,rfl,rfl,rfl,by simp[CM.back],by simp[CM.back]⟩
  | u :: us=>by
    obtain⟨a1,a2,a3,a4,a5,a6,a7⟩:=CM.back_rest M us
    obtain⟨b1,b2,b3,b4,b5,b6,b7⟩:=CM.store_rest (M.back us) (u.p+2+u.k) u.was
    refine⟨b1.trans a1,b2.trans a2,b3.trans a3,b4.trans a4,b5.trans a5,?_,?_⟩
    · have:(M.back (u :: us)).S.length=((M.back us).store (u.p+2+u.k) u.was).S.length:=rfl
      simp only [List.length_cons];omega
    · have:(M.back (u :: us)).gray.length=((M.back us).store (u.p+2+u.k) u.was).gray.length:=rfl
      simp only [List.length_cons];omega
theorem CM.back_cons (M:CM) (u:CU) (us:List CU):M.back (u :: us)=(M.back us).store (u.p+2+u.k) u.was:=rfl
def redoP (xs:List Int) (f:Int->Option Int) (todo:Int->Bool):List Int:=xs.mapIdx λi x=>if todo (i:Int) then x else (f (i:Int)).getD x
theorem redoP_start (xs:List Int) (f:Int->Option Int) (todo:Int->Bool) (h:∀x,todo x=(f x).isSome):redoP xs f todo=xs:=by
  unfold redoP
  refine List.ext_getElem (by simp) λi h1 h2=>?_
  simp only [List.getElem_mapIdx,h]
  cases f (i:Int) <;> simp
theorem redoP_end (xs:List Int) (f:Int->Option Int) (todo:Int->Bool) (h:∀x,todo x=false):redoP xs f todo=redo xs f:=by
  unfold redoP redo
  refine List.ext_getElem (by simp) λi h1 h2=>?_
  simp[h]
theorem redoP_step (xs:List Int) (f:Int->Option Int) (todo:Int->Bool) (p:Nat) (c:Int) (hp:p<xs.length) (hf:f (p:Int)=some c):(redoP xs f todo).set p c=redoP xs f (strike todo (p:Int)):=by
  unfold redoP strike
  refine List.ext_getElem (by simp) λi h1 h2=>?_
  simp only [List.getElem_set,List.getElem_mapIdx]
  by_cases e:p=i
  · subst e
    simp[hf]
  · have e2:¬ (i:Int)=(p:Int):=by omega
    simp[e,e2]
theorem redoP_len (xs:List Int) (f:Int->Option Int) (todo:Int->Bool):(redoP xs f todo).length=xs.length:=by simp[redoP]
theorem Went.newer {d B:Nat} {w w' w'':World} {nm nm':Nm} (h:Went d w w' B nm nm') (k:Chg (λi=>w.heap.size<=i) w' w''):Went d w w'' B nm nm':=by
  refine⟨⟨k.os.trans h.chg.os,k.tape.trans h.chg.tape,k.output.trans h.chg.output,Nat.le_trans h.chg.size k.size,λi hi hx=>?_⟩,h.own,h.few⟩
  exact (k.block i (Nat.lt_of_lt_of_le hi h.chg.size) (by omega)).trans (h.chg.block i hi hx)
theorem below_of_grown {w w':World} (h:w.grownBy w' none):Below w.heap.size w w':=⟨h.os,h.tape,h.output,h.size,λk hk=>h.block k hk (by simp)⟩
structure AbortOk (M:CM) (t:Nat):Prop where
  op:(M.txs t).op=true
  undo:∀u ∈ (M.txs t).undo,u.p+2+u.k<M.xs.length/\I64 u.was.1 /\ -4611686018427387904<=u.was.2/\u.was.2<4611686018427387904
  owned:∀p v,(M.txs t).owned p=some v->0<=p/\p<M.xs.length/\0<=v/\v<=2147483648
  few:M.going=true->M.S.length+(M.txs t).undo.length<900000/\M.gray.length+(M.txs t).undo.length<900000
theorem Mach.cTx {base B:Nat} {w:World} {nm:Nm} {M:CM} (h:Mach base w B nm M) {t:Nat} (ht:t<4) :
    w.cell? ⟨B,34+t * 12,none⟩=some (.bool (M.txs t).op)/\w.cell? ⟨B,34+t * 12+9,none⟩=some (.map (nm.rb t))/\w.cell? ⟨B,34+t * 12+10,none⟩=some (.map (nm.ob t))/\w.cell? ⟨B,34+t * 12+11,none⟩=some (nm.uv t)/\w.frozen? ⟨B,34+t * 12+11,none⟩=false:=by
  have hb:=h.box
  refine⟨?_,?_,?_,?_,(hb _ (by omega)).2⟩
  · rw[(hb _ (by omega)).1,show 34+t * 12=34+t * 12+0 by omega,cellOf_tx nm M ht (by omega)];rfl
  · rw[(hb _ (by omega)).1,cellOf_tx nm M ht (by omega)];rfl
  · rw[(hb _ (by omega)).1,cellOf_tx nm M ht (by omega)];rfl
  · rw[(hb _ (by omega)).1,cellOf_tx nm M ht (by omega)];rfl
theorem cellOf_setRegs (nm:Nm) (M:CM) (t:Nat) (ht:t<4) (s:Nat->Int × Int) (i:Nat):insL (cellOf nm M) (2+t * 8) (savedL s) i=cellOf nm { M with regs:=pt M.regs t s } i:=by
  unfold insL
  have hl:(savedL s).length=8:=rfl
  rw[hl]
  split
  · rename_i h
    have:=cellOf_regs nm { M with regs:=pt M.regs t s } ht (i - (2+t * 8)) (by omega)
    rw[show 2+t * 8+(i - (2+t * 8))=i by omega] at this
    rw[this]
    dsimp only
    rw[pt_same]
  · rename_i h
    unfold cellOf
    by_cases h0:i=0
    · simp[h0]
    by_cases h1:i=1
    · simp[h1]
    by_cases h2:i<34
    · have:(i - 2) / 8≠t:=by omega
      simp only [h0,h1,h2,if_false,if_true,pt_other _ _ this]
    · simp[h0,h1,h2]
theorem Mach.storeRegs {base B:Nat} {w w':World} {nm:Nm} {M:CM} (h:Mach base w B nm M) {t:Nat} (ht:t<4) (s:Nat->Int × Int) (hc:Chg (λk=>k=B) w w') (hb:Box w' B (insL (cellOf nm M) (2+t * 8) (savedL s))) :
    Mach base w' B nm { M with regs:=pt M.regs t s }/\Went 0 w w' B nm nm :=
  h.boxOnly hc (hb.congr λi _=>cellOf_setRegs nm M t ht s i) rfl (λ_=>⟨rfl,rfl,rfl⟩) rfl rfl id (λ_ _=>id)
set_option maxRecDepth 100000 in
set_option maxHeartbeats 1000000 in
theorem abort_any (base:Nat) (w:World) (B:Nat) (nm:Nm) (M:CM) (h:Mach base w B nm M) (t:Nat) (ht:t<4) (ok:AbortOk M t) :
    Calls Try.prog 76 #[.pointer (some ⟨B,0,none⟩),.int .i64 (t:Int)] w (RetM 0 base w B nm (M.abort t) (.tuple #[])):=by
  obtain⟨us,hus⟩:∃us,us=(M.txs t).undo:=⟨_,rfl⟩
  have HU:Hid (OwnU w base (nm.uv t) us):=by rw[Hid,hus];exact h.part (.undo t) ht
  obtain⟨a,c,huv,hc1,hc2⟩:=HU.out.shape
  obtain⟨c0,c9,c10,c11,z11⟩:=h.cTx ht
  rw[huv] at c11
  have HM:=Lib.hid h;have HOK:=Lib.hid ok;have HUS:=Lib.hid hus;have HUV:=Lib.hid huv
  have hB:=h.lt
  have hul:us.length<=1000000:=HU.out.1
  have i1:(t:Int)<4:=by omega
  have w1:IntKind.i64.wrap ((us.length:Int) - 1)=(us.length:Int) - 1:=IntWalk.i64_in _ (by omega)
  clear h ok hus huv c0 c9 c10 z11
  go_enter Try.func76,Try.ntmps76
  go_wp2_with fail
  go_loopw [5] (λu5 wr=>∃(k:Nat) (nm':Nm),k<=us.length/\u5 = .int .i64 ((k:Int) - 1)/\Mach base wr B nm' (M.back (us.drop k))/\Went 0 w wr B nm nm') (λu5 _=>(intOf u5+1).toNat)
  case atStart=>exact⟨us.length,nm,Nat.le_refl _,rfl,by rw[List.drop_length];exact HM.out,Went.refl _ _ _⟩
  case round =>
    obtain⟨k,nm1,hk,rfl,hM1,hW1⟩:=hrel
    have HM1:=Lib.hid hM1;have HW1:=Lib.hid hW1
    clear hM1 hW1 c11 HU
    have hB1:=HM1.out.lt
    have htx:(M.back (us.drop k)).txs=M.txs:=(CM.back_rest M _).2.2.1
    have HTX:=Lib.hid htx
    clear htx
    have HU1:Hid (OwnU wr base (nm1.uv t) us):=by
      have:=HM1.out.part (.undo t) ht
      have e:((M.back (us.drop k)).txs t).undo=us:=by rw[HTX.out];exact HUS.out.symm
      rw[Hid,<- e];exact this
    obtain⟨a1,c1,huv1,hc11,hc12⟩:=HU1.out.shape
    obtain⟨_,_,d10,d11,_⟩:=HM1.out.cTx ht
    rw[huv1] at d11
    have HUV1:=Lib.hid huv1
    clear huv1
    by_cases hk0:k=0
    · subst hk0
      rw[show (((0:Nat):Int) - 1) = -1 from rfl]
      have HMb:Hid (Mach base wr B nm1 (M.back us)):=by have:=HM1.out;rwa [List.drop_zero] at this
      obtain⟨Mb,hMb⟩:∃Mb,Mb=M.back us:=⟨_,rfl⟩
      rw[<- hMb] at HMb
      have hr:=CM.back_rest M us
      rw[<- hMb] at hr
      obtain⟨r1,r2,r3,r4,r5,_,_⟩:=hr
      have HR2:=Lib.hid r2;have HR3:=Lib.hid r3;have HMB:=Lib.hid hMb
      obtain⟨b,hob⟩:∃b,nm1.ob t=some b:=Option.isSome_iff_exists.1 (HMb.out.opn t ht (by rw[r3];exact HOK.out.op)).2
      obtain⟨n,hn,hfm⟩:∃n,n<=nm1.N/\FunMap wr b n (M.txs t).owned:=by
        have:=HMb.out.part (.owned t) ht
        have e:(Mb.txs t).owned=(M.txs t).owned:=by rw[r3]
        simp only [Part,hob,e] at this
        exact this
      rw[hob] at d10
      have HOB:=Lib.hid hob
      have HFM:=Lib.hid hfm
      clear r1 r2 r3 r4 hMb hob hfm HM1 HTX HU1 HUV1
      obtain⟨f,hf⟩:∃f,f=(M.txs t).owned:=⟨_,rfl⟩
      rw[<- hf] at HFM
      have HF:=Lib.hid hf
      clear hf
      go_wp2_with (at_range;refine wpl_rangeFun rfl _ rfl b n f rfl HFM.out ?_;intro w2 cnt hrg hg2 hs2)
      go_frame
      obtain⟨r,hr⟩:∃r,r=wr.heap.size:=⟨_,rfl⟩
      rw[<- hr] at hrg hs2 ⊢
      have HR:=Lib.hid hr
      have HWr2:Hid (Below wr.heap.size wr w2):=below_of_grown hg2
      obtain⟨ff,hff⟩:∃ff:Int->Option Int,ff=λp=>(f p).map (2 * ·):=⟨_,rfl⟩
      have HFF:=Lib.hid hff
      have hMw2:Mach base w2 B nm1 { Mb with xs:=redoP Mb.xs ff (λx=>(f x).isSome) }:=by
        rw[redoP_start _ _ _ (λx=>by rw[hff];simp)]
        exact HMb.out.below HWr2.out
      have hWw2:Went 0 w w2 B nm nm1:=HW1.out.below HWr2.out HMb.out.has_lt
      have hrg2:=hrg
      clear hff hr hg2 hrg
      go_loopw [7] (λu7 wx=>∃(todo:Int->Bool) (cnt':Nat),FunRange wx b r n f todo cnt'/\Mach base wx B nm1 { Mb with xs:=redoP Mb.xs ff todo }/\Went 0 w wx B nm nm1/\r<wx.heap.size) (λ_ wx=>wx.rangeLeft b r)
      case atStart=>exact⟨_,cnt,hrg2,hMw2,hWw2,by omega⟩
      case round =>
        obtain⟨todo,cnt',hrg3,hM3,hW3,hr3⟩:=hrel
        have HRG3:=Lib.hid hrg3;have HM3:=Lib.hid hM3;have HW3:=Lib.hid hW3
        clear hrg3 hM3 hW3 hMw2 hWw2 hrg2
        have hB3:=HM3.out.lt
        go_wp2_with (at_next;refine wpl_nextFun rfl _ rfl b r n cnt' f todo rfl HRG3.out ?_ ?_)
        · intro hdone
          have HMd:Hid (Mach base wr B nm1 { Mb with xs:=redo Mb.xs ff }):=by have:=HM3.out;rwa [redoP_end _ _ _ hdone] at this
          clear hdone HRG3 HM3
          go_wp2_with fail
          obtain⟨w5,hw5⟩:∃w5,w5=wr.drew:=⟨_,rfl⟩
          have HM5:Hid (Mach base w5 B nm1 { Mb with xs:=redo Mb.xs ff }):=by rw[Hid,hw5];exact HMd.out.below (Below.refl _ _).drew
          have HW5:Hid (Went 0 w w5 B nm nm1):=by rw[Hid,hw5];exact HW3.out.below (Below.refl _ _).drew HMd.out.has_lt
          have HL:Hid (w5.rangeAt B (34+t * 12+1) (savedL (Mb.txs t).saved)):=HM5.out.box.range _ _ (by simp[savedL];omega) (λj hj=>by
            rw[cellOf_saved nm1 _ ht j hj]
            simp[List.getD,hj])
          have HBX:=Lib.hid HM5.out.box
          refine still_tail_at 9 (by kernel_rfl) (by kernel_rfl) hw5 ?_;simp only [List.take_succ_cons,List.take_zero,List.drop_succ_cons,List.drop_zero];clear hw5;(repeat (first|(refine still_loadBox rfl _ _ rfl B (34+t * 12+1) rfl _ HL.out _ undRegs rfl Try.sizeRegs ?_)|still_step));refine wpStill_nil ?_
          have ho:2+t * 8+(savedL (Mb.txs t).saved).toArray.size<=85:=by simp[savedL];omega
          have hi:(Try.prog.info? 109).map (·.size)=some (savedL (Mb.txs t).saved).toArray.size:=Try.sizeRegs.trans (by simp[savedL])
          have h1:(savedL (Mb.txs t).saved).toArray.all (·.oneCell')=true:=by simp[Value.oneCell',savedL]
          refine wpl_storeBox rfl 109 _ _ rfl B (2+t * 8) (savedL (Mb.txs t).saved).toArray rfl rfl (cellOf nm1 { Mb with xs:=redo Mb.xs ff }) HBX.out ho hi h1 ?_
          rw[List.toList_toArray]
          intro hbx hcg
          obtain⟨q1,q2⟩:=HM5.out.storeRegs ht _ hcg hbx
          obtain⟨w6,hw6⟩:∃w6,w6=w5.setCells B (2+t * 8) (savedL (Mb.txs t).saved):=⟨_,rfl⟩
          rw[<- hw6] at q1 q2 ⊢
          have HM6:=Lib.hid q1
          have HW6:=Lib.hid (HW5.out.trans q2)
          clear hbx hcg q1 q2 hw6 ho hi h1
          go_frame
          go_wp2_with (go_at_call 92;refine (end_any base _ B nm1 _ HM6.out t ht).mono ?_;rintro e w7 ⟨rfl,nm7,hM7,hW7⟩;have HM7:=Lib.hid hM7;have HW7:=Lib.hid hW7;clear hM7 hW7)
          have e7:({ Mb with xs:=redo Mb.xs ff,regs:=pt Mb.regs t (Mb.txs t).saved }:CM).shut t=M.abort t:=by
            unfold CM.abort CM.shut
            rw[<- HUS.out,<- HMB.out,HFF.out,HF.out]
            simp only [HR2.out,HR3.out]
          have h7:=HM7.out
          rw[e7] at h7
          exact bodyPost_end (results_none rfl _ _ _) rfl ⟨rfl,_,h7,HW6.out.trans HW7.out⟩
        · intro x y w4 cnt4 hxI hyI htodo hfx hrg4 hlt hg4 hs4 hen
          obtain⟨o1,o2,o3,o4⟩:=HOK.out.owned x y (by rw[<- HF.out];exact hfx)
          obtain⟨p,rfl⟩:∃p:Nat,x=(p:Int):=⟨x.toNat,by omega⟩
          have hpl:p<(redoP Mb.xs ff todo).length:=by rw[redoP_len];omega
          have hM4:Mach base w4 B nm1 { Mb with xs:=redoP Mb.xs ff todo }:=HM3.out.other (.ofGrown _ hg4 λi e=>by
            cases e
            intro hn
            have:=HMb.out.has_lt _ hn
            have:=HR.out
            omega)
          obtain⟨g,c4,e4,hc41,hc42,hg4s,hgB,hcell4,hfz4⟩:=hM4.spot (Nat.lt_of_le_of_lt (Nat.zero_le p) hpl)
          dsimp only at e4 hc41 hcell4
          have d0:=hM4.c0
          have dx:=hcell4 p hpl
          have dz:=hfz4 p
          have b4:p<=c4:=by omega
          rw[e4] at d0
          have q5:(p:Int)<((redoP Mb.xs ff todo).length:Int):=by omega
          have hgr:g≠r:=λe=>by
            have:=HMb.out.has_lt g ⟨.words,trivial,by show nm1.hv.ownBlock=_;rw[e4];rfl⟩
            have:=HR.out
            omega
          have hgb:g≠b:=λe=>by
            have:=HMb.out.apart .words (.owned t) g trivial ht (by show nm1.hv.ownBlock=_;rw[e4];rfl) (by rw[e];exact HOB.out)
            cases this
          have wy:IntKind.i64.wrap (2 * y)=2 * y:=IntWalk.i64_in _ (by omega)
          have HM4:=Lib.hid hM4;have HRG4:=Lib.hid hrg4;have HFX:=Lib.hid hfx;have HE4:=Lib.hid e4;have HG4:=Lib.hid hg4
          clear hM4 hrg4 hfx e4 hg4 hcell4 hfz4 hxI hyI htodo
          go_wp2_with fail
          go_roundw
          case rel =>
            obtain⟨q1,q2⟩:=HM4.out.setWord (x:=2 * y) HE4.out hpl (by unfold I64;omega)
            refine⟨_,cnt4,HRG4.out.keep (Below.heap_setCell _ _ _ _ (λe:b=g=>hgb e.symm)) (Below.heap_setCell _ _ _ _ (λe:r=g=>hgr e.symm)),?_,?_,by simp[World.setCell];omega⟩
            · have e5:(redoP Mb.xs ff todo).set p (2 * y)=redoP Mb.xs ff (strike todo (p:Int)):=redoP_step _ _ _ _ _ (by rw[<- redoP_len Mb.xs ff todo];exact hpl) (by rw[HFF.out];show Option.map _ (f (p:Int))=_;rw[HFX.out];rfl)
              dsimp only at q1
              rw[e5] at q1
              exact q1
            · have hwr:=HW1.out.chg.size
              have hrr:=HR.out
              exact (HW3.out.newer (.ofGrown _ HG4.out λi e=>by cases e;omega)).trans q2
          case measure =>
            rw[(HRG4.out.keep (w':=w4.setCell ⟨g,p,none⟩ (.int .i64 (2 * y))) (Below.heap_setCell _ _ _ _ (λe:b=g=>hgb e.symm)) (Below.heap_setCell _ _ _ _ (λe:r=g=>hgr e.symm))).left_eq,HRG3.out.left_eq]
            exact hlt
    · obtain⟨j,rfl⟩:∃j,k=j+1:=⟨k - 1,by omega⟩
      have hj:j<us.length:=by omega
      obtain⟨u,hu⟩:∃u:CU,u=us[j]:=⟨_,rfl⟩
      obtain⟨g,rfl,_,hg,e0,e1,e2,e3,_⟩:=(show OwnU wr base (.slice a1 us.length c1) us from HUV1.out ▸ HU1.out).at hj
      rw[<- hu] at e0 e1 e2 e3
      have HDROP:Hid (M.back (us.drop j)=(M.back (us.drop (j+1))).store (u.p+2+u.k) u.was):=by
        rw[Hid,List.drop_eq_getElem_cons hj,CM.back_cons,hu]
      obtain⟨o1,o2,o3,o4⟩:=HOK.out.undo u (by rw[<- HUS.out,hu];exact List.getElem_mem hj)
      have HUE:=Lib.hid hu
      have hfew:=HOK.out.few
      have hrest:=CM.back_rest M (us.drop (j+1))
      obtain⟨r1,r2,r3,r4,r5,r6,r7⟩:=hrest
      rw[List.length_drop] at r6 r7
      have HN:Hid ((M.back (us.drop (j+1))).going=true->(M.back (us.drop (j+1))).S.length<900000/\(M.back (us.drop (j+1))).gray.length<900000):=by
        intro hgo
        rw[r4] at hgo
        have:=hfew hgo
        rw[<- HUS.out] at this
        omega
      have HI:Hid (u.p+2+u.k<(M.back (us.drop (j+1))).xs.length):=by rw[Hid,r5];exact o1
      have HK:Hid (I64 u.was.1):=o2
      have hj1:((j+1:Nat):Int) - 1=(j:Int):=by omega
      have wj:IntKind.i64.wrap ((j:Int) - 1)=(j:Int) - 1:=IntWalk.i64_in _ (by omega)
      rw[hj1]
      clear hu hfew r1 r2 r3 r4 r5 r6 r7 o1 o2 d10 HU1 HUV1
      obtain⟨up,uk,uw1,uw2⟩:=u
      dsimp only at e0 e1 e2 e3 o3 o4
      go_wp2_with (go_at_call 93;refine (store_any base _ B nm1 _ (HM1.out.below (by ((repeat first|exact bR _ _|with_reducible first|refine bN ?_|refine bD ?_|refine bA ?_ ?_|refine bS ?_ ?_);all_goals first|exact Nat.le_refl _|(simp;done)|omega|(simp;omega)))) up uk (uw1,uw2) HI.out HK.out o3 o4 HN.out).mono ?_;rintro e w5 ⟨rfl,nm5,hM5,hW5⟩;have HM5:=Lib.hid hM5;have HW5:=Lib.hid hW5;clear hM5 hW5)
      go_roundw
      case rel =>
        refine⟨j,nm5,by omega,rfl,by rw[HDROP.out];exact HM5.out,?_⟩
        exact HW1.out.trans (HW5.out.after (by ((repeat first|exact bR _ _|with_reducible first|refine bN ?_|refine bD ?_|refine bA ?_ ?_|refine bS ?_ ?_);all_goals first|exact Nat.le_refl _|(simp;done)|omega|(simp;omega))))
      case measure=>simp[intOf]
end Go.Proofs.Ytbeilcaadpopmab
namespace Go.Proofs.Ytbeilcaadpopmab
open Go.RowKit Go.Maps
theorem Mach.cReg {base B:Nat} {w:World} {nm:Nm} {M:CM} (h:Mach base w B nm M) {t r:Nat} (ht:t<4) (hr:r<4) :
    w.cell? ⟨B,2+t * 8+r * 2,none⟩=some (.int .i64 (M.regs t r).1)/\w.cell? ⟨B,2+t * 8+r * 2+1,none⟩=some (.int .i64 (M.regs t r).2)/\w.frozen? ⟨B,2+t * 8+r * 2,none⟩=false/\w.frozen? ⟨B,2+t * 8+r * 2+1,none⟩=false:=by
  have hb:=h.box
  obtain⟨e1,e2⟩:=cellOf_reg nm M ht hr
  exact⟨by rw[(hb _ (by omega)).1,e1],by rw[(hb _ (by omega)).1,e2],(hb _ (by omega)).2,(hb _ (by omega)).2⟩
structure AccOk (M:CM) (t r:Nat):Prop where
  obj:(M.regs t r).1=1->(M.regs t r).2≠0->∃p:Nat,(M.regs t r).2=p/\p+1<M.xs.length
  num:I64 (M.regs t r).1/\I64 (M.regs t r).2
  ab:(M.txs t).op=true->AbortOk M t
theorem Mach.after {base B:Nat} {w w':World} {nm:Nm} {M:CM} (h:Mach base w B nm M) (hb:Below w.heap.size w w') (r:Value):RetM 0 base w B nm M r (.returned r) w' :=
  ⟨rfl,nm,h.below hb,(Went.refl w B nm).below hb h.has_lt⟩
set_option maxRecDepth 100000 in
set_option maxHeartbeats 1000000 in
theorem object_any (base:Nat) (w:World) (B:Nat) (nm:Nm) (M:CM) (h:Mach base w B nm M) (t r:Nat) (ht:t<4) (hr:r<4) (f:Int) (hf:I64 f) (ok:AccOk M t r) :
    Calls Try.prog 94 #[.pointer (some ⟨B,0,none⟩),.int .i64 (t:Int),.int .i64 (r:Int),.int .i64 f] w
      (RetM 0 base w B nm (M.failed t (M.object t r f)) (.tuple #[.int .i64 (if M.object t r f=0 then (M.regs t r).2 else 0),.int .i64 (M.object t r f)])):=by
  have HM:=Lib.hid h
  have hB:=h.lt
  obtain⟨x0,x1,_,_⟩:=h.cReg ht hr
  obtain⟨c0,_,_,_,_⟩:=h.cTx ht
  have d0:=h.c0
  have i1:(t:Int)<4:=by omega
  have i2:(r:Int)<4:=by omega
  have HE:Hid (∀e,M.object t r f=e->M.object t r f=e):=λ_ h=>h
  obtain⟨k,hk⟩:∃k,k=(M.regs t r).1:=⟨_,rfl⟩
  obtain⟨n,hn⟩:∃n,n=(M.regs t r).2:=⟨_,rfl⟩
  rw[<- hk] at x0
  rw[<- hn] at x1
  have hnI:=ok.num.2
  rw[<- hn] at hnI
  obtain⟨hn1,hn2⟩:=hnI
  obtain⟨hf1,hf2⟩:=hf
  have HK:=Lib.hid hk;have HNN:=Lib.hid hn;have HOK:=Lib.hid ok
  have HU:Hid (M.object t r f=if (M.txs t).op=false then 5 else if k≠1\/n=0 then 7 else if f<0\/M.xs.getD (n.toNat+1) 0<=f then 4 else if M.xs.getD n.toNat 0 % 2=1/\M.xs.getD n.toNat 0≠2 * t+1 then 6 else 0):=by
    rw[Hid,hk,hn];rfl
  rw[<- hn]
  have HTT:=Lib.hid ht
  clear h hk hn ok ht hr HE
  cases ho:(M.txs t).op with
  | false =>
    have HV:Hid (M.object t r f=5):=by rw[Hid,HU.out,if_pos ho]
    rw[ho] at c0
    clear ho
    rw[HV.out]
    go_enter Try.func94,Try.ntmps94
    go_wp2
    refine bodyPost_ret (v:=.tuple #[.int .i64 0,.int .i64 5]) (by simp[results,Try.results94,go_sem, *]) rfl ?_
    exact HM.out.after (by ((repeat first|exact bR _ _|with_reducible first|refine bN ?_|refine bD ?_|refine bA ?_ ?_|refine bS ?_ ?_);all_goals first|exact Nat.le_refl _|(simp;done)|omega|(simp;omega))) _
  | true =>
    have HOP:=Lib.hid ho
    rw[ho] at c0
    by_cases hk1:k=1
    · subst hk1
      by_cases hn0:n=0
      · subst hn0
        have HV:Hid (M.object t r f=7):=by rw[Hid,HU.out,if_neg (by rw[ho];decide),if_pos (.inr rfl)]
        clear ho
        rw[HV.out]
        go_enter Try.func94,Try.ntmps94
        go_wp2
        refine bodyPost_ret (v:=.tuple #[.int .i64 0,.int .i64 7]) (by simp[results,Try.results94,go_sem, *]) rfl ?_
        exact HM.out.after (by ((repeat first|exact bR _ _|with_reducible first|refine bN ?_|refine bD ?_|refine bA ?_ ?_|refine bS ?_ ?_);all_goals first|exact Nat.le_refl _|(simp;done)|omega|(simp;omega))) _
      · obtain⟨p,hp,hpl⟩:=HOK.out.obj HK.out.symm (by rw[<- HNN.out];exact hn0)
        rw[<- HNN.out] at hp
        subst hp
        have hp0:((p:Int) == 0)=false:=by simpa using hn0
        obtain⟨g,c,e,hc1,hc2,hg,hgB,hcell,hfz⟩:=HM.out.spot (by omega)
        rw[e] at d0
        have hx0:=hcell p (by omega)
        have hx1:=hcell (p+1) hpl
        have hle:=(HM.out.part .words trivial:OwnInts w base nm.hv M.xs).1.2
        have hr0:=(HM.out.part .words trivial:OwnInts w base nm.hv M.xs).ints.range p
        obtain⟨s,hs⟩:∃s,s=M.xs.getD p 0:=⟨_,rfl⟩
        obtain⟨m,hm⟩:∃m,m=M.xs.getD (p+1) 0:=⟨_,rfl⟩
        rw[<- hs] at hx0 hr0
        rw[<- hm] at hx1
        have HU2:Hid (M.object t r f=if f<0\/m<=f then 4 else if s % 2=1/\s≠2 * t+1 then 6 else 0):=by
          rw[Hid,HU.out,if_neg (by rw[ho];decide),if_neg (by simp at hn0 ⊢;exact hn0),Int.toNat_natCast,<- hs,<- hm]
        have HS:=Lib.hid hs
        obtain⟨p1,hp1⟩:∃p1,p1=p+1:=⟨_,rfl⟩
        have hpc:p1<=c:=by omega
        have hpc0:p<=c:=by omega
        have wp1:IntKind.i64.wrap ((p:Int)+1)=(p1:Int):=by rw[IntWalk.i64_in _ (by omega)];omega
        have q1:(p1:Int)<(M.xs.length:Int):=by omega
        rw[<- hp1] at hx1
        have HP1:=Lib.hid hp1
        have HPC0:=Lib.hid hpc0
        clear hp1 hpc0
        have q0:(p:Int)<(M.xs.length:Int):=by omega
        clear hcell hfz e hs hm hn0 ho HK HNN HU
        have K0:=Lib.hid hx0;have Q0:=Lib.hid q0;have QL:=Lib.hid hpl
        by_cases hf0:f<0
        · have HV:Hid (M.object t r f=4):=by rw[Hid,HU2.out,if_pos (.inl hf0)]
          rw[HV.out]
          clear hx0 q0 hpl
          go_enter Try.func94,Try.ntmps94
          go_wp2_with fail
          go_quiet (fail)
          go_wp2
          refine bodyPost_ret (v:=.tuple #[.int .i64 0,.int .i64 4]) (by simp[results,Try.results94,go_sem, *]) rfl ?_
          exact HM.out.after (by ((repeat first|exact bR _ _|with_reducible first|refine bN ?_|refine bD ?_|refine bA ?_ ?_|refine bS ?_ ?_);all_goals first|exact Nat.le_refl _|(simp;done)|omega|(simp;omega))) _
        · by_cases hfm:m<=f
          · have HV:Hid (M.object t r f=4):=by rw[Hid,HU2.out,if_pos (.inr hfm)]
            rw[HV.out]
            clear hx0 q0 hpl
            go_enter Try.func94,Try.ntmps94
            go_wp2_with fail
            go_quiet (fail)
            go_wp2
            refine bodyPost_ret (v:=.tuple #[.int .i64 0,.int .i64 4]) (by simp[results,Try.results94,go_sem, *]) rfl ?_
            exact HM.out.after (by ((repeat first|exact bR _ _|with_reducible first|refine bN ?_|refine bD ?_|refine bA ?_ ?_|refine bS ?_ ?_);all_goals first|exact Nat.le_refl _|(simp;done)|omega|(simp;omega))) _
          · have HU3:Hid (M.object t r f=if s % 2=1/\s≠2 * t+1 then 6 else 0):=by rw[Hid,HU2.out,if_neg (by omega)]
            clear HU2
            by_cases hs1:s % 2=1
            · have hb1:bits BinOp.and IntKind.i64 s 1=1:=by rw[and_one_i64];exact hs1
              by_cases hst:s=2 * t+1
              · have HV:Hid (M.object t r f=0):=by rw[Hid,HU3.out,if_neg (λh=>h.2 hst)]
                rw[HV.out]
                have hst2:(s != 2 * (t:Int)+1)=false:=by simpa using hst
                have HST:=Lib.hid hst2
                have HMINE:Hid (∀W,Calls Try.prog 95 #[.int .i64 (t:Int)] W (λe w'=>e = .returned (.int .i64 (2 * (t:Int)+1))/\w' = W)):=λW=>mine_any t W HTT.out
                clear hs1 hx0 q0 hpl hst hst2
                go_enter Try.func94,Try.ntmps94
                go_wp2_with fail
                go_quiet (fail)
                have hx0:=K0.out;have q0:=Q0.out;have hpc0:=HPC0.out
                have j1:(decide (f<0) || decide (m<=f))=false:=by simp;omega
                go_wp2_with fail
                go_quiet (fail)
                go_wp2_with (go_at_call 95;refine (HMINE.out _).mono ?_;rintro e w5 ⟨rfl,rfl⟩;have hst2:=HST.out)
                refine bodyPost_ret (v:=.tuple #[.int .i64 p,.int .i64 0]) (by simp[results,Try.results94,go_sem, *]) rfl ?_
                exact HM.out.after (by ((repeat first|exact bR _ _|with_reducible first|refine bN ?_|refine bD ?_|refine bA ?_ ?_|refine bS ?_ ?_);all_goals first|exact Nat.le_refl _|(simp;done)|omega|(simp;omega))) _
              · have HV:Hid (M.object t r f=6):=by rw[Hid,HU3.out,if_pos ⟨hs1,hst⟩]
                rw[HV.out]
                have hst2:(s != 2 * (t:Int)+1)=true:=by simpa using hst
                have HST:=Lib.hid hst2
                have HMINE:Hid (∀W,Calls Try.prog 95 #[.int .i64 (t:Int)] W (λe w'=>e = .returned (.int .i64 (2 * (t:Int)+1))/\w' = W)):=λW=>mine_any t W HTT.out
                have HAB:=Lib.hid (HOK.out.ab HOP.out)
                clear hs1 hx0 q0 hpl hst hst2
                go_enter Try.func94,Try.ntmps94
                go_wp2_with fail
                go_quiet (fail)
                have hx0:=K0.out;have q0:=Q0.out;have hpc0:=HPC0.out
                have j1:(decide (f<0) || decide (m<=f))=false:=by simp;omega
                go_wp2_with fail
                go_quiet (fail)
                go_wp2_with (first|(go_at_call 95;refine (HMINE.out _).mono ?_;rintro e w5 ⟨rfl,rfl⟩;have hst2:=HST.out)|(go_at_call 76;refine (abort_any base _ B nm M (HM.out.below (by ((repeat first|exact bR _ _|with_reducible first|refine bN ?_|refine bD ?_|refine bA ?_ ?_|refine bS ?_ ?_);all_goals first|exact Nat.le_refl _|(simp;done)|omega|(simp;omega)))) t HTT.out HAB.out).mono ?_;rintro e w6 ⟨rfl,nm6,hM6,hW6⟩;have HM6:=Lib.hid hM6;have HW6:=Lib.hid hW6;clear hM6 hW6))
                refine bodyPost_ret (v:=.tuple #[.int .i64 0,.int .i64 6]) (by simp[results,Try.results94,go_sem, *]) rfl ?_
                exact⟨rfl,nm6,HM6.out,HW6.out.after (by ((repeat first|exact bR _ _|with_reducible first|refine bN ?_|refine bD ?_|refine bA ?_ ?_|refine bS ?_ ?_);all_goals first|exact Nat.le_refl _|(simp;done)|omega|(simp;omega)))⟩
            · have hb1:bits BinOp.and IntKind.i64 s 1=0:=by rw[and_one_i64];omega
              have HV:Hid (M.object t r f=0):=by rw[Hid,HU3.out,if_neg (λh=>hs1 h.1)]
              rw[HV.out]
              clear hs1 hx0 q0 hpl
              go_enter Try.func94,Try.ntmps94
              go_wp2_with fail
              go_quiet (fail)
              have hx0:=K0.out;have q0:=Q0.out;have hpc0:=HPC0.out
              have j1:(decide (f<0) || decide (m<=f))=false:=by simp;omega
              go_wp2_with fail
              go_quiet (fail)
              go_wp2
              refine bodyPost_ret (v:=.tuple #[.int .i64 p,.int .i64 0]) (by simp[results,Try.results94,go_sem, *]) rfl ?_
              exact HM.out.after (by ((repeat first|exact bR _ _|with_reducible first|refine bN ?_|refine bD ?_|refine bA ?_ ?_|refine bS ?_ ?_);all_goals first|exact Nat.le_refl _|(simp;done)|omega|(simp;omega))) _
    · have hk2:(k != 1)=true:=by simpa using hk1
      have HV:Hid (M.object t r f=7):=by rw[Hid,HU.out,if_neg (by rw[ho];decide),if_pos (.inl hk1)]
      clear ho hk1
      rw[HV.out]
      go_enter Try.func94,Try.ntmps94
      go_wp2
      refine bodyPost_ret (v:=.tuple #[.int .i64 0,.int .i64 7]) (by simp[results,Try.results94,go_sem, *]) rfl ?_
      exact HM.out.after (by ((repeat first|exact bR _ _|with_reducible first|refine bN ?_|refine bD ?_|refine bA ?_ ?_|refine bS ?_ ?_);all_goals first|exact Nat.le_refl _|(simp;done)|omega|(simp;omega))) _
end Go.Proofs.Ytbeilcaadpopmab
