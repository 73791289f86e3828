/- Texts put together: Ja, Jb, Jc, Jd, Je, Jk, Jg, Jh, Ji, Jw, Jf, Jx, Jq, Jt, Tk. -/
import Derived.Test.YtbeilcaadpopmabY8
import Derived.Test.YtbeilcaadpopmabY4
import Derived.Test.YtbeilcaadpopmabYt
import Derived.Test.YtbeilcaadpopmabYc
set_option linter.unusedVariables false
set_option linter.unusedSimpArgs false
namespace Go.Proofs.Ytbeilcaadpopmab
open Go.RowKit Go.Maps
structure RowT (α:Type) where
  ty:TypeId
  sz:Nat
  enc:α->List Value
  len:∀x,(enc x).length=sz
  one:∀x,∀u ∈ enc x,u.oneCell' = true
def RowT.cells {α:Type} (R:RowT α) (l:List α):List Value:=l.flatMap R.enc
theorem RowT.cells_len {α:Type} (R:RowT α) (l:List α):(R.cells l).length=l.length * R.sz:=by
  induction l with
  | nil=>simp[RowT.cells]
  | cons x l ih =>
    have:=R.len x
    simp only [RowT.cells,List.flatMap_cons,List.length_append,List.length_cons,Nat.succ_mul] at *
    omega
theorem RowT.cells_append {α:Type} (R:RowT α) (a b:List α):R.cells (a++b)=R.cells a++R.cells b:=by simp[RowT.cells]
theorem RowT.cells_cons {α:Type} (R:RowT α) (x:α) (l:List α):R.cells (x :: l)=R.enc x++R.cells l:=by simp[RowT.cells]
theorem RowT.cells_at {α:Type} (R:RowT α):∀(l:List α) (i:Nat) (h:i<l.length) (j:Nat),j<R.sz->(R.cells l)[i * R.sz+j]? = (R.enc l[i])[j]?
  | [],i,h,j,hj=>by simp at h
  | x :: l,0,h,j,hj=>by
    rw[R.cells_cons,Nat.zero_mul,Nat.zero_add,List.getElem?_append_left (by rw[R.len];exact hj)]
    rfl
  | x :: l,i+1,h,j,hj=>by
    rw[R.cells_cons,List.getElem?_append_right (by rw[R.len,Nat.succ_mul];omega),R.len,show (i+1) * R.sz+j - R.sz=i * R.sz+j by rw[Nat.succ_mul];omega,R.cells_at l i (by simpa using h) j hj]
    rfl
def OwnL {α:Type} (R:RowT α) (w:World) (base:Nat) (v:Value) (l:List α):Prop:=l.length<=1000000/\w.ownsRow base R.ty R.sz v l.length (R.cells l)
theorem OwnL.nil {α:Type} (R:RowT α) (w:World) (base:Nat):OwnL R w base (.slice none 0 0) []:=⟨by simp,World.ownsRow_nil _ _ _ _⟩
theorem OwnL.shape {α:Type} {R:RowT α} {w:World} {base:Nat} {v:Value} {l:List α} (h:OwnL R w base v l):∃a c,v = .slice a l.length c/\l.length<=c/\c<=9223372036854775807:=by
  rcases h.2.2 with ⟨e,e'⟩|⟨g,cap,cur,e,_,_,h1,h2,_⟩
  · rw[e,e'];exact⟨none,0,rfl,by omega,by omega⟩
  · exact⟨_,_,e,h1,by simp only [maxLen] at h2;omega⟩
theorem OwnL.keep {α:Type} {R:RowT α} {w w':World} {base:Nat} {v:Value} {l:List α} (h:OwnL R w base v l) (k:∀b,v.ownBlock=some b->w'.heap[b]? = w.heap[b]?):OwnL R w' base v l:=⟨h.1,ownsRow_keep h.2 k⟩
theorem OwnL.lt {α:Type} {R:RowT α} {w:World} {base:Nat} {v:Value} {l:List α} (h:OwnL R w base v l) {k:Nat} (hk:v.ownBlock=some k):base<=k/\k<w.heap.size:=h.2.lt k hk
theorem OwnL.mono {α:Type} {R:RowT α} {w:World} {base base':Nat} {v:Value} {l:List α} (h:OwnL R w base v l) (hb:base'<=base):OwnL R w base' v l:=⟨h.1,ownsRow_mono h.2 hb⟩
theorem OwnL.at {α:Type} {R:RowT α} {w:World} {base n c:Nat} {a:Option Addr} {l:List α} (h:OwnL R w base (.slice a n c) l) {i:Nat} (hi:i<l.length) :
    ∃g,a=some ⟨g,0,none⟩/\n=l.length/\base<=g/\g<w.heap.size/\(∀j,j<R.sz->w.cell? ⟨g,i * R.sz+j,none⟩=(R.enc l[i])[j]?)/\(∀j,w.frozen? ⟨g,j,none⟩=false):=by
  rcases h.2.2 with ⟨e,e2⟩|⟨g,cap,cur,e,hg,hh,hnc,hcm,hcs,ht⟩
  · omega
  · simp only [Value.slice.injEq] at e
    obtain⟨rfl,rfl,rfl⟩:=e
    have hlt:g<w.heap.size:=(Array.getElem?_eq_some_iff.1 hh).1
    refine⟨g,rfl,rfl,hg,hlt,λj hj=>?_,λj=>by simp[World.frozen?,hh]⟩
    have hb:i * R.sz+j<l.length * R.sz:=by
      have:(i+1) * R.sz<=l.length * R.sz:=Nat.mul_le_mul_right _ hi
      rw[Nat.succ_mul] at this
      omega
    have e1:w.cell? ⟨g,i * R.sz+j,none⟩=cur[i * R.sz+j]?:=by rw[cell_of_row w g _ cur R.ty (0,0) hh]
    rw[e1,<- R.cells_at l i hi j hj,<- ht,List.getElem?_take,if_pos hb]
    simp
theorem own_put {w:World} {base:Nat} {e:TypeId} {size g c n:Nat} {xs:List Value} (h:w.ownsRow base e size (.slice (some ⟨g,0,none⟩) n c) n xs) (i:Nat) (u:Value) :
    (w.setCell ⟨g,i,none⟩ u).ownsRow base e size (.slice (some ⟨g,0,none⟩) n c) n (xs.set i u):=by
  obtain⟨h3,h4⟩:=h
  refine⟨by simpa using h3,?_⟩
  rcases h4 with ⟨e,_⟩|⟨g',cap,cur,e,hg,hh,hn,hc,hs,ht⟩
  · cases e
  · simp only [Value.slice.injEq,Option.some.injEq,Addr.mk.injEq] at e
    obtain⟨⟨rfl,_⟩,_,rfl⟩:=e
    refine .inr ⟨g,c,cur.setIfInBounds i u,rfl,hg,?_,hn,hc,by simpa using hs,?_⟩
    · simp only [World.setCell,Array.getElem?_modify,if_true,hh]
      rfl
    · rw[Array.toList_setIfInBounds,<- ht,List.take_set]
theorem own_putL {base:Nat} {e:TypeId} {size g c n:Nat}:∀(us:List Value) (o:Nat) (w:World) (xs:List Value),w.ownsRow base e size (.slice (some ⟨g,0,none⟩) n c) n xs->o+us.length<=xs.length ->
    (w.setCells g o us).ownsRow base e size (.slice (some ⟨g,0,none⟩) n c) n (xs.take o++us++xs.drop (o+us.length))
  | [],o,w,xs,h,hl=>by simpa [World.setCells] using h
  | u :: us,o,w,xs,h,hl=>by
    have:=own_putL us (o+1) (w.setCell ⟨g,o,none⟩ u) (xs.set o u) (own_put h o u) (by simp only [List.length_set,List.length_cons] at *;omega)
    have e2:(xs.set o u).take (o+1)++us++(xs.set o u).drop (o+1+us.length)=xs.take o++(u :: us)++xs.drop (o+(u :: us).length):=by
      have ho:o<xs.length:=by simp only [List.length_cons] at hl;omega
      rw[List.take_add_one,List.take_set_of_le (Nat.le_refl _),List.getElem?_set_self (by omega),List.drop_set_of_lt (by omega)]
      simp only [Option.toList_some,List.append_assoc,List.cons_append,List.nil_append,List.length_cons]
      rw[show o+1+us.length=o+(us.length+1) by omega]
    rw[e2] at this
    simpa only [World.setCells] using this
theorem RowT.cells_set {α:Type} (R:RowT α) (x:α):∀(l:List α) (i:Nat),i<l.length->(R.cells l).take (i * R.sz)++R.enc x++(R.cells l).drop (i * R.sz+(R.enc x).length)=R.cells (l.set i x)
  | [],i,h=>by simp at h
  | y :: l,0,h=>by
    have h1:=R.len x
    have h2:=R.len y
    rw[R.cells_cons,List.set_cons_zero,R.cells_cons,Nat.zero_mul,Nat.zero_add,List.take_zero,List.nil_append,h1,<- h2,List.drop_left]
  | y :: l,i+1,h=>by
    have h1:=R.len x
    have h2:=R.len y
    rw[R.cells_cons,List.set_cons_succ,R.cells_cons,<- R.cells_set x l i (by simpa using h),Nat.succ_mul,h1,List.take_append,List.drop_append,List.take_of_length_le (by omega),List.drop_eq_nil_of_le (by omega),h2]
    simp only [List.append_assoc,List.nil_append]
    rw[show i * R.sz+R.sz - R.sz=i * R.sz by omega,show i * R.sz+R.sz+R.sz - R.sz=i * R.sz+R.sz by omega]
theorem OwnL.set {α:Type} {R:RowT α} {w:World} {base g n c:Nat} {l:List α} (h:OwnL R w base (.slice (some ⟨g,0,none⟩) n c) l) {i:Nat} (hi:i<l.length) (x:α):OwnL R (w.setCells g (i * R.sz) (R.enc x)) base (.slice (some ⟨g,0,none⟩) n c) (l.set i x):=by
  obtain⟨h1,h2⟩:=h
  have hn:n=l.length:=by
    rcases h2.2 with ⟨e,e2⟩|⟨g',cap,cur,e,_⟩
    · omega
    · simp only [Value.slice.injEq] at e;exact e.2.1
  subst hn
  refine⟨by simpa using h1,?_⟩
  have hb:i * R.sz+(R.enc x).length<=(R.cells l).length:=by
    rw[R.len,R.cells_len]
    have:(i+1) * R.sz<=l.length * R.sz:=Nat.mul_le_mul_right _ hi
    rwa [Nat.succ_mul] at this
  have:=own_putL (R.enc x) (i * R.sz) w (R.cells l) h2 hb
  rw[R.cells_set x l i hi] at this
  simpa using this
def V.k:V->Int
  | .num _=>0
  | .ref _=>1
def V.n:V->Int
  | .num n=>n
  | .ref i=>i
def rSeen:RowT (Nat × Nat):=⟨140,2,λc=>[.int .i64 (c.1:Int),.int .i64 (c.2:Int)],λ_=>rfl,λ_ u hu=>by
  simp only [List.mem_cons,List.not_mem_nil,or_false] at hu
  rcases hu with rfl|rfl <;> rfl⟩
def rChange:RowT (Nat × Nat × V):=⟨148,4,λc=>[.int .i64 (c.1:Int),.int .i64 (c.2.1:Int),.int .i64 c.2.2.k,.int .i64 c.2.2.n],λ_=>rfl,λ_ u hu=>by
  simp only [List.mem_cons,List.not_mem_nil,or_false] at hu
  rcases hu with rfl|rfl|rfl|rfl <;> rfl⟩
def rVal:RowT V:=⟨36,2,λx=>[.int .i64 x.k,.int .i64 x.n],λ_=>rfl,λ_ u hu=>by
  simp only [List.mem_cons,List.not_mem_nil,or_false] at hu
  rcases hu with rfl|rfl <;> rfl⟩
def rPtr:RowT Nat:=⟨137,1,λb=>[.pointer (some ⟨b,0,none⟩)],λ_=>rfl,λ_ u hu=>by
  simp only [List.mem_cons,List.not_mem_nil,or_false] at hu
  subst hu
  rfl⟩
theorem Try.infSeen:(Try.prog.info? 140).map (λi=>(i.zero,i.size,i.bytes))=some (some (.agg #[.int .i64 0,.int .i64 0]),2,16):=by kernel_rfl
theorem Try.infChange:(Try.prog.info? 148).map (λi=>(i.zero,i.size,i.bytes))=some (some (.agg #[.int .i64 0,.int .i64 0,.int .i64 0,.int .i64 0]),4,32):=by kernel_rfl
theorem Try.infPtr:(Try.prog.info? 137).map (λi=>(i.zero,i.size,i.bytes))=some (some (.pointer none),1,8):=by kernel_rfl
end Go.Proofs.Ytbeilcaadpopmab
namespace Go.Proofs.Ytbeilcaadpopmab
open Go.RowKit Go.Maps
def BoxN (N:Nat) (w:World) (B:Nat) (c:Nat->Value):Prop:=∀i,i<N->w.cell? ⟨B,i,none⟩=some (c i)/\w.frozen? ⟨B,i,none⟩=false
theorem BoxN.keep {N:Nat} {w w':World} {B:Nat} {c:Nat->Value} (h:BoxN N w B c) (k:w'.heap[B]? = w.heap[B]?):BoxN N w' B c:=λi hi =>
  ⟨(World.cell?_of_block (w:=w) (a:=⟨B,i,none⟩) k).trans (h i hi).1,(World.frozen?_of_block (w:=w) (a:=⟨B,i,none⟩) k).trans (h i hi).2⟩
theorem BoxN.set {N:Nat} {w:World} {B:Nat} {c:Nat->Value} (h:BoxN N w B c) {o:Nat} (ho:o<N) (v:Value):BoxN N (w.setCell ⟨B,o,none⟩ v) B (ins c o v):=λi hi=>by
  refine⟨?_,by rw[frozen_setCell_any];exact (h i hi).2⟩
  unfold ins
  by_cases e:i=o
  · subst e
    rw[if_pos rfl]
    exact World.cell?_setCell_same _ _ _ (h i hi).1
  · rw[if_neg e,World.cell?_setCell_other _ _ _ _ (by simp only [ne_eq,Addr.mk.injEq];omega)]
    exact (h i hi).1
theorem BoxN.setFar {N:Nat} {w:World} {B:Nat} {c:Nat->Value} (h:BoxN N w B c) {a:Addr} (ha:a.block≠B) (v:Value):BoxN N (w.setCell a v) B c:=h.keep (Below.heap_setCell _ _ _ _ (λe=>ha e.symm))
theorem BoxN.there {N:Nat} {w:World} {B:Nat} {c:Nat->Value} (h:BoxN N w B c) {o n:Nat} (ho:o+n<=N):w.there B o n:=λj hj=>⟨by rw[(h (o+j) (by omega)).1];rfl,(h (o+j) (by omega)).2⟩
theorem BoxN.setL {N:Nat} {w:World} {B:Nat} {c:Nat->Value} (h:BoxN N w B c) {o:Nat} (vs:List Value) (ho:o+vs.length<=N):BoxN N (w.setCells B o vs) B (insL c o vs):=λi hi=>by
  refine⟨?_,by rw[World.frozen?_setCells];exact (h i hi).2⟩
  unfold insL
  split
  · rename_i hi2
    have:=World.cell?_setCells_in B vs o w (λj hj=>((h.there (o:=o) (n:=vs.length) ho) j hj).1) (i - o) (by omega)
    rw[show o+(i - o)=i by omega] at this
    rw[this,List.getD_eq_getElem?_getD,List.getElem?_eq_getElem (by omega)]
    rfl
  · rename_i hi2
    rw[World.cell?_setCells_out B vs o w ⟨B,i,none⟩ (λ_ _=>by show i<o\/o+vs.length<=i;omega)]
    exact (h i hi).1
theorem BoxN.range {N:Nat} {w:World} {B:Nat} {c:Nat->Value} (h:BoxN N w B c) (o:Nat) (cs:List Value) (hl:o+cs.length<=N) (hc:∀j (hj:j<cs.length),c (o+j)=cs[j]):w.rangeAt B o cs:=λj v hv=>by
  have hj:j<cs.length:=(List.getElem?_eq_some_iff.1 hv).1
  rw[(h (o+j) (by omega)).1,hc j hj]
  rw[List.getElem?_eq_getElem hj] at hv
  exact hv
theorem BoxN.congr {N:Nat} {w:World} {B:Nat} {c c':Nat->Value} (h:BoxN N w B c) (k:∀i,i<N->c i=c' i):BoxN N w B c':=λi hi=>by rw[<- k i hi];exact h i hi
theorem BoxN.lt {N:Nat} {w:World} {B:Nat} {c:Nat->Value} (h:BoxN N w B c) (hN:0<N):B<w.heap.size:=World.block_lt_of_cell? w _ (h 0 hN).1
structure Rn where
  tv:Value
  tb:Nat->Nat
  fv:Nat->Value
  rv:Nat->Value
  ov:Nat->Value
  cv:Nat->Value
inductive Rl where
  | box
  | things
  | thing (i:Nat)
  | flds (i:Nat)
  | reads (t:Nat)
  | owned (t:Nat)
  | changes (t:Nat)
deriving DecidableEq
def Rl.ok (K:Nat):Rl->Prop
  | .thing i=>i<K
  | .flds i=>i<K
  | .reads t=>t<4
  | .owned t=>t<4
  | .changes t=>t<4
  | _=>True
def roleR (B:Nat) (nm:Rn):Rl->Option Nat
  | .box=>some B
  | .things=>nm.tv.ownBlock
  | .thing i=>some (nm.tb i)
  | .flds i=>(nm.fv i).ownBlock
  | .reads t=>(nm.rv t).ownBlock
  | .owned t=>(nm.ov t).ownBlock
  | .changes t=>(nm.cv t).ownBlock
def valV (v:V) (j:Nat):Value:=.int .i64 (if j=0 then v.k else v.n)
def dealC (nm:Rn) (d:Deal) (t q:Nat):Value :=
  if q=0 then .bool d.isOpen else if q<9 then valV (d.saved ((q - 1) / 2)) ((q - 1) % 2) else if q=9 then nm.rv t else if q=10 then nm.ov t else nm.cv t
def hallC (nm:Rn) (H:Hall) (i:Nat):Value :=
  if i=0 then .int .i64 (H.words:Int) else if i=1 then nm.tv else
  if i<34 then valV (H.regs ((i - 2) / 8) ((i - 2) % 8 / 2)) ((i - 2) % 2) else
  if i<82 then dealC nm (H.deals ((i - 34) / 12)) ((i - 34) / 12) ((i - 34) % 12) else
  if i=82 then .bool H.going else .int .i64 H.left
def ownN:Option Nat->Int
  | none=>-1
  | some t=>t
def thingC (f:Value) (x:Thing) (i:Nat):Value :=
  if i=0 then f else if i=1 then .int .i64 (x.version:Int) else if i=2 then .int .i64 (ownN x.owner) else if i=3 then .bool x.gone else if i=4 then .bool x.fresh else .bool x.kept
def PartR (base B:Nat) (nm:Rn) (H:Hall) (w:World):Rl->Prop
  | .box=>BoxN 84 w B (hallC nm H)
  | .things=>OwnL rPtr w base nm.tv ((List.range H.things.length).map nm.tb)
  | .thing i=>BoxN 6 w (nm.tb i) (thingC (nm.fv i) (th H.things (i+1)))
  | .flds i=>OwnL rVal w base (nm.fv i) (th H.things (i+1)).fields
  | .reads t=>OwnL rSeen w base (nm.rv t) (H.deals t).reads
  | .owned t=>OwnL rSeen w base (nm.ov t) (H.deals t).owned
  | .changes t=>OwnL rChange w base (nm.cv t) (H.deals t).changes
structure Rmem (base:Nat) (w:World) (B:Nat) (nm:Rn) (H:Hall):Prop where
  part:∀i:Rl,i.ok H.things.length->PartR base B nm H w i
  lo:∀(i:Rl) k,i.ok H.things.length->roleR B nm i=some k->base<=k/\k<w.heap.size
  apart:∀(i j:Rl) k,i.ok H.things.length->j.ok H.things.length->roleR B nm i=some k->roleR B nm j=some k->i=j
  base_le:base<=w.heap.size
def HasR (B K:Nat) (nm:Rn) (k:Nat):Prop:=∃i:Rl,i.ok K/\roleR B nm i=some k
structure WentR (w w':World) (B K K':Nat) (nm nm':Rn):Prop where
  chg:Chg (HasR B K nm) w w'
  own:∀k,k<w.heap.size->HasR B K' nm' k->HasR B K nm k
theorem WentR.refl (w:World) (B K:Nat) (nm:Rn):WentR w w B K K nm nm:=⟨Chg.refl _ _,λ_ _ h=>h⟩
theorem WentR.trans {w1 w2 w3:World} {B K1 K2 K3:Nat} {n1 n2 n3:Rn} (h:WentR w1 w2 B K1 K2 n1 n2) (k:WentR w2 w3 B K2 K3 n2 n3):WentR w1 w3 B K1 K3 n1 n3:=by
  refine⟨⟨k.chg.os.trans h.chg.os,k.chg.tape.trans h.chg.tape,k.chg.output.trans h.chg.output,Nat.le_trans h.chg.size k.chg.size,λi hi hx=>?_⟩,λi hi hx=>h.own i hi (k.own i (Nat.lt_of_lt_of_le hi h.chg.size) hx)⟩
  exact (k.chg.block i (Nat.lt_of_lt_of_le hi h.chg.size) (λh3=>hx (h.own i hi h3))).trans (h.chg.block i hi hx)
theorem PartR.keep {base B:Nat} {nm:Rn} {H:Hall} {w w':World} {i:Rl} (h:PartR base B nm H w i) (k:∀b,roleR B nm i=some b->w'.heap[b]? = w.heap[b]?):PartR base B nm H w' i:=by
  cases i with
  | box=>exact BoxN.keep h (k B rfl)
  | things=>exact OwnL.keep h k
  | thing i=>exact BoxN.keep h (k _ rfl)
  | flds i=>exact OwnL.keep h k
  | reads t=>exact OwnL.keep h k
  | owned t=>exact OwnL.keep h k
  | changes t=>exact OwnL.keep h k
theorem Rmem.upd {base B:Nat} {w w':World} {nm nm':Rn} {H H':Hall} (h:Rmem base w B nm H) (X:Rl->Prop)
    (hchg:Chg (λk=>∃i:Rl,i.ok H.things.length/\X i/\roleR B nm i=some k) w w')
    (hsame:∀i:Rl,i.ok H'.things.length->¬ X i->i.ok H.things.length/\roleR B nm' i=roleR B nm i/\(PartR base B nm H w' i->PartR base B nm' H' w' i))
    (hnew:∀i:Rl,i.ok H'.things.length->X i->PartR base B nm' H' w' i/\((i.ok H.things.length/\roleR B nm' i=roleR B nm i)\/∀k,roleR B nm' i=some k->w.heap.size<=k/\k<w'.heap.size))
    (hfresh:∀(i j:Rl) k,i.ok H'.things.length->j.ok H'.things.length->X i->X j->roleR B nm' i=some k->roleR B nm' j=some k->w.heap.size<=k->i=j) :
    Rmem base w' B nm' H'/\WentR w w' B H.things.length H'.things.length nm nm':=by
  have hrole:∀i:Rl,i.ok H'.things.length->(i.ok H.things.length/\roleR B nm' i=roleR B nm i)\/∀k,roleR B nm' i=some k->w.heap.size<=k/\k<w'.heap.size:=λi hi=>by
    by_cases hx:X i
    · exact (hnew i hi hx).2
    · exact .inl ⟨(hsame i hi hx).1,(hsame i hi hx).2.1⟩
  refine⟨⟨λi hi=>?_,λi k hi hk=>?_,λi j k hi hj h1 h2=>?_,Nat.le_trans h.base_le hchg.size⟩,hchg.mono (λk _ ⟨i,hi,_,e⟩=>⟨i,hi,e⟩),λk hk ⟨i,hi,e⟩=>?_⟩
  · by_cases hx:X i
    · exact (hnew i hi hx).1
    · obtain⟨hi0,_,hp⟩:=hsame i hi hx
      refine hp ((h.part i hi0).keep λb hb=>hchg.block b (h.lo i b hi0 hb).2 ?_)
      rintro ⟨j,hj,hxj,e⟩
      exact hx ((h.apart i j b hi0 hj hb e) ▸ hxj)
  · rcases hrole i hi with ⟨hi0,e⟩|e
    · rw[e] at hk
      have:=h.lo i k hi0 hk
      have:=hchg.size
      omega
    · have:=e k hk
      have:=h.base_le
      omega
  · rcases hrole i hi with ⟨hi0,e⟩|e
    · rcases hrole j hj with ⟨hj0,e2⟩|e2
      · exact h.apart i j k hi0 hj0 (e ▸ h1) (e2 ▸ h2)
      · have:=(h.lo i k hi0 (e ▸ h1)).2
        have:=(e2 k h2).1
        omega
    · have hk:=(e k h1).1
      have hXi:X i:=Classical.byContradiction λhx=>by
        rw[(hsame i hi hx).2.1] at h1
        have:=(h.lo i k (hsame i hi hx).1 h1).2
        omega
      have hXj:X j:=Classical.byContradiction λhx=>by
        rw[(hsame j hj hx).2.1] at h2
        have:=(h.lo j k (hsame j hj hx).1 h2).2
        omega
      exact hfresh i j k hi hj hXi hXj h1 h2 hk
  · rcases hrole i hi with ⟨hi0,e2⟩|e2
    · exact⟨i,hi0,e2 ▸ e⟩
    · have:=(e2 k e).1
      omega
theorem hallC_reg (nm:Rn) (H:Hall) {t r:Nat} (ht:t<4) (hr:r<4):hallC nm H (2+t * 8+r * 2) = .int .i64 (H.regs t r).k/\hallC nm H (2+t * 8+r * 2+1) = .int .i64 (H.regs t r).n:=by
  constructor
  · unfold hallC
    rw[if_neg (by omega),if_neg (by omega),if_pos (by omega),show (2+t * 8+r * 2 - 2) / 8=t by omega,show (2+t * 8+r * 2 - 2) % 8 / 2=r by omega,show (2+t * 8+r * 2 - 2) % 2=0 by omega]
    rfl
  · unfold hallC
    rw[if_neg (by omega),if_neg (by omega),if_pos (by omega),show (2+t * 8+r * 2+1 - 2) / 8=t by omega,show (2+t * 8+r * 2+1 - 2) % 8 / 2=r by omega,show (2+t * 8+r * 2+1 - 2) % 2=1 by omega]
    rfl
theorem hallC_deal (nm:Rn) (H:Hall) {t q:Nat} (ht:t<4) (hq:q<12):hallC nm H (34+t * 12+q)=dealC nm (H.deals t) t q:=by
  unfold hallC
  rw[if_neg (by omega),if_neg (by omega),if_neg (by omega),if_pos (by omega),show (34+t * 12+q - 34) / 12=t by omega,show (34+t * 12+q - 34) % 12=q by omega]
end Go.Proofs.Ytbeilcaadpopmab
namespace Go.Proofs.Ytbeilcaadpopmab
open Go.RowKit Go.Maps
theorem Rmem.box {base B:Nat} {w:World} {nm:Rn} {H:Hall} (h:Rmem base w B nm H):BoxN 84 w B (hallC nm H):=h.part .box trivial
theorem Rmem.thing {base B:Nat} {w:World} {nm:Rn} {H:Hall} (h:Rmem base w B nm H) {i:Nat} (hi:i<H.things.length):BoxN 6 w (nm.tb i) (thingC (nm.fv i) (th H.things (i+1))):=h.part (.thing i) hi
theorem Rmem.tv {base B:Nat} {w:World} {nm:Rn} {H:Hall} (h:Rmem base w B nm H):∃a c,nm.tv = .slice a H.things.length c/\H.things.length<=c/\c<=9223372036854775807/\H.things.length<=1000000 /\
    ∀i,i<H.things.length->∃g,a=some ⟨g,0,none⟩/\g<w.heap.size/\g≠B/\w.cell? ⟨g,i,none⟩=some (.pointer (some ⟨nm.tb i,0,none⟩))/\w.frozen? ⟨g,i,none⟩=false:=by
  have hp:OwnL rPtr w base nm.tv ((List.range H.things.length).map nm.tb):=h.part .things trivial
  have hl:((List.range H.things.length).map nm.tb).length=H.things.length:=by simp
  have h1:=hp.1
  rw[hl] at h1
  obtain⟨a,c,e,hc,hc2⟩:=hp.shape
  rw[hl] at e hc
  refine⟨a,c,e,hc,hc2,h1,λi hi=>?_⟩
  rw[e] at hp
  obtain⟨g,ea,_,_,hg,hcell,hf⟩:=hp.at (i:=i) (by rw[hl];exact hi)
  refine⟨g,ea,hg,λeB=>?_,?_,hf i⟩
  · have:=h.apart .things .box g trivial trivial (by show nm.tv.ownBlock=_;rw[e,ea];rfl) (by rw[eB];rfl)
    cases this
  · have:=hcell 0 (by show 0<1;omega)
    have e1:i * rPtr.sz+0=i:=by show i * 1+0=i;omega
    rw[e1] at this
    rw[this]
    show [Value.pointer (some ⟨((List.range H.things.length).map nm.tb)[i],0,none⟩)][0]? = _
    simp
set_option maxHeartbeats 1000000 in
theorem thing_any {base B:Nat} {w:World} {nm:Rn} {H:Hall} (h:Rmem base w B nm H) {n:Nat} (h1:1<=n) (hn:n<=H.things.length) :
    Calls Try.prog 83 #[.pointer (some ⟨B,0,none⟩),.int .i64 (n:Int)] w (λe w'=>e = .returned (.pointer (some ⟨nm.tb (n - 1),0,none⟩))/\w=w'):=by
  obtain⟨m,rfl⟩:∃m,n=m+1:=⟨n - 1,by omega⟩
  obtain⟨a,c,e,hc,hc2,hK,hat⟩:=h.tv
  obtain⟨g,rfl,hg,hgB,c2,f2⟩:=hat m (by omega)
  obtain⟨c1,f1⟩:=h.box 1 (by omega)
  have e1:hallC nm H 1=nm.tv:=rfl
  rw[e1,e] at c1
  obtain⟨K,hKe⟩:∃K,K=H.things.length:=⟨_,rfl⟩
  rw[<- hKe] at hn hc hK c1
  clear hat e hKe h
  have hp:IntKind.i64.wrap ((m:Int)+1 - 1)=(m:Int):=by rw[show (m:Int)+1 - 1=m by omega];simp only [IntKind.wrap_i64];omega
  have hmK:(m:Int)<(K:Int):=by omega
  go_enter Try.func83,Try.ntmps83
  go_wp2_with fail
  go_ret
  exact⟨rfl,rfl⟩
theorem Rmem.below {base B:Nat} {w w2:World} {nm:Rn} {H:Hall} (h:Rmem base w B nm H) (hb:Below w.heap.size w w2):Rmem base w2 B nm H :=
  ⟨λi hi=>(h.part i hi).keep λb hk=>hb.block b (h.lo i b hi hk).2,λi k hi hk=>⟨(h.lo i k hi hk).1,Nat.lt_of_lt_of_le (h.lo i k hi hk).2 hb.size⟩,h.apart,Nat.le_trans h.base_le hb.size⟩
def atN (l:List (Nat × Nat)) (n:Nat):Int:=match noted l n with|some v=>(v:Int)|none=>-1
theorem noted_cons (x:Nat × Nat) (l:List (Nat × Nat)) (n:Nat):noted (x :: l) n=if x.1=n then some x.2 else noted l n:=by
  unfold noted
  by_cases e:x.1=n
  · simp[e]
  · simp[e]
set_option maxHeartbeats 1000000 in
theorem at_any {base:Nat} {w:World} {v:Value} {l:List (Nat × Nat)} (h:OwnL rSeen w base v l) (n:Nat) :
    Calls Try.prog 87 #[v,.int .i64 (n:Int)] w (λe w'=>e = .returned (.int .i64 (atN l n))/\w=w'):=by
  obtain⟨a,c,rfl,hc,hc2⟩:=h.shape
  have hle:=h.1
  have HA:Hid (∀w2,Below w.heap.size w w2->OwnL rSeen w2 base (.slice a l.length c) l):=λw2 hb2=>h.keep λb hk=>hb2.block b (h.lt hk).2
  clear h
  go_enter Try.func87,Try.ntmps87
  go_wp2
  go_loopw [5] (λi wr=>∃k:Nat,k<=l.length/\i = .int .i64 k/\w=wr/\Hid (noted l n=noted (l.drop k) n)) (λi _=>l.length - (intOf i).toNat)
  case atStart=>exact⟨0,Nat.zero_le _,rfl,rfl,Lib.hid (by simp)⟩
  case round =>
    obtain⟨k,hk,rfl,rfl,hno⟩:=hrel
    have hbel:Below w.heap.size w w:=Below.refl _ _
    by_cases hlt:k<l.length
    · obtain⟨g,rfl,_,_,hg,hcell,hf⟩:=(HA.out _ hbel).at hlt
      have c0:w.cell? ⟨g,k * 2,none⟩=some (.int .i64 (l[k].1:Int)):=hcell 0 (by show 0<2;omega)
      have c1:w.cell? ⟨g,k * 2+1,none⟩=some (.int .i64 (l[k].2:Int)):=hcell 1 (by show 1<2;omega)
      have hd:l.drop k=l[k] :: l.drop (k+1):=List.drop_eq_getElem_cons hlt
      obtain⟨x,hx⟩:∃x,x=l[k]:=⟨_,rfl⟩
      have hd2:noted l n=if x.1=n then some x.2 else noted (l.drop (k+1)) n:=by rw[hno.out,hd,noted_cons,hx]
      rw[<- hx] at c0 c1
      clear hcell hd hno hx
      have HD:=Lib.hid hd2
      clear hd2
      by_cases he:x.1=n
      · have hee:(x.1:Int)=(n:Int):=by omega
        go_wp2
        go_ret
        refine⟨?_,rfl⟩
        unfold atN
        rw[HD.out,if_pos he]
        rfl
      · have hee:¬ (x.1:Int)=(n:Int):=by omega
        go_wp2
        go_roundw
        case rel=>exact⟨k+1,by omega,by go_num,by trivial,Lib.hid (by rw[HD.out,if_neg he])⟩
        case measure=>simp[intOf];omega
    · have HN:Hid (noted l n=none):=by
        rw[Hid,hno.out,List.drop_eq_nil_of_le (by omega)]
        rfl
      clear hno
      go_wp2
      go_ret
      refine⟨?_,rfl⟩
      unfold atN
      rw[HN.out]
      rfl
theorem usedOf_take (l:List Thing) (k:Nat) (hk:k<l.length):usedOf (l.take (k+1))=usedOf (l.take k)+(if l[k].gone then 0 else 2+l[k].fields.length):=by
  induction l generalizing k with
  | nil=>simp at hk
  | cons x l ih =>
    cases k with
    | zero=>simp[usedOf]
    | succ k=>simp only [List.take_succ_cons,usedOf,List.getElem_cons_succ,ih k (by simpa using hk)];omega
theorem usedOf_small (l:List Thing) (hf:∀x ∈ l,x.fields.length<=6):usedOf l<=8 * l.length:=by
  induction l with
  | nil=>simp[usedOf]
  | cons x l ih =>
    have h1:=hf x (List.mem_cons_self)
    have h2:=ih λy hy=>hf y (List.mem_cons_of_mem _ hy)
    simp only [usedOf,List.length_cons]
    split <;> omega
theorem th_at (l:List Thing) (k:Nat) (hk:k<l.length):th l (k+1)=l[k]:=by
  unfold th
  rw[List.getD_eq_getElem?_getD,show k+1 - 1=k by omega,List.getElem?_eq_getElem hk]
  rfl
set_option maxHeartbeats 1000000 in
theorem used_any {base B:Nat} {w:World} {nm:Rn} {H:Hall} (h:Rmem base w B nm H) (hf:∀x ∈ H.things,x.fields.length<=6) :
    Calls Try.prog 85 #[.pointer (some ⟨B,0,none⟩)] w (λe w'=>e = .returned (.int .i64 (H.used:Int))/\w=w'):=by
  obtain⟨a,c,e,hc,hc2,hK,_⟩:=h.tv
  have HM:Hid (∀w2,Below w.heap.size w w2->Rmem base w2 B nm H):=λw2 hb2=>h.below hb2
  have e1:hallC nm H 1 = .slice a H.things.length c:=e
  have HE:=Lib.hid e1
  have HS:Hid (∀k,usedOf (H.things.take k)<=8 * H.things.length):=λk=>Nat.le_trans (usedOf_small _ λx hx=>hf x (List.mem_of_mem_take hx)) (by simp;omega)
  have HF:=Lib.hid hf
  have HEt:=Lib.hid e
  clear e1 h hf e
  go_enter Try.func85,Try.ntmps85
  go_wp2
  go_loopw [3,4] (λn i wr=>∃k:Nat,k<=H.things.length/\i = .int .i64 k/\n = .int .i64 (usedOf (H.things.take k):Int)/\w=wr) (λn i _=>H.things.length - (intOf i).toNat)
  case atStart=>exact⟨0,Nat.zero_le _,rfl,rfl,rfl⟩
  case round =>
    obtain⟨k,hk,rfl,rfl,rfl⟩:=hrel
    have hbel:Below w.heap.size w w:=Below.refl _ _
    obtain⟨cb1,fb1⟩:=(HM.out _ hbel).box 1 (by omega)
    rw[HE.out] at cb1
    have hs:=HS.out k
    obtain⟨u,hu⟩:∃u,u=usedOf (H.things.take k):=⟨_,rfl⟩
    rw[<- hu] at hs ⊢
    by_cases hlt:k<H.things.length
    · obtain⟨a',c',e',_,_,_,hat⟩:=(HM.out _ hbel).tv
      rw[HEt.out] at e'
      simp only [Value.slice.injEq,true_and] at e'
      obtain⟨rfl,rfl⟩:=e'
      obtain⟨g,rfl,hg,hgB,c2,f2⟩:=hat k hlt
      obtain⟨c3,f3⟩:=(HM.out _ hbel).thing hlt 3 (by omega)
      obtain⟨c4,f4⟩:=(HM.out _ hbel).thing hlt 0 (by omega)
      obtain⟨av,cv,ev,hcv,hcv2⟩:=OwnL.shape ((HM.out _ hbel).part (.flds k) hlt)
      have e3:thingC (nm.fv k) (th H.things (k+1)) 3 = .bool (th H.things (k+1)).gone:=rfl
      have e4:thingC (nm.fv k) (th H.things (k+1)) 0 = .slice av (th H.things (k+1)).fields.length cv:=ev
      rw[e3,th_at _ _ hlt] at c3
      rw[e4,th_at _ _ hlt] at c4
      have h6:=HF.out _ (List.getElem_mem hlt)
      have HU:=Lib.hid (usedOf_take H.things k hlt)
      rw[th_at _ _ hlt] at hcv
      obtain⟨x,hx⟩:∃x,x=H.things[k]:=⟨_,rfl⟩
      rw[<- hx] at c3 c4 h6 hcv
      have HX:=Lib.hid hx
      have HUU:=Lib.hid hu
      clear hat e3 e4 ev hx hu
      have hlK:u<=8000000:=by omega
      cases hg2:x.gone with
      | true =>
        rw[hg2] at c3
        have HR:Hid (usedOf (H.things.take (k+1))=u):=by
          rw[Hid,HU.out,<- HX.out,hg2,<- HUU.out];rfl
        clear hg2
        go_wp2
        go_roundw
        case rel=>exact⟨k+1,by omega,by go_num,by rw[HR.out],by trivial⟩
        case measure=>simp[intOf];omega
      | false =>
        rw[hg2] at c3
        have HR:Hid (usedOf (H.things.take (k+1))=u+(2+x.fields.length)):=by
          rw[Hid,HU.out,<- HX.out,hg2,<- HUU.out];rfl
        clear hg2
        go_wp2
        go_roundw
        case rel=>exact⟨k+1,by omega,by go_num,by rw[HR.out];go_num,by trivial⟩
        case measure=>simp[intOf];omega
    · have HN:Hid (u=H.used):=by
        rw[Hid,hu,List.take_of_length_le (by omega)]
        rfl
      clear hu
      go_wp2
      go_ret
      exact⟨by rw[HN.out];rfl,by trivial⟩
end Go.Proofs.Ytbeilcaadpopmab
namespace Go.Proofs.Ytbeilcaadpopmab
open Go.RowKit Go.Maps
theorem Rmem.boxOnly {base B:Nat} {w w':World} {nm:Rn} {H H':Hall} (h:Rmem base w B nm H) (hchg:Chg (λk=>k=B) w w') (hbox:BoxN 84 w' B (hallC nm H')) (e1:H'.things=H.things)
    (e2:∀t,(H'.deals t).reads=(H.deals t).reads/\(H'.deals t).owned=(H.deals t).owned/\(H'.deals t).changes=(H.deals t).changes):Rmem base w' B nm H'/\WentR w w' B H.things.length H'.things.length nm nm:=by
  refine h.upd (λi=>i = .box) (hchg.mono λk _ e=>⟨.box,trivial,rfl,by rw[e];rfl⟩) ?_ ?_ ?_
  · intro i hi hx
    rw[e1] at hi
    refine⟨hi,rfl,λp=>?_⟩
    cases i with
    | box=>exact absurd rfl hx
    | things=>show OwnL rPtr w' base nm.tv ((List.range H'.things.length).map nm.tb);rw[e1];exact p
    | thing i=>show BoxN 6 w' (nm.tb i) (thingC (nm.fv i) (th H'.things (i+1)));rw[e1];exact p
    | flds i=>show OwnL rVal w' base (nm.fv i) (th H'.things (i+1)).fields;rw[e1];exact p
    | reads t=>show OwnL rSeen w' base (nm.rv t) (H'.deals t).reads;rw[(e2 t).1];exact p
    | owned t=>show OwnL rSeen w' base (nm.ov t) (H'.deals t).owned;rw[(e2 t).2.1];exact p
    | changes t=>show OwnL rChange w' base (nm.cv t) (H'.deals t).changes;rw[(e2 t).2.2];exact p
  · rintro i hi rfl
    exact⟨hbox,.inl ⟨trivial,rfl⟩⟩
  · rintro i j k hi hj rfl rfl _ _ _
    rfl
theorem len_turn (l:List Thing) (n:Nat) (f:Thing->Thing):(turnT l n f).length=l.length:=by simp[turnT]
theorem th_turn_same {l:List Thing} {n:Nat} (f:Thing->Thing) (h1:1<=n) (hn:n<=l.length):th (turnT l n f) n=f (th l n):=by
  rw[th_modify l n n f h1 h1,if_pos ⟨rfl,hn⟩]
theorem th_turn_other {l:List Thing} {n i:Nat} (f:Thing->Thing) (h1:1<=n) (hi:1<=i) (hne:i≠n):th (turnT l n f) i=th l i:=by
  rw[th_modify l n i f h1 hi,if_neg (λe=>hne e.1)]
theorem Rmem.thingTurn {base B:Nat} {w w':World} {nm:Rn} {H:Hall} (h:Rmem base w B nm H) {n:Nat} (h1:1<=n) (hn:n<=H.things.length) (f:Thing->Thing) (hf:∀x,(f x).fields=x.fields)
    (hchg:Chg (λk=>k=nm.tb (n - 1)) w w') (hbox:BoxN 6 w' (nm.tb (n - 1)) (thingC (nm.fv (n - 1)) (f (th H.things n)))) :
    Rmem base w' B nm { H with things:=turnT H.things n f }/\WentR w w' B H.things.length H.things.length nm nm:=by
  have hl:(turnT H.things n f).length=H.things.length:=len_turn _ _ _
  have key:=h.upd (w':=w') (nm':=nm) (H':={ H with things:=turnT H.things n f }) (λi=>i = .thing (n - 1)) (hchg.mono λk _ e=>⟨.thing (n - 1),by show n - 1<_;omega,rfl,by rw[e];rfl⟩) ?_ ?_ ?_
  · refine⟨key.1,?_⟩
    have:=key.2
    rwa [show ({ H with things:=turnT H.things n f }:Hall).things.length=H.things.length from hl] at this
  · intro i hi hx
    have hi':i.ok H.things.length:=by
      have e:({ H with things:=turnT H.things n f }:Hall).things.length=H.things.length:=hl
      rwa [e] at hi
    refine⟨hi',rfl,λp=>?_⟩
    cases i with
    | box=>exact p
    | things=>show OwnL rPtr w' base nm.tv ((List.range (turnT H.things n f).length).map nm.tb);rw[hl];exact p
    | thing i =>
      show BoxN 6 w' (nm.tb i) (thingC (nm.fv i) (th (turnT H.things n f) (i+1)))
      rw[th_turn_other f h1 (by omega) (λe=>hx (by rw[<- e];rfl))]
      exact p
    | flds i =>
      show OwnL rVal w' base (nm.fv i) (th (turnT H.things n f) (i+1)).fields
      by_cases e:i+1=n
      · rw[e,th_turn_same f h1 hn,hf,<- e];exact p
      · rw[th_turn_other f h1 (by omega) e];exact p
    | reads t=>exact p
    | owned t=>exact p
    | changes t=>exact p
  · rintro i hi rfl
    refine⟨?_,.inl ⟨by show n - 1<_;omega,rfl⟩⟩
    show BoxN 6 w' (nm.tb (n - 1)) (thingC (nm.fv (n - 1)) (th (turnT H.things n f) (n - 1+1)))
    rw[show n - 1+1=n by omega,th_turn_same f h1 hn]
    exact hbox
  · rintro i j k hi hj rfl rfl _ _ _
    rfl
theorem Rmem.setField {base B:Nat} {w:World} {nm:Rn} {H:Hall} (h:Rmem base w B nm H) {n k g m c:Nat} (h1:1<=n) (hn:n<=H.things.length) (hk:k<(th H.things n).fields.length) (v:V) (hv:nm.fv (n - 1) = .slice (some ⟨g,0,none⟩) m c) :
    Rmem base (w.setCells g (k * 2) (rVal.enc v)) B nm { H with things:=setF H.things n k v }/\WentR w (w.setCells g (k * 2) (rVal.enc v)) B H.things.length H.things.length nm nm:=by
  have hl:(setF H.things n k v).length=H.things.length:=len_turn _ _ _
  have hp:OwnL rVal w base (nm.fv (n - 1)) (th H.things (n - 1+1)).fields:=h.part (.flds (n - 1)) (by show n - 1<_;omega)
  rw[show n - 1+1=n by omega,hv] at hp
  have key:=h.upd (w':=w.setCells g (k * 2) (rVal.enc v)) (nm':=nm) (H':={ H with things:=setF H.things n k v }) (λi=>i = .flds (n - 1)) ?_ ?_ ?_ ?_
  · refine⟨key.1,?_⟩
    have:=key.2
    rwa [show ({ H with things:=setF H.things n k v }:Hall).things.length=H.things.length from hl] at this
  · refine Chg.trans (b:=w.setCell ⟨g,k * 2,none⟩ (.int .i64 v.k)) (Chg.set _ _ _ _ ?_) (Chg.set _ _ _ _ ?_)
    all_goals exact⟨.flds (n - 1),by show n - 1<_;omega,rfl,by show (nm.fv (n - 1)).ownBlock=_;rw[hv];rfl⟩
  · intro i hi hx
    have hi':i.ok H.things.length:=by
      have e:({ H with things:=setF H.things n k v }:Hall).things.length=H.things.length:=hl
      rwa [e] at hi
    refine⟨hi',rfl,λp=>?_⟩
    cases i with
    | box=>exact p
    | things=>show OwnL rPtr _ base nm.tv ((List.range (setF H.things n k v).length).map nm.tb);rw[hl];exact p
    | thing i =>
      show BoxN 6 _ (nm.tb i) (thingC (nm.fv i) (th (turnT H.things n (setT k v)) (i+1)))
      by_cases e:i+1=n
      · rw[e,th_turn_same _ h1 hn,<- e];exact p
      · rw[th_turn_other _ h1 (by omega) e];exact p
    | flds i =>
      show OwnL rVal _ base (nm.fv i) (th (turnT H.things n (setT k v)) (i+1)).fields
      rw[th_turn_other _ h1 (by omega) (λe=>hx (by rw[<- e];rfl))];exact p
    | reads t=>exact p
    | owned t=>exact p
    | changes t=>exact p
  · rintro i hi rfl
    refine⟨?_,.inl ⟨by show n - 1<_;omega,rfl⟩⟩
    show OwnL rVal _ base (nm.fv (n - 1)) (th (turnT H.things n (setT k v)) (n - 1+1)).fields
    rw[show n - 1+1=n by omega,th_turn_same _ h1 hn,hv]
    exact hp.set hk v
  · rintro i j k hi hj rfl rfl _ _ _
    rfl
theorem Rmem.newDeal {base B:Nat} {w w':World} {nm:Rn} {H:Hall} (h:Rmem base w B nm H) {t:Nat} (ht:t<4) (d:Deal) (rv ov cv:Value)
    (hchg:Chg (λk=>k=B\/(nm.rv t).ownBlock=some k\/(nm.ov t).ownBlock=some k\/(nm.cv t).ownBlock=some k) w w')
    (hbox:BoxN 84 w' B (hallC { nm with rv:=put1 nm.rv t rv,ov:=put1 nm.ov t ov,cv:=put1 nm.cv t cv } { H with deals:=put1 H.deals t d }))
    (h1:OwnL rSeen w' base rv d.reads) (h2:OwnL rSeen w' base ov d.owned) (h3:OwnL rChange w' base cv d.changes)
    (n1:rv.ownBlock=(nm.rv t).ownBlock\/∀k,rv.ownBlock=some k->w.heap.size<=k/\k<w'.heap.size) (n2:ov.ownBlock=(nm.ov t).ownBlock\/∀k,ov.ownBlock=some k->w.heap.size<=k/\k<w'.heap.size) (n3:cv.ownBlock=(nm.cv t).ownBlock\/∀k,cv.ownBlock=some k->w.heap.size<=k/\k<w'.heap.size)
    (n4:∀k,w.heap.size<=k->rv.ownBlock=some k->ov.ownBlock≠some k) (n5:∀k,w.heap.size<=k->rv.ownBlock=some k->cv.ownBlock≠some k) (n6:∀k,w.heap.size<=k->ov.ownBlock=some k->cv.ownBlock≠some k) :
    Rmem base w' B { nm with rv:=put1 nm.rv t rv,ov:=put1 nm.ov t ov,cv:=put1 nm.cv t cv } { H with deals:=put1 H.deals t d }/\WentR w w' B H.things.length H.things.length nm { nm with rv:=put1 nm.rv t rv,ov:=put1 nm.ov t ov,cv:=put1 nm.cv t cv }:=by
  have hT:∀u,u≠t->(put1 H.deals t d) u=H.deals u:=λu e=>by simp[put1,e]
  have hTt:(put1 H.deals t d) t=d:=by simp[put1]
  obtain⟨nm',hnm⟩:∃nm',nm' = ({ nm with rv:=put1 nm.rv t rv,ov:=put1 nm.ov t ov,cv:=put1 nm.cv t cv }:Rn):=⟨_,rfl⟩
  have q1:nm'.rv t=rv/\nm'.ov t=ov/\nm'.cv t=cv:=by subst hnm;simp[put1]
  have q2:∀u,u≠t->nm'.rv u=nm.rv u/\nm'.ov u=nm.ov u/\nm'.cv u=nm.cv u:=λu e=>by subst hnm;simp[put1,e]
  have q3:nm'.tv=nm.tv/\nm'.tb=nm.tb/\nm'.fv=nm.fv:=by subst hnm;exact⟨rfl,rfl,rfl⟩
  rw[<- hnm] at hbox ⊢
  clear hnm
  obtain⟨q4,q5,q6⟩:=q1
  obtain⟨q7,q8,q9⟩:=q3
  refine h.upd (H':={ H with deals:=put1 H.deals t d }) (λi=>i = .box\/i = .reads t\/i = .owned t\/i = .changes t) (hchg.mono λk _ e=>?_) ?_ ?_ ?_
  · rcases e with e|e|e|e
    · exact⟨.box,trivial,.inl rfl,by rw[e];rfl⟩
    · exact⟨.reads t,ht,.inr (.inl rfl),e⟩
    · exact⟨.owned t,ht,.inr (.inr (.inl rfl)),e⟩
    · exact⟨.changes t,ht,.inr (.inr (.inr rfl)),e⟩
  · intro i hi hx
    simp only [not_or] at hx
    obtain⟨x1,x2,x3,x4⟩:=hx
    refine⟨hi,?_⟩
    cases i with
    | box=>exact absurd rfl x1
    | things=>exact⟨by show nm'.tv.ownBlock=_;rw[q7];rfl,λp=>by show OwnL rPtr w' base nm'.tv ((List.range H.things.length).map nm'.tb);rw[q7,q8];exact p⟩
    | thing i=>exact⟨by show some (nm'.tb i)=_;rw[q8];rfl,λp=>by show BoxN 6 w' (nm'.tb i) (thingC (nm'.fv i) (th H.things (i+1)));rw[q8,q9];exact p⟩
    | flds i=>exact⟨by show (nm'.fv i).ownBlock=_;rw[q9];rfl,λp=>by show OwnL rVal w' base (nm'.fv i) (th H.things (i+1)).fields;rw[q9];exact p⟩
    | reads u =>
      have e:u≠t:=λe=>x2 (by rw[e])
      exact⟨by show (nm'.rv u).ownBlock=_;rw[(q2 u e).1];rfl,λp=>by show OwnL rSeen w' base (nm'.rv u) ((put1 H.deals t d) u).reads;rw[(q2 u e).1,hT u e];exact p⟩
    | owned u =>
      have e:u≠t:=λe=>x3 (by rw[e])
      exact⟨by show (nm'.ov u).ownBlock=_;rw[(q2 u e).2.1];rfl,λp=>by show OwnL rSeen w' base (nm'.ov u) ((put1 H.deals t d) u).owned;rw[(q2 u e).2.1,hT u e];exact p⟩
    | changes u =>
      have e:u≠t:=λe=>x4 (by rw[e])
      exact⟨by show (nm'.cv u).ownBlock=_;rw[(q2 u e).2.2];rfl,λp=>by show OwnL rChange w' base (nm'.cv u) ((put1 H.deals t d) u).changes;rw[(q2 u e).2.2,hT u e];exact p⟩
  · rintro i hi (rfl|rfl|rfl|rfl)
    · exact⟨hbox,.inl ⟨trivial,rfl⟩⟩
    · refine⟨by show OwnL rSeen w' base (nm'.rv t) ((put1 H.deals t d) t).reads;rw[q4,hTt];exact h1,?_⟩
      show (_/\(nm'.rv t).ownBlock=(nm.rv t).ownBlock)\/∀k,(nm'.rv t).ownBlock=some k->_
      rw[q4]
      exact n1.imp (λe=>⟨ht,e⟩) id
    · refine⟨by show OwnL rSeen w' base (nm'.ov t) ((put1 H.deals t d) t).owned;rw[q5,hTt];exact h2,?_⟩
      show (_/\(nm'.ov t).ownBlock=(nm.ov t).ownBlock)\/∀k,(nm'.ov t).ownBlock=some k->_
      rw[q5]
      exact n2.imp (λe=>⟨ht,e⟩) id
    · refine⟨by show OwnL rChange w' base (nm'.cv t) ((put1 H.deals t d) t).changes;rw[q6,hTt];exact h3,?_⟩
      show (_/\(nm'.cv t).ownBlock=(nm.cv t).ownBlock)\/∀k,(nm'.cv t).ownBlock=some k->_
      rw[q6]
      exact n3.imp (λe=>⟨ht,e⟩) id
  · intro i j k hi hj xi xj h1 h2 hk
    have r:∀l,roleR B nm' .box=some l->l<w.heap.size:=λl e=>(h.lo .box l trivial e).2
    have e1:roleR B nm' (.reads t)=rv.ownBlock:=by show (nm'.rv t).ownBlock=_;rw[q4]
    have e2:roleR B nm' (.owned t)=ov.ownBlock:=by show (nm'.ov t).ownBlock=_;rw[q5]
    have e3:roleR B nm' (.changes t)=cv.ownBlock:=by show (nm'.cv t).ownBlock=_;rw[q6]
    rcases xi with rfl|rfl|rfl|rfl
    · have:=r k h1;omega
    all_goals rcases xj with rfl|rfl|rfl|rfl
    all_goals first
      | rfl
      | (exfalso;have:=r k h2;omega)
      | (exfalso;rw[e1] at h1;rw[e2] at h2;exact n4 k hk h1 h2)
      | (exfalso;rw[e1] at h1;rw[e3] at h2;exact n5 k hk h1 h2)
      | (exfalso;rw[e2] at h1;rw[e1] at h2;exact n4 k hk h2 h1)
      | (exfalso;rw[e2] at h1;rw[e3] at h2;exact n6 k hk h1 h2)
      | (exfalso;rw[e3] at h1;rw[e1] at h2;exact n5 k hk h2 h1)
      | (exfalso;rw[e3] at h1;rw[e2] at h2;exact n6 k hk h2 h1)
end Go.Proofs.Ytbeilcaadpopmab
namespace Go.Proofs.Ytbeilcaadpopmab
open Go.RowKit Go.Maps
theorem Rmem.has_lt {base B:Nat} {w:World} {nm:Rn} {H:Hall} (h:Rmem base w B nm H) (k:Nat) (hk:HasR B H.things.length nm k):base<=k/\k<w.heap.size:=by
  obtain⟨i,hi,e⟩:=hk
  exact h.lo i k hi e
theorem Rmem.not_has {base B:Nat} {w:World} {nm:Rn} {H:Hall} (h:Rmem base w B nm H) {k:Nat} (hk:w.heap.size<=k):¬ HasR B H.things.length nm k:=λhn=>by
  have:=(h.has_lt k hn).2
  omega
theorem WentR.cell {w w':World} {B K K':Nat} {nm nm':Rn} (h:WentR w w' B K K' nm nm') {k:Nat} (hk:k<w.heap.size) (hn:¬ HasR B K nm k) (o:Nat):w'.cell? ⟨k,o,none⟩=w.cell? ⟨k,o,none⟩/\w'.frozen? ⟨k,o,none⟩=w.frozen? ⟨k,o,none⟩ :=
  ⟨World.cell?_of_block (w:=w) (a:=⟨k,o,none⟩) (h.chg.block k hk hn),World.frozen?_of_block (w:=w) (a:=⟨k,o,none⟩) (h.chg.block k hk hn)⟩
theorem WentR.not_has {w w':World} {B K K':Nat} {nm nm':Rn} (h:WentR w w' B K K' nm nm') {k:Nat} (hk:k<w.heap.size) (hn:¬ HasR B K nm k):¬ HasR B K' nm' k:=λh'=>hn (h.own k hk h')
theorem Rmem.other {base B:Nat} {w w':World} {nm:Rn} {H:Hall} (h:Rmem base w B nm H) (hb:Chg (λk=>¬ HasR B H.things.length nm k) w w'):Rmem base w' B nm H:=by
  refine⟨λi hi=>(h.part i hi).keep λb hb2=>hb.block b (h.lo i b hi hb2).2 (λhn=>hn ⟨i,hi,hb2⟩),λi k hi hk=>?_,h.apart,Nat.le_trans h.base_le hb.size⟩
  have:=h.lo i k hi hk
  have:=hb.size
  omega
theorem WentR.after {w w1 w2:World} {B K K':Nat} {nm nm':Rn} (h:WentR w1 w2 B K K' nm nm') (hb:Below w.heap.size w w1) (hl:∀k,HasR B K nm k->k<w.heap.size):WentR w w2 B K K' nm nm':=by
  refine⟨⟨h.chg.os.trans hb.os,h.chg.tape.trans hb.tape,h.chg.output.trans hb.output,Nat.le_trans hb.size h.chg.size,λk hk hx=>(h.chg.block k (Nat.lt_of_lt_of_le hk hb.size) hx).trans (hb.block k hk)⟩,λk hk hx=>h.own k (Nat.lt_of_lt_of_le hk hb.size) hx⟩
theorem WentR.then {w w1 w2:World} {B K K':Nat} {nm nm':Rn} (h:WentR w w1 B K K' nm nm') (hb:Below w1.heap.size w1 w2):WentR w w2 B K K' nm nm' :=
  ⟨⟨hb.os.trans h.chg.os,hb.tape.trans h.chg.tape,hb.output.trans h.chg.output,Nat.le_trans h.chg.size hb.size,λk hk hx=>(hb.block k (Nat.lt_of_lt_of_le hk h.chg.size)).trans (h.chg.block k hk hx)⟩,h.own⟩
theorem wpl_storeN {ops:Array Oper} {rest:List Oper} {o:Oper} {a:Act} {Q:Exit->Act->World->Prop} {w:World} {N:Nat} (hg:o.guard=none) (ty:TypeId) (x y:Operand) (hop:o.op = .store ty x y)
    (B off:Nat) (cells:Array Value) (hx:a.eval x = .pointer (some ⟨B,off,none⟩)) (hy:a.eval y = .agg cells) (c:Nat->Value) (hB:BoxN N w B c) (ho:off+cells.size<=N)
    (hi:(Try.prog.info? ty).map (·.size)=some cells.size) (h1:cells.all (·.oneCell')=true)
    (hK:BoxN N (w.setCells B off cells.toList) B (insL c off cells.toList)->Chg (λk=>k=B) w (w.setCells B off cells.toList)->wpList Try.prog ops Q rest (a.put o.dst undef) (w.setCells B off cells.toList)):wpList Try.prog ops Q (o :: rest) a w :=
  wpList_store_mid hg ty x y hop B off cells hx hy (hB.there ho) hi h1 (hK (hB.setL _ (by simpa using ho)) (setCells_chg B _ _ _))
theorem wpl_loadN {ops:Array Oper} {rest:List Oper} {o:Oper} {a:Act} {Q:Exit->Act->World->Prop} {w:World} {N:Nat} (hg:o.guard=none) (ty:TypeId) (x:Operand) (hop:o.op = .load ty x)
    (B off:Nat) (hx:a.eval x = .pointer (some ⟨B,off,none⟩)) (c:Nat->Value) (hB:BoxN N w B c) (cs:List Value) (ho:off+cs.length<=N) (hc:∀j (hj:j<cs.length),c (off+j)=cs[j])
    (d:TypeDesc) (hu:Try.prog.underlying ty=some d) (hd:d.isRow=true) (hi:(Try.prog.info? ty).map (·.size)=some cs.length)
    (hK:wpList Try.prog ops Q rest (a.put o.dst (.agg cs.toArray)) w):wpList Try.prog ops Q (o :: rest) a w :=
  wpList_load_mid hg ty x hop B off hx cs d (hB.range off cs ho hc) hu hd hi hK
def dealL (nm:Rn) (d:Deal) (t:Nat):List Value:=(List.range 12).map (dealC nm d t)
theorem hallC_dealL (nm:Rn) (H:Hall) {t:Nat} (ht:t<4) (j:Nat) (hj:j<(dealL nm (H.deals t) t).length):hallC nm H (34+t * 12+j)=(dealL nm (H.deals t) t)[j]:=by
  have h12:j<12:=by simpa [dealL] using hj
  rw[hallC_deal nm H ht h12]
  simp[dealL]
theorem dealL_one {nm:Rn} {d:Deal} {t:Nat} (h1:(nm.rv t).oneCell' = true) (h2:(nm.ov t).oneCell' = true) (h3:(nm.cv t).oneCell' = true):(dealL nm d t).toArray.all (·.oneCell')=true:=by
  simp only [List.all_toArray,List.all_eq_true,dealL,List.mem_map]
  rintro v ⟨q,_,rfl⟩
  unfold dealC
  split
  · rfl
  · split
    · rfl
    · split
      · exact h1
      · split
        · exact h2
        · exact h3
theorem BoxN.alloc (w:World) (arr:Array Value) (ty:TypeId):BoxN arr.size (w.alloc (.cells arr ty)) w.heap.size (λi=>arr.getD i undef):=λi hi=>by
  refine⟨?_,by simp⟩
  simp[hi,Array.getD]
theorem Try.sizeDeal:(Try.prog.info? 123).map (·.size)=some 12:=by kernel_rfl
structure UndOk (H:Hall) (t:Nat):Prop where
  chg:∀c ∈ (H.deals t).changes,1<=c.1/\c.1<=H.things.length/\c.2.1<(th H.things c.1).fields.length
  own:∀c ∈ (H.deals t).owned,1<=c.1/\c.1<=H.things.length
def RetH (base:Nat) (w:World) (B:Nat) (nm:Rn) (H H':Hall) (v:Value) (e:Ending) (w':World):Prop:=e = .returned v/\∃nm',Rmem base w' B nm' H'/\WentR w w' B H.things.length H'.things.length nm nm'
end Go.Proofs.Ytbeilcaadpopmab
namespace Go.Proofs.Ytbeilcaadpopmab
def setK (b:Bool) (x:Thing):Thing:={ x with kept:=b }
structure WalkR (l:List Thing) (rs:List Nat) (l':List Thing):Prop where
  len:l'.length=l.length
  same:∀i,th l' i=setK (th l' i).kept (th l i)
  mono:∀i,(th l i).kept=true->(th l' i).kept=true
  root:∀r ∈ rs,r≠0->(th l' r).kept=true
  closed:∀i,1<=i->(th l' i).kept=true->(th l i).kept=false->∀j,j≠0->.ref j ∈ (th l i).fields->(th l' j).kept=true
  reach:∀i,1<=i->(th l' i).kept=true->(th l i).kept=false->HReach l rs i
theorem WalkR.fields {l l':List Thing} {rs:List Nat} (h:WalkR l rs l') (i:Nat):(th l' i).fields=(th l i).fields:=by rw[h.same i];rfl
theorem HReach.of_fields {l l':List Thing} (e:∀i,(th l' i).fields=(th l i).fields) {rs rs':List Nat} (hr:∀r ∈ rs,r≠0->HReach l' rs' r) {i:Nat} (h:HReach l rs i):HReach l' rs' i:=by
  induction h with
  | root h1 h2=>exact hr _ h1 h2
  | field h1 h2 h3 ih=>exact .field ih (by have:=e;unfold th at this;rw[this];exact h2) h3
theorem WalkR.refl (l:List Thing):WalkR l [] l:=by
  refine⟨rfl,λi=>rfl,λi h=>h,λr hr=>by simp at hr,λi _ h1 h2=>?_,λi _ h1 h2=>?_⟩
  · rw[h1] at h2;cases h2
  · rw[h1] at h2;cases h2
theorem WalkR.trans {l l1 l2:List Thing} {r1 r2:List Nat} (h:WalkR l r1 l1) (k:WalkR l1 r2 l2):WalkR l (r1++r2) l2:=by
  refine⟨k.len.trans h.len,λi=>?_,λi hi=>k.mono i (h.mono i hi),λr hr h0=>?_,λi hi h2 h0 j hj hf=>?_,λi hi h2 h0=>?_⟩
  · rw[k.same i,h.same i];rfl
  · rcases List.mem_append.1 hr with hr|hr
    · exact k.mono _ (h.root r hr h0)
    · exact k.root r hr h0
  · cases e:(th l1 i).kept with
    | true=>exact k.mono _ (h.closed i hi e h0 j hj hf)
    | false=>exact k.closed i hi h2 e j hj (by rw[h.fields];exact hf)
  · cases e:(th l1 i).kept with
    | true=>exact (h.reach i hi e h0).of_fields (λ_=>rfl) λr hr h0=>.root (List.mem_append_left _ hr) h0
    | false=>exact (k.reach i hi h2 e).of_fields (λi=>(h.fields i).symm) λr hr h0=>.root (List.mem_append_right _ hr) h0
theorem WalkR.none {l:List Thing} {r:Nat} (h:r≠0->(th l r).kept=true):WalkR l [r] l:=by
  refine⟨rfl,λi=>rfl,λi h=>h,λr' hr h0=>?_,λi _ h1 h2=>?_,λi _ h1 h2=>?_⟩
  · have e:r' = r:=by simpa using hr
    subst e
    exact h h0
  · rw[h1] at h2;cases h2
  · rw[h1] at h2;cases h2
theorem WalkR.cons {l l2:List Thing} {n:Nat} (h1:1<=n) (hn:n<=l.length) (h:WalkR (turnT l n (setK true)) ((th l n).fields.map V.id) l2):WalkR l [n] l2:=by
  have e0:∀i,1<=i->th (turnT l n (setK true)) i=if i=n then setK true (th l i) else th l i:=λi hi=>by
    rw[th_modify l n i _ h1 hi]
    by_cases e:i=n
    · rw[if_pos ⟨e,by omega⟩,if_pos e]
    · rw[if_neg (λc=>e c.1),if_neg e]
  have z:∀(l:List Thing),th l 0=th l 1:=λl=>rfl
  have ef:∀i,(th (turnT l n (setK true)) i).fields=(th l i).fields:=λi=>by
    rcases Nat.eq_zero_or_pos i with e|e
    · rw[e,z,z,e0 1 (by omega)];split <;> rfl
    · rw[e0 i e];split <;> rfl
  have es:∀i b,setK b (th (turnT l n (setK true)) i)=setK b (th l i):=λi b=>by
    rcases Nat.eq_zero_or_pos i with e|e
    · rw[e,z,z,e0 1 (by omega)];split <;> rfl
    · rw[e0 i e];split <;> rfl
  have em:∀i,(th l i).kept=true->(th (turnT l n (setK true)) i).kept=true:=λi hi=>by
    rcases Nat.eq_zero_or_pos i with e|e
    · rw[e,z] at hi
      rw[e,z,e0 1 (by omega)];split <;> first|rfl|exact hi
    · rw[e0 i e];split <;> first|rfl|exact hi
  have ek:(th (turnT l n (setK true)) n).kept=true:=by rw[e0 n h1,if_pos rfl];rfl
  refine⟨h.len.trans (by simp[turnT]),λi=>?_,λi hi=>h.mono i (em i hi),λr hr h0=>?_,λi hi h2 h0 j hj hf=>?_,λi hi h2 h0=>?_⟩
  · rw[<- es];exact h.same i
  · have e:r=n:=by simpa using hr
    subst e
    exact h.mono _ ek
  · by_cases e:i=n
    · subst e
      exact h.root j (List.mem_map.2 ⟨.ref j,hf,rfl⟩) hj
    · have e1:(th (turnT l n (setK true)) i).kept=false:=by rw[e0 i hi,if_neg e];exact h0
      exact h.closed i hi h2 e1 j hj (by rw[ef];exact hf)
  · by_cases e:i=n
    · subst e
      exact .root (by simp) (by omega)
    · have e1:(th (turnT l n (setK true)) i).kept=false:=by rw[e0 i hi,if_neg e];exact h0
      refine (h.reach i hi h2 e1).of_fields (λi=>(ef i).symm) λr hr h0=>?_
      obtain⟨v,hv,rfl⟩:=List.mem_map.1 hr
      cases v with
      | num _=>exact absurd rfl h0
      | ref j=>exact .field (.root (by simp) (by omega)) hv h0
def clearK (x:Thing):Thing:={ x with fresh:=false,kept:=false }
theorem th_map (f:Thing->Thing) (l:List Thing) (i:Nat) (h1:1<=i) (hi:i<=l.length):th (l.map f) i=f (th l i):=by
  unfold th
  rw[List.getD_eq_getElem?_getD,List.getD_eq_getElem?_getD,List.getElem?_map,List.getElem?_eq_getElem (by omega)]
  rfl
theorem th_far (l:List Thing) (i:Nat) (hi:l.length<i):th l i=noThing:=by
  unfold th
  rw[List.getD_eq_getElem?_getD,List.getElem?_eq_none (by omega)]
  rfl
theorem walked_all {l l':List Thing} {rs:List Nat} (h:WalkR (l.map clearK) rs l'):l' = keptF l rs:=by
  have hl:l'.length=l.length:=h.len.trans (by simp)
  have hf:∀i,1<=i->(th (l.map clearK) i).fields=(th l i).fields:=λi hi=>by
    by_cases e:i<=l.length
    · rw[th_map _ _ _ hi e];rfl
    · rw[th_far l i (by omega),th_far _ i (by simp;omega)]
  have hff:∀i,(th (l.map clearK) i).fields=(th l i).fields:=λi=>by
    rcases Nat.eq_zero_or_pos i with e|e
    · rw[e];exact hf 1 (by omega)
    · exact hf i e
  have hk0:∀i,(th (l.map clearK) i).kept=false:=λi=>by
    have q:∀i,1<=i->(th (l.map clearK) i).kept=false:=λi hi=>by
      by_cases e:i<=l.length
      · rw[th_map _ _ _ hi e];rfl
      · rw[th_far _ i (by simp;omega)];rfl
    rcases Nat.eq_zero_or_pos i with e|e
    · rw[e];exact q 1 (by omega)
    · exact q i e
  have hkept:∀i,HReach l rs i->i≠0/\(th l' i).kept=true:=λi hi=>by
    induction hi with
    | root a b=>exact⟨b,h.root _ a b⟩
    | field a b c ih=>exact⟨c,h.closed _ (by omega) ih.2 (hk0 _) _ c (by rw[hff];exact b)⟩
  refine List.ext_getElem (by simp[keptF,hl]) λi h1 h2=>?_
  have e1:l'[i]=th l' (i+1):=by
    unfold th
    rw[List.getD_eq_getElem?_getD,show i+1 - 1=i by omega,List.getElem?_eq_getElem h1];rfl
  have e2:th l (i+1)=l[i]'(by omega):=by
    unfold th
    rw[List.getD_eq_getElem?_getD,show i+1 - 1=i by omega,List.getElem?_eq_getElem (by omega)];rfl
  have e3:(keptF l rs)[i]={ l[i]'(by omega) with fresh:=false,kept:=keptB l rs (i+1) }:=by simp[keptF]
  rw[e1,e3,h.same,th_map _ _ _ (by omega) (by omega),e2]
  unfold setK clearK
  dsimp only
  congr 1
  cases e:(th l' (i+1)).kept with
  | true =>
    have hr:=h.reach (i+1) (by omega) e (hk0 _)
    have:HReach l rs (i+1):=hr.of_fields (λi=>(hff i).symm) λr a b=>.root a b
    simp[keptB,this]
  | false =>
    have:¬ HReach l rs (i+1):=λq=>by rw[(hkept _ q).2] at e;cases e
    simp[keptB,this]
theorem keptN_clear (l:List Thing):keptN (l.map clearK)=0:=by
  unfold keptN
  rw[List.length_eq_zero_iff,List.filter_eq_nil_iff]
  intro x hx
  obtain⟨y,_,rfl⟩:=List.mem_map.1 hx
  simp[clearK]
theorem keptN_modify (l:List Thing) (i:Nat) (hi:i<l.length) (h:(l[i]).kept=false):keptN (l.modify i (setK true))=keptN l+1:=by
  unfold keptN
  induction l generalizing i with
  | nil=>simp at hi
  | cons x l ih =>
    cases i with
    | zero =>
      simp only [List.getElem_cons_zero] at h
      simp[List.filter_cons,h,setK]
    | succ i =>
      have:=ih i (by simpa using hi) (by simpa using h)
      rw[List.modify_succ_cons,List.filter_cons,List.filter_cons]
      split
      · simp only [List.length_cons,this]
      · exact this
theorem keptN_turn {l:List Thing} {n:Nat} (h1:1<=n) (hn:n<=l.length) (h:(th l n).kept=false):keptN (turnT l n (setK true))=keptN l+1:=by
  refine keptN_modify l (n - 1) (by omega) ?_
  unfold th at h
  rw[List.getD_eq_getElem?_getD,List.getElem?_eq_getElem (by omega)] at h
  exact h
theorem keptN_lt {l:List Thing} {n:Nat} (h1:1<=n) (hn:n<=l.length) (h:(th l n).kept=false):keptN l<l.length:=by
  have:=keptN_turn h1 hn h
  have:=keptN_le (turnT l n (setK true))
  have:(turnT l n (setK true)).length=l.length:=by simp[turnT]
  omega
theorem HReach.sub {l:List Thing} {rs rs':List Nat} (h:∀i,i ∈ rs->i ∈ rs') {i:Nat} (hi:HReach l rs i):HReach l rs' i :=
  hi.of_fields (λ_=>rfl) λr hr h0=>.root (h r hr) h0
theorem keptF_congr {l:List Thing} {rs rs':List Nat} (h:∀i,i ∈ rs ↔ i ∈ rs'):keptF l rs=keptF l rs':=by
  unfold keptF
  congr 1
  funext k x
  congr 1
  unfold keptB
  refine decide_eq_decide.2 ⟨λq=>q.sub λi hi=>(h i).1 hi,λq=>q.sub λi hi=>(h i).2 hi⟩
def begV (H:Hall) (t r:Nat):List Nat:=[(H.regs t r).id,((H.deals t).saved r).id]
def begR (H:Hall) (t:Nat):List Nat :=
  (List.range 4).flatMap (begV H t)++(H.deals t).changes.map (λc=>c.2.2.id)++(H.deals t).reads.map (·.1)++(H.deals t).owned.map (·.1)
theorem begR_mem (H:Hall) (i:Nat):i ∈ (List.range 4).flatMap (begR H) ↔ i ∈ H.roots:=by
  unfold Hall.roots begR heldBy begV
  simp only [List.mem_flatMap,List.mem_append,List.mem_map,List.mem_range,List.mem_cons,List.not_mem_nil,or_false]
  constructor
  · rintro ⟨t,ht,(((⟨r,hr,rfl|rfl⟩|h)|h)|h)⟩
    · exact⟨t,ht,.inl (.inl (.inl (.inl ⟨r,hr,rfl⟩)))⟩
    · exact⟨t,ht,.inl (.inl (.inl (.inr ⟨r,hr,rfl⟩)))⟩
    · exact⟨t,ht,.inl (.inl (.inr h))⟩
    · exact⟨t,ht,.inl (.inr h)⟩
    · exact⟨t,ht,.inr h⟩
  · rintro ⟨t,ht,((((⟨r,hr,rfl⟩|⟨r,hr,rfl⟩)|h)|h)|h)⟩
    · exact⟨t,ht,.inl (.inl (.inl ⟨r,hr,.inl rfl⟩))⟩
    · exact⟨t,ht,.inl (.inl (.inl ⟨r,hr,.inr rfl⟩))⟩
    · exact⟨t,ht,.inl (.inl (.inr h))⟩
    · exact⟨t,ht,.inl (.inr h)⟩
    · exact⟨t,ht,.inr h⟩
theorem walked_roots {H:Hall} {l':List Thing} (h:WalkR (H.things.map clearK) ((List.range 4).flatMap (begR H)) l'):l' = keptF H.things H.roots:=by
  rw[walked_all h]
  exact keptF_congr (begR_mem H)
def Left2 (H:Hall):Prop:=H.going=true->0<=H.left/\H.left<=1000000
theorem Left2.of {H G:Hall} (h:Left2 H) (e1:G.going=H.going) (e2:G.left=H.left):Left2 G:=λhg=>by rw[e2];exact h (e1 ▸ hg)
theorem Left2.act {H:Hall} (h:Left2 H) (hl:H.things.length<=1000000) (c:ActM):Left2 (H.act c).1:=by
  refine act_ind (P:=λp=>Left2 p.1) H c (λ_ _=>h) ?_ ?_ ?_ ?_ ?_ ?_ ?_ ?_ ?_ ?_ ?_ ?_
  · intro _ t _ _;unfold Hall.begin;split <;> exact h.of rfl rfl
  · intro _ t _ _;unfold Hall.commit;split
    · exact h
    · split <;> exact h.of rfl rfl
  · intro _ t _ _;unfold Hall.abort;split <;> exact h.of rfl rfl
  · intro _ t a _ _ _ _;unfold Hall.new;split
    · exact h
    · split
      · exact h
      · split <;> exact h.of rfl rfl
  · intro _ t a b _ _ _ _ _ _;unfold Hall.get;split
    · exact h.of rfl rfl
    · dsimp only;split <;> exact h.of rfl rfl
  · intro _ t a b _ _ _ _ _ _;unfold Hall.put;split
    · refine h.of (G:=(H.own t _).write t _ _ _) ?_ ?_
      · show (H.own t _).going=_;unfold Hall.own;split <;> rfl
      · show (H.own t _).left=_;unfold Hall.own;split <;> rfl
    · dsimp only;split <;> exact h.of rfl rfl
  · intro _ t a _ _ _ _;unfold Hall.set;split <;> exact h.of rfl rfl
  · intro _ t a b u _ _ _ _ _ _ _ _;unfold Hall.copy;split <;> exact h.of rfl rfl
  · intro _ t a b _ _ _ _ _ _;exact h
  · intro _;unfold Hall.collect;split
    · exact h
    · intro _
      have h1:=keptN_le (keptF H.things H.roots)
      have h2:(keptF H.things H.roots).length=H.things.length:=by simp[keptF]
      dsimp only
      omega
  · intro _;unfold Hall.step;split
    · exact h
    · split
      · exact h
      · split
        · intro hg;cases hg
        · intro hg
          have:=h hg
          dsimp only
          omega
  · intro _;exact h
theorem Left2.start (w:Nat):Left2 (hall0 w):=λh=>by cases h
end Go.Proofs.Ytbeilcaadpopmab
namespace Go.Proofs.Ytbeilcaadpopmab
open Go.RowKit Go.Maps
def newT (n:Nat):Thing:=⟨List.replicate n (.num 0),0,none,false,true,false⟩
def Rn.more (nm:Rn) (K:Nat) (tv:Value) (g:Nat) (f:Value):Rn:={ nm with tv:=tv,tb:=put1 nm.tb K g,fv:=put1 nm.fv K f }
theorem th_more_old (l:List Thing) (x:Thing) {i:Nat} (hi:i<l.length):th (l++[x]) (i+1)=th l (i+1):=by
  unfold th
  rw[List.getD_eq_getElem?_getD,List.getD_eq_getElem?_getD,show i+1 - 1=i by omega,List.getElem?_append_left hi]
theorem th_more_new (l:List Thing) (x:Thing):th (l++[x]) (l.length+1)=x:=by
  unfold th
  rw[List.getD_eq_getElem?_getD,show l.length+1 - 1=l.length by omega,List.getElem?_append_right (Nat.le_refl _),Nat.sub_self]
  rfl
theorem more_names (f:Nat->Nat) (K g:Nat):(List.range (K+1)).map (put1 f K g)=(List.range K).map f++[g]:=by
  rw[List.range_succ,List.map_append]
  congr 1
  · refine List.map_congr_left λi hi=>?_
    have:i<K:=by simpa using hi
    simp[put1,show i≠K by omega]
  · simp[put1]
theorem Rmem.newThing {base B:Nat} {w w':World} {nm:Rn} {H:Hall} (h:Rmem base w B nm H) (x:Thing) (R:Nat->Nat->V) (tv:Value) (g:Nat) (f:Value)
    (hchg:Chg (λk=>k=B\/nm.tv.ownBlock=some k) w w')
    (hbox:BoxN 84 w' B (hallC (nm.more H.things.length tv g f) { H with things:=H.things++[x],regs:=R }))
    (htv:OwnL rPtr w' base tv ((List.range H.things.length).map nm.tb++[g])) (hg:BoxN 6 w' g (thingC f x)) (hf:OwnL rVal w' base f x.fields)
    (g1:w.heap.size<=g/\g<w'.heap.size) (f1:∀k,f.ownBlock=some k->w.heap.size<=k/\k<w'.heap.size)
    (t1:tv.ownBlock=nm.tv.ownBlock\/∀k,tv.ownBlock=some k->w.heap.size<=k/\k<w'.heap.size)
    (a1:f.ownBlock≠some g) (a2:tv.ownBlock≠some g) (a3:∀k,w.heap.size<=k->tv.ownBlock=some k->f.ownBlock≠some k) :
    Rmem base w' B (nm.more H.things.length tv g f) { H with things:=H.things++[x],regs:=R }/\WentR w w' B H.things.length (H.things++[x]).length nm (nm.more H.things.length tv g f):=by
  obtain⟨K,hK⟩:∃K,K=H.things.length:=⟨_,rfl⟩
  have hl:(H.things++[x]).length=K+1:=by simp[hK]
  have q1:(nm.more K tv g f).tb K=g/\(nm.more K tv g f).fv K=f/\(nm.more K tv g f).tv=tv:=by simp[Rn.more,put1]
  have q2:∀i,i<K->(nm.more K tv g f).tb i=nm.tb i/\(nm.more K tv g f).fv i=nm.fv i:=λi hi=>by simp[Rn.more,put1,show i≠K by omega]
  have q3:(nm.more K tv g f).rv=nm.rv/\(nm.more K tv g f).ov=nm.ov/\(nm.more K tv g f).cv=nm.cv:=⟨rfl,rfl,rfl⟩
  have q4:(List.range (K+1)).map (nm.more K tv g f).tb=(List.range K).map nm.tb++[g]:=more_names _ _ _
  rw[<- hK] at hbox htv ⊢
  obtain⟨nm',hnm⟩:∃nm',nm' = nm.more K tv g f:=⟨_,rfl⟩
  rw[<- hnm] at hbox q1 q2 q3 q4 ⊢
  clear hnm
  obtain⟨q1,q5,q6⟩:=q1
  obtain⟨q7,q8,q9⟩:=q3
  have key:=h.upd (w':=w') (nm':=nm') (H':={ H with things:=H.things++[x],regs:=R }) (λi=>i = .box\/i = .things\/i = .thing K\/i = .flds K) (hchg.mono λk _ e=>?_) ?_ ?_ ?_
  · rw[<- hK] at key;exact key
  · rcases e with e|e
    · exact⟨.box,trivial,.inl rfl,by rw[e];rfl⟩
    · exact⟨.things,trivial,.inr (.inl rfl),e⟩
  · intro i hi hx
    simp only [not_or] at hx
    obtain⟨x1,x2,x3,x4⟩:=hx
    cases i with
    | box=>exact absurd rfl x1
    | things=>exact absurd rfl x2
    | thing i =>
      have hi1:i<(H.things++[x]).length:=hi
      have hi2:i≠K:=λe=>x3 (by rw[e])
      have hi3:i<K:=by omega
      refine⟨by show i<H.things.length;omega,by show some (nm'.tb i)=_;rw[(q2 i hi3).1];rfl,λp=>?_⟩
      show BoxN 6 w' (nm'.tb i) (thingC (nm'.fv i) (th (H.things++[x]) (i+1)))
      rw[(q2 i hi3).1,(q2 i hi3).2,th_more_old _ _ (by omega)]
      exact p
    | flds i =>
      have hi1:i<(H.things++[x]).length:=hi
      have hi2:i≠K:=λe=>x4 (by rw[e])
      have hi3:i<K:=by omega
      refine⟨by show i<H.things.length;omega,by show (nm'.fv i).ownBlock=_;rw[(q2 i hi3).2];rfl,λp=>?_⟩
      show OwnL rVal w' base (nm'.fv i) (th (H.things++[x]) (i+1)).fields
      rw[(q2 i hi3).2,th_more_old _ _ (by omega)]
      exact p
    | reads t=>exact⟨hi,by show (nm'.rv t).ownBlock=_;rw[q7];rfl,λp=>by show OwnL rSeen w' base (nm'.rv t) (H.deals t).reads;rw[q7];exact p⟩
    | owned t=>exact⟨hi,by show (nm'.ov t).ownBlock=_;rw[q8];rfl,λp=>by show OwnL rSeen w' base (nm'.ov t) (H.deals t).owned;rw[q8];exact p⟩
    | changes t=>exact⟨hi,by show (nm'.cv t).ownBlock=_;rw[q9];rfl,λp=>by show OwnL rChange w' base (nm'.cv t) (H.deals t).changes;rw[q9];exact p⟩
  · rintro i hi (rfl|rfl|rfl|rfl)
    · exact⟨hbox,.inl ⟨trivial,rfl⟩⟩
    · refine⟨?_,?_⟩
      · show OwnL rPtr w' base nm'.tv ((List.range (H.things++[x]).length).map nm'.tb)
        rw[hl,q4,q6]
        exact htv
      · show (_/\nm'.tv.ownBlock=nm.tv.ownBlock)\/∀k,nm'.tv.ownBlock=some k->_
        rw[q6]
        exact t1.imp (λe=>⟨trivial,e⟩) id
    · refine⟨?_,.inr λk e=>?_⟩
      · show BoxN 6 w' (nm'.tb K) (thingC (nm'.fv K) (th (H.things++[x]) (K+1)))
        rw[q1,q5,hK,th_more_new]
        exact hg
      · have e':some (nm'.tb K)=some k:=e
        rw[q1] at e'
        cases e'
        exact g1
    · refine⟨?_,.inr λk e=>?_⟩
      · show OwnL rVal w' base (nm'.fv K) (th (H.things++[x]) (K+1)).fields
        rw[q5,hK,th_more_new]
        exact hf
      · have e':(nm'.fv K).ownBlock=some k:=e
        rw[q5] at e'
        exact f1 k e'
  · intro i j k hi hj xi xj h1 h2 hk
    have r:∀l,roleR B nm' .box=some l->l<w.heap.size:=λl e=>(h.lo .box l trivial e).2
    have e1:roleR B nm' .things=tv.ownBlock:=by show nm'.tv.ownBlock=_;rw[q6]
    have e2:roleR B nm' (.thing K)=some g:=by show some (nm'.tb K)=_;rw[q1]
    have e3:roleR B nm' (.flds K)=f.ownBlock:=by show (nm'.fv K).ownBlock=_;rw[q5]
    rcases xi with rfl|rfl|rfl|rfl
    · have:=r k h1;omega
    all_goals rcases xj with rfl|rfl|rfl|rfl
    all_goals first
      | rfl
      | (exfalso;have:=r k h2;omega)
      | (exfalso;rw[e1] at h1;rw[e2] at h2;cases h2;exact a2 h1)
      | (exfalso;rw[e1] at h1;rw[e3] at h2;exact a3 k hk h1 h2)
      | (exfalso;rw[e2] at h1;rw[e1] at h2;cases h1;exact a2 h2)
      | (exfalso;rw[e2] at h1;rw[e3] at h2;cases h1;exact a1 h2)
      | (exfalso;rw[e3] at h1;rw[e1] at h2;exact a3 k hk h2 h1)
      | (exfalso;rw[e3] at h1;rw[e2] at h2;cases h2;exact a1 h1)
end Go.Proofs.Ytbeilcaadpopmab
namespace Go.Proofs.Ytbeilcaadpopmab
open Go.RowKit Go.Maps
set_option maxRecDepth 100000 in
theorem told_any (v:V) (w:World):Calls Try.prog 88 #[.agg #[.int .i64 v.k,.int .i64 v.n]] w (λe w'=>e = .returned (ansV (told v))/\Below w.heap.size w w'):=by
  cases v with
  | num n =>
    show Calls Try.prog 88 #[.agg #[.int .i64 0,.int .i64 n]] w _
    go_enter Try.func88,Try.ntmps88
    go_wp2
    exact bodyPost_ret (v:=.agg #[.int .i64 0,.bool true,.int .i64 n,.bool false,.int .i64 0,.bool false,.int .i64 0]) (by simp[results,Try.results88,go_sem, *]) rfl ⟨rfl,(by ((repeat first|exact bR _ _|with_reducible first|refine bN ?_|refine bD ?_|refine bA ?_ ?_|refine bS ?_ ?_);all_goals first|exact Nat.le_refl _|(simp;done)|omega|(simp;omega)))⟩
  | ref i =>
    show Calls Try.prog 88 #[.agg #[.int .i64 1,.int .i64 (i:Int)]] w _
    go_enter Try.func88,Try.ntmps88
    go_wp2
    exact bodyPost_ret (v:=.agg #[.int .i64 0,.bool false,.int .i64 0,.bool false,.int .i64 0,.bool false,.int .i64 0]) (by simp[results,Try.results88,go_sem, *]) rfl ⟨rfl,(by ((repeat first|exact bR _ _|with_reducible first|refine bN ?_|refine bD ?_|refine bA ?_ ?_|refine bS ?_ ?_);all_goals first|exact Nat.le_refl _|(simp;done)|omega|(simp;omega)))⟩
def RetW (base:Nat) (w:World) (B:Nat) (nm:Rn) (H:Hall) (rs:List Nat) (e:Ending) (w':World):Prop :=
  ∃(l:List Thing) (c:Nat),e = .returned (.int .i64 (c:Int))/\Rmem base w' B nm { H with things:=l }/\WentR w w' B H.things.length H.things.length nm nm/\WalkR H.things rs l/\keptN l=keptN H.things+c
structure Shut6 (P:Nat->Prop) (l:List Thing):Prop where
  inn:∀i,P i->1<=i/\i<=l.length
  f6:∀i,(th l i).fields.length<=6
  fld:∀i,P i->∀v ∈ (th l i).fields,v.id≠0->P v.id
theorem Shut6.of {P:Nat->Prop} {l l':List Thing} (h:Shut6 P l) (hl:l'.length=l.length) (hf:∀i,(th l' i).fields=(th l i).fields):Shut6 P l' :=
  ⟨λi hi=>by rw[hl];exact h.inn i hi,λi=>by rw[hf];exact h.f6 i,λi hi=>by rw[hf];exact h.fld i hi⟩
theorem turnK_fields (l:List Thing) (n:Nat) (b:Bool) (h1:1<=n) (i:Nat):(th (turnT l n (setK b)) i).fields=(th l i).fields:=by
  have q:∀i,1<=i->(th (turnT l n (setK b)) i).fields=(th l i).fields:=λi hi=>by
    rw[th_modify l n i _ h1 hi]
    split <;> rfl
  rcases Nat.eq_zero_or_pos i with e|e
  · rw[e];exact q 1 (by omega)
  · exact q i e
theorem thingC_kept (f:Value) (x:Thing):∀i,i<6->thingC f (setK true x) i=ins (thingC f x) 5 (.bool true) i:=λi hi=>by
  rcases (show i=0\/i=1\/i=2\/i=3\/i=4\/i=5 by omega) with rfl|rfl|rfl|rfl|rfl|rfl <;> rfl
theorem Rmem.mark {base B:Nat} {w:World} {nm:Rn} {H:Hall} (h:Rmem base w B nm H) {n:Nat} (h1:1<=n) (hn:n<=H.things.length) :
    Rmem base (w.setCell ⟨nm.tb (n - 1),5,none⟩ (.bool true)) B nm { H with things:=turnT H.things n (setK true) }/\WentR w (w.setCell ⟨nm.tb (n - 1),5,none⟩ (.bool true)) B H.things.length H.things.length nm nm:=by
  refine h.thingTurn h1 hn (setK true) (λ_=>rfl) (Chg.set _ _ _ _ rfl) ?_
  have hb:=h.thing (i:=n - 1) (by omega)
  rw[show n - 1+1=n by omega] at hb
  exact (hb.set (o:=5) (by omega) (.bool true)).congr λi hi=>(thingC_kept _ _ i hi).symm
theorem Rmem.cT {base B:Nat} {w:World} {nm:Rn} {H:Hall} (h:Rmem base w B nm H) {n:Nat} (h1:1<=n) (hn:n<=H.things.length) :
    (∃a c,nm.fv (n - 1) = .slice a (th H.things n).fields.length c/\(th H.things n).fields.length<=c/\c<=9223372036854775807/\w.cell? ⟨nm.tb (n - 1),0,none⟩=some (.slice a (th H.things n).fields.length c) /\
      ∀k (hk:k<(th H.things n).fields.length),∃g,a=some ⟨g,0,none⟩/\g<w.heap.size/\g≠B/\(∀i,g≠nm.tb i\/H.things.length<=i)/\w.cell? ⟨g,k * 2,none⟩=some (.int .i64 (th H.things n).fields[k].k)/\w.cell? ⟨g,k * 2+1,none⟩=some (.int .i64 (th H.things n).fields[k].n)/\(∀j,w.frozen? ⟨g,j,none⟩=false)) /\
    w.cell? ⟨nm.tb (n - 1),1,none⟩=some (.int .i64 ((th H.things n).version:Int))/\w.cell? ⟨nm.tb (n - 1),2,none⟩=some (.int .i64 (ownN (th H.things n).owner))/\w.cell? ⟨nm.tb (n - 1),3,none⟩=some (.bool (th H.things n).gone) /\
    w.cell? ⟨nm.tb (n - 1),4,none⟩=some (.bool (th H.things n).fresh)/\w.cell? ⟨nm.tb (n - 1),5,none⟩=some (.bool (th H.things n).kept)/\(∀i,i<6->w.frozen? ⟨nm.tb (n - 1),i,none⟩=false)/\nm.tb (n - 1)<w.heap.size:=by
  have hb:=h.thing (i:=n - 1) (by omega)
  rw[show n - 1+1=n by omega] at hb
  have hp:OwnL rVal w base (nm.fv (n - 1)) (th H.things (n - 1+1)).fields:=h.part (.flds (n - 1)) (by show n - 1<_;omega)
  rw[show n - 1+1=n by omega] at hp
  refine⟨?_,(hb 1 (by omega)).1,(hb 2 (by omega)).1,(hb 3 (by omega)).1,(hb 4 (by omega)).1,(hb 5 (by omega)).1,λi hi=>(hb i hi).2,hb.lt (by omega)⟩
  obtain⟨a,c,e,hc1,hc2⟩:=hp.shape
  refine⟨a,c,e,hc1,hc2,by rw[(hb 0 (by omega)).1];show some (nm.fv (n - 1))=_;rw[e],λk hk=>?_⟩
  rw[e] at hp
  obtain⟨g,ea,_,_,hg,hcell,hfz⟩:=hp.at hk
  have hr:roleR B nm (.flds (n - 1))=some g:=by show (nm.fv (n - 1)).ownBlock=_;rw[e,ea];rfl
  refine⟨g,ea,hg,λeB=>?_,λi=>?_,?_,?_,hfz⟩
  · have:=h.apart (.flds (n - 1)) .box g (by show n - 1<_;omega) trivial hr (by rw[eB];rfl)
    cases this
  · by_cases hi:i<H.things.length
    · refine .inl λe2=>?_
      have:=h.apart (.flds (n - 1)) (.thing i) g (by show n - 1<_;omega) hi hr (by rw[e2];rfl)
      cases this
    · exact .inr (by omega)
  · have:=hcell 0 (by show 0<2;omega)
    exact this
  · have:=hcell 1 (by show 1<2;omega)
    exact this
end Go.Proofs.Ytbeilcaadpopmab
namespace Go.Proofs.Ytbeilcaadpopmab
open Go.RowKit Go.Maps
theorem Rmem.cD {base B:Nat} {w:World} {nm:Rn} {H:Hall} (h:Rmem base w B nm H) {t:Nat} (ht:t<4) :
    w.cell? ⟨B,34+t * 12,none⟩=some (.bool (H.deals t).isOpen)/\w.cell? ⟨B,34+t * 12+9,none⟩=some (nm.rv t)/\w.cell? ⟨B,34+t * 12+10,none⟩=some (nm.ov t)/\w.cell? ⟨B,34+t * 12+11,none⟩=some (nm.cv t)/\(∀q,q<12->w.frozen? ⟨B,34+t * 12+q,none⟩=false):=by
  have hb:=h.box
  refine⟨?_,?_,?_,?_,λq hq=>(hb _ (by omega)).2⟩
  · rw[(hb _ (by omega)).1,show 34+t * 12=34+t * 12+0 by omega,hallC_deal nm H ht (by omega)];rfl
  · rw[(hb _ (by omega)).1,hallC_deal nm H ht (by omega)];rfl
  · rw[(hb _ (by omega)).1,hallC_deal nm H ht (by omega)];rfl
  · rw[(hb _ (by omega)).1,hallC_deal nm H ht (by omega)];rfl
theorem Rmem.cR {base B:Nat} {w:World} {nm:Rn} {H:Hall} (h:Rmem base w B nm H) {t r:Nat} (ht:t<4) (hr:r<4) :
    w.cell? ⟨B,2+t * 8+r * 2,none⟩=some (.int .i64 (H.regs t r).k)/\w.cell? ⟨B,2+t * 8+r * 2+1,none⟩=some (.int .i64 (H.regs t r).n):=by
  have hb:=h.box
  exact⟨by rw[(hb _ (by omega)).1,(hallC_reg nm H ht hr).1],by rw[(hb _ (by omega)).1,(hallC_reg nm H ht hr).2]⟩
theorem Rmem.lt {base B:Nat} {w:World} {nm:Rn} {H:Hall} (h:Rmem base w B nm H):B<w.heap.size:=h.box.lt (by omega)
theorem hallC_setReg (nm:Rn) (H:Hall) {t a:Nat} (ht:t<4) (ha:a<4) (v:V) (i:Nat):insL (hallC nm H) (2+t * 8+a * 2) (rVal.enc v) i=hallC nm { H with regs:=put2 H.regs t a v } i:=by
  have hl:(rVal.enc v).length=2:=rfl
  unfold insL
  rw[hl]
  split
  · rename_i h
    have h2:=hallC_reg nm { H with regs:=put2 H.regs t a v } ht ha
    dsimp only at h2
    have e:put2 H.regs t a v t a=v:=by simp[put2]
    rw[e] at h2
    rcases (show i=2+t * 8+a * 2\/i=2+t * 8+a * 2+1 by omega) with rfl|rfl
    · rw[h2.1,Nat.sub_self];rfl
    · rw[h2.2,show 2+t * 8+a * 2+1 - (2+t * 8+a * 2)=1 by omega];rfl
  · rename_i h
    unfold hallC
    by_cases h0:i=0
    · simp[h0]
    by_cases h1:i=1
    · simp[h1]
    by_cases h2:i<34
    · have e:put2 H.regs t a v ((i - 2) / 8) ((i - 2) % 8 / 2)=H.regs ((i - 2) / 8) ((i - 2) % 8 / 2):=by
        unfold put2
        rw[if_neg (by omega)]
      simp only [h0,h1,h2,if_false,if_true,e]
    · simp[h0,h1,h2]
theorem Rmem.setReg {base B:Nat} {w w':World} {nm:Rn} {H:Hall} (h:Rmem base w B nm H) {t a:Nat} (ht:t<4) (ha:a<4) (v:V) (hc:Chg (λk=>k=B) w w') (hb:BoxN 84 w' B (insL (hallC nm H) (2+t * 8+a * 2) (rVal.enc v))) :
    Rmem base w' B nm { H with regs:=put2 H.regs t a v }/\WentR w w' B H.things.length H.things.length nm nm :=
  h.boxOnly (H':={ H with regs:=put2 H.regs t a v }) hc (hb.congr λi _=>hallC_setReg nm H ht ha v i) rfl (λ_=>⟨rfl,rfl,rfl⟩)
def regsL (s:Nat->V):List Value:=(List.range 8).map λq=>valV (s (q / 2)) (q % 2)
theorem hallC_setRegs (nm:Rn) (H:Hall) {t:Nat} (ht:t<4) (s:Nat->V) (i:Nat):insL (hallC nm H) (2+t * 8) (regsL s) i=hallC nm { H with regs:=put1 H.regs t s } i:=by
  have hl:(regsL s).length=8:=rfl
  unfold insL
  rw[hl]
  split
  · rename_i h
    unfold hallC
    rw[if_neg (by omega),if_neg (by omega),if_pos (by omega)]
    have e1:(i - 2) / 8=t:=by omega
    have e2:(i - 2) % 8=i - (2+t * 8):=by omega
    have e3:(i - 2) % 2=(i - (2+t * 8)) % 2:=by omega
    rw[e1,e2,e3]
    have e4:put1 H.regs t s t=s:=by simp[put1]
    dsimp only
    rw[e4]
    unfold regsL
    rw[List.getD_eq_getElem?_getD,List.getElem?_map,List.getElem?_range (by omega)]
    rfl
  · rename_i h
    unfold hallC
    by_cases h0:i=0
    · simp[h0]
    by_cases h1:i=1
    · simp[h1]
    by_cases h2:i<34
    · have e:put1 H.regs t s ((i - 2) / 8)=H.regs ((i - 2) / 8):=by
        unfold put1
        rw[if_neg (by omega)]
      simp only [h0,h1,h2,if_false,if_true,e]
    · simp[h0,h1,h2]
theorem Rmem.setRegs {base B:Nat} {w w':World} {nm:Rn} {H:Hall} (h:Rmem base w B nm H) {t:Nat} (ht:t<4) (s:Nat->V) (hc:Chg (λk=>k=B) w w') (hb:BoxN 84 w' B (insL (hallC nm H) (2+t * 8) (regsL s))) :
    Rmem base w' B nm { H with regs:=put1 H.regs t s }/\WentR w w' B H.things.length H.things.length nm nm :=
  h.boxOnly (H':={ H with regs:=put1 H.regs t s }) hc (hb.congr λi _=>hallC_setRegs nm H ht s i) rfl (λ_=>⟨rfl,rfl,rfl⟩)
def Rn.deal (nm:Rn) (t:Nat) (rv ov cv:Value):Rn:={ nm with rv:=put1 nm.rv t rv,ov:=put1 nm.ov t ov,cv:=put1 nm.cv t cv }
theorem hallC_deals (nm:Rn) (H:Hall) {t:Nat} (ht:t<4) (d:Deal) (rv ov cv:Value) (i:Nat) (hi:i<84) (h:∀q,q<12->i≠34+t * 12+q):hallC (nm.deal t rv ov cv) { H with deals:=put1 H.deals t d } i=hallC nm H i:=by
  unfold hallC
  by_cases h0:i=0
  · simp[h0]
  by_cases h1:i=1
  · simp[h1,Rn.deal]
  by_cases h2:i<34
  · simp only [h0,h1,h2,if_false,if_true]
  by_cases h3:i<82
  · have hn:(i - 34) / 12≠t:=λe=>h ((i - 34) % 12) (by omega) (by omega)
    have e1:put1 H.deals t d ((i - 34) / 12)=H.deals ((i - 34) / 12):=by simp[put1,hn]
    simp only [h0,h1,h2,h3,if_false,if_true,e1]
    unfold dealC Rn.deal put1
    simp only [hn,if_false]
  · simp only [h0,h1,h2,h3,if_false]
theorem hallC_setDeal (nm:Rn) (H:Hall) {t:Nat} (ht:t<4) (d:Deal) (rv ov cv:Value) (i:Nat) (hi:i<84):insL (hallC nm H) (34+t * 12) (dealL (nm.deal t rv ov cv) d t) i=hallC (nm.deal t rv ov cv) { H with deals:=put1 H.deals t d } i:=by
  have hl:(dealL (nm.deal t rv ov cv) d t).length=12:=by simp[dealL]
  unfold insL
  rw[hl]
  split
  · rename_i h
    obtain⟨q,hq,rfl⟩:∃q,q<12/\i=34+t * 12+q:=⟨i - (34+t * 12),by omega,by omega⟩
    rw[hallC_deal _ _ ht hq]
    have e:put1 H.deals t d t=d:=by simp[put1]
    dsimp only
    rw[e,show 34+t * 12+q - (34+t * 12)=q by omega]
    unfold dealL
    rw[List.getD_eq_getElem?_getD,List.getElem?_map,List.getElem?_range hq]
    rfl
  · rename_i h
    rw[hallC_deals nm H ht d rv ov cv i hi (λq hq e=>h (by omega))]
theorem hallC_setRv (nm:Rn) (H:Hall) {t:Nat} (ht:t<4) (c:Nat × Nat) (rv:Value) (i:Nat) (hi:i<84):ins (hallC nm H) (34+t * 12+9) rv i=hallC (nm.deal t rv (nm.ov t) (nm.cv t)) { H with deals:=put1 H.deals t ((H.deals t).addR c) } i:=by
  unfold ins
  by_cases e:∃q,q<12/\i=34+t * 12+q
  · obtain⟨q,hq,rfl⟩:=e
    rw[hallC_deal _ _ ht hq,hallC_deal _ _ ht hq]
    have e:put1 H.deals t ((H.deals t).addR c) t=(H.deals t).addR c:=by simp[put1]
    dsimp only
    rw[e]
    by_cases h9:q=9
    · subst h9;rw[if_pos rfl];simp[dealC,Rn.deal,put1]
    · rw[if_neg (by omega)];simp[dealC,Rn.deal,put1,Deal.addR,h9]
  · rw[if_neg (λh=>e ⟨9,by omega,h⟩),hallC_deals nm H ht _ rv _ _ i hi (λq hq h=>e ⟨q,hq,h⟩)]
theorem hallC_setOv (nm:Rn) (H:Hall) {t:Nat} (ht:t<4) (c:Nat × Nat) (ov:Value) (i:Nat) (hi:i<84):ins (hallC nm H) (34+t * 12+10) ov i=hallC (nm.deal t (nm.rv t) ov (nm.cv t)) { H with deals:=put1 H.deals t ((H.deals t).addO c) } i:=by
  unfold ins
  by_cases e:∃q,q<12/\i=34+t * 12+q
  · obtain⟨q,hq,rfl⟩:=e
    rw[hallC_deal _ _ ht hq,hallC_deal _ _ ht hq]
    have e:put1 H.deals t ((H.deals t).addO c) t=(H.deals t).addO c:=by simp[put1]
    dsimp only
    rw[e]
    by_cases h9:q=10
    · subst h9;rw[if_pos rfl];simp[dealC,Rn.deal,put1]
    · rw[if_neg (by omega)];simp[dealC,Rn.deal,put1,Deal.addO,h9]
  · rw[if_neg (λh=>e ⟨10,by omega,h⟩),hallC_deals nm H ht _ _ ov _ i hi (λq hq h=>e ⟨q,hq,h⟩)]
theorem hallC_setCv (nm:Rn) (H:Hall) {t:Nat} (ht:t<4) (c:Nat × Nat × V) (cv:Value) (i:Nat) (hi:i<84):ins (hallC nm H) (34+t * 12+11) cv i=hallC (nm.deal t (nm.rv t) (nm.ov t) cv) { H with deals:=put1 H.deals t ((H.deals t).addC c) } i:=by
  unfold ins
  by_cases e:∃q,q<12/\i=34+t * 12+q
  · obtain⟨q,hq,rfl⟩:=e
    rw[hallC_deal _ _ ht hq,hallC_deal _ _ ht hq]
    have e:put1 H.deals t ((H.deals t).addC c) t=(H.deals t).addC c:=by simp[put1]
    dsimp only
    rw[e]
    by_cases h9:q=11
    · subst h9;rw[if_pos rfl];simp[dealC,Rn.deal,put1]
    · rw[if_neg (by omega)]
      have:q<11:=by omega
      simp only [dealC,Rn.deal,put1,Deal.addC,if_true]
      rcases (show q<9\/q=9\/q=10 by omega) with h|rfl|rfl
      · simp[h]
      · simp
      · simp
  · rw[if_neg (λh=>e ⟨11,by omega,h⟩),hallC_deals nm H ht _ _ _ cv i hi (λq hq h=>e ⟨q,hq,h⟩)]
theorem hallC_setGo (nm:Rn) (H:Hall) (b:Bool) (i:Nat) (hi:i<84):ins (hallC nm H) 82 (.bool b) i=hallC nm { H with going:=b } i:=by
  unfold ins hallC
  by_cases h0:i=0
  · simp[h0]
  by_cases h1:i=1
  · simp[h1]
  by_cases h2:i<34
  · have:i≠82:=by omega
    simp only [h0,h1,h2,this,if_false,if_true]
  by_cases h3:i<82
  · have:i≠82:=by omega
    simp only [h0,h1,h2,h3,this,if_false,if_true]
  · simp only [h0,h1,h2,h3,if_false]
    split <;> rfl
theorem hallC_setLeft (nm:Rn) (H:Hall) (x:Int) (i:Nat) (hi:i<84):ins (hallC nm H) 83 (.int .i64 x) i=hallC nm { H with left:=x } i:=by
  unfold ins hallC
  by_cases h0:i=0
  · simp[h0]
  by_cases h1:i=1
  · simp[h1]
  by_cases h2:i<34
  · have:i≠83:=by omega
    simp only [h0,h1,h2,this,if_false,if_true]
  by_cases h3:i<82
  · have:i≠83:=by omega
    simp only [h0,h1,h2,h3,this,if_false,if_true]
  by_cases h4:i=82
  · have:i≠83:=by omega
    simp only [h0,h1,h2,h3,h4,this,if_false,if_true]
    rfl
  · have:i=83:=by omega
    simp only [h0,h1,h2,h3,h4,this,if_false,if_true]
    rfl
theorem Rmem.setGo {base B:Nat} {w:World} {nm:Rn} {H:Hall} (h:Rmem base w B nm H) (b:Bool) :
    Rmem base (w.setCell ⟨B,82,none⟩ (.bool b)) B nm { H with going:=b }/\WentR w (w.setCell ⟨B,82,none⟩ (.bool b)) B H.things.length H.things.length nm nm :=
  h.boxOnly (H':={ H with going:=b }) (Chg.set _ _ _ _ rfl) ((h.box.set (o:=82) (by omega) _).congr λi hi=>hallC_setGo nm H b i hi) rfl (λ_=>⟨rfl,rfl,rfl⟩)
theorem Rmem.setLeft {base B:Nat} {w:World} {nm:Rn} {H:Hall} (h:Rmem base w B nm H) (x:Int) :
    Rmem base (w.setCell ⟨B,83,none⟩ (.int .i64 x)) B nm { H with left:=x }/\WentR w (w.setCell ⟨B,83,none⟩ (.int .i64 x)) B H.things.length H.things.length nm nm :=
  h.boxOnly (H':={ H with left:=x }) (Chg.set _ _ _ _ rfl) ((h.box.set (o:=83) (by omega) _).congr λi hi=>hallC_setLeft nm H x i hi) rfl (λ_=>⟨rfl,rfl,rfl⟩)
theorem Rmem.endDeal {base B:Nat} {w w':World} {nm:Rn} {H:Hall} (h:Rmem base w B nm H) {t:Nat} (ht:t<4) (d:Deal) (hd:d.reads=[]/\d.owned=[]/\d.changes=[]) (hc:Chg (λk=>k=B) w w')
    (hb:BoxN 84 w' B (insL (hallC nm H) (34+t * 12) (dealL (nm.deal t (.slice none 0 0) (.slice none 0 0) (.slice none 0 0)) d t))) :
    Rmem base w' B (nm.deal t (.slice none 0 0) (.slice none 0 0) (.slice none 0 0)) { H with deals:=put1 H.deals t d }/\WentR w w' B H.things.length H.things.length nm (nm.deal t (.slice none 0 0) (.slice none 0 0) (.slice none 0 0)):=by
  refine h.newDeal ht d _ _ _ (hc.mono λk _ e=>.inl e) (hb.congr λi hi=>hallC_setDeal nm H ht d _ _ _ i hi) ?_ ?_ ?_ (.inr λk e=>by cases e) (.inr λk e=>by cases e) (.inr λk e=>by cases e) (λk _ e=>by cases e) (λk _ e=>by cases e) (λk _ e=>by cases e)
  · rw[hd.1];exact OwnL.nil _ _ _
  · rw[hd.2.1];exact OwnL.nil _ _ _
  · rw[hd.2.2];exact OwnL.nil _ _ _
end Go.Proofs.Ytbeilcaadpopmab
namespace Go.Proofs.Ytbeilcaadpopmab
open Go.RowKit Go.Maps
def WalkOk (P:Nat->Prop) (m:Nat):Prop:=∀(base:Nat) (w:World) (B:Nat) (nm:Rn) (H:Hall) (h:Rmem base w B nm H) (v:V) (hm:H.things.length - keptN H.things<=m) (hs:Shut6 P H.things) (hv:v.id≠0->P v.id),
    Calls Try.prog 102 #[.pointer (some ⟨B,0,none⟩),.agg #[.int .i64 v.k,.int .i64 v.n]] w (RetW base w B nm H [v.id])
theorem keptN_big {base B:Nat} {w:World} {nm:Rn} {H:Hall} (h:Rmem base w B nm H):keptN H.things<=1000000:=by
  obtain⟨_,_,_,_,_,h6,_⟩:=h.tv
  exact Nat.le_trans (keptN_le _) h6
theorem retW_none {base B:Nat} {w w':World} {nm:Rn} {H:Hall} (h:Rmem base w B nm H) (hb:Below w.heap.size w w') {r:Nat} (hr:r≠0->(th H.things r).kept=true):RetW base w B nm H [r] (.returned (.int .i64 0)) w' :=
  ⟨H.things,0,rfl,h.below hb,(WentR.refl w B _ nm).then hb,WalkR.none hr,rfl⟩
set_option maxRecDepth 100000 in
set_option maxHeartbeats 2000000 in
theorem walk_step (P:Nat->Prop) (m:Nat) (ih:∀m',m=m' + 1->WalkOk P m'):WalkOk P m:=by
  intro base w B nm H h v hm hs hv
  have HM:=Lib.hid h
  have hB:=h.lt
  clear h
  cases v with
  | num n =>
    show Calls Try.prog 102 #[.pointer (some ⟨B,0,none⟩),.agg #[.int .i64 0,.int .i64 n]] w _
    clear hm hs hv ih
    go_enter Try.func102,Try.ntmps102
    go_wp2_with fail
    go_ret
    exact retW_none HM.out (by ((repeat first|exact bR _ _|with_reducible first|refine bN ?_|refine bD ?_|refine bA ?_ ?_|refine bS ?_ ?_);all_goals first|exact Nat.le_refl _|(simp;done)|omega|(simp;omega))) (λh=>absurd rfl h)
  | ref i =>
    show Calls Try.prog 102 #[.pointer (some ⟨B,0,none⟩),.agg #[.int .i64 1,.int .i64 (i:Int)]] w _
    by_cases hi0:i=0
    · subst hi0
      clear hm hs hv ih
      go_enter Try.func102,Try.ntmps102
      go_wp2_with fail
      go_ret
      exact retW_none HM.out (by ((repeat first|exact bR _ _|with_reducible first|refine bN ?_|refine bD ?_|refine bA ?_ ?_|refine bS ?_ ?_);all_goals first|exact Nat.le_refl _|(simp;done)|omega|(simp;omega))) (λh=>absurd rfl h)
    · have hP : P i := hv hi0
      obtain⟨o1,o2⟩:=hs.inn i hP
      have HTH:Hid (∀W,Below w.heap.size w W->Calls Try.prog 83 #[.pointer (some ⟨B,0,none⟩),.int .i64 (i:Int)] W (λe w'=>e = .returned (.pointer (some ⟨nm.tb (i - 1),0,none⟩))/\W=w')):=λW hW=>thing_any (HM.out.below hW) o1 o2
      obtain⟨_,_,_,_,_,t5,tz,htl⟩:=HM.out.cT o1 o2
      have hne:((i:Int) == 0)=false:=by simp;omega
      obtain⟨T,hT⟩:∃T,T=nm.tb (i - 1):=⟨_,rfl⟩
      rw[<- hT] at t5 htl HTH
      have tz5:w.frozen? ⟨T,5,none⟩=false:=by rw[hT];exact tz 5 (by omega)
      have HT:=Lib.hid hT
      clear tz hT
      cases hk:(th H.things i).kept with
      | true =>
        rw[hk] at t5
        have HK:=Lib.hid hk
        clear hk hm hs hv ih hP o1 o2
        go_enter Try.func102,Try.ntmps102
        go_wp2_with (go_at_call 83;refine (HTH.out _ (by ((repeat first|exact bR _ _|with_reducible first|refine bN ?_|refine bD ?_|refine bA ?_ ?_|refine bS ?_ ?_);all_goals first|exact Nat.le_refl _|(simp;done)|omega|(simp;omega)))).mono ?_;rintro e _ ⟨rfl,rfl⟩)
        go_ret
        exact retW_none HM.out (by ((repeat first|exact bR _ _|with_reducible first|refine bN ?_|refine bD ?_|refine bA ?_ ?_|refine bS ?_ ?_);all_goals first|exact Nat.le_refl _|(simp;done)|omega|(simp;omega))) (λ_=>HK.out)
      | false =>
        rw[hk] at t5
        have hlt:=keptN_lt o1 o2 hk
        obtain⟨m',rfl⟩:∃m',m=m' + 1:=⟨m - 1,by omega⟩
        have HIH:=Lib.hid (ih m' rfl)
        have HK:=Lib.hid hk;have HO1:=Lib.hid o1;have HO2:=Lib.hid o2;have HS:=Lib.hid hs;have HP:=Lib.hid hP;have HMM:=Lib.hid hm
        clear hk hm hs hv ih hP o1 o2 hlt
        go_enter Try.func102,Try.ntmps102
        go_wp2_with (go_at_call 83;refine (HTH.out _ (by ((repeat first|exact bR _ _|with_reducible first|refine bN ?_|refine bD ?_|refine bA ?_ ?_|refine bS ?_ ?_);all_goals first|exact Nat.le_refl _|(simp;done)|omega|(simp;omega)))).mono ?_;rintro e _ ⟨rfl,rfl⟩)
        obtain⟨q1,q2⟩:=HM.out.mark HO1.out HO2.out
        rw[<- HT.out] at q1 q2
        have HA:=Lib.hid (show Below (w.setCell ⟨T,5,none⟩ (.bool true)).heap.size (w.setCell ⟨T,5,none⟩ (.bool true)) ((w.setCell ⟨T,5,none⟩ (.bool true)).alloc (.cells #[.int .i64 1,.int .i64 (i:Int)] 36)) from (by ((repeat first|exact bR _ _|with_reducible first|refine bN ?_|refine bD ?_|refine bA ?_ ?_|refine bS ?_ ?_);all_goals first|exact Nat.le_refl _|(simp;done)|omega|(simp;omega))))
        have q3:=q1.below HA.out
        have q4:=q2.then HA.out
        obtain⟨w2,hw2⟩:∃w2,w2=(w.setCell ⟨T,5,none⟩ (.bool true)).alloc (.cells #[.int .i64 1,.int .i64 (i:Int)] 36):=⟨_,rfl⟩
        rw[<- hw2] at q3 q4 ⊢
        have HM2:=Lib.hid q3;have HW2:=Lib.hid q4
        obtain⟨l0,hl0⟩:∃l0,l0=turnT H.things i (setK true):=⟨_,rfl⟩
        rw[<- hl0] at HM2
        have HL0:Hid (l0.length=H.things.length/\(∀j,(th l0 j).fields=(th H.things j).fields)/\keptN l0=keptN H.things+1):=⟨by rw[hl0];exact len_turn _ _ _,λj=>by rw[hl0];exact turnK_fields _ _ _ HO1.out j,by rw[hl0];exact keptN_turn HO1.out HO2.out HK.out⟩
        have HLE:=Lib.hid hl0
        obtain⟨fs,hfs⟩:∃fs,fs=(th H.things i).fields:=⟨_,rfl⟩
        have hf6:fs.length<=6:=by rw[hfs];exact HS.out.f6 i
        have HFS:=Lib.hid hfs
        clear q1 q2 q3 q4 hw2 hl0 hfs HTH HA t5 tz5 hne
        go_loopw [6,7] (λn i' wr=>∃(k c:Nat) (l:List Thing),k<=fs.length/\i' = .int .i64 (k:Int)/\n = .int .i64 ((1+c:Nat):Int)/\Rmem base wr B nm { H with things:=l }/\WentR w2 wr B H.things.length H.things.length nm nm/\WalkR l0 ((fs.take k).map V.id) l/\keptN l=keptN H.things+1+c) (λ_ i' _=>fs.length - (intOf i').toNat)
        case atStart=>exact⟨0,0,l0,Nat.zero_le _,rfl,rfl,HM2.out,WentR.refl _ _ _ _,by simp only [List.take_zero,List.map_nil];exact WalkR.refl _,by rw[HL0.out.2.2]⟩
        case round =>
          obtain⟨k,c,l,hk,rfl,rfl,hM3,hW3,hR3,hN3⟩:=hrel
          have HM3:=Lib.hid hM3;have HW3:=Lib.hid hW3;have HR3:=Lib.hid hR3;have HN3:=Lib.hid hN3
          have hbig:=keptN_big hM3
          dsimp only at hbig
          have hc:1+c<=1000000:=by omega
          clear hM3 hW3 hR3 hN3 hbig
          have hl:l.length=H.things.length:=HR3.out.len.trans HL0.out.1
          have hff:∀j,(th l j).fields=(th H.things j).fields:=λj=>(HR3.out.fields j).trans (HL0.out.2.1 j)
          have HLL:Hid (l.length=H.things.length):=hl
          have HFF:Hid (∀j,(th l j).fields=(th H.things j).fields):=hff
          obtain⟨⟨fa,fc,hfv,hfc1,hfc2,t0,hfld⟩,_,_,_,_,_,_,htl3⟩:=HM3.out.cT (n:=i) HO1.out (by dsimp only;rw[hl];exact HO2.out)
          dsimp only at hfv hfc1 t0 hfld
          simp only [hff,<- HFS.out] at hfv hfc1 t0 hfld
          rw[<- HT.out] at t0 htl3
          have hB3:=HM3.out.lt
          clear hfv hl
          have hcc:((1+c:Nat):Int)=1+(c:Int):=by omega
          rw[hcc]
          by_cases hlt:k<fs.length
          · obtain⟨g,rfl,hg,_,_,d0,d1,_⟩:=hfld k hlt
            obtain⟨v,hv⟩:∃v,v=fs[k]:=⟨_,rfl⟩
            rw[<- hv] at d0 d1
            have hvm:v ∈ (th H.things i).fields:=by rw[<- HFS.out,hv];exact List.getElem_mem hlt
            have hsh:Shut6 P l:=HS.out.of HLL.out HFF.out
            have hvp:v.id≠0->P v.id:=HS.out.fld i HP.out v hvm
            have hmm:l.length - keptN l<=m':=by have:=HMM.out;have:=HN3.out;rw[HLL.out];omega
            have HCALL:Hid (∀W,Below wr.heap.size wr W->Calls Try.prog 102 #[.pointer (some ⟨B,0,none⟩),.agg #[.int .i64 v.k,.int .i64 v.n]] W (RetW base W B nm { H with things:=l } [v.id])):=λW hW=>HIH.out base W B nm { H with things:=l } (HM3.out.below hW) v hmm hsh hvp
            have HTK:Hid ((fs.take (k+1)).map V.id=(fs.take k).map V.id++[v.id]):=by
              rw[Hid,List.take_add_one,List.getElem?_eq_getElem hlt,<- hv]
              simp
            obtain⟨vk,hvk⟩:∃vk,vk=v.k:=⟨_,rfl⟩
            obtain⟨vn,hvn⟩:∃vn,vn=v.n:=⟨_,rfl⟩
            rw[<- hvk] at d0 HCALL;rw[<- hvn] at d1 HCALL
            have hkk:(k:Int)<(fs.length:Int):=by omega
            clear hfld hv hvm hsh hvp hmm hvk hvn hff
            go_wp2_with (go_at_call 102;refine (HCALL.out _ (by ((repeat first|exact bR _ _|with_reducible first|refine bN ?_|refine bD ?_|refine bA ?_ ?_|refine bS ?_ ?_);all_goals first|exact Nat.le_refl _|(simp;done)|omega|(simp;omega)))).mono ?_;rintro e w6 ⟨l6,c6,rfl,hM6,hW6,hR6,hN6⟩;have HM6:=Lib.hid hM6;have HW6:=Lib.hid hW6;have HR6:=Lib.hid hR6;have HN6:=Lib.hid hN6;have hbig6:=keptN_big hM6;(try dsimp only at hbig6);have hc6:1+c+c6<=1000000:=(by have:=HN3.out;(try dsimp only at hN6);omega);clear hM6 hW6 hR6 hN6 hbig6)
            go_roundw
            case rel =>
              refine⟨k+1,c+c6,l6,by omega,by go_num,by go_num,HM6.out,?_,?_,?_⟩
              · refine HW3.out.trans (WentR.after ?_ (by ((repeat first|exact bR _ _|with_reducible first|refine bN ?_|refine bD ?_|refine bA ?_ ?_|refine bS ?_ ?_);all_goals first|exact Nat.le_refl _|(simp;done)|omega|(simp;omega))) λj hj=>(HM3.out.has_lt j ?_).2)
                · have:=HW6.out;(try dsimp only at this);rw[HLL.out] at this;exact this
                · (try dsimp only);rw[HLL.out];exact hj
              · rw[HTK.out];exact HR3.out.trans HR6.out
              · have:=HN6.out;have:=HN3.out;(try dsimp only at *);omega
            case measure=>simp[intOf];omega
          · clear hfld hff
            go_wp2_with fail
            go_ret
            refine⟨l,1+c,by rw[hcc];rfl,HM3.out,HW2.out.trans HW3.out,?_,by have:=HN3.out;omega⟩
            show WalkR H.things [i] l
            refine WalkR.cons HO1.out HO2.out ?_
            have hr:=HR3.out
            rw[List.take_of_length_le (by omega)] at hr
            rw[<- HLE.out,<- HFS.out]
            exact hr
theorem walk_any (P:Nat->Prop):∀m,WalkOk P m
  | 0=>walk_step P 0 λm' hm'=>by omega
  | m+1=>walk_step P (m+1) λm' hm'=>by
    obtain rfl:m' = m:=by omega
    exact walk_any P m'
end Go.Proofs.Ytbeilcaadpopmab
namespace Go.Proofs.Ytbeilcaadpopmab
open Go.RowKit Go.Maps
theorem deal_box (w:World):BoxN 12 (w.alloc (.cells #[.bool false,.int .i64 0,.int .i64 0,.int .i64 0,.int .i64 0,.int .i64 0,.int .i64 0,.int .i64 0,.int .i64 0,.slice none 0 0,.slice none 0 0,.slice none 0 0] 123)) w.heap.size (λi=>(#[.bool false,.int .i64 0,.int .i64 0,.int .i64 0,.int .i64 0,.int .i64 0,.int .i64 0,.int .i64 0,.int .i64 0,.slice none 0 0,.slice none 0 0,.slice none 0 0]:Array Value).getD i undef):=by
  have h:=BoxN.alloc w #[.bool false,.int .i64 0,.int .i64 0,.int .i64 0,.int .i64 0,.int .i64 0,.int .i64 0,.int .i64 0,.int .i64 0,.slice none 0 0,.slice none 0 0,.slice none 0 0] 123
  exact h
theorem backF_th (l:List Thing) (cs:List (Nat × Nat × V)) (n:Nat):(th (backF l cs) n).fields.length=(th l n).fields.length:=by
  have:=lens_backF l cs
  unfold lens at this
  have e:∀l:List Thing,(th l n).fields.length=(l.map λx=>x.fields.length).getD (n - 1) 0:=λl=>by
    unfold th
    rw[List.getD_eq_getElem?_getD,List.getD_eq_getElem?_getD,List.getElem?_map]
    cases l[n - 1]? <;> rfl
  rw[e,e,this]
theorem backF_len (l:List Thing) (cs:List (Nat × Nat × V)):(backF l cs).length=l.length:=by
  have:=congrArg List.length (lens_backF l cs)
  rwa [lens_len,lens_len] at this
theorem freeF_len (l:List Thing) (cs:List (Nat × Nat)):(freeF l cs).length=l.length:=by
  have:=congrArg List.length (lens_freeF cs l)
  rwa [lens_len,lens_len] at this
theorem below_chg {n:Nat} {w w1 w2:World} (h:Below n w w1) (k:Chg (λi=>i=n) w1 w2) (hn:n<=w1.heap.size):Below n w w2 :=
  ⟨k.os.trans h.os,k.tape.trans h.tape,k.output.trans h.output,Nat.le_trans h.size k.size,λi hi=>(k.block i (Nat.lt_of_lt_of_le hi hn) (by omega)).trans (h.block i hi)⟩
theorem WentR.boxN {N:Nat} {w w':World} {B K K':Nat} {nm nm':Rn} (h:WentR w w' B K K' nm nm') {X:Nat} {c:Nat->Value} (hb:BoxN N w X c) (hN:0<N) (hn:¬ HasR B K nm X):BoxN N w' X c:=hb.keep (h.chg.block X (hb.lt hN) hn)
theorem freeF_append (l:List Thing) (a b:List (Nat × Nat)):freeF l (a++b)=freeF (freeF l a) b:=by
  induction a generalizing l with
  | nil=>rfl
  | cons c a ih=>exact ih _
theorem thingC_free (f:Value) (x:Thing):∀i,i<6->thingC f (freeT x) i=ins (thingC f x) 2 (.int .i64 (-1)) i:=λi hi=>by
  rcases (show i=0\/i=1\/i=2\/i=3\/i=4\/i=5 by omega) with rfl|rfl|rfl|rfl|rfl|rfl <;> rfl
theorem Rmem.free {base B:Nat} {w:World} {nm:Rn} {H:Hall} (h:Rmem base w B nm H) {n:Nat} (h1:1<=n) (hn:n<=H.things.length) :
    Rmem base (w.setCell ⟨nm.tb (n - 1),2,none⟩ (.int .i64 (-1))) B nm { H with things:=turnT H.things n freeT }/\WentR w (w.setCell ⟨nm.tb (n - 1),2,none⟩ (.int .i64 (-1))) B H.things.length H.things.length nm nm:=by
  refine h.thingTurn h1 hn freeT (λ_=>rfl) (Chg.set _ _ _ _ rfl) ?_
  have hb:=h.thing (i:=n - 1) (by omega)
  rw[show n - 1+1=n by omega] at hb
  exact (hb.set (o:=2) (by omega) _).congr λi hi=>(thingC_free _ _ i hi).symm
theorem dealL_zero {nm:Rn} {t:Nat}:Value.agg (dealL (nm.deal t (.slice none 0 0) (.slice none 0 0) (.slice none 0 0)) noDeal t).toArray = .agg #[.bool false,.int .i64 0,.int .i64 0,.int .i64 0,.int .i64 0,.int .i64 0,.int .i64 0,.int .i64 0,.int .i64 0,.slice none 0 0,.slice none 0 0,.slice none 0 0]:=by
  have e1:(nm.deal t (.slice none 0 0) (.slice none 0 0) (.slice none 0 0)).rv t = .slice none 0 0:=by simp[Rn.deal,put1]
  have e2:(nm.deal t (.slice none 0 0) (.slice none 0 0) (.slice none 0 0)).ov t = .slice none 0 0:=by simp[Rn.deal,put1]
  have e3:(nm.deal t (.slice none 0 0) (.slice none 0 0) (.slice none 0 0)).cv t = .slice none 0 0:=by simp[Rn.deal,put1]
  have e:dealL (nm.deal t (.slice none 0 0) (.slice none 0 0) (.slice none 0 0)) noDeal t=[.bool false,.int .i64 0,.int .i64 0,.int .i64 0,.int .i64 0,.int .i64 0,.int .i64 0,.int .i64 0,.int .i64 0,.slice none 0 0,.slice none 0 0,.slice none 0 0]:=by
    show [dealC _ noDeal t 0,dealC _ noDeal t 1,dealC _ noDeal t 2,dealC _ noDeal t 3,dealC _ noDeal t 4,dealC _ noDeal t 5,dealC _ noDeal t 6,dealC _ noDeal t 7,dealC _ noDeal t 8,(nm.deal t (.slice none 0 0) (.slice none 0 0) (.slice none 0 0)).rv t,(nm.deal t (.slice none 0 0) (.slice none 0 0) (.slice none 0 0)).ov t,(nm.deal t (.slice none 0 0) (.slice none 0 0) (.slice none 0 0)).cv t]=_
    rw[e1,e2,e3]
    rfl
  rw[e]
set_option maxRecDepth 100000 in
set_option maxHeartbeats 1000000 in
theorem undone_any (base:Nat) (w:World) (B:Nat) (nm:Rn) (H:Hall) (h:Rmem base w B nm H) (t:Nat) (ht:t<4) (ok:UndOk H t) :
    Calls Try.prog 84 #[.pointer (some ⟨B,0,none⟩),.int .i64 (t:Int)] w (RetH base w B nm H (H.undone t) (.tuple #[])):=by
  have HBX:=Lib.hid h.box
  have HM:=Lib.hid h;have HOK:=Lib.hid ok
  have i1:(t:Int)<4:=by omega
  clear h ok
  go_enter Try.func84,Try.ntmps84
  have HZ:=Lib.hid (deal_box w)
  obtain⟨ra,rc,er,_,_⟩:=OwnL.shape (HM.out.part (.reads t) ht)
  obtain⟨oa,oc,eo,_,_⟩:=OwnL.shape (HM.out.part (.owned t) ht)
  obtain⟨ca,cc,ec,hcc1,hcc2⟩:=OwnL.shape (HM.out.part (.changes t) ht)
  have HONE:Hid ((dealL nm (H.deals t) t).toArray.all (·.oneCell')=true):=dealL_one (by rw[er];rfl) (by rw[eo];rfl) (by rw[ec];rfl)
  have HDL:Hid ((dealL nm (H.deals t) t).toArray.size=12):=by simp[Hid,dealL]
  go_upto_region 1 with (first|(refine wpl_storeN rfl _ _ _ rfl w.heap.size 0 (dealL nm (H.deals t) t).toArray rfl rfl (λi=>(#[.bool false,.int .i64 0,.int .i64 0,.int .i64 0,.int .i64 0,.int .i64 0,.int .i64 0,.int .i64 0,.int .i64 0,.slice none 0 0,.slice none 0 0,.slice none 0 0]:Array Value).getD i undef) HZ.out (by rw[HDL.out];exact Nat.le_refl _) (Try.sizeDeal.trans (by rw[HDL.out])) HONE.out ?_;rw[List.toList_toArray];intro hbd hcd;have HBD:=Lib.hid hbd;have HCD:=Lib.hid hcd;clear hbd hcd)|refine wpl_loadN rfl _ _ rfl B (34+t * 12) rfl (hallC nm H) HBX.out (dealL nm (H.deals t) t) (by simp[dealL];omega) (hallC_dealL nm H ht) _ Try.underlying123 rfl (Try.sizeDeal.trans (by simp[dealL])) ?_)
  have HB0:Hid (∀arr ty,Below w.heap.size w (w.alloc (.cells arr ty))):=λarr ty=>(by ((repeat first|exact bR _ _|with_reducible first|refine bN ?_|refine bD ?_|refine bA ?_ ?_|refine bS ?_ ?_);all_goals first|exact Nat.le_refl _|(simp;done)|omega|(simp;omega)))
  generalize hw1:World.setCells _ _ _ _=w1 at HBD HCD ⊢
  have HD1:Hid (BoxN 12 w1 w.heap.size (dealC nm (H.deals t) t)):=HBD.out.congr λi hi=>by
    unfold insL
    rw[if_pos ⟨by omega,by simp[dealL];omega⟩]
    simp[dealL,hi]
  clear hw1 HZ HBX HDL HONE
  have HBW:Hid (Below w.heap.size w w1):=below_chg (HB0.out _ _) HCD.out (by simp)
  have hB:=HM.out.lt
  have HNX:Hid (¬ HasR B H.things.length nm w.heap.size):=HM.out.not_has (Nat.le_refl _)
  have hXw:=HD1.out.lt (by omega)
  obtain⟨X,hX⟩:∃X,X=w.heap.size:=⟨_,rfl⟩
  rw[<- hX] at HD1 HNX hXw hB ⊢
  have HXE:=Lib.hid hX
  clear HCD HB0 hX
  obtain⟨cs,hcs⟩:∃cs,cs=(H.deals t).changes:=⟨_,rfl⟩
  rw[<- hcs] at ec hcc1
  obtain⟨x11,_⟩:=HD1.out 11 (by omega)
  rw[show dealC nm (H.deals t) t 11=nm.cv t from rfl,ec] at x11
  have HEC:=Lib.hid ec;have HER:=Lib.hid er;have HEO:=Lib.hid eo;have HCS:=Lib.hid hcs
  have hul:cs.length<=1000000:=by rw[hcs];exact (show OwnL rChange w base (nm.cv t) (H.deals t).changes from HM.out.part (.changes t) ht).1
  have w1':IntKind.i64.wrap ((cs.length:Int) - 1)=(cs.length:Int) - 1:=IntWalk.i64_in _ (by omega)
  have HM1:=Lib.hid (HM.out.below HBW.out)
  clear ec er eo hcs
  go_wp2_with fail
  go_loopw [5] (λu wr=>∃k:Nat,k<=cs.length/\u = .int .i64 ((k:Int) - 1)/\Rmem base wr B nm { H with things:=backF H.things (cs.drop k) }/\WentR w1 wr B H.things.length H.things.length nm nm) (λu _=>(intOf u+1).toNat)
  case atStart=>exact⟨cs.length,Nat.le_refl _,rfl,by rw[List.drop_length];exact HM1.out,WentR.refl _ _ _ _⟩
  case round =>
    obtain⟨k,hk,rfl,hM2,hW2⟩:=hrel
    have HM2:=Lib.hid hM2;have HW2:=Lib.hid hW2
    clear hM2 hW2 x11
    obtain⟨G,hG⟩:∃G:Hall,G={ H with things:=backF H.things (cs.drop k) }:=⟨_,rfl⟩
    rw[<- hG] at HM2
    have HGL:Hid (G.things.length=H.things.length):=by rw[Hid,hG];exact backF_len _ _
    have HGD:Hid (G.deals=H.deals):=by rw[Hid,hG]
    have HGF:Hid (∀n,(th G.things n).fields.length=(th H.things n).fields.length):=by rw[Hid,hG];exact λn=>backF_th _ _ n
    have HG:=Lib.hid hG
    clear hG
    have hBr:=HM2.out.lt
    have HDX:=Lib.hid (HW2.out.boxN HD1.out (by omega) HNX.out)
    by_cases hk0:k=0
    · subst hk0
      rw[show (((0:Nat):Int) - 1) = -1 from rfl]
      obtain⟨os,hos⟩:∃os,os=(H.deals t).owned:=⟨_,rfl⟩
      obtain⟨Lb,hLb⟩:∃Lb,Lb=backF H.things cs:=⟨_,rfl⟩
      have HMb:Hid (Rmem base wr B nm { H with things:=Lb }):=by have:=HM2.out;rw[HG.out,List.drop_zero] at this;rw[Hid,hLb];exact this
      have HLB:Hid (Lb.length=H.things.length):=by rw[Hid,hLb];exact backF_len _ _
      have HLE:=Lib.hid hLb;have HOS:=Lib.hid hos
      obtain⟨x10,_⟩:=HDX.out 10 (by omega)
      obtain⟨x11,_⟩:=HDX.out 11 (by omega)
      rw[show dealC nm (H.deals t) t 10=nm.ov t from rfl,HEO.out,<- hos] at x10
      rw[show dealC nm (H.deals t) t 11=nm.cv t from rfl,HEC.out] at x11
      clear hos hLb HGL HGD HGF HG HM2
      go_wp2_with fail
      clear x11
      rename World=>wp
      go_loopw [6] (λu wx=>∃k:Nat,k<=os.length/\u = .int .i64 (k:Int)/\Rmem base wx B nm { H with things:=freeF Lb (os.take k) }/\WentR wp wx B H.things.length H.things.length nm nm) (λu _=>os.length - (intOf u).toNat)
      case atStart=>exact⟨0,Nat.zero_le _,rfl,HMb.out,WentR.refl _ _ _ _⟩
      case round =>
        obtain⟨k,hk,rfl,hM3,hW3⟩:=hrel
        have HM3:=Lib.hid hM3;have HW3:=Lib.hid hW3
        clear hM3 hW3 x10
        obtain⟨G,hG⟩:∃G:Hall,G={ H with things:=freeF Lb (os.take k) }:=⟨_,rfl⟩
        rw[<- hG] at HM3
        have HGL:Hid (G.things.length=H.things.length):=by rw[Hid,hG];exact (freeF_len _ _).trans HLB.out
        have HGD:Hid (G.deals=H.deals):=by rw[Hid,hG]
        have HG:=Lib.hid hG
        clear hG
        have hB3:=HM3.out.lt
        have HDY:=Lib.hid (HW3.out.boxN HDX.out (by omega) HNX.out)
        obtain⟨x10,_⟩:=HDY.out 10 (by omega)
        rw[show dealC nm (H.deals t) t 10=nm.ov t from rfl,HEO.out,<- HOS.out] at x10
        by_cases hlt:k<os.length
        · obtain⟨c,hc⟩:∃c,c=os[k]:=⟨_,rfl⟩
          have hin:c ∈ (H.deals t).owned:=by rw[<- HOS.out,hc];exact List.getElem_mem hlt
          obtain⟨o1,o2⟩:=HOK.out.own c hin
          rw[<- HGL.out] at o2
          have hpc:OwnL rSeen wr base (.slice oa os.length oc) os:=by
            have:=HM3.out.part (.owned t) ht
            have e:(G.deals t).owned=os:=by rw[HGD.out];exact HOS.out.symm
            have e2:nm.ov t = .slice oa os.length oc:=by rw[HEO.out,HOS.out]
            rw[<- e2,<- e];exact this
          obtain⟨g,rfl,_,_,hg,hcell,_⟩:=hpc.at hlt
          rw[<- hc] at hcell
          have e0:wr.cell? ⟨g,k * 2,none⟩=some (.int .i64 (c.1:Int)):=hcell 0 (by show 0<2;omega)
          have HTAKE:Hid (freeF Lb (os.take (k+1))=turnT (freeF Lb (os.take k)) c.1 freeT):=by
            rw[Hid,List.take_add_one,List.getElem?_eq_getElem hlt,<- hc,Option.toList_some,freeF_append];rfl
          obtain⟨n,ver⟩:=c
          dsimp only at e0 o1 o2 HTAKE
          obtain⟨_,_,t2,_,_,_,tz,htl⟩:=HM3.out.cT o1 o2
          have HTH:Hid (∀W,Below wr.heap.size wr W->Calls Try.prog 83 #[.pointer (some ⟨B,0,none⟩),.int .i64 (n:Int)] W (λe w'=>e = .returned (.pointer (some ⟨nm.tb (n - 1),0,none⟩))/\W=w')):=λW hW=>thing_any (HM3.out.below hW) o1 o2
          have HTURN:=Lib.hid (HM3.out.free o1 o2)
          have tz2:=tz 2 (by omega)
          obtain⟨T,hT⟩:∃T,T=nm.tb (n - 1):=⟨_,rfl⟩
          rw[<- hT] at t2 tz2 htl HTH HTURN
          have hkk:(k:Int)<(os.length:Int):=by omega
          have hle:os.length<=oc:=by have:=OwnL.shape hpc;obtain⟨_,_,e,h1,_⟩:=this;simp only [Value.slice.injEq] at e;omega
          clear hT tz hcell hpc hin hc o1 o2
          go_wp2_with (go_at_call 83;refine (HTH.out _ (by ((repeat first|exact bR _ _|with_reducible first|refine bN ?_|refine bD ?_|refine bA ?_ ?_|refine bS ?_ ?_);all_goals first|exact Nat.le_refl _|(simp;done)|omega|(simp;omega)))).mono ?_;rintro e _ ⟨rfl,rfl⟩)
          go_roundw
          case rel =>
            refine⟨k+1,by omega,by go_num,?_,?_⟩
            · have h5:=HTURN.out.1
              rw[HG.out] at h5
              rw[HTAKE.out]
              exact h5.below (by ((repeat first|exact bR _ _|with_reducible first|refine bN ?_|refine bD ?_|refine bA ?_ ?_|refine bS ?_ ?_);all_goals first|exact Nat.le_refl _|(simp;done)|omega|(simp;omega)))
            · have h5:=HTURN.out.2
              rw[HGL.out] at h5
              exact (HW3.out.trans h5).then (by ((repeat first|exact bR _ _|with_reducible first|refine bN ?_|refine bD ?_|refine bA ?_ ?_|refine bS ?_ ?_);all_goals first|exact Nat.le_refl _|(simp;done)|omega|(simp;omega)))
          case measure=>simp[intOf];omega
        · have HMd:Hid (Rmem base wr B nm { H with things:=freeF Lb os }):=by have:=HM3.out;rw[HG.out,List.take_of_length_le (by omega)] at this;exact this
          have HWd:Hid (WentR w1 wr B H.things.length H.things.length nm nm):=HW2.out.trans HW3.out
          clear HG HGL HGD HM3
          go_wp2_with fail
          obtain⟨w5,hw5⟩:∃w5,w5=wr.drew:=⟨_,rfl⟩
          have HM5:Hid (Rmem base w5 B nm { H with things:=freeF Lb os }):=by rw[Hid,hw5];exact HMd.out.below (Below.refl _ _).drew
          have HW5:Hid (WentR w1 w5 B H.things.length H.things.length nm nm):=by rw[Hid,hw5];exact HWd.out.then (Below.refl _ _).drew
          have HD5:Hid (BoxN 12 w5 X (dealC nm (H.deals t) t)):=by rw[Hid,hw5];exact HDY.out.keep rfl
          have HL:Hid (w5.rangeAt X 1 (regsL (H.deals t).saved)):=HD5.out.range _ _ (by simp[regsL]) (λj hj=>by
            have hj8:j<8:=by simpa [regsL] using hj
            unfold dealC
            rw[if_neg (by omega),if_pos (by omega)]
            simp[regsL])
          have HBX:=Lib.hid HM5.out.box
          clear x10
          refine still_tail_at 7 (by kernel_rfl) (by kernel_rfl) hw5 ?_;simp only [List.take_succ_cons,List.take_zero,List.drop_succ_cons,List.drop_zero];clear hw5;(repeat (first|(refine still_loadBox rfl _ _ rfl X 1 rfl _ HL.out _ undRegs rfl Try.sizeRegs ?_)|still_step));refine wpStill_nil ?_
          have ho:2+t * 8+(regsL (H.deals t).saved).toArray.size<=84:=by simp[regsL];omega
          have hi:(Try.prog.info? 109).map (·.size)=some (regsL (H.deals t).saved).toArray.size:=Try.sizeRegs.trans (by simp[regsL])
          have h1:(regsL (H.deals t).saved).toArray.all (·.oneCell')=true:=by
            simp only [List.all_toArray,List.all_eq_true,regsL,List.mem_map]
            rintro v ⟨q,_,rfl⟩
            rfl
          refine wpl_storeN rfl 109 _ _ rfl B (2+t * 8) (regsL (H.deals t).saved).toArray rfl rfl _ HBX.out ho hi h1 ?_
          rw[List.toList_toArray]
          intro hbx hcg
          obtain⟨q1,q2⟩:=HM5.out.setRegs ht _ hcg hbx
          obtain⟨w6,hw6⟩:∃w6,w6=w5.setCells B (2+t * 8) (regsL (H.deals t).saved):=⟨_,rfl⟩
          rw[<- hw6] at q1 q2 ⊢
          have HM6:=Lib.hid q1
          have HW6:Hid (WentR w1 w6 B H.things.length H.things.length nm nm):=HW5.out.trans (by have:=q2;(try dsimp only at this);rw[freeF_len,HLB.out] at this;exact this)
          have HBY:=Lib.hid HM6.out.box
          clear hbx hcg q1 q2 hw6 ho hi h1
          go_frame
          go_wp2_with (refine wpl_storeN rfl 123 _ _ rfl B (34+t * 12) (dealL (nm.deal t (.slice none 0 0) (.slice none 0 0) (.slice none 0 0)) noDeal t).toArray rfl dealL_zero.symm _ HBY.out (by simp[dealL];omega) (Try.sizeDeal.trans (by simp[dealL])) (dealL_one (by simp[Rn.deal,put1,Value.oneCell']) (by simp[Rn.deal,put1,Value.oneCell']) (by simp[Rn.deal,put1,Value.oneCell'])) ?_;rw[List.toList_toArray];intro hbx hcg)
          obtain⟨q1,q2⟩:=HM6.out.endDeal ht noDeal ⟨rfl,rfl,rfl⟩ hcg hbx
          refine bodyPost_end (results_none rfl _ _ _) rfl ?_
          refine⟨rfl,nm.deal t (.slice none 0 0) (.slice none 0 0) (.slice none 0 0),?_,?_⟩
          · have e:H.undone t={ H with things:=freeF Lb os,regs:=put1 H.regs t (H.deals t).saved,deals:=put1 H.deals t noDeal }:=by
              unfold Hall.undone
              rw[HLE.out,HOS.out,HCS.out]
            rw[e]
            exact q1
          · have e:(H.undone t).things.length=H.things.length:=undone_len H t
            rw[e]
            have q2':=q2
            (try dsimp only at q2')
            rw[freeF_len,HLB.out] at q2'
            exact (HW6.out.trans q2').after HBW.out λj hj=>(HM.out.has_lt j hj).2
    · obtain⟨j,rfl⟩:∃j,k=j+1:=⟨k - 1,by omega⟩
      have hj:j<cs.length:=by omega
      obtain⟨c,hc⟩:∃c,c=cs[j]:=⟨_,rfl⟩
      have hin:c ∈ (H.deals t).changes:=by rw[<- HCS.out,hc];exact List.getElem_mem hj
      obtain⟨o1,o2,o3⟩:=HOK.out.chg c hin
      rw[<- HGL.out] at o2
      rw[<- HGF.out] at o3
      have hpc:OwnL rChange wr base (.slice ca cs.length cc) cs:=by
        have:=HM2.out.part (.changes t) ht
        have e:(G.deals t).changes=cs:=by rw[HGD.out];exact HCS.out.symm
        rw[<- HEC.out,<- e];exact this
      obtain⟨g,rfl,_,_,hg,hcell,_⟩:=hpc.at hj
      rw[<- hc] at hcell
      have e0:wr.cell? ⟨g,j * 4,none⟩=some (.int .i64 (c.1:Int)):=hcell 0 (by show 0<4;omega)
      have e1:wr.cell? ⟨g,j * 4+1,none⟩=some (.int .i64 (c.2.1:Int)):=hcell 1 (by show 1<4;omega)
      have e2:wr.cell? ⟨g,j * 4+2,none⟩=some (.int .i64 c.2.2.k):=hcell 2 (by show 2<4;omega)
      have e3:wr.cell? ⟨g,j * 4+3,none⟩=some (.int .i64 c.2.2.n):=hcell 3 (by show 3<4;omega)
      have HDROP:Hid (backF H.things (cs.drop j)=setF (backF H.things (cs.drop (j+1))) c.1 c.2.1 c.2.2):=by
        rw[Hid,List.drop_eq_getElem_cons hj,<- hc];rfl
      obtain⟨n,f,v⟩:=c
      dsimp only at e0 e1 e2 e3 o1 o2 o3 HDROP
      obtain⟨⟨fa,fc,hfv,hfc1,hfc2,t0,hfld⟩,_,_,_,_,_,_,htl⟩:=HM2.out.cT o1 o2
      obtain⟨g2,rfl,hg2,hg2B,_,d0,d1,dz⟩:=hfld f o3
      obtain⟨x11,_⟩:=HDX.out 11 (by omega)
      rw[show dealC nm (H.deals t) t 11=nm.cv t from rfl,HEC.out] at x11
      have hXr:X<wr.heap.size:=HDX.out.lt (by omega)
      have HTH:Hid (∀W,Below wr.heap.size wr W->Calls Try.prog 83 #[.pointer (some ⟨B,0,none⟩),.int .i64 (n:Int)] W (λe w'=>e = .returned (.pointer (some ⟨nm.tb (n - 1),0,none⟩))/\W=w')):=λW hW=>thing_any (HM2.out.below hW) o1 o2
      obtain⟨vk,hvk⟩:∃vk,vk=v.k:=⟨_,rfl⟩
      obtain⟨vn,hvn⟩:∃vn,vn=v.n:=⟨_,rfl⟩
      obtain⟨fl,hfl⟩:∃fl,fl=(th G.things n).fields.length:=⟨_,rfl⟩
      obtain⟨T,hT⟩:∃T,T=nm.tb (n - 1):=⟨_,rfl⟩
      obtain⟨ok,hok⟩:∃ok,ok=((th G.things n).fields[f]).k:=⟨_,rfl⟩
      obtain⟨on,hon⟩:∃on,on=((th G.things n).fields[f]).n:=⟨_,rfl⟩
      rw[<- hvk] at e2;rw[<- hvn] at e3;rw[<- hfl] at t0 hfc1;rw[<- hT] at t0 htl HTH;rw[<- hok] at d0;rw[<- hon] at d1
      have hff:(f:Int)<(fl:Int):=by omega
      have z0:=dz (f * 2);have z1:=dz (f * 2+1)
      have hjj:(j:Int)<(cs.length:Int):=by omega
      have hj1:((j+1:Nat):Int) - 1=(j:Int):=by omega
      have wj:IntKind.i64.wrap ((j:Int) - 1)=(j:Int) - 1:=IntWalk.i64_in _ (by omega)
      rw[hj1]
      have HFV:=Lib.hid hfv;have HVK:=Lib.hid hvk;have HVN:=Lib.hid hvn;have HO1:=Lib.hid o1;have HO2:=Lib.hid o2;have HO3:=Lib.hid o3
      have hgg:g≠g2:=λe=>by
        have:=HM2.out.apart (.changes t) (.flds (n - 1)) g ht (by show n - 1<_;omega) (by show (nm.cv t).ownBlock=_;rw[HEC.out];rfl) (by show (nm.fv (n - 1)).ownBlock=_;rw[hfv,e];rfl)
        cases this
      have hXg:X≠g2:=λe=>HNX.out ⟨.flds (n - 1),by show n - 1<_;rw[<- HGL.out];omega,by show (nm.fv (n - 1)).ownBlock=_;rw[hfv,e];rfl⟩
      have hTg:T≠g2:=λe=>by
        have:=HM2.out.apart (.thing (n - 1)) (.flds (n - 1)) g2 (by show n - 1<_;omega) (by show n - 1<_;omega) (by show some (nm.tb (n - 1))=_;rw[<- hT,e]) (by show (nm.fv (n - 1)).ownBlock=_;rw[hfv];rfl)
        cases this
      clear hfl hT hok hon hvk hvn hfv hfld hcell hpc hin hc dz o1 o2 o3
      have HKEEP:Hid (∀W,Chg (λk=>k=g2) wr W->W.cell? ⟨X,11,none⟩=some (.slice (some ⟨g,0,none⟩) cs.length cc)/\W.cell? ⟨g,j * 4,none⟩=some (.int .i64 (n:Int))/\W.cell? ⟨g,j * 4+1,none⟩=some (.int .i64 (f:Int))/\W.cell? ⟨g,j * 4+2,none⟩=some (.int .i64 vk)/\W.cell? ⟨g,j * 4+3,none⟩=some (.int .i64 vn)/\W.cell? ⟨T,0,none⟩=some (.slice (some ⟨g2,0,none⟩) fl fc)/\Chg (λk=>k=g2) wr W):=λW hW =>
        ⟨(hW.cell hXr hXg 11).1.trans x11,(hW.cell hg hgg _).1.trans e0,(hW.cell hg hgg _).1.trans e1,(hW.cell hg hgg _).1.trans e2,(hW.cell hg hgg _).1.trans e3,(hW.cell htl hTg 0).1.trans t0,hW⟩
      go_wp2_with fail
      go_region_held3 (λW=>W.cell? ⟨X,11,none⟩=some (.slice (some ⟨g,0,none⟩) cs.length cc)/\W.cell? ⟨g,j * 4,none⟩=some (.int .i64 (n:Int))/\W.cell? ⟨g,j * 4+1,none⟩=some (.int .i64 (f:Int))/\W.cell? ⟨g,j * 4+2,none⟩=some (.int .i64 vk)/\W.cell? ⟨g,j * 4+3,none⟩=some (.int .i64 vn)/\W.cell? ⟨T,0,none⟩=some (.slice (some ⟨g2,0,none⟩) fl fc)/\Chg (λk=>k=g2) wr W)
        ((refine HKEEP.out _ ?_;repeat (first|with_reducible exact Chg.refl _ _|with_reducible refine Chg.trans ?_ (Chg.setB _ _ _ _)|with_reducible refine Chg.trans ?_ (Chg.drew _ _))))
        ((go_at_call 83;refine (HTH.out _ (by ((repeat first|exact bR _ _|with_reducible first|refine bN ?_|refine bD ?_|refine bA ?_ ?_|refine bS ?_ ?_);all_goals first|exact Nat.le_refl _|(simp;done)|omega|(simp;omega)))).mono ?_;rintro e _ ⟨rfl,rfl⟩))
      rename_i hHeld
      clear hHeld HKEEP
      obtain⟨q1,q2⟩:=HM2.out.setField HO1.out HO2.out HO3.out v HFV.out
      obtain⟨w5,hw5⟩:∃w5,w5=(wr.setCell ⟨g2,f * 2,none⟩ (.int .i64 vk)).setCell ⟨g2,f * 2+1,none⟩ (.int .i64 vn):=⟨_,rfl⟩
      have e5:wr.setCells g2 (f * 2) (rVal.enc v)=w5:=by rw[hw5,HVK.out,HVN.out];rfl
      rw[e5] at q1 q2
      rw[<- hw5]
      have HM5:=Lib.hid q1;have HW5:=Lib.hid q2
      clear q1 q2 e5 hw5
      go_wp2_with fail
      go_roundw
      case rel =>
        refine⟨j,by omega,by go_num,?_,?_⟩
        · have h5:=HM5.out
          rw[HG.out] at h5
          rw[HDROP.out]
          exact h5.below (by ((repeat first|exact bR _ _|with_reducible first|refine bN ?_|refine bD ?_|refine bA ?_ ?_|refine bS ?_ ?_);all_goals first|exact Nat.le_refl _|(simp;done)|omega|(simp;omega)))
        · have h5:=HW5.out
          rw[HGL.out] at h5
          exact (HW2.out.trans h5).then (by ((repeat first|exact bR _ _|with_reducible first|refine bN ?_|refine bD ?_|refine bA ?_ ?_|refine bS ?_ ?_);all_goals first|exact Nat.le_refl _|(simp;done)|omega|(simp;omega)))
      case measure=>simp[intOf]
end Go.Proofs.Ytbeilcaadpopmab
namespace Go.Proofs.Ytbeilcaadpopmab
open Go.RowKit Go.Maps
theorem retH_same {base B:Nat} {w w':World} {nm:Rn} {H:Hall} {v:Value} (h:Rmem base w B nm H) (hb:Below w.heap.size w w'):RetH base w B nm H H v (.returned v) w' :=
  ⟨rfl,nm,h.below hb,(WentR.refl w B _ nm).then hb⟩
set_option maxRecDepth 100000 in
set_option maxHeartbeats 2000000 in
theorem access_any (base:Nat) (w:World) (B:Nat) (nm:Rn) (H:Hall) (h:Rmem base w B nm H) (t r:Nat) (ht:t<4) (hr:r<4) (f:Int) (ok:UndOk H t) (hid:(H.regs t r).id<=H.things.length) (h6:∀i,(th H.things i).fields.length<=6) (hver:∀i u,(th H.things i).owner=some u->u<4) :
    Calls Try.prog 86 #[.pointer (some ⟨B,0,none⟩),.int .i64 (t:Int),.int .i64 (r:Int),.int .i64 f] w
      (RetH base w B nm H (if H.acc t r f=6 then H.undone t else H) (.tuple #[.int .i64 (if H.acc t r f=0 then (H.regs t r).n else 0),.int .i64 (H.acc t r f)])):=by
  have HM:=Lib.hid h
  have hB:=h.lt
  have i1:(t:Int)<4:=by omega
  have i2:(r:Int)<4:=by omega
  obtain⟨c0,_⟩:=h.cD ht
  obtain⟨r0,r1⟩:=h.cR ht hr
  have HOK:=Lib.hid ok;have HTT:=Lib.hid ht
  clear h ok
  cases hop:(H.deals t).isOpen with
  | false =>
    have hacc:H.acc t r f=5:=by unfold Hall.acc;rw[if_pos hop]
    rw[hacc]
    show Calls Try.prog 86 _ w (RetH base w B nm H H (.tuple #[.int .i64 0,.int .i64 5]))
    rw[hop] at c0
    clear hacc hop hid h6 hver ht hr
    go_enter Try.func86,Try.ntmps86
    go_wp2_with fail
    exact bodyPost_ret (v:=.tuple #[.int .i64 0,.int .i64 5]) (by simp[results,Try.results86,go_sem, *]) rfl (retH_same HM.out (by ((repeat first|exact bR _ _|with_reducible first|refine bN ?_|refine bD ?_|refine bA ?_ ?_|refine bS ?_ ?_);all_goals first|exact Nat.le_refl _|(simp;done)|omega|(simp;omega))))
  | true =>
    rw[hop] at c0
    have hno:¬ (H.deals t).isOpen=false:=by rw[hop];simp
    cases hv:H.regs t r with
    | num x =>
      have hacc:H.acc t r f=7:=by unfold Hall.acc;rw[if_neg hno,hv]
      rw[hv] at r0 r1
      rw[hacc]
      show Calls Try.prog 86 _ w (RetH base w B nm H H (.tuple #[.int .i64 0,.int .i64 7]))
      change w.cell? _=some (.int .i64 0) at r0
      change w.cell? _=some (.int .i64 x) at r1
      clear hacc hop hid h6 hver ht hr hv hno
      go_enter Try.func86,Try.ntmps86
      go_wp2_with fail
      exact bodyPost_ret (v:=.tuple #[.int .i64 0,.int .i64 7]) (by simp[results,Try.results86,go_sem, *]) rfl (retH_same HM.out (by ((repeat first|exact bR _ _|with_reducible first|refine bN ?_|refine bD ?_|refine bA ?_ ?_|refine bS ?_ ?_);all_goals first|exact Nat.le_refl _|(simp;done)|omega|(simp;omega))))
    | ref n =>
      rw[hv] at r0 r1 hid
      change w.cell? _=some (.int .i64 1) at r0
      change w.cell? _=some (.int .i64 (n:Int)) at r1
      by_cases hn:n=0
      · subst hn
        have hacc:H.acc t r f=7:=by unfold Hall.acc;rw[if_neg hno,hv];rfl
        rw[hacc]
        show Calls Try.prog 86 _ w (RetH base w B nm H H (.tuple #[.int .i64 0,.int .i64 7]))
        change w.cell? _=some (.int .i64 0) at r1
        clear hacc hop hid h6 hver ht hr hv hno
        go_enter Try.func86,Try.ntmps86
        go_wp2_with fail
        exact bodyPost_ret (v:=.tuple #[.int .i64 0,.int .i64 7]) (by simp[results,Try.results86,go_sem, *]) rfl (retH_same HM.out (by ((repeat first|exact bR _ _|with_reducible first|refine bN ?_|refine bD ?_|refine bA ?_ ?_|refine bS ?_ ?_);all_goals first|exact Nat.le_refl _|(simp;done)|omega|(simp;omega))))
      · have o1:1<=n:=by omega
        have o2:n<=H.things.length:=hid
        have HTH:Hid (∀W,Below w.heap.size w W->Calls Try.prog 83 #[.pointer (some ⟨B,0,none⟩),.int .i64 (n:Int)] W (λe w'=>e = .returned (.pointer (some ⟨nm.tb (n - 1),0,none⟩))/\W=w')):=λW hW=>thing_any (HM.out.below hW) o1 o2
        obtain⟨⟨fa,fc,_,hfc1,hfc2,t0,_⟩,_,t2,_,_,_,_,htl⟩:=HM.out.cT o1 o2
        obtain⟨T,hT⟩:∃T,T=nm.tb (n - 1):=⟨_,rfl⟩
        rw[<- hT] at t0 t2 htl HTH
        have hacc:H.acc t r f=if ¬ (0<=f/\f<(th H.things n).fields.length) then 4 else if (th H.things n).owner=none\/(th H.things n).owner=some t then 0 else 6:=by
          unfold Hall.acc
          rw[if_neg hno,hv]
          show (if n=0 then 7 else _)=_
          rw[if_neg hn]
          rfl
        have hl6:=h6 n
        have hn0:((n:Int) == 0)=false:=by simp;omega
        obtain⟨fl,hfl⟩:∃fl,fl=(th H.things n).fields.length:=⟨_,rfl⟩
        rw[<- hfl] at hacc hl6 t0 hfc1
        have wl:IntKind.i64.wrap ((fl:Int) - 1)=(fl:Int) - 1:=IntWalk.i64_in _ (by omega)
        by_cases hf:0<=f/\f<(fl:Int)
        · have HIN:Hid (∀W,Calls Try.prog 56 #[.int .i64 f,.int .i64 0,.int .i64 ((fl:Int) - 1)] W (λe w'=>e = .returned (.bool true)/\W=w')):=λW=>by
            have:=in_any f 0 ((fl:Int) - 1) W
            rwa [inB_true (by omega) (by omega)] at this
          by_cases ho:(th H.things n).owner=none\/(th H.things n).owner=some t
          · have hacc0:H.acc t r f=0:=by rw[hacc,if_neg (by simpa using hf),if_pos ho]
            rw[hacc0]
            show Calls Try.prog 86 _ w (RetH base w B nm H H (.tuple #[.int .i64 (n:Int),.int .i64 0]))
            rcases ho with ho|ho
            · rw[ho] at t2
              change w.cell? _=some (.int .i64 (-1)) at t2
              clear hacc hacc0 hop hid h6 hver ht hr hv hno hfl hT hf ho
              go_enter Try.func86,Try.ntmps86
              go_wp2_with (first|(go_at_call 83;refine (HTH.out _ (by ((repeat first|exact bR _ _|with_reducible first|refine bN ?_|refine bD ?_|refine bA ?_ ?_|refine bS ?_ ?_);all_goals first|exact Nat.le_refl _|(simp;done)|omega|(simp;omega)))).mono ?_;rintro e _ ⟨rfl,rfl⟩)|(go_at_call 56;refine (HIN.out _).mono ?_;rintro e _ ⟨rfl,rfl⟩))
              exact bodyPost_ret (v:=.tuple #[.int .i64 (n:Int),.int .i64 0]) (by simp[results,Try.results86,go_sem, *]) rfl (retH_same HM.out (by ((repeat first|exact bR _ _|with_reducible first|refine bN ?_|refine bD ?_|refine bA ?_ ?_|refine bS ?_ ?_);all_goals first|exact Nat.le_refl _|(simp;done)|omega|(simp;omega))))
            · rw[ho] at t2
              change w.cell? _=some (.int .i64 (t:Int)) at t2
              clear hacc hacc0 hop hid h6 hver ht hr hv hno hfl hT hf ho
              go_enter Try.func86,Try.ntmps86
              go_wp2_with (first|(go_at_call 83;refine (HTH.out _ (by ((repeat first|exact bR _ _|with_reducible first|refine bN ?_|refine bD ?_|refine bA ?_ ?_|refine bS ?_ ?_);all_goals first|exact Nat.le_refl _|(simp;done)|omega|(simp;omega)))).mono ?_;rintro e _ ⟨rfl,rfl⟩)|(go_at_call 56;refine (HIN.out _).mono ?_;rintro e _ ⟨rfl,rfl⟩))
              exact bodyPost_ret (v:=.tuple #[.int .i64 (n:Int),.int .i64 0]) (by simp[results,Try.results86,go_sem, *]) rfl (retH_same HM.out (by ((repeat first|exact bR _ _|with_reducible first|refine bN ?_|refine bD ?_|refine bA ?_ ?_|refine bS ?_ ?_);all_goals first|exact Nat.le_refl _|(simp;done)|omega|(simp;omega))))
          · have hacc0:H.acc t r f=6:=by rw[hacc,if_neg (by simpa using hf),if_neg ho]
            rw[hacc0]
            show Calls Try.prog 86 _ w (RetH base w B nm H (H.undone t) (.tuple #[.int .i64 0,.int .i64 6]))
            obtain⟨u,hu⟩:∃u,(th H.things n).owner=some u:=by
              cases e:(th H.things n).owner with
              | none=>exact absurd (.inl e) ho
              | some u=>exact⟨u,rfl⟩
            have hu4:=hver n u hu
            have hut:u≠t:=λe=>ho (.inr (by rw[hu,e]))
            have hne:((u:Int) != (t:Int))=true:=by simp;omega
            rw[hu] at t2
            change w.cell? _=some (.int .i64 (u:Int)) at t2
            have HUN:Hid (∀W,Below w.heap.size w W->Calls Try.prog 84 #[.pointer (some ⟨B,0,none⟩),.int .i64 (t:Int)] W (RetH base W B nm H (H.undone t) (.tuple #[]))):=λW hW=>undone_any base W B nm H (HM.out.below hW) t HTT.out HOK.out
            clear hacc hacc0 hop hid h6 hver ht hr hv hno hfl hT hf ho hut hu
            go_enter Try.func86,Try.ntmps86
            go_wp2_with (first|(go_at_call 83;refine (HTH.out _ (by ((repeat first|exact bR _ _|with_reducible first|refine bN ?_|refine bD ?_|refine bA ?_ ?_|refine bS ?_ ?_);all_goals first|exact Nat.le_refl _|(simp;done)|omega|(simp;omega)))).mono ?_;rintro e _ ⟨rfl,rfl⟩)|(go_at_call 56;refine (HIN.out _).mono ?_;rintro e _ ⟨rfl,rfl⟩)|(go_at_call 84;refine (HUN.out _ (by ((repeat first|exact bR _ _|with_reducible first|refine bN ?_|refine bD ?_|refine bA ?_ ?_|refine bS ?_ ?_);all_goals first|exact Nat.le_refl _|(simp;done)|omega|(simp;omega)))).mono ?_;rintro e w6 ⟨rfl,nm6,hM6,hW6⟩;have HM6:=Lib.hid hM6;have HW6:=Lib.hid hW6;clear hM6 hW6))
            exact bodyPost_ret (v:=.tuple #[.int .i64 0,.int .i64 6]) (by simp[results,Try.results86,go_sem, *]) rfl ⟨rfl,nm6,HM6.out,HW6.out.after (by ((repeat first|exact bR _ _|with_reducible first|refine bN ?_|refine bD ?_|refine bA ?_ ?_|refine bS ?_ ?_);all_goals first|exact Nat.le_refl _|(simp;done)|omega|(simp;omega))) λj hj=>(HM.out.has_lt j hj).2⟩
        · have HIN:Hid (∀W,Calls Try.prog 56 #[.int .i64 f,.int .i64 0,.int .i64 ((fl:Int) - 1)] W (λe w'=>e = .returned (.bool false)/\W=w')):=λW=>by
            have:=in_any f 0 ((fl:Int) - 1) W
            by_cases h0:0<=f
            · rwa [inB_hi (by omega)] at this
            · rwa [inB_lo h0] at this
          have hacc0:H.acc t r f=4:=by rw[hacc,if_pos hf]
          rw[hacc0]
          show Calls Try.prog 86 _ w (RetH base w B nm H H (.tuple #[.int .i64 0,.int .i64 4]))
          clear hacc hacc0 hop hid h6 hver ht hr hv hno hfl hT hf
          go_enter Try.func86,Try.ntmps86
          go_wp2_with (first|(go_at_call 83;refine (HTH.out _ (by ((repeat first|exact bR _ _|with_reducible first|refine bN ?_|refine bD ?_|refine bA ?_ ?_|refine bS ?_ ?_);all_goals first|exact Nat.le_refl _|(simp;done)|omega|(simp;omega)))).mono ?_;rintro e _ ⟨rfl,rfl⟩)|(go_at_call 56;refine (HIN.out _).mono ?_;rintro e _ ⟨rfl,rfl⟩))
          exact bodyPost_ret (v:=.tuple #[.int .i64 0,.int .i64 4]) (by simp[results,Try.results86,go_sem, *]) rfl (retH_same HM.out (by ((repeat first|exact bR _ _|with_reducible first|refine bN ?_|refine bD ?_|refine bA ?_ ?_|refine bS ?_ ?_);all_goals first|exact Nat.le_refl _|(simp;done)|omega|(simp;omega))))
end Go.Proofs.Ytbeilcaadpopmab
namespace Go.Proofs.Ytbeilcaadpopmab
open Go.RowKit Go.Maps
def RetRA (base:Nat) (w:World) (B:Nat) (nm:Rn) (H:Hall) (p:Hall × AnsM) (e:Ending) (w':World):Prop:=e = .returned (ansV p.2)/\∃nm',Rmem base w' B nm' p.1/\WentR w w' B H.things.length p.1.things.length nm nm'
theorem RowAt.wentR {B K K':Nat} {w w':World} {nm nm':Rn} {X:Nat} {cs:List Value} (h:RowAt w X cs) (hw:WentR w w' B K K' nm nm') (hn:¬ HasR B K nm X):RowAt w' X cs:=h.chg hw.chg hn
theorem WentR.newer {B K K':Nat} {w w' w'':World} {nm nm':Rn} (h:WentR w w' B K K' nm nm') (k:Chg (λi=>w.heap.size<=i) w' w''):WentR w w'' B K K' nm nm' :=
  ⟨⟨k.os.trans h.chg.os,k.tape.trans h.chg.tape,k.output.trans h.chg.output,Nat.le_trans h.chg.size k.size,λi hi hx=>(k.block i (Nat.lt_of_lt_of_le hi h.chg.size) (by omega)).trans (h.chg.block i hi hx)⟩,h.own⟩
structure AF (base:Nat) (w:World) (B:Nat) (nm:Rn) (H:Hall) (A:List Value) (X1 X2:Nat) (r:AnsM) (W:World) (nm':Rn) (G:Hall):Prop where
  xs:w.heap.size<X1/\X1<X2/\X2<W.heap.size
  mem:Rmem base W B nm' G
  went:WentR w W B H.things.length G.things.length nm nm'
  no:∀k,w.heap.size<=k->k<=X2->¬ HasR B G.things.length nm' k
  ra:RowAt W w.heap.size A
  r1:RowAt W X1 (ansL AnsM.nil)
  r2:RowAt W X2 (ansL r)
theorem AF.start {base B:Nat} {w w1:World} {nm:Rn} {H:Hall} {A:List Value} {X1 X2:Nat} {r:AnsM} (h:Rmem base w B nm H) (hb:Below w.heap.size w w1) (hx:w.heap.size<X1/\X1<X2/\X2<w1.heap.size)
    (ha:RowAt w1 w.heap.size A) (h1:RowAt w1 X1 (ansL AnsM.nil)) (h2:RowAt w1 X2 (ansL r)):AF base w B nm H A X1 X2 r w1 nm H :=
  ⟨hx,h.below hb,(WentR.refl w B _ nm).then hb,λk hk _=>h.not_has hk,ha,h1,h2⟩
theorem AF.below {base B:Nat} {w W W':World} {nm nm':Rn} {H G:Hall} {A:List Value} {X1 X2:Nat} {r:AnsM} (h:AF base w B nm H A X1 X2 r W nm' G) (hb:Below W.heap.size W W'):AF base w B nm H A X1 X2 r W' nm' G :=
  ⟨⟨h.xs.1,h.xs.2.1,Nat.lt_of_lt_of_le h.xs.2.2 hb.size⟩,h.mem.below hb,h.went.then hb,h.no,h.ra.below hb,h.r1.below hb,h.r2.below hb⟩
theorem AF.step {base B:Nat} {w W W':World} {nm nm' nm'':Rn} {H G G':Hall} {A:List Value} {X1 X2:Nat} {r:AnsM} (h:AF base w B nm H A X1 X2 r W nm' G) (hm:Rmem base W' B nm'' G') (hw:WentR W W' B G.things.length G'.things.length nm' nm''):AF base w B nm H A X1 X2 r W' nm'' G':=by
  obtain⟨x1,x2,x3⟩:=h.xs
  refine⟨⟨x1,x2,Nat.lt_of_lt_of_le x3 hw.chg.size⟩,hm,h.went.trans hw,λk hk hk2 hn=>?_,h.ra.wentR hw (h.no _ (Nat.le_refl _) (by omega)),h.r1.wentR hw (h.no _ (by omega) (by omega)),h.r2.wentR hw (h.no _ (by omega) (by omega))⟩
  exact h.no k hk hk2 (hw.own k (by omega) hn)
theorem AF.set2 {base B:Nat} {w W:World} {nm nm':Rn} {H G:Hall} {A:List Value} {X1 X2:Nat} {r r':AnsM} (h:AF base w B nm H A X1 X2 r W nm' G) (i:Nat) (v:Value) (e:(ansL r).set i v=ansL r'):AF base w B nm H A X1 X2 r' (W.setCell ⟨X2,i,none⟩ v) nm' G:=by
  obtain⟨x1,x2,x3⟩:=h.xs
  have hc:Chg (λk=>k=X2) W (W.setCell ⟨X2,i,none⟩ v):=Chg.set _ _ _ _ rfl
  have h2:=h.r2.set i v
  rw[e] at h2
  exact⟨⟨x1,x2,Nat.lt_of_lt_of_le x3 hc.size⟩,h.mem.other (hc.mono λk _ e=>by subst e;exact h.no _ (by omega) (Nat.le_refl _)),h.went.newer (hc.mono λk _ e=>by omega),h.no,h.ra.chg hc (by omega),h.r1.chg hc (by omega),h2⟩
theorem AF.fin {base B:Nat} {w W W':World} {nm nm':Rn} {H G:Hall} {A:List Value} {X1 X2:Nat} {r r':AnsM} (h:AF base w B nm H A X1 X2 r W nm' G) (hc:Chg (λk=>k=X1\/k=X2) W W'):RetRA base w B nm H (G,r') (.returned (ansV r')) W':=by
  obtain⟨x1,x2,x3⟩:=h.xs
  exact⟨rfl,nm',h.mem.other (hc.mono λk _ e=>h.no k (by omega) (by omega)),h.went.newer (hc.mono λk _ e=>by omega)⟩
theorem res_acted {tmps:Array Value} {w:World} {X:Nat} {r:AnsM} (h4:tmps[4]?.getD undef = .pointer (some ⟨X,0,none⟩)) (h:RowAt w X (ansL r)):(results Try.f67 tmps).run Try.prog w = .ok (ansV r) w:=by
  obtain⟨⟨o0,o1,o2,o3,o4,o5,o6⟩,_⟩:=h.ans
  simp[results,Try.results67,go_sem,h4,o0,o1,o2,o3,o4,o5,o6]
  rfl
theorem in_reg (t:Nat) (ht:t<4) (W:World):Calls Try.prog 56 #[.int .i64 (t:Int),.int .i64 0,.int .i64 3] W (λe w'=>e = .returned (.bool true)/\W=w'):=by
  have:=in_any (t:Int) 0 3 W
  rwa [inB_true (by omega) (by omega)] at this
theorem in_yes (x:Int) (h:0<=x/\x<=3) (W:World):Calls Try.prog 56 #[.int .i64 x,.int .i64 0,.int .i64 3] W (λe w'=>e = .returned (.bool true)/\W=w'):=by
  have:=in_any x 0 3 W
  rwa [inB_true h.1 h.2] at this
theorem in_no (x:Int) (h:¬ (0<=x/\x<=3)) (W:World):Calls Try.prog 56 #[.int .i64 x,.int .i64 0,.int .i64 3] W (λe w'=>e = .returned (.bool false)/\W=w'):=by
  have:=in_any x 0 3 W
  by_cases h1:0<=x
  · rwa [inB_hi (by omega)] at this
  · rwa [inB_lo h1] at this
theorem in_kind (k:Int) (hk:1<=k/\k<=12) (W:World):Calls Try.prog 56 #[.int .i64 k,.int .i64 1,.int .i64 12] W (λe w'=>e = .returned (.bool true)/\Below W.heap.size W w'):=by
  refine (in_any k 1 12 W).mono ?_
  rintro e w' ⟨rfl,rfl⟩
  rw[inB_true hk.1 hk.2]
  exact⟨rfl,Below.refl _ _⟩
end Go.Proofs.Ytbeilcaadpopmab
namespace Go.Proofs.Ytbeilcaadpopmab
open Go.RowKit Go.Maps
theorem step_append_L {α:Type} (R:RowT α) {ops:Array Oper} {o:Oper} {a:Act} {w:World} {K:Act->World->Prop} {Q:Exit->Act->World->Prop} {E:Prop} (hg:o.guard=none) (s x:Operand) (st:TypeId) (z:Value) (bytes:Nat)
    (hu:Try.prog.underlying st=some (.slice R.ty)) (hinf:(Try.prog.info? R.ty).map (λi=>(i.zero,i.size,i.bytes))=some (some z,R.sz,bytes)) (hz:z.cells.size=R.sz) (hsz:0<R.sz) (hb0:0<bytes) (hb1:bytes<=128)
    (ho:o.op = .call { callee:=.builtin .append,args:=#[s,x],argTypes:=#[st,st] }) (base:Nat) (v:Value) (l:List α) (hs:a.eval s=v) (hown:OwnL R w base v l)
    (sv:Value) (y:α) (hx:a.eval x=sv) (hy:Row w sv 1 R.sz (R.enc y)) (hlen:l.length<900000) (hbase:base<=w.heap.size)
    (h:∀v' w',OwnL R w' base v' (l++[y])->w.grownBy w' v.ownBlock->(v'.ownBlock=v.ownBlock\/∀k,v'.ownBlock=some k->w.heap.size<=k)->K (a.put o.dst v') w') :
    if Region.wanted o (yielded ops a.tmps)=true then Oper.wp Try.prog o a w K Q else E:=by
  have hw:Region.wanted o (yielded ops a.tmps)=true:=by simp[Region.wanted,hg]
  rw[if_pos hw]
  obtain⟨i,hi,hz',h4,h5⟩:=info_parts hinf
  obtain⟨v',w',hrun,h1,h2,h3,h6⟩:=run_append_row (P:=Try.prog) w base st o.type R.ty i z R.sz bytes hu hi hz' h4 h5 hz hsz v l.length _ hown.2 sv 1 _ hy (R.one y) (by
      have:(l.length+1) * bytes<=900000 * 128:=Nat.mul_le_mul (by omega) hb1
      omega) hb0 hbase
  unfold Oper.wp
  simp[execOp,ho,resolve,invoke,builtin,hs,hx,hrun,Result.andThen]
  refine h v' w' ⟨by simp;omega,?_⟩ h2 ?_
  · rw[R.cells_append]
    simpa [RowT.cells] using h1
  · rcases h6 with h6|⟨h6,_⟩
    · exact .inl h6
    · exact .inr λk hk=>(h6.lt k hk).1
theorem row_seen (w:World) (c:Nat × Nat):Row (w.alloc (.cells #[.int .i64 (c.1:Int),.int .i64 (c.2:Int)] 140)) (.slice (some ⟨w.heap.size,0,none⟩) 1 1) 1 2 (rSeen.enc c):=by
  refine⟨rfl,by omega,_,1,rfl,Nat.le_refl _,by unfold maxLen;omega,(λh=>by cases h),λ_=>⟨w.heap.size,0,rfl,by simp,λi hi=>?_⟩⟩
  have:i=0\/i=1:=by have:i<2:=hi;omega
  rcases this with rfl|rfl <;> simp[rSeen]
theorem row_change (w:World) (c:Nat × Nat × V) (vk vn:Int) (h1:vk=c.2.2.k) (h2:vn=c.2.2.n):Row (w.alloc (.cells #[.int .i64 (c.1:Int),.int .i64 (c.2.1:Int),.int .i64 vk,.int .i64 vn] 148)) (.slice (some ⟨w.heap.size,0,none⟩) 1 1) 1 4 (rChange.enc c):=by
  subst h1 h2
  refine⟨rfl,by omega,_,1,rfl,Nat.le_refl _,by unfold maxLen;omega,(λh=>by cases h),λ_=>⟨w.heap.size,0,rfl,by simp,λi hi=>?_⟩⟩
  have:i=0\/i=1\/i=2\/i=3:=by have:i<4:=hi;omega
  rcases this with rfl|rfl|rfl|rfl <;> simp[rChange]
theorem row_ptr (w:World) (b:Nat):Row (w.alloc (.cells #[.pointer (some ⟨b,0,none⟩)] 137)) (.slice (some ⟨w.heap.size,0,none⟩) 1 1) 1 1 (rPtr.enc b):=by
  refine⟨rfl,by omega,_,1,rfl,Nat.le_refl _,by unfold maxLen;omega,(λh=>by cases h),λ_=>⟨w.heap.size,0,rfl,by simp,λi hi=>?_⟩⟩
  have:i=0:=by have:i<1:=hi;omega
  subst this
  simp[rPtr]
theorem Rmem.addRead {base B:Nat} {w w1 w':World} {nm:Rn} {H:Hall} (h:Rmem base w B nm H) {t:Nat} (ht:t<4) (c:Nat × Nat) (v':Value) (hb:Below w.heap.size w w1)
    (hO:OwnL rSeen w' base v' ((H.deals t).reads++[c])) (hg:w1.grownBy w' (nm.rv t).ownBlock) (hn:v'.ownBlock=(nm.rv t).ownBlock\/∀k,v'.ownBlock=some k->w1.heap.size<=k) :
    Rmem base (w'.setCell ⟨B,34+t * 12+9,none⟩ v') B (nm.deal t v' (nm.ov t) (nm.cv t)) { H with deals:=put1 H.deals t ((H.deals t).addR c) }/\WentR w (w'.setCell ⟨B,34+t * 12+9,none⟩ v') B H.things.length H.things.length nm (nm.deal t v' (nm.ov t) (nm.cv t)):=by
  have h1:=h.below hb
  have hX:(nm.rv t).ownBlock≠some B:=λe=>by
    have:=h1.apart (.reads t) .box B ht trivial e rfl
    cases this
  have hsz:w1.heap.size<=w'.heap.size:=hg.size
  have hl:∀k,v'.ownBlock=some k->k<w'.heap.size:=λk e=>(hO.lt e).2
  have hvB:v'.ownBlock≠some B:=λe=>by
    rcases hn with h2|h2
    · exact hX (h2 ▸ e)
    · have:=h2 B e;have:=h1.lt;omega
  have hbx:BoxN 84 w' B (hallC nm H):=h1.box.keep (hg.block B h1.lt (λe=>hX e.symm))
  have hset:∀k,k≠B->(w'.setCell ⟨B,34+t * 12+9,none⟩ v').heap[k]? = w'.heap[k]?:=λk e=>Below.heap_setCell _ _ _ _ e
  have hkeep:∀(i:Rl),i.ok H.things.length->i≠.box->i≠.reads t->∀b,roleR B nm i=some b->(w'.setCell ⟨B,34+t * 12+9,none⟩ v').heap[b]? = w1.heap[b]?:=λi hi n1 n2 b e=>by
    rw[hset b (λeB=>n1 (h1.apart i .box b hi trivial e (by rw[eB];rfl)))]
    exact hg.block b (h1.lo i b hi e).2 (λe2=>n2 (h1.apart i (.reads t) b hi ht e e2.symm))
  have key:=h1.newDeal (w':=w'.setCell ⟨B,34+t * 12+9,none⟩ v') ht ((H.deals t).addR c) v' (nm.ov t) (nm.cv t) ((Chg.ofGrown (λk=>k=B\/(nm.rv t).ownBlock=some k\/(nm.ov t).ownBlock=some k\/(nm.cv t).ownBlock=some k) hg (λi e=>.inr (.inl e))).trans (Chg.set _ _ _ _ (.inl rfl)))
    ((hbx.set (o:=34+t * 12+9) (by omega) v').congr λi hi=>hallC_setRv nm H ht c v' i hi)
    (hO.keep λb e=>hset b (λeB=>hvB (eB ▸ e)))
    (OwnL.keep (w:=w1) (show OwnL rSeen w1 base _ _ from h1.part (.owned t) ht) λb e=>hkeep (.owned t) ht (λh=>by cases h) (λh=>by cases h) b e)
    (OwnL.keep (w:=w1) (show OwnL rChange w1 base _ _ from h1.part (.changes t) ht) λb e=>hkeep (.changes t) ht (λh=>by cases h) (λh=>by cases h) b e)
    (hn.imp id λh2 k e=>⟨h2 k e,Nat.lt_of_lt_of_le (hl k e) (by simp[World.setCell])⟩)
    (.inl rfl)
    (.inl rfl)
    (λk hk e1 e2=>by have:=(h1.lo (.owned t) k ht e2).2;omega)
    (λk hk e1 e2=>by have:=(h1.lo (.changes t) k ht e2).2;omega)
    (λk hk e1 e2=>by have:=(h1.lo (.owned t) k ht e1).2;omega)
  exact⟨key.1,key.2.after hb λj hj=>(h.has_lt j hj).2⟩
theorem Rmem.addOwned {base B:Nat} {w w1 w':World} {nm:Rn} {H:Hall} (h:Rmem base w B nm H) {t:Nat} (ht:t<4) (c:Nat × Nat) (v':Value) (hb:Below w.heap.size w w1)
    (hO:OwnL rSeen w' base v' ((H.deals t).owned++[c])) (hg:w1.grownBy w' (nm.ov t).ownBlock) (hn:v'.ownBlock=(nm.ov t).ownBlock\/∀k,v'.ownBlock=some k->w1.heap.size<=k) :
    Rmem base (w'.setCell ⟨B,34+t * 12+10,none⟩ v') B (nm.deal t (nm.rv t) v' (nm.cv t)) { H with deals:=put1 H.deals t ((H.deals t).addO c) }/\WentR w (w'.setCell ⟨B,34+t * 12+10,none⟩ v') B H.things.length H.things.length nm (nm.deal t (nm.rv t) v' (nm.cv t)):=by
  have h1:=h.below hb
  have hX:(nm.ov t).ownBlock≠some B:=λe=>by
    have:=h1.apart (.owned t) .box B ht trivial e rfl
    cases this
  have hsz:w1.heap.size<=w'.heap.size:=hg.size
  have hl:∀k,v'.ownBlock=some k->k<w'.heap.size:=λk e=>(hO.lt e).2
  have hvB:v'.ownBlock≠some B:=λe=>by
    rcases hn with h2|h2
    · exact hX (h2 ▸ e)
    · have:=h2 B e;have:=h1.lt;omega
  have hbx:BoxN 84 w' B (hallC nm H):=h1.box.keep (hg.block B h1.lt (λe=>hX e.symm))
  have hset:∀k,k≠B->(w'.setCell ⟨B,34+t * 12+10,none⟩ v').heap[k]? = w'.heap[k]?:=λk e=>Below.heap_setCell _ _ _ _ e
  have hkeep:∀(i:Rl),i.ok H.things.length->i≠.box->i≠.owned t->∀b,roleR B nm i=some b->(w'.setCell ⟨B,34+t * 12+10,none⟩ v').heap[b]? = w1.heap[b]?:=λi hi n1 n2 b e=>by
    rw[hset b (λeB=>n1 (h1.apart i .box b hi trivial e (by rw[eB];rfl)))]
    exact hg.block b (h1.lo i b hi e).2 (λe2=>n2 (h1.apart i (.owned t) b hi ht e e2.symm))
  have key:=h1.newDeal (w':=w'.setCell ⟨B,34+t * 12+10,none⟩ v') ht ((H.deals t).addO c) (nm.rv t) v' (nm.cv t) ((Chg.ofGrown (λk=>k=B\/(nm.rv t).ownBlock=some k\/(nm.ov t).ownBlock=some k\/(nm.cv t).ownBlock=some k) hg (λi e=>.inr (.inr (.inl e)))).trans (Chg.set _ _ _ _ (.inl rfl)))
    ((hbx.set (o:=34+t * 12+10) (by omega) v').congr λi hi=>hallC_setOv nm H ht c v' i hi)
    (OwnL.keep (w:=w1) (show OwnL rSeen w1 base _ _ from h1.part (.reads t) ht) λb e=>hkeep (.reads t) ht (λh=>by cases h) (λh=>by cases h) b e)
    (hO.keep λb e=>hset b (λeB=>hvB (eB ▸ e)))
    (OwnL.keep (w:=w1) (show OwnL rChange w1 base _ _ from h1.part (.changes t) ht) λb e=>hkeep (.changes t) ht (λh=>by cases h) (λh=>by cases h) b e)
    (.inl rfl)
    (hn.imp id λh2 k e=>⟨h2 k e,Nat.lt_of_lt_of_le (hl k e) (by simp[World.setCell])⟩)
    (.inl rfl)
    (λk hk e1 e2=>by have:=(h1.lo (.reads t) k ht e1).2;omega)
    (λk hk e1 e2=>by have:=(h1.lo (.reads t) k ht e1).2;omega)
    (λk hk e1 e2=>by have:=(h1.lo (.changes t) k ht e2).2;omega)
  exact⟨key.1,key.2.after hb λj hj=>(h.has_lt j hj).2⟩
theorem Rmem.addChange {base B:Nat} {w w1 w':World} {nm:Rn} {H:Hall} (h:Rmem base w B nm H) {t:Nat} (ht:t<4) (c:Nat × Nat × V) (v':Value) (hb:Below w.heap.size w w1)
    (hO:OwnL rChange w' base v' ((H.deals t).changes++[c])) (hg:w1.grownBy w' (nm.cv t).ownBlock) (hn:v'.ownBlock=(nm.cv t).ownBlock\/∀k,v'.ownBlock=some k->w1.heap.size<=k) :
    Rmem base (w'.setCell ⟨B,34+t * 12+11,none⟩ v') B (nm.deal t (nm.rv t) (nm.ov t) v') { H with deals:=put1 H.deals t ((H.deals t).addC c) }/\WentR w (w'.setCell ⟨B,34+t * 12+11,none⟩ v') B H.things.length H.things.length nm (nm.deal t (nm.rv t) (nm.ov t) v'):=by
  have h1:=h.below hb
  have hX:(nm.cv t).ownBlock≠some B:=λe=>by
    have:=h1.apart (.changes t) .box B ht trivial e rfl
    cases this
  have hsz:w1.heap.size<=w'.heap.size:=hg.size
  have hl:∀k,v'.ownBlock=some k->k<w'.heap.size:=λk e=>(hO.lt e).2
  have hvB:v'.ownBlock≠some B:=λe=>by
    rcases hn with h2|h2
    · exact hX (h2 ▸ e)
    · have:=h2 B e;have:=h1.lt;omega
  have hbx:BoxN 84 w' B (hallC nm H):=h1.box.keep (hg.block B h1.lt (λe=>hX e.symm))
  have hset:∀k,k≠B->(w'.setCell ⟨B,34+t * 12+11,none⟩ v').heap[k]? = w'.heap[k]?:=λk e=>Below.heap_setCell _ _ _ _ e
  have hkeep:∀(i:Rl),i.ok H.things.length->i≠.box->i≠.changes t->∀b,roleR B nm i=some b->(w'.setCell ⟨B,34+t * 12+11,none⟩ v').heap[b]? = w1.heap[b]?:=λi hi n1 n2 b e=>by
    rw[hset b (λeB=>n1 (h1.apart i .box b hi trivial e (by rw[eB];rfl)))]
    exact hg.block b (h1.lo i b hi e).2 (λe2=>n2 (h1.apart i (.changes t) b hi ht e e2.symm))
  have key:=h1.newDeal (w':=w'.setCell ⟨B,34+t * 12+11,none⟩ v') ht ((H.deals t).addC c) (nm.rv t) (nm.ov t) v' ((Chg.ofGrown (λk=>k=B\/(nm.rv t).ownBlock=some k\/(nm.ov t).ownBlock=some k\/(nm.cv t).ownBlock=some k) hg (λi e=>.inr (.inr (.inr e)))).trans (Chg.set _ _ _ _ (.inl rfl)))
    ((hbx.set (o:=34+t * 12+11) (by omega) v').congr λi hi=>hallC_setCv nm H ht c v' i hi)
    (OwnL.keep (w:=w1) (show OwnL rSeen w1 base _ _ from h1.part (.reads t) ht) λb e=>hkeep (.reads t) ht (λh=>by cases h) (λh=>by cases h) b e)
    (OwnL.keep (w:=w1) (show OwnL rSeen w1 base _ _ from h1.part (.owned t) ht) λb e=>hkeep (.owned t) ht (λh=>by cases h) (λh=>by cases h) b e)
    (hO.keep λb e=>hset b (λeB=>hvB (eB ▸ e)))
    (.inl rfl)
    (.inl rfl)
    (hn.imp id λh2 k e=>⟨h2 k e,Nat.lt_of_lt_of_le (hl k e) (by simp[World.setCell])⟩)
    (λk hk e1 e2=>by have:=(h1.lo (.reads t) k ht e1).2;omega)
    (λk hk e1 e2=>by have:=(h1.lo (.reads t) k ht e1).2;omega)
    (λk hk e1 e2=>by have:=(h1.lo (.owned t) k ht e1).2;omega)
  exact⟨key.1,key.2.after hb λj hj=>(h.has_lt j hj).2⟩
end Go.Proofs.Ytbeilcaadpopmab
namespace Go.Proofs.Ytbeilcaadpopmab
section
variable {P:Program} {ops:Array Oper} {Q:Exit->Act->World->Prop} {md:Region.Mode} {S T:World->Prop} {N:List Nat} {n i:Nat} {is:List Nat} {oi:Oper} {v:Value} {fuel:Nat} {listed:Array Bool} {a:Act} {w:World}
def TkT (_:List Nat) (P:Program) (md:Region.Mode) (ops:Array Oper) (Q:Exit->Act->World->Prop) (S:World->Prop) (n:Nat) (fuel:Nat) (listed:Array Bool) (a:Act) (w:World):Prop:=wpAnyT P md ops Q S n fuel listed a w
theorem TkT.on (is:List Nat) (h:TkT is P md ops Q S n fuel listed a w):wpAnyT P md ops Q S n fuel listed a w:=h
theorem TkT.off (h:wpAnyT P md ops Q S n fuel listed a w):TkT [] P md ops Q S n fuel listed a w:=h
theorem TkT.take (hi:ops[i]? = some oi) (hs:(Region.noSelect ops && (Region.free md ops listed i && ((Region.ready md ops listed).contains i && Region.waitsFor md ops n i)))=true)
    (hQ:∀c a w,Q (.panic c) (a.put oi.dst v) w->Q (.panic c) a w) (hS:S w) (hy:YieldsIf P ops S oi v a)
    (h:TkT is P md ops Q S n fuel (listed.setIfInBounds i true) (a.put oi.dst v) w):TkT (i :: is) P md ops Q S n (fuel+1) listed a w:=by
  simp only [Bool.and_eq_true] at hs
  exact wpAnyT_take i hi hs.1 hs.2.1 hs.2.2.1 hs.2.2.2 hQ hS hy h
def TkN (_:List Nat) (P:Program) (md:Region.Mode) (ops:Array Oper) (Q:Exit->Act->World->Prop) (S T:World->Prop) (N:List Nat) (fuel:Nat) (listed:Array Bool) (a:Act) (w:World):Prop:=wpAnyN P md ops Q S T N fuel listed a w
theorem TkN.on (is:List Nat) (h:TkN is P md ops Q S T N fuel listed a w):wpAnyN P md ops Q S T N fuel listed a w:=h
theorem TkN.off (h:wpAnyN P md ops Q S T N fuel listed a w):TkN [] P md ops Q S T N fuel listed a w:=h
theorem TkN.take (hi:ops[i]? = some oi) (hs:(Region.noSelect ops && (Region.free md ops listed i && ((Region.ready md ops listed).contains i && N.all (λn=>Region.waitsFor md ops n i))))=true)
    (hQ:∀c a w,Q (.panic c) (a.put oi.dst v) w->Q (.panic c) a w) (hS:S w) (hy:YieldsIf P ops S oi v a)
    (h:TkN is P md ops Q S T N fuel (listed.setIfInBounds i true) (a.put oi.dst v) w):TkN (i :: is) P md ops Q S T N (fuel+1) listed a w:=by
  simp only [Bool.and_eq_true] at hs
  exact wpAnyN_take i hi hs.1 hs.2.1 hs.2.2.1 hs.2.2.2 hQ hS hy h
end
end Go.Proofs.Ytbeilcaadpopmab
