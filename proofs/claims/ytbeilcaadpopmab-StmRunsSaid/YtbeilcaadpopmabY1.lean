/- Texts put together: Lib, Pl, Wa, Ap, Wc, Wh, Mk, Wp, Ck, Al, Ws. -/
import Derived.Test.YtbeilcaadpopmabRows
import Derived.WalkKit
import Derived.WalkSpells
import Derived.WalkLawsBesides
import Derived.Deep.QuietTactic
import Derived.BigQuiet
import Derived.Lib.Hide
import Derived.Deep.RegionLaw
import Derived.Deep.DeepCutAuto
set_option linter.unusedVariables false
set_option linter.unusedSimpArgs false
namespace Go.Proofs.Ytbeilcaadpopmab
open Go.RowKit
theorem ret_bool {a b:Bool} (h:a=b):Ending.returned (.bool a) = .returned (.bool b):=by rw[h]
theorem int_eq {a b:Int} (h:a=b):Value.int .i64 a = .int .i64 b:=by rw[h]
theorem ret_int {a b:Int} (h:a=b):Ending.returned (.int .i64 a) = .returned (.int .i64 b):=by rw[h]
theorem and_one_i64 (x:Int):bits BinOp.and IntKind.i64 x 1=x % 2:=by
  show IntKind.i64.wrap ((BitVec.ofInt 64 x &&& BitVec.ofInt 64 1).toNat:Int)=_
  have h1:(BitVec.ofInt 64 1).toNat=1:=by decide
  rw[BitVec.toNat_and,h1,Nat.and_one_is_mod,BitVec.toNat_ofInt,IntKind.wrap_i64]
  omega
theorem bR (n:Nat) (w:World):Below n w w:=Below.refl _ _
theorem bT {n m:Nat} {w W V:World} (h:Below n w W) (k:Below m W V) (e:n<=m):Below n w V:=h.trans (k.mono e)
theorem bN {n k:Nat} {w W:World} (h:Below n w W):Below n w (W.drewN k):=below_drewN h _
theorem bD {n:Nat} {w W:World} (h:Below n w W):Below n w W.drew:=h.drew
theorem bA {n:Nat} {w W:World} {o:Obj} (h:Below n w W) (e:n<=W.heap.size):Below n w (W.alloc o):=h.alloc e o
theorem bS {n:Nat} {w W:World} {p:Addr} {u:Value} (h:Below n w W) (e:n<=p.block):Below n w (W.setCell p u):=h.setCell e u
def I64 (x:Int):Prop:=-9223372036854775808<=x/\x<=9223372036854775807
theorem i64_of_wf {x:Int} (h:(Lit.int .i64 x).wf=true):I64 x:=by
  simp only [Lit.wf,IntKind.min,IntKind.max,IntKind.signed,IntKind.bits,Bool.and_eq_true,decide_eq_true_eq,if_true] at h
  unfold I64;omega
def Row (w:World) (v:Value) (n size:Nat) (cs:List Value):Prop :=
  cs.length=n * size/\n<=140737488355328 /\
  ∃ a cap, v = .slice a n cap ∧ n ≤ cap ∧ cap ≤ maxLen ∧ (a = none → cap = 0) ∧
    (0<n->∃b o,a=some ⟨b,o,none⟩/\b<w.heap.size/\∀i,i<cs.length->w.cell? ⟨b,o+i,none⟩=some (cs.getD i undef))
theorem Row.below {w w':World} {v:Value} {n size:Nat} {cs:List Value} {B:Nat} (h:Row w v n size cs) (hB:w.heap.size<=B) (hb:Below B w w'):Row w' v n size cs:=by
  obtain⟨h1,h2,a,cap,h3,h4,h5,h6,h7⟩:=h
  refine⟨h1,h2,a,cap,h3,h4,h5,h6,λhn=>?_⟩
  obtain⟨b,o,ha,hbs,hc⟩:=h7 hn
  refine⟨b,o,ha,Nat.lt_of_lt_of_le hbs hb.size,λi hi=>?_⟩
  rw[hb.cell (p:=⟨b,o+i,none⟩) (Nat.lt_of_lt_of_le hbs hB)]
  exact hc i hi
theorem Row.len {w:World} {v:Value} {n size:Nat} {cs:List Value} (h:Row w v n size cs):∃a cap,v = .slice a n cap/\n<=cap/\cap<=9223372036854775807/\(a=none->cap=0):=by
  obtain⟨_,_,a,cap,e,h4,h5,h6,_⟩:=h
  exact⟨a,cap,e,h4,by simp only [maxLen] at h5;omega,h6⟩
theorem Row.at {w:World} {a:Option Addr} {m c n size:Nat} {cs:List Value} (h:Row w (.slice a m c) n size cs) (hn:0<n) :
    ∃b o,a=some ⟨b,o,none⟩/\b<w.heap.size/\∀i,i<cs.length->w.cell? ⟨b,o+i,none⟩=some (cs.getD i undef):=by
  obtain⟨_,_,a',cap,e,_,_,_,h7⟩:=h
  simp only [Value.slice.injEq] at e
  obtain⟨rfl,rfl,rfl⟩:=e
  exact h7 hn
theorem Row.of_own {w:World} {base:Nat} {e:TypeId} {size:Nat} {v:Value} {n:Nat} {xs:List Value} (h:w.ownsRow base e size v n xs) (hn:n<=140737488355328):Row w v n size xs:=by
  obtain⟨h1,h2⟩:=h
  refine⟨h1,hn,?_⟩
  rcases h2 with ⟨rfl,rfl⟩|⟨g,cap,cur,rfl,hb,hg,hnc,hcm,hcs,ht⟩
  · exact⟨none,0,rfl,Nat.le_refl _,Nat.zero_le _,λ_=>rfl,λh=>absurd h (by omega)⟩
  · refine⟨some ⟨g,0,none⟩,cap,rfl,hnc,hcm,(λh=>by cases h),λhn0=>⟨g,0,rfl,(Array.getElem?_eq_some_iff.1 hg).1,λi hi=>?_⟩⟩
    have h1':i<n * size:=by omega
    have h2':n * size<=cur.size:=by rw[hcs];exact Nat.mul_le_mul_right _ hnc
    have h3':cur[i]? = some (xs.getD i undef):=by
      subst ht
      have:i<cur.size:=by omega
      simp[List.getD,List.getElem?_take,h1',this]
    simp[World.cell?,hg,h3']
def Ints (w:World) (v:Value) (xs:List Int):Prop:=((∀x ∈ xs,I64 x)/\xs.length<=17592186044416)/\Row w v xs.length 1 (xs.map (Value.int .i64))
theorem Ints.below {w w':World} {v:Value} {xs:List Int} {B:Nat} (h:Ints w v xs) (hB:w.heap.size<=B) (hb:Below B w w'):Ints w' v xs:=⟨h.1,h.2.below hB hb⟩
theorem Ints.len {w:World} {v:Value} {xs:List Int} (h:Ints w v xs):∃a cap,v = .slice a xs.length cap/\xs.length<=cap/\cap<=9223372036854775807/\(a=none->cap=0):=h.2.len
theorem Ints.le {w:World} {v:Value} {xs:List Int} (h:Ints w v xs):xs.length<=17592186044416:=h.1.2
theorem Ints.at {w:World} {a:Option Addr} {n c:Nat} {xs:List Int} (h:Ints w (.slice a n c) xs) (hn:0<xs.length) :
    ∃b o,a=some ⟨b,o,none⟩/\b<w.heap.size/\∀i,i<xs.length->w.cell? ⟨b,o+i,none⟩=some (.int .i64 (xs.getD i 0)):=by
  obtain⟨b,o,rfl,hb,hc⟩:=h.2.at hn
  refine⟨b,o,rfl,hb,λi hi=>?_⟩
  rw[hc i (by simpa using hi)]
  simp[List.getD,hi]
theorem Ints.range {w:World} {v:Value} {xs:List Int} (h:Ints w v xs) (i:Nat) : -9223372036854775808<=xs.getD i 0/\xs.getD i 0<=9223372036854775807:=by
  by_cases hi:i<xs.length
  · have:=h.1.1 (xs.getD i 0) (by simp[List.getD,hi])
    exact this
  · simp[List.getD,hi]
def OwnInts (w:World) (base:Nat) (v:Value) (xs:List Int):Prop :=
  ((∀x ∈ xs,I64 x)/\xs.length<=17592186044416)/\w.ownsRow base 3 1 v xs.length (xs.map (Value.int .i64))
theorem OwnInts.ints {w:World} {base:Nat} {v:Value} {xs:List Int} (h:OwnInts w base v xs):Ints w v xs:=⟨h.1,Row.of_own h.2 (Nat.le_trans h.1.2 (by omega))⟩
theorem OwnInts.shape {w:World} {base:Nat} {v:Value} {xs:List Int} (h:OwnInts w base v xs):∃a c,v = .slice a xs.length c:=by
  rcases h.2.2 with ⟨e,e'⟩|⟨g,cap,cur,e,_⟩
  · rw[e'];exact⟨none,0,e⟩
  · exact⟨_,_,e⟩
theorem OwnInts.spot {w:World} {base n c:Nat} {a:Option Addr} {xs:List Int} (h:OwnInts w base (.slice a n c) xs) (hn:0<xs.length) :
    ∃g,a=some ⟨g,0,none⟩/\base<=g/\g<w.heap.size/\(∀i,i<xs.length->w.cell? ⟨g,i,none⟩=some (.int .i64 (xs.getD i 0)))/\∀i,w.frozen? ⟨g,i,none⟩=false:=by
  obtain⟨b,o,rfl,hb,hc⟩:=Ints.at (xs:=xs) (w:=w) (n:=n) (c:=c) ⟨h.1,Row.of_own h.2 (Nat.le_trans h.1.2 (by omega))⟩ hn
  rcases h.2.2 with ⟨e,_⟩|⟨g,cap,cur,e,hg,hh,_⟩
  · cases e
  · simp only [Value.slice.injEq,Option.some.injEq,Addr.mk.injEq] at e
    obtain⟨⟨rfl,rfl,_⟩,rfl,rfl⟩:=e
    exact⟨b,rfl,hg,hb,λi hi=>by simpa using hc i hi,λi=>by simp[World.frozen?,hh]⟩
theorem grownBy_of_below {w w':World} {B:Nat} (hb:Below w.heap.size w w') (row:Option Nat):w.grownBy w' row :=
  ⟨hb.os,hb.tape,hb.output,hb.size,λk hk _=>hb.block k hk⟩
theorem OwnInts.below {w w':World} {base:Nat} {v:Value} {xs:List Int} (h:OwnInts w base v xs) (hb:Below w.heap.size w w'):OwnInts w' base v xs :=
  ⟨h.1,h.2.kept (grownBy_of_below (B:=0) hb none) (by cases hv:v.ownBlock <;> simp)⟩
theorem OwnInts.setBelow {w:World} {base:Nat} {v:Value} {xs:List Int} (h:OwnInts w base v xs) {a:Addr} (ha:a.block<base) (u:Value):OwnInts (w.setCell a u) base v xs:=⟨h.1,ownsRow_setCell_below h.2 ha u⟩
theorem OwnInts.mono {w:World} {base base':Nat} {v:Value} {xs:List Int} (h:OwnInts w base v xs) (hb:base'<=base):OwnInts w base' v xs:=by
  refine⟨h.1,h.2.1,?_⟩
  rcases h.2.2 with h2|⟨g,cap,cur,e,hg,r⟩
  · exact .inl h2
  · exact .inr ⟨g,cap,cur,e,by omega,r⟩
theorem OwnInts.via {w0 w:World} {base base':Nat} {v0 v:Value} {xs0 xs:List Int} (_h0:OwnInts w0 base v0 xs0) (h:OwnInts w base v xs) (hb:base'<=base):OwnInts w base' v xs:=h.mono hb
theorem OwnInts.set {w:World} {base g c:Nat} {n:Nat} {xs:List Int} (h:OwnInts w base (.slice (some ⟨g,0,none⟩) n c) xs) {i:Nat} (hi:i<xs.length) {x:Int} (hx:I64 x) :
    OwnInts (w.setCell ⟨g,i,none⟩ (.int .i64 x)) base (.slice (some ⟨g,0,none⟩) n c) (xs.set i x):=by
  obtain⟨⟨h1,h2⟩,h3,h4⟩:=h
  refine⟨⟨λy hy=>?_,by simpa using h2⟩,by simp,?_⟩
  · rcases List.mem_or_eq_of_mem_set hy with hy|rfl
    · exact h1 y hy
    · exact hx
  · rcases h4 with ⟨e,_⟩|⟨g',cap,cur,e,hg,hh,hn,hc,hs,ht⟩
    · cases e
    · simp only [Value.slice.injEq,Option.some.injEq,Addr.mk.injEq] at e
      obtain⟨⟨rfl,_⟩,rfl,rfl⟩:=e
      refine .inr ⟨g,c,cur.setIfInBounds i (.int .i64 x),by simp,hg,?_,by simpa using hn,hc,by simpa using hs,?_⟩
      · simp only [World.setCell,Array.getElem?_modify,if_true,hh]
        rfl
      · simp only [List.length_set,Array.toList_setIfInBounds,List.map_set]
        rw[<- ht,List.take_set]
end Go.Proofs.Ytbeilcaadpopmab
namespace Go.Proofs.Ytbeilcaadpopmab
open Go.RowKit
def plF (xs:List Int) (top:Nat):Nat->Nat->Option (List Nat)
  | 0,p=>if p<top then none else some []
  | f+1,p=>if p<top then (if top<p+2 then none else if 0<=xs.getD (p+1) 0/\xs.getD (p+1) 0<=6/\p+2+(xs.getD (p+1) 0).toNat<=top then (plF xs top f (p+2+(xs.getD (p+1) 0).toNat)).map (p :: ·) else none) else some []
def places (xs:List Int) (top:Nat):Option (List Nat):=plF xs top 400 1
def PlInv (xs:List Int) (top:Nat) (p:Nat) (acc:List Nat):Prop :=
  ∃f,places xs top=(plF xs top f p).map (acc ++ ·)/\top<=p+2 * f/\p<=top/\1<=p/\acc.length * 2+1<=p/\(∀q ∈ acc,q<p)
theorem PlInv.start {xs:List Int} {top:Nat} (h1:1<=top) (h2:top<=400):PlInv xs top 1 [] :=
  ⟨400,by unfold places;cases plF xs top 400 1 <;> simp,by omega,h1,by omega,by simp,by simp⟩
theorem PlInv.done {xs:List Int} {top p:Nat} {acc:List Nat} (h:PlInv xs top p acc) (hp:¬ p<top):places xs top=some acc:=by
  obtain⟨f,h1,_⟩:=h
  rw[h1]
  cases f <;> simp[plF,hp]
theorem PlInv.short {xs:List Int} {top p:Nat} {acc:List Nat} (h:PlInv xs top p acc) (hp:p<top) (hs:top<p+2):places xs top=none:=by
  obtain⟨f,h1,h2,_⟩:=h
  rw[h1]
  cases f with
  | zero=>omega
  | succ f=>simp[plF,hp,hs]
theorem PlInv.bad {xs:List Int} {top p:Nat} {acc:List Nat} (h:PlInv xs top p acc) (hp:p<top) (hb:¬ (0<=xs.getD (p+1) 0/\xs.getD (p+1) 0<=6/\p+2+(xs.getD (p+1) 0).toNat<=top)):places xs top=none:=by
  obtain⟨f,h1,h2,_⟩:=h
  rw[h1]
  cases f with
  | zero=>omega
  | succ f =>
    rw[plF,if_pos hp]
    by_cases hs:top<p+2
    · simp[hs]
    · rw[if_neg hs,if_neg hb];rfl
theorem PlInv.step {xs:List Int} {top p m:Nat} {acc:List Nat} (h:PlInv xs top p acc) (hp:p<top) (hs:¬ top<p+2) (hm:xs.getD (p+1) 0=(m:Int)) (h6:m<=6) (ht:p+2+m<=top):PlInv xs top (p+2+m) (acc++[p]):=by
  obtain⟨f,h1,h2,h3,h4,h5,h7⟩:=h
  cases f with
  | zero=>omega
  | succ f =>
    refine⟨f,?_,by omega,ht,by omega,by simp;omega,?_⟩
    · rw[h1,plF,if_pos hp,if_neg hs,hm,if_pos ⟨by omega,by omega,by simpa using ht⟩]
      simp only [Int.toNat_natCast,Option.map_map]
      congr 1
      funext l
      simp
    · intro q hq
      rcases List.mem_append.1 hq with hq|hq
      · have:=h7 q hq;omega
      · simp at hq;omega
def nf (xs:List Int) (p:Nat):Nat:=(xs.getD (p+1) 0).toNat
def ObjAt (xs:List Int) (top p:Nat):Prop:=1<=p/\xs.getD (p+1) 0=(nf xs p:Int)/\nf xs p<=6/\p+2+nf xs p<=top
theorem plF_spec {xs:List Int} {top:Nat}:∀(f p:Nat) (l:List Nat),1<=p->plF xs top f p=some l->(∀q ∈ l,p<=q/\ObjAt xs top q)/\l.Pairwise (λa b=>a+2+nf xs a<=b)
  | 0,p,l,hp,h=>by
    unfold plF at h
    split at h
    · cases h
    · cases h;simp
  | f + 1, p, l, hp, h => by
    unfold plF at h
    split at h
    · split at h
      · cases h
      · split at h
        · rename_i h1 h2 h3
          obtain⟨r,hr,rfl⟩:=Option.map_eq_some_iff.1 h
          obtain⟨i1,i2⟩:=plF_spec f _ r (by omega) hr
          refine⟨λq hq=>?_,List.pairwise_cons.2 ⟨λq hq=>?_,i2⟩⟩
          · rcases List.mem_cons.1 hq with rfl|hq
            · exact⟨Nat.le_refl _,hp,by unfold nf;omega,by unfold nf;omega,by unfold nf;omega⟩
            · have:=i1 q hq
              exact⟨by omega,this.2⟩
          · exact (i1 q hq).1
        · cases h
    · cases h;simp
theorem places_obj {xs:List Int} {top:Nat} {l:List Nat} (h:places xs top=some l):∀q ∈ l,ObjAt xs top q:=λq hq=>((plF_spec _ _ _ (Nat.le_refl _) h).1 q hq).2
theorem places_pair {xs:List Int} {top:Nat} {l:List Nat} (h:places xs top=some l):l.Pairwise (λa b=>a+2+nf xs a<=b):=(plF_spec _ _ _ (Nat.le_refl _) h).2
theorem places_len {xs:List Int} {top:Nat} {l:List Nat} (h:places xs top=some l) (ht:1<=top):l.length * 2+1<=top:=by
  have:∀(f p:Nat) (l:List Nat),p<=top->plF xs top f p=some l->l.length * 2+p<=top:=by
    intro f
    induction f with
    | zero =>
      intro p l hp h
      unfold plF at h
      split at h
      · cases h
      · cases h;simpa using hp
    | succ f ih =>
      intro p l hp h
      unfold plF at h
      split at h
      · split at h
        · cases h
        · split at h
          · rename_i h1 h2 h3
            obtain⟨r,hr,rfl⟩:=Option.map_eq_some_iff.1 h
            have:=ih _ r h3.2.2 hr
            simp only [List.length_cons]
            omega
          · cases h
      · cases h;simpa using hp
  exact this _ _ _ ht h
def WordOk (l:List Nat) (x:Int):Prop:=(x % 2=0 -> -2199023255552<=x/\x<=2199023255552)/\(x % 2=1->x≠1->∃q ∈ l,x / 2=(q:Int))
def ObjOk (xs:List Int) (l:List Nat) (p:Nat):Prop:=0<=xs.getD p 0/\xs.getD p 0<=2147483648/\∀k,k<nf xs p->WordOk l (xs.getD (p+2+k) 0)
def HeapIs (xs:List Int) (top:Nat) (l:List Nat):Prop :=
  xs.length<=400/\1<=top/\top<=xs.length/\places xs top=some l/\(∀p ∈ l,ObjOk xs l p)/\∀i,top<=i->i<xs.length->xs.getD i 0=0
def HeapOk (xs:List Int) (top:Int):Prop:=∃(t:Nat) (l:List Nat),top=(t:Int)/\HeapIs xs t l
theorem heapOk_bounds {xs:List Int} {top:Int} (h:HeapOk xs top):1<=xs.length/\xs.length<=400/\1<=top/\top<=xs.length:=by
  obtain⟨t,l,rfl,h1,h2,h3,_⟩:=h
  omega
end Go.Proofs.Ytbeilcaadpopmab
namespace Go.Proofs.Ytbeilcaadpopmab
open Go.RowKit
def wordOf (k n:Int):Int:=if k=0 then 2 * n else 2 * n+1
set_option maxHeartbeats 400000 in
theorem word_any (k n:Int) (w:World) (h0 : -4611686018427387904<=n) (h1:n<4611686018427387904) :
    Calls Try.prog 53 #[.agg #[.int .i64 k,.int .i64 n]] w λe w'=>e = .returned (.int .i64 (wordOf k n))/\Below w.heap.size w w':=by
  by_cases hk:k=0
  · subst hk
    go_enter Try.func53,Try.ntmps53
    go_wp2
    go_ret
    exact⟨ret_int (by simp[wordOf]),(Below.refl _ _).alloc (Nat.le_refl _) _⟩
  · have hk':(k == 0)=false:=by simpa using hk
    have H:=Lib.hid hk;clear hk
    go_enter Try.func53,Try.ntmps53
    go_wp2
    go_ret
    exact⟨ret_int (by rw[wordOf,if_neg H.out]),(Below.refl _ _).alloc (Nat.le_refl _) _⟩
def ofK (x:Int):Int:=x % 2
def ofN (x:Int):Int:=x / 2
theorem ofK_even {x:Int} (h:x % 2=0):ofK x=0:=h
theorem ofK_odd {x:Int} (h:x % 2≠0):ofK x=1:=by unfold ofK;omega
theorem tdiv_even (x:Int) (h:x % 2=0):x.tdiv 2=ofN x:=by
  unfold ofN;rcases Int.le_total 0 x with h0|h0
  · rw[Int.tdiv_eq_ediv_of_nonneg h0]
  · have:x = -(-x):=by omega
    rw[this,Int.neg_tdiv,Int.tdiv_eq_ediv_of_nonneg (by omega)];omega
set_option maxHeartbeats 400000 in
theorem of_any (x:Int) (w:World) (h0 : -9223372036854775808<=x) (h1:x<=9223372036854775807) :
    Calls Try.prog 37 #[.int .i64 x] w λe w'=>e = .returned (.agg #[.int .i64 (ofK x),.int .i64 (ofN x)])/\Below w.heap.size w w':=by
  have hb:=and_one_i64 x
  by_cases hx:x % 2=0
  · have e0:(bits BinOp.and IntKind.i64 x 1 == 0)=true:=by rw[hb,hx];rfl
    have H:=Lib.hid (And.intro (ofK_even hx) (tdiv_even x hx));clear hx hb
    go_enter Try.func37,Try.ntmps37
    go_wp2
    refine bodyPost_ret (v:=.agg #[.int .i64 0,.int .i64 (x.tdiv 2)]) (by simp[results,Try.results37,go_sem]) rfl ⟨?_,(Below.refl _ _).alloc (Nat.le_refl _) _⟩
    rw[H.out.1,H.out.2]
  · have e0:(bits BinOp.and IntKind.i64 x 1 == 0)=false:=by rw[hb];simpa using hx
    have H:=Lib.hid (ofK_odd hx);clear hx hb
    go_enter Try.func37,Try.ntmps37
    go_wp2
    refine bodyPost_ret (v:=.agg #[.int .i64 1,.int .i64 (x / 2)]) (by simp[results,Try.results37,go_sem]) rfl ⟨?_,(Below.refl _ _).alloc (Nat.le_refl _) _⟩
    rw[H.out,ofN]
end Go.Proofs.Ytbeilcaadpopmab
namespace Go.Proofs.Ytbeilcaadpopmab
open Go.RowKit
theorem ownsRow_mono {w:World} {base base':Nat} {e:TypeId} {size:Nat} {v:Value} {n:Nat} {xs:List Value} (h:w.ownsRow base e size v n xs) (hb:base'<=base):w.ownsRow base' e size v n xs:=by
  refine⟨h.1,?_⟩
  rcases h.2 with h2|⟨g,cap,cur,e,hg,r⟩
  · exact .inl h2
  · exact .inr ⟨g,cap,cur,e,by omega,r⟩
theorem grownBy_none {w w':World} (h:w.grownBy w' none) (row:Option Nat):w.grownBy w' row:=⟨h.os,h.tape,h.output,h.size,λk hk _=>h.block k hk (by simp)⟩
theorem run_append_row {P:Program} (w:World) (base:Nat) (t ty e:TypeId) (i:TypeInfo) (z:Value) (size bytes:Nat) (ht:P.underlying t=some (.slice e)) (hi:P.info? e=some i) (hz:i.zero=some z)
    (hsize:i.size=size) (hby:i.bytes=bytes) (hzs:z.cells.size=size) (hsz:0<size)
    (v:Value) (n:Nat) (xs:List Value) (hown:w.ownsRow base e size v n xs) (sv:Value) (m:Nat) (news:List Value) (hs:Row w sv m size news) (h1:∀u ∈ news,u.oneCell' = true)
    (hbytes:(n+m) * bytes<=140737488355328) (hb1:0<bytes) (hbase:base<=w.heap.size) :
    ∃ v' w', (Builtin.append_ #[t, t] ty #[v, sv]).run P w = .ok v' w' ∧ w'.ownsRow base e size v' (n + m) (xs ++ news) ∧ w.grownBy w' v.ownBlock ∧ (v' = .slice none 0 0 ↔ v = .slice none 0 0 ∧ m = 0) ∧
      (v'.ownBlock=v.ownBlock\/(w'.ownsRow w.heap.size e size v' (n+m) (xs++news)/\w.grownBy w' none)):=by
  have h63:n+m<=maxLen:=by
    have:n+m<=(n+m) * bytes:=Nat.le_mul_of_pos_right _ hb1
    unfold maxLen;omega
  obtain⟨hl,hmle,sa,sc,rfl,hsc,hscm,hnone,hcell⟩:=hs
  cases sa with
  | none =>
    have:=hnone rfl
    subst this
    have hm0:m=0:=by omega
    subst hm0
    have hn0:news=[]:=List.eq_nil_of_length_eq_zero (by simpa using hl)
    subst hn0
    exact⟨v,w,run_append_owned_none (P:=P) w base t ty e i size ht hi v n xs hown,by simpa using hown,World.grownBy.refl _ _,by simp,.inl rfl⟩
  | some ad =>
    have hnews:∀j u,news[j]? = some u->w.cell? (ad.add j)=some u:=by
      intro j u hu
      have hj:j<news.length:=(List.getElem?_eq_some_iff.1 hu).1
      obtain⟨b,off,e',_,hc⟩:=hcell (by
        rcases Nat.eq_zero_or_pos m with h0|h0
        · subst h0;simp at hl;rw[hl] at hj;simp at hj
        · exact h0)
      obtain rfl:=Option.some.inj e'
      rw[Addr.add_lit,hc j hj,<- hu]
      simp[List.getD,hj]
    have hown2:=hown
    obtain⟨hxl,hcase⟩:=hown
    rcases hcase with ⟨rfl,rfl⟩|⟨g,cap,cur,rfl,hbg,hg,hnc,hcm,hcs,htake⟩
    · obtain⟨v',w',hrun,r1,r2,r3⟩:=run_append_own (P:=P) w w.heap.size t ty e i z size bytes ht hi hz hsize hby hzs hsz (.slice none 0 0) 0 xs ⟨hxl,.inl ⟨rfl,rfl⟩⟩ ad m sc news hl hnews h1 h63 hbytes (Nat.le_refl _)
      exact⟨v',w',hrun,ownsRow_mono r1 hbase,r2,r3,.inr ⟨r1,r2⟩⟩
    · by_cases hroom:n+m<=cap
      · obtain⟨w',hrun,r1,r2⟩:=run_append_fits (P:=P) w base t ty e i size ht hi hsize g n cap xs hown2 ad m sc news hl hnews h1 hroom
        exact⟨_,w',hrun,r1,r2,by simp,.inl rfl⟩
      · obtain⟨v',w',hrun,r1,r2⟩:=run_append_arg_grows (P:=P) w t ty e i z size bytes ht hi hz hsize hby hzs hsz ⟨g,0,none⟩ n cap xs hxl (hown2.cells (g:=g) rfl) ad m sc news hl hnews (by omega) h63 hbytes
        refine⟨v',w',hrun,ownsRow_mono r1 hbase,grownBy_none r2 _,?_,.inr ⟨r1,r2⟩⟩
        constructor
        · intro e'
          rcases r1.2 with ⟨_,h0⟩|⟨g',cap',cur',e2,_⟩
          · have:¬ (n+m<=cap):=hroom
            omega
          · rw[e'] at e2;cases e2
        · rintro ⟨h,_⟩;cases h
theorem Try.infoInt:(Try.prog.info? 3).map (λi=>(i.zero,i.size,i.bytes))=some (some (.int .i64 0),1,8):=by kernel_rfl
def Moved (w w':World) (v v':Value) (xs:List Int):Prop:=v'.ownBlock=v.ownBlock\/(OwnInts w' w.heap.size v' xs/\w.grownBy w' none)
theorem run_append_ints (w:World) (ty:TypeId) (base:Nat) (v:Value) (xs:List Int) (hown:OwnInts w base v xs)
    (sv:Value) (ys:List Int) (hy:Ints w sv ys) (hlen:xs.length+ys.length<=17592186044416) (hbase:base<=w.heap.size) :
    ∃v' w',(Builtin.append_ #[23,23] ty #[v,sv]).run Try.prog w = .ok v' w'/\OwnInts w' base v' (xs++ys)/\w.grownBy w' v.ownBlock/\Moved w w' v v' (xs++ys):=by
  obtain⟨i,hi,hz,h4,h5⟩:=info_parts Try.infoInt
  have hr:∀z ∈ xs++ys,I64 z:=λz hz=>by
    rcases List.mem_append.1 hz with hz|hz
    · exact hown.1.1 z hz
    · exact hy.1.1 z hz
  obtain⟨v',w',hrun,h1,h2,h3,h6⟩:=run_append_row (P:=Try.prog) w base 23 ty 3 i (.int .i64 0) 1 8 Try.underlying23 hi hz h4 h5 rfl (by decide) v xs.length _ hown.2 sv ys.length _ hy.2 (by
      intro u hu
      obtain⟨_,_,rfl⟩:=List.mem_map.1 hu
      rfl) (by omega) (by decide) hbase
  refine⟨v',w',hrun,⟨⟨hr,by simpa using hlen⟩,by simpa using h1⟩,h2,?_⟩
  rcases h6 with h6|⟨h6,h7⟩
  · exact .inl h6
  · exact .inr ⟨⟨⟨hr,by simpa using hlen⟩,by simpa using h6⟩,h7⟩
theorem wp_append_ints {o:Oper} {a:Act} {K:Act->World->Prop} {Q:Exit->Act->World->Prop} {w:World} (s x:Operand)
    (ho:o.op = .call { callee:=.builtin .append,args:=#[s,x],argTypes:=#[23,23] }) (base:Nat) (v:Value) (xs:List Int) (hs:a.eval s=v) (hown:OwnInts w base v xs)
    (sv:Value) (ys:List Int) (hx:a.eval x=sv) (hy:Ints w sv ys) (hlen:xs.length+ys.length<=17592186044416) (hbase:base<=w.heap.size)
    (h:∀v' w',OwnInts w' base v' (xs++ys)->w.grownBy w' v.ownBlock->Moved w w' v v' (xs++ys)->K (a.put o.dst v') w'):o.wp Try.prog a w K Q:=by
  obtain⟨v',w',hrun,h1,h2,h3⟩:=run_append_ints w o.type base v xs hown sv ys hy hlen hbase
  unfold Oper.wp
  simp[execOp,ho,resolve,invoke,builtin,hs,hx,hrun,Result.andThen]
  exact h v' w' h1 h2 h3
theorem wpl_append_ints {ops:Array Oper} {rest:List Oper} {o:Oper} {a:Act} {Q:Exit->Act->World->Prop} {w:World} (hg:o.guard=none) (s x:Operand)
    (ho:o.op = .call { callee:=.builtin .append,args:=#[s,x],argTypes:=#[23,23] }) (base:Nat) (v:Value) (xs:List Int) (hs:a.eval s=v) (hown:OwnInts w base v xs)
    (sv:Value) (ys:List Int) (hx:a.eval x=sv) (hy:Ints w sv ys) (hlen:xs.length+ys.length<=17592186044416) (hbase:base<=w.heap.size)
    (h:∀v' w',OwnInts w' base v' (xs++ys)->w.grownBy w' v.ownBlock->Moved w w' v v' (xs++ys)->wpList Try.prog ops Q rest (a.put o.dst v') w'):wpList Try.prog ops Q (o :: rest) a w :=
  wpList_plain hg λK' hK'=>wp_append_ints s x ho base v xs hs hown sv ys hx hy hlen hbase λv' w' h1 h2 h3=>hK' _ _ (h v' w' h1 h2 h3)
theorem OwnInts.built (w:World) (xs:List Int) (hr:∀x ∈ xs,I64 x) (hl:xs.length<=17592186044416) :
    OwnInts (w.alloc (.cells (xs.map (Value.int .i64)).toArray 3)) w.heap.size (.slice (some ⟨w.heap.size,0,none⟩) xs.length xs.length) xs :=
  ⟨⟨hr,hl⟩,by simp,.inr ⟨w.heap.size,xs.length,_,rfl,Nat.le_refl _,heap_alloc_new w _,Nat.le_refl _,by unfold maxLen;omega,by simp,by simp[List.take_of_length_le]⟩⟩
theorem OwnInts.grown {w w':World} {base:Nat} {v:Value} {xs:List Int} {row:Option Nat} (h:OwnInts w base v xs) (hg:w.grownBy w' row) (hne:v.ownBlock=none\/v.ownBlock≠row):OwnInts w' base v xs:=⟨h.1,h.2.kept hg hne⟩
theorem OwnInts.lt {w:World} {base:Nat} {v:Value} {xs:List Int} (h:OwnInts w base v xs) {k:Nat} (hk:v.ownBlock=some k):base<=k/\k<w.heap.size:=h.2.lt k hk
theorem built_one (w:World) (x:Int) (hx:I64 x):Ints (w.alloc (.cells #[.int .i64 x] 3)) (.slice (some ⟨w.heap.size,0,none⟩) 1 1) [x] :=
  (OwnInts.built w [x] (by simpa using hx) (by simp)).ints
theorem moved_ne {w w':World} {v v':Value} {xs:List Int} {g:Nat} (hm:Moved w w' v v' xs) (hg:g<w.heap.size) (hne:v.ownBlock≠some g):v'.ownBlock≠some g:=by
  rcases hm with hm|⟨hm,_⟩
  · rw[hm];exact hne
  · intro e
    have:=(hm.lt e).1
    omega
theorem OwnInts.take {w:World} {base n c k:Nat} {a:Addr} {xs:List Int} (h:OwnInts w base (.slice (some a) n c) xs) (hk:k<=xs.length):OwnInts w base (.slice (some a) k c) (xs.take k):=by
  obtain⟨⟨h1,h2⟩,h3,h4⟩:=h
  refine⟨⟨λx hx=>h1 x (List.mem_of_mem_take hx),by simp;omega⟩,by simp,?_⟩
  rcases h4 with ⟨e,_⟩|⟨g,cap,cur,e,hg,hh,hn,hc,hs,ht⟩
  · cases e
  · simp only [Value.slice.injEq,Option.some.injEq] at e
    obtain⟨rfl,rfl,rfl⟩:=e
    have hl:(xs.take k).length=k:=by simp;omega
    refine .inr ⟨g,c,cur,by rw[hl],hg,hh,by rw[hl];omega,hc,hs,?_⟩
    rw[hl,List.map_take,<- ht,List.take_take]
    congr 1;simp;omega
end Go.Proofs.Ytbeilcaadpopmab
namespace Go.Proofs.Ytbeilcaadpopmab
open Go.RowKit
def RetInts (w:World) (xs:List Int) (e:Ending) (w':World):Prop:=∃a c,e = .returned (.slice a xs.length c)/\OwnInts w' w.heap.size (.slice a xs.length c) xs/\Below w.heap.size w w'
theorem RetInts.mk {w w':World} {xs:List Int} {v:Value} (h:OwnInts w' w.heap.size v xs) (hb:Below w.heap.size w w'):RetInts w xs (.returned v) w':=by
  obtain⟨a,c,rfl⟩:=h.shape
  exact⟨a,c,rfl,h,hb⟩
set_option maxHeartbeats 400000 in
theorem clone_any (v:Value) (xs:List Int) (w:World) (h:Ints w v xs):Calls Try.prog 70 #[v] w (RetInts w xs):=by
  obtain⟨a,c,rfl,hc,hcm,hn⟩:=h.len
  have hle:=h.le
  cases a with
  | none =>
    have:=hn rfl
    subst this
    have hx:xs=[]:=List.eq_nil_of_length_eq_zero (by omega)
    subst hx
    clear h hn
    have hq:=@Lib.run_eql_slice_nil Try.prog
    go_enter Try.func70,Try.ntmps70
    go_wp2
    go_ret
    exact RetInts.mk ⟨⟨by simp,by simp⟩,World.ownsRow_nil _ _ _ _⟩ (by ((repeat first|exact bR _ _|with_reducible first|refine bN ?_|refine bD ?_|refine bA ?_ ?_|refine bS ?_ ?_);all_goals first|exact Nat.le_refl _|(simp;done)|omega|(simp;omega)))
  | some ad =>
    have H:=Lib.hid h;clear h hn
    have hq:=@Lib.run_eql_slice_nil Try.prog
    have hown:OwnInts (w.alloc (.cells #[] 3)) w.heap.size (.slice (some ⟨w.heap.size,0,none⟩) 0 0) []:=⟨⟨by simp,by simp⟩,World.ownsRow_made w #[] 0 (Nat.le_refl _) (Nat.zero_le _) rfl⟩
    have hin:Ints (w.alloc (.cells #[] 3)) (.slice (some ad) xs.length c) xs:=H.out.below (Nat.le_refl _) (by ((repeat first|exact bR _ _|with_reducible first|refine bN ?_|refine bD ?_|refine bA ?_ ?_|refine bS ?_ ?_);all_goals first|exact Nat.le_refl _|(simp;done)|omega|(simp;omega)))
    have HO:=Lib.hid hown;clear hown
    have HI:=Lib.hid hin;clear hin
    go_enter Try.func70,Try.ntmps70
    go_wp2_with (at_builtin;refine wpl_append_ints rfl _ _ rfl w.heap.size (.slice (some ⟨w.heap.size,0,none⟩) 0 0) [] rfl HO.out _ xs rfl HI.out (by simp;omega) (by simp) ?_;intro v' w' hv' hg hmv)
    go_ret
    exact RetInts.mk (by simpa using hv') (((Below.refl _ _).alloc (Nat.le_refl _) _).grown hg (by simp) (by simp[Value.ownBlock]))
def RetHeap (w:World) (xs:List Int) (top:Int) (e:Ending) (w':World):Prop:=∃a c,e = .returned (.agg #[.slice a xs.length c,.int .i64 top])/\OwnInts w' w.heap.size (.slice a xs.length c) xs/\Below w.heap.size w w'
set_option maxHeartbeats 400000 in
theorem heapCopy_any (v:Value) (xs:List Int) (top:Int) (w:World) (h:Ints w v xs) :
    Calls Try.prog 48 #[.agg #[v,.int .i64 top]] w (RetHeap w xs top):=by
  obtain⟨a,c,rfl,hc,hcm,hn⟩:=h.len
  have hle:=h.le
  have H:=Lib.hid (h.below (Nat.le_refl _) ((((Below.refl _ w).alloc (Nat.le_refl _) (.cells #[.slice a xs.length c,.int .i64 top] 25)).alloc (by simp) (.cells #[.slice none 0 0,.int .i64 0] 25))));clear h hn
  go_enter Try.func48,Try.ntmps48
  go_wp2_with (go_at_call 70;refine (clone_any _ _ _ H.out).mono ?_;rintro e w1 ⟨a1,c1,rfl,hv1,hb⟩;have zc1:=Nat.lt_of_lt_of_le (show w.heap.size<_ from (by first|(simp;done)|omega|(simp;omega))) (Below.size hb);have fc1_0:=Below.cell hb (p:=⟨w.heap.size,0,none⟩) (by first|(simp;done)|omega|(simp;omega));have gc1_0:=Below.frozen hb (p:=⟨w.heap.size,0,none⟩) (by first|(simp;done)|omega|(simp;omega));have fc1_1:=Below.cell hb (p:=⟨w.heap.size,1,none⟩) (by first|(simp;done)|omega|(simp;omega));have gc1_1:=Below.frozen hb (p:=⟨w.heap.size,1,none⟩) (by first|(simp;done)|omega|(simp;omega));(try simp at fc1_0 gc1_0 fc1_1 gc1_1);have zc2:=Nat.lt_of_lt_of_le (show w.heap.size+1<_ from (by first|(simp;done)|omega|(simp;omega))) (Below.size hb);have fc2_0:=Below.cell hb (p:=⟨w.heap.size+1,0,none⟩) (by first|(simp;done)|omega|(simp;omega));have gc2_0:=Below.frozen hb (p:=⟨w.heap.size+1,0,none⟩) (by first|(simp;done)|omega|(simp;omega));have fc2_1:=Below.cell hb (p:=⟨w.heap.size+1,1,none⟩) (by first|(simp;done)|omega|(simp;omega));have gc2_1:=Below.frozen hb (p:=⟨w.heap.size+1,1,none⟩) (by first|(simp;done)|omega|(simp;omega));(try simp at fc2_0 gc2_0 fc2_1 gc2_1))
  refine bodyPost_ret (v:=.agg #[.slice a1 xs.length c1,.int .i64 top]) (by simp[results,Try.results48,go_sem, *]) rfl ⟨a1,c1,rfl,?_,(by ((repeat first|exact bR _ _|with_reducible first|refine bT ?_ hb ?_|refine bN ?_|refine bD ?_|refine bA ?_ ?_|refine bS ?_ ?_);all_goals first|exact Nat.le_refl _|(simp;done)|omega|(simp;omega)|(have z0:=Below.size hb;omega)|(have z0:=Below.size hb;simp at *;omega)))⟩
  exact ((((hv1.setBelow (by simp;omega) _).setBelow (by simp) _).setBelow (by simp) _).mono (by simp;omega))
end Go.Proofs.Ytbeilcaadpopmab
namespace Go.Proofs.Ytbeilcaadpopmab
open Go.RowKit
def hasB (l:List Int) (n:Int):Bool:=l.contains n
theorem hasB_of {l:List Int} {n:Int} {k:Nat} (hk:k<l.length) (h:(l.getD k 0 == n)=true):hasB l n=true:=by
  simp[List.getD,hk] at h
  simp only [hasB,List.contains_iff_mem,<- h]
  exact List.getElem_mem _
theorem hasB_not {l:List Int} {n:Int} (h:∀j,j<l.length->l.getD j 0≠n):hasB l n=false:=by
  rw[hasB,Bool.eq_false_iff]
  intro hc
  rw[List.contains_iff_mem] at hc
  obtain⟨i,hi,e⟩:=List.getElem_of_mem hc
  exact h i hi (by simp[List.getD,hi,e])
theorem notnot (x:Int):(x != x)=false:=by simp
set_option maxHeartbeats 400000 in
theorem cmpNaN_any (x:Int) (w:World):Calls Try.prog 90 #[.int .i64 x] w λe w'=>e = .returned (.bool false)/\w=w':=by
  have h:=notnot x
  go_enter Try.func90,Try.ntmps90
  go_wp2
  go_ret
  exact⟨rfl,rfl⟩
set_option maxHeartbeats 400000 in
theorem isNaN_any (x:Int) (w:World):Calls Try.prog 72 #[.int .i64 x] w λe w'=>e = .returned (.bool false)/\w=w':=by
  have h:=notnot x
  go_enter Try.func72,Try.ntmps72
  go_wp2
  go_ret
  exact⟨rfl,rfl⟩
set_option maxHeartbeats 400000 in
theorem less_any (x y:Int) (w:World):Calls Try.prog 71 #[.int .i64 x,.int .i64 y] w λe w'=>e = .returned (.bool (decide (x<y)))/\w=w':=by
  go_enter Try.func71,Try.ntmps71
  go_wp2_with (go_at_call 90;refine (cmpNaN_any _ _).mono ?_;rintro e w' ⟨rfl,rfl⟩)
  go_ret
  exact⟨rfl,rfl⟩
def Rises (l:List Int):Prop:=∀i j,i<j->j<l.length->l.getD i 0<l.getD j 0
def BsInv (l:List Int) (t:Int) (i j:Nat):Prop:=i<=j/\j<=l.length/\(∀a,a<i->l.getD a 0<t)/\∀b,j<=b->b<l.length->t<=l.getD b 0
theorem BsInv.up {l:List Int} {t:Int} {i j h:Nat} (hr:Rises l) (hi:BsInv l t i j) (h1:i<=h) (h2:h<j) (hx:l.getD h 0<t):BsInv l t (h+1) j:=by
  obtain⟨a1,a2,a3,a4⟩:=hi
  refine⟨by omega,a2,λa ha=>?_,a4⟩
  by_cases e:a=h
  · rw[e];exact hx
  · have:=hr a h (by omega) (by omega)
    omega
theorem BsInv.down {l:List Int} {t:Int} {i j h:Nat} (hr:Rises l) (hi:BsInv l t i j) (h1:i<=h) (h2:h<j) (hx:¬ l.getD h 0<t):BsInv l t i h:=by
  obtain⟨a1,a2,a3,a4⟩:=hi
  refine⟨h1,by omega,a3,λb hb hl=>?_⟩
  by_cases e:b=h
  · rw[e];omega
  · have:=hr h b (by omega) hl
    omega
theorem BsInv.found {l:List Int} {t:Int} {i:Nat} (hl:i<l.length) (hx:l.getD i 0=t):hasB l t=true:=hasB_of hl (by rw[hx];simp)
theorem BsInv.not {l:List Int} {t:Int} {i j:Nat} (hr:Rises l) (hi:BsInv l t i j) (hij:¬ i<j) (hx:i<l.length->l.getD i 0≠t):hasB l t=false:=by
  obtain⟨a1,a2,a3,a4⟩:=hi
  refine hasB_not λk hk=>?_
  by_cases h1:k<i
  · have:=a3 k h1;omega
  · by_cases h2:k=i
    · subst h2;exact hx hk
    · have h3:=hr i k (by omega) hk
      have h4:=a4 i (by omega) (by omega)
      omega
def RetFound (w:World) (r:Bool) (e:Ending) (w':World):Prop:=∃i:Int,e = .returned (.tuple #[.int .i64 i,.bool r])/\w=w'
theorem RetFound.mk {w:World} {r r':Bool} {i:Int} (h:r=r'):RetFound w r (.returned (.tuple #[.int .i64 i,.bool r'])) w:=⟨i,by rw[h],rfl⟩
set_option maxHeartbeats 1000000 in
set_option maxRecDepth 1000000 in
theorem search_any (v:Value) (l:List Int) (t:Int) (w:World) (h:Ints w v l) (hr:Rises l) :
    Calls Try.prog 50 #[v,.int .i64 t] w (RetFound w (hasB l t)):=by
  obtain⟨a,c,rfl,hc,hcm,_⟩:=h.len
  have hle:=h.le
  have H:=Lib.hid h;clear h
  have HR:=Lib.hid hr;clear hr
  go_enter Try.func50,Try.ntmps50
  go_wp2_with fail
  go_loop [7,8] (λu v=>∃i j:Nat,u = .int .i64 i/\v = .int .i64 j/\BsInv l t i j) (λu v=>(intOf v - intOf u).toNat)
  case atStart=>exact⟨0,l.length,rfl,rfl,Nat.zero_le _,Nat.le_refl _,by omega,by omega⟩
  case round =>
    obtain⟨i,j,rfl,rfl,hinv⟩:=hrel
    have hij:=hinv.1
    have hjl:=hinv.2.1
    have HI:=Lib.hid hinv;clear hinv
    by_cases hlt:i<j
    · obtain⟨b,o,rfl,_,hc1⟩:=H.out.at (by omega)
      replace hc1:=hc1 ((i+j) / 2) (by omega)
      obtain⟨x,hx⟩:∃x,x=l.getD ((i+j) / 2) 0:=⟨_,rfl⟩
      rw[<- hx] at hc1
      have h1:i<=(i+j) / 2:=by omega
      have h2:(i+j) / 2<j:=by omega
      by_cases hxt:x<t
      · have HX:=Lib.hid (HI.out.up HR.out h1 h2 (by rw[<- hx];exact hxt));clear hx
        go_wp2_with (go_at_call 71;refine (less_any _ _ _).mono ?_;rintro e w' ⟨rfl,rfl⟩)
        go_round
        case rel=>exact⟨(i+j) / 2+1,j,int_eq (by omega),rfl,HX.out⟩
        case measure=>simp[intOf];omega
      · have HX:=Lib.hid (HI.out.down HR.out h1 h2 (by rw[<- hx];exact hxt));clear hx
        go_wp2_with (go_at_call 71;refine (less_any _ _ _).mono ?_;rintro e w' ⟨rfl,rfl⟩)
        go_round
        case rel=>exact⟨i,(i+j) / 2,rfl,int_eq (by omega),HX.out⟩
        case measure=>simp[intOf];omega
    · by_cases hil:i<l.length
      · obtain⟨b,o,rfl,_,hc1⟩:=H.out.at (by omega)
        replace hc1:=hc1 i hil
        obtain⟨x,hx⟩:∃x,x=l.getD i 0:=⟨_,rfl⟩
        rw[<- hx] at hc1
        by_cases hxt:x=t
        · subst hxt
          have HX:=Lib.hid (BsInv.found hil hx.symm);clear hx
          have hb:(x == x)=true:=by simp
          go_wp2_with (go_at_call 72;refine (isNaN_any _ _).mono ?_;rintro e w' ⟨rfl,rfl⟩)
          go_ret2
          exact RetFound.mk HX.out
        · have HX:=Lib.hid (HI.out.not HR.out hlt (λ_=>by rw[<- hx];exact hxt));clear hx
          have hb:(x == t)=false:=by simpa using hxt
          clear hxt
          go_wp2_with (go_at_call 72;refine (isNaN_any _ _).mono ?_;rintro e w' ⟨rfl,rfl⟩)
          go_ret2
          exact RetFound.mk HX.out
      · have HX:=Lib.hid (HI.out.not HR.out hlt (λh=>absurd h hil))
        go_wp2_with (go_at_call 72;refine (isNaN_any _ _).mono ?_;rintro e w' ⟨rfl,rfl⟩)
        go_ret2
        exact RetFound.mk HX.out
end Go.Proofs.Ytbeilcaadpopmab
namespace Go.Proofs.Ytbeilcaadpopmab
open Go.RowKit
theorem madeInts (n:Nat):(madeCells (Value.int .i64 0).cells (n * 1)).toList=(List.replicate n 0).map (Value.int .i64):=by
  simp only [Nat.mul_one,madeCells,Value.cells]
  apply List.ext_getElem
  · simp
  · intro i h1 h2
    have:i % 1=0:=Nat.mod_one i
    simp[this]
theorem wpl_make_ints {ops:Array Oper} {rest:List Oper} {o:Oper} {a:Act} {Q:Exit->Act->World->Prop} {w:World} (hg:o.guard=none) (l c:Operand)
    (ho:o.op=Op.makeSlice 23 l c) (base:Nat) (n:Nat) (N:Int) (hN:N=(n:Int)) (hl:a.eval l = .int .i64 N) (hc:a.eval c = .int .i64 N) (hlen:n<=17592186044416) (hbase:base<=w.heap.size)
    (h:∀w',OwnInts w' base (.slice (some ⟨w.heap.size,0,none⟩) n n) (List.replicate n 0)->w.grownBy w' none->wpList Try.prog ops Q rest (a.put o.dst (.slice (some ⟨w.heap.size,0,none⟩) n n)) w'):wpList Try.prog ops Q (o :: rest) a w:=by
  obtain⟨i,hi,hz,h4,h5⟩:=info_parts Try.infoInt
  refine wpList_make_full w hg l c 23 ho base 3 i (.int .i64 0) 1 Try.underlying23 hi hz h4 .i64 .i64 N N n hl hc hN hN (by rw[h5];omega) (by unfold maxLen;omega) hbase (λw' h1 h2=>h w' ⟨⟨λx hx=>?_,by simpa using hlen⟩,?_⟩ h2)
  · rw[List.eq_of_mem_replicate hx];unfold I64;omega
  · rw[madeInts] at h1
    simpa using h1
def RetNew (w:World) (n:Int) (e:Ending) (w':World):Prop :=
  Below w.heap.size w w'/\((∃(m:Nat) (a:Option Addr) (c:Nat),n=(m:Int)/\1<=m/\m<=400/\e = .returned (.tuple #[.agg #[.slice a m c,.int .i64 1],.int .i64 0])/\OwnInts w' w.heap.size (.slice a m c) (List.replicate m 0)) \/
    (¬ (1<=n/\n<=400)/\e = .returned (.tuple #[.agg #[.slice none 0 0,.int .i64 0],.int .i64 2])))
set_option maxHeartbeats 400000 in
theorem new_any (n:Int) (w:World):Calls Try.prog 16 #[.int .i64 n] w (RetNew w n):=by
  by_cases h1:n<1
  · go_enter Try.func16,Try.ntmps16
    go_wp2
    refine bodyPost_ret (v:=.tuple #[.agg #[.slice none 0 0,.int .i64 0],.int .i64 2]) (by simp[results,Try.results16,go_sem, *]) rfl ⟨(by ((repeat first|exact bR _ _|with_reducible first|refine bN ?_|refine bD ?_|refine bA ?_ ?_|refine bS ?_ ?_);all_goals first|exact Nat.le_refl _|(simp;done)|omega|(simp;omega))),.inr ⟨by omega,rfl⟩⟩
  · by_cases h2:400<n
    · go_enter Try.func16,Try.ntmps16
      go_wp2
      refine bodyPost_ret (v:=.tuple #[.agg #[.slice none 0 0,.int .i64 0],.int .i64 2]) (by simp[results,Try.results16,go_sem, *]) rfl ⟨(by ((repeat first|exact bR _ _|with_reducible first|refine bN ?_|refine bD ?_|refine bA ?_ ?_|refine bS ?_ ?_);all_goals first|exact Nat.le_refl _|(simp;done)|omega|(simp;omega))),.inr ⟨by omega,rfl⟩⟩
    · obtain⟨m,rfl⟩:=Int.eq_ofNat_of_zero_le (show 0<=n by omega)
      go_enter Try.func16,Try.ntmps16
      go_wp2_with (at_make;refine wpl_make_ints rfl _ _ rfl (w.heap.size+1) m _ rfl rfl rfl (by omega) (by simp) ?_;intro w' hv' hg;simp only [World.size_alloc] at hv';have hb:=Below.grown (Below.refl _ _) hg (Nat.le_refl _) (by simp);have zc1:=Nat.lt_of_lt_of_le (show w.heap.size<_ from (by first|(simp;done)|omega|(simp;omega))) (Below.size hb);have fc1_0:=Below.cell hb (p:=⟨w.heap.size,0,none⟩) (by first|(simp;done)|omega|(simp;omega));have gc1_0:=Below.frozen hb (p:=⟨w.heap.size,0,none⟩) (by first|(simp;done)|omega|(simp;omega));have fc1_1:=Below.cell hb (p:=⟨w.heap.size,1,none⟩) (by first|(simp;done)|omega|(simp;omega));have gc1_1:=Below.frozen hb (p:=⟨w.heap.size,1,none⟩) (by first|(simp;done)|omega|(simp;omega));(try simp at fc1_0 gc1_0 fc1_1 gc1_1))
      refine bodyPost_ret (v:=.tuple #[.agg #[.slice (some ⟨w.heap.size+1,0,none⟩) m m,.int .i64 1],.int .i64 0]) (by simp[results,Try.results16,go_sem, *]) rfl ⟨(by ((repeat first|exact bR _ _|with_reducible first|refine bT ?_ hb ?_|refine bN ?_|refine bD ?_|refine bA ?_ ?_|refine bS ?_ ?_);all_goals first|exact Nat.le_refl _|(simp;done)|omega|(simp;omega)|(have z0:=Below.size hb;omega)|(have z0:=Below.size hb;simp at *;omega))),.inl ⟨m,some ⟨w.heap.size+1,0,none⟩,m,rfl,by omega,by omega,rfl,?_⟩⟩
      exact (by refine OwnInts.via hv' (base':=w.heap.size) ?_ ?_;(repeat (first|exact hv'|with_reducible refine OwnInts.setBelow ?_ ?_ _|with_reducible refine OwnInts.below ?_ (Below.drew (Below.refl _ _))|with_reducible refine OwnInts.below ?_ (below_drewN (Below.refl _ _) _)|with_reducible refine OwnInts.below ?_ (Below.alloc (Below.refl _ _) (Nat.le_refl _) _)));all_goals (first|exact Nat.le_refl _|(simp;done)|omega|(simp;omega)))
end Go.Proofs.Ytbeilcaadpopmab
namespace Go.Proofs.Ytbeilcaadpopmab
open Go.RowKit
def intsOf (l:List Nat):List Int:=l.map (λn:Nat=>(n:Int))
theorem intsOf_snoc (l:List Nat) (n:Nat):intsOf (l++[n])=intsOf l++[(n:Int)]:=by simp[intsOf]
theorem intsOf_length (l:List Nat):(intsOf l).length=l.length:=by simp[intsOf]
def RetPlaces (w:World) (r:Option (List Nat)) (e:Ending) (w':World):Prop :=
  Below w.heap.size w w'/\((∃(l:List Nat) (a:Option Addr) (c:Nat),r=some l/\e = .returned (.tuple #[.slice a l.length c,.bool true])/\OwnInts w' w.heap.size (.slice a l.length c) (intsOf l)) \/
    (r=none/\e = .returned (.tuple #[.slice none 0 0,.bool false])))
theorem RetPlaces.bad {w w':World} {r:Option (List Nat)} (h:r=none) (hb:Below w.heap.size w w'):RetPlaces w r (.returned (.tuple #[.slice none 0 0,.bool false])) w':=⟨hb,.inr ⟨h,rfl⟩⟩
theorem RetPlaces.good {w w':World} {r:Option (List Nat)} {l:List Nat} {v:Value} {B:Nat} (h:r=some l) (hb:Below w.heap.size w w') (hv:OwnInts w' B v (intsOf l)) (hB:w.heap.size<=B) :
    RetPlaces w r (.returned (.tuple #[v,.bool true])) w':=by
  obtain⟨a,c,rfl⟩:=hv.shape
  rw[intsOf_length] at hv ⊢
  exact⟨hb,.inl ⟨l,a,c,h,rfl,hv.mono hB⟩⟩
set_option maxHeartbeats 1000000 in
theorem places_any (v:Value) (xs:List Int) (top:Nat) (w:World) (h:Ints w v xs) (h1:1<=top) (h2:top<=xs.length) (h3:xs.length<=400) :
    Calls Try.prog 49 #[.agg #[v,.int .i64 top]] w (RetPlaces w (places xs top)):=by
  obtain⟨a,c,rfl,hc,hcm,_⟩:=h.len
  obtain⟨b,o,rfl,hbs,hcell⟩:=h.at (by omega)
  have HC:=Lib.hid hcell;clear hcell
  have HH:=Lib.hid h;clear h
  have hb0:Below (w.heap.size+1) (w.alloc (.cells #[.slice (some ⟨b,o,none⟩) xs.length c,.int .i64 top] 25)) (w.alloc (.cells #[.slice (some ⟨b,o,none⟩) xs.length c,.int .i64 top] 25)):=Below.refl _ _
  have HB0:=Lib.hid hb0;clear hb0
  go_enter Try.func49,Try.ntmps49
  go_wp2_with fail
  go_loopw [4,5] (λl i wr=>∃(p:Nat) (acc:List Nat),i = .int .i64 p/\PlInv xs top p acc/\OwnInts wr (w.heap.size+1) l (intsOf acc)/\Below (w.heap.size+1) (w.alloc (.cells #[.slice (some ⟨b,o,none⟩) xs.length c,.int .i64 top] 25)) wr) (λ_ i _=>top - (intOf i).toNat)
  case atStart=>exact⟨1,[],rfl,PlInv.start h1 (by omega),⟨⟨by simp[intsOf],by simp[intsOf]⟩,World.ownsRow_nil _ _ _ _⟩,HB0.out⟩
  case round =>
    obtain⟨p,acc,rfl,hinv,hown,hbel⟩:=hrel
    have hsz:=hbel.size
    rw[World.size_alloc] at hsz
    have hp400:p<=top:=by obtain⟨f,_,_,h,_⟩:=hinv;exact h
    have hacc:acc.length * 2+1<=p:=by obtain⟨f,_,_,_,_,h,_⟩:=hinv;exact h
    have f0:=hbel.cell (p:=⟨w.heap.size,0,none⟩) (by first|exact Nat.le_refl _|(simp;done)|omega|(simp;omega))
    have f1:=hbel.cell (p:=⟨w.heap.size,1,none⟩) (by first|exact Nat.le_refl _|(simp;done)|omega|(simp;omega))
    simp at f0 f1
    have HBEL:Below w.heap.size w wr:=((Below.refl _ w).alloc (Nat.le_refl _) _).trans (hbel.mono (by omega))
    have HO:=Lib.hid hown;clear hown
    have HI:=Lib.hid hinv;clear hinv
    have HB:=Lib.hid hbel;clear hbel
    have HW:=Lib.hid HBEL;clear HBEL HB0
    by_cases hp:p<top
    · by_cases hs:top<p+2
      · go_wp2
        go_ret2
        exact RetPlaces.bad (HI.out.short hp hs) HW.out
      · have hcl:=HC.out (p+1) (by omega)
        have hcl2:=(HW.out.cell (p:=⟨b,o+(p+1),none⟩) hbs).trans hcl
        clear hcl
        have hrg:=HH.out.range (p+1)
        obtain⟨n,hn⟩:∃n,n=xs.getD (p+1) 0:=⟨_,rfl⟩
        rw[<- hn] at hcl2 hrg
        obtain⟨hr1,hr2⟩:=hrg
        have HN:=Lib.hid hn;clear hn
        by_cases hn0:n<0
        · have HX:=Lib.hid (HI.out.bad hp (by rw[<- HN.out];omega))
          go_wp2
          go_ret2
          exact RetPlaces.bad HX.out HW.out
        · by_cases hn6:6<n
          · have HX:=Lib.hid (HI.out.bad hp (by rw[<- HN.out];omega))
            go_wp2
            go_ret2
            exact RetPlaces.bad HX.out HW.out
          · obtain⟨m,rfl⟩:=Int.eq_ofNat_of_zero_le (show 0<=n by omega)
            by_cases ht:p+2+m<=top
            · have HX:=Lib.hid (HI.out.step hp hs HN.out.symm (by omega) ht)
              go_wp2_with (at_builtin;refine wpl_append_ints rfl _ _ rfl (w.heap.size+1) _ (intsOf acc) rfl (HO.out.below (Below.alloc (Below.refl _ _) (Nat.le_refl _) _)) _ [(p:Int)] rfl (built_one _ _ (by unfold I64;omega)) (by simp[intsOf];omega) (by first|exact Nat.le_refl _|(simp;done)|omega|(simp;omega)) ?_;intro v2 w2 hv2 hg2 hm2)
              have hlt5:∀j,u4.ownBlock=some j->w.heap.size+1<=j:=λj hj=>(HO.out.lt hj).1
              go_roundw
              case rel=>exact⟨p+2+m,acc++[p],int_eq (by omega),HX.out,by rw[intsOf_snoc];exact hv2,(HB.out.alloc hsz _).grown hg2 (by first|exact Nat.le_refl _|(simp;done)|omega|(simp;omega)) hlt5⟩
              case measure=>simp[intOf];omega
            · have HX:=Lib.hid (HI.out.bad hp (by rw[<- HN.out];omega))
              go_wp2
              go_ret2
              exact RetPlaces.bad HX.out HW.out
    · go_wp2
      go_ret2
      exact RetPlaces.good (HI.out.done hp) HW.out HO.out (by omega)
end Go.Proofs.Ytbeilcaadpopmab
namespace Go.Proofs.Ytbeilcaadpopmab
open Go.RowKit
theorem hasB_places {l:List Nat} {x:Int}:hasB (intsOf l) x=true ↔ ∃q ∈ l,x=(q:Int):=by
  simp only [hasB,List.contains_iff_mem,intsOf,List.mem_map]
  exact⟨λ⟨q,h,e⟩=>⟨q,h,e.symm⟩,λ⟨q,h,e⟩=>⟨q,h,e.symm⟩⟩
theorem rises_places {xs:List Int} {top:Nat} {l:List Nat} (h:places xs top=some l):Rises (intsOf l):=by
  intro i j hij hj
  rw[intsOf_length] at hj
  have:=List.pairwise_iff_getElem.1 (places_pair h) i j (by omega) hj hij
  simp[intsOf,List.getD,hj,show i<l.length by omega]
  omega
def RetCheck (w:World) (xs:List Int) (top:Int) (e:Ending) (w':World):Prop :=
  Below w.heap.size w w'/\((HeapOk xs top/\e = .returned (.int .i64 0))\/(¬ HeapOk xs top/\e = .returned (.int .i64 5)))
theorem RetCheck.bad {w w':World} {xs:List Int} {top:Int} (h:¬ HeapOk xs top) (hb:Below w.heap.size w w'):RetCheck w xs top (.returned (.int .i64 5)) w':=⟨hb,.inr ⟨h,rfl⟩⟩
theorem not_ok_len {xs:List Int} {top:Int} (h:¬ (1<=xs.length/\xs.length<=400/\1<=top/\top<=xs.length)):¬ HeapOk xs top:=λh'=>h (heapOk_bounds h')
set_option maxHeartbeats 1000000 in
set_option maxRecDepth 100000 in
theorem check_limits (v:Value) (xs:List Int) (top:Int) (w:World) (h:Ints w v xs) (hl:¬ (1<=xs.length/\xs.length<=400/\1<=top/\top<=xs.length)) :
    Calls Try.prog 19 #[.agg #[v,.int .i64 top]] w (RetCheck w xs top):=by
  obtain⟨a,c,rfl,hc,hcm,_⟩:=h.len
  have hle:=h.le
  have HN:=Lib.hid (not_ok_len hl)
  clear h
  by_cases h1:xs.length<1
  · clear hl
    go_enter Try.func19,Try.ntmps19
    go_wp2
    go_ret
    exact RetCheck.bad HN.out (by ((repeat first|exact bR _ _|with_reducible first|refine bN ?_|refine bD ?_|refine bA ?_ ?_|refine bS ?_ ?_);all_goals first|exact Nat.le_refl _|(simp;done)|omega|(simp;omega)))
  by_cases h2:400<xs.length
  · clear hl
    go_enter Try.func19,Try.ntmps19
    go_wp2
    go_ret
    exact RetCheck.bad HN.out (by ((repeat first|exact bR _ _|with_reducible first|refine bN ?_|refine bD ?_|refine bA ?_ ?_|refine bS ?_ ?_);all_goals first|exact Nat.le_refl _|(simp;done)|omega|(simp;omega)))
  by_cases h3:top<1
  · clear hl
    go_enter Try.func19,Try.ntmps19
    go_wp2
    go_ret
    exact RetCheck.bad HN.out (by ((repeat first|exact bR _ _|with_reducible first|refine bN ?_|refine bD ?_|refine bA ?_ ?_|refine bS ?_ ?_);all_goals first|exact Nat.le_refl _|(simp;done)|omega|(simp;omega)))
  · have h4:(xs.length:Int)<top:=by omega
    clear hl
    go_enter Try.func19,Try.ntmps19
    go_wp2
    go_ret
    exact RetCheck.bad HN.out (by ((repeat first|exact bR _ _|with_reducible first|refine bN ?_|refine bD ?_|refine bA ?_ ?_|refine bS ?_ ?_);all_goals first|exact Nat.le_refl _|(simp;done)|omega|(simp;omega)))
set_option maxHeartbeats 4000000 in
set_option maxRecDepth 100000 in
theorem check_main (v:Value) (xs:List Int) (top:Nat) (w:World) (h:Ints w v xs) (h1:1<=top) (h2:top<=xs.length) (h3:xs.length<=400) :
    Calls Try.prog 19 #[.agg #[v,.int .i64 top]] w (RetCheck w xs top):=by
  obtain⟨a,c,rfl,hc,hcm,_⟩:=h.len
  obtain⟨b,o,rfl,hbs,hcell⟩:=h.at (by omega)
  have HC:=Lib.hid hcell;clear hcell
  have HH:=Lib.hid h;clear h
  have hx1:Ints (w.alloc (.cells #[.slice (some ⟨b,o,none⟩) xs.length c,.int .i64 top] 25)) (.slice (some ⟨b,o,none⟩) xs.length c) xs:=HH.out.below (Nat.le_refl _) (by ((repeat first|exact bR _ _|with_reducible first|refine bN ?_|refine bD ?_|refine bA ?_ ?_|refine bS ?_ ?_);all_goals first|exact Nat.le_refl _|(simp;done)|omega|(simp;omega)))
  have HX1:=Lib.hid hx1;clear hx1
  have hd1:decide ((xs.length:Int)<1)=false:=decide_eq_false (by omega)
  have hd2:decide ((400:Int)<(xs.length:Int))=false:=decide_eq_false (by omega)
  have hd3:decide ((top:Int)<1)=false:=decide_eq_false (by omega)
  have hd4:decide (xs.length<top)=false:=decide_eq_false (by omega)
  cases hpl:places xs top with
  | none =>
    have HP:=Lib.hid hpl;clear hpl
    have HN:Hid (¬ HeapOk xs (top:Int)):=λ⟨t,l,e,_,_,_,h,_⟩=>by
      have:=Int.ofNat_inj.1 e
      subst this
      rw[HP.out] at h;cases h
    go_enter Try.func19,Try.ntmps19
    go_wp2_with (go_at_call 49;refine (places_any _ _ _ _ HX1.out h1 h2 h3).mono ?_;rintro e w1 ⟨hb,⟨l,a1,c1,hl,rfl,hv1⟩|⟨hl,rfl⟩⟩;(exfalso;rw[HP.out] at hl;cases hl))
    go_ret
    exact RetCheck.bad HN.out (by ((repeat first|exact bR _ _|with_reducible first|refine bT ?_ hb ?_|refine bN ?_|refine bD ?_|refine bA ?_ ?_|refine bS ?_ ?_);all_goals first|exact Nat.le_refl _|(simp;done)|omega|(simp;omega)|(have z0:=Below.size hb;omega)|(have z0:=Below.size hb;simp at *;omega)))
  | some l =>
    have hll:=places_len hpl h1
    have HP:=Lib.hid hpl;clear hpl
    go_enter Try.func19,Try.ntmps19
    go_wp2_with (go_at_call 49;refine (places_any _ _ _ _ HX1.out h1 h2 h3).mono ?_;rintro e w1 ⟨hb,⟨l',a1,c1,hl,rfl,hv1⟩|⟨hl,rfl⟩⟩;rotate_left;(exfalso;rw[HP.out] at hl;cases hl);rw[HP.out] at hl;obtain rfl:=Option.some.inj hl;clear hl;have zc1:=Nat.lt_of_lt_of_le (show w.heap.size<_ from (by first|(simp;done)|omega|(simp;omega))) (Below.size hb);have fc1_0:=Below.cell hb (p:=⟨w.heap.size,0,none⟩) (by first|(simp;done)|omega|(simp;omega));have gc1_0:=Below.frozen hb (p:=⟨w.heap.size,0,none⟩) (by first|(simp;done)|omega|(simp;omega));have fc1_1:=Below.cell hb (p:=⟨w.heap.size,1,none⟩) (by first|(simp;done)|omega|(simp;omega));have gc1_1:=Below.frozen hb (p:=⟨w.heap.size,1,none⟩) (by first|(simp;done)|omega|(simp;omega));(try simp at fc1_0 gc1_0 fc1_1 gc1_1);have HV:=Lib.hid hv1;have HB:=Lib.hid hb;clear hv1 hb)
    clear hd1 hd2 hd3 hd4
    go_loopw [45] (λu wr=>∃k:Nat,k<=l.length/\u = .int .i64 k/\(∀j,j<k->ObjOk xs l (l.getD j 0))/\Below w1.heap.size w1 wr) (λu _=>l.length - (intOf u).toNat)
    case atStart=>exact⟨0,Nat.zero_le _,rfl,by omega,Below.refl _ _⟩
    case round =>
      obtain⟨k,hk,rfl,hok,hbel⟩:=hrel
      have HK:=Lib.hid hok;clear hok
      have f0:=(hbel.cell (p:=⟨w.heap.size,0,none⟩) zc1).trans fc1_0
      have f1:=(hbel.cell (p:=⟨w.heap.size,1,none⟩) zc1).trans fc1_1
      have hle1:Below w.heap.size w wr:=((Below.refl _ w).alloc (Nat.le_refl _) _).trans ((HB.out.mono (by first|exact Nat.le_refl _|(simp;done)|omega|(simp;omega))).trans (hbel.mono (by omega)))
      have HW:=Lib.hid hle1;clear hle1
      have HBE:=Lib.hid hbel;clear hbel
      clear fc1_0 gc1_0 fc1_1 gc1_1 HX1
      by_cases hlt:k<l.length
      · obtain ⟨lb, lo, rfl, hlb, hlc⟩ := Ints.at HV.out.ints (by rw [intsOf_length]; omega)
        replace hlc:=(HBE.out.cell (p:=⟨lb,lo+k,none⟩) hlb).trans (hlc k (by rw[intsOf_length];omega))
        obtain⟨p,hp⟩:∃p,p=l.getD k 0:=⟨_,rfl⟩
        rw[show (intsOf l).getD k 0=(p:Int) by rw[hp];simp[intsOf,List.getD,hlt]] at hlc
        have hmem:p ∈ l:=by rw[hp];simp[List.getD,hlt]
        obtain⟨hp1,hpn,hp6,hpt⟩:=places_obj HP.out p hmem
        obtain⟨m,hm⟩:∃m,m=nf xs p:=⟨_,rfl⟩
        rw[<- hm] at hpn hp6 hpt
        have HM:=Lib.hid hm;clear hm
        have HPP:=Lib.hid hp;clear hp
        have HMEM:=Lib.hid hmem;clear hmem
        have cst:=(HW.out.cell (p:=⟨b,o+p,none⟩) hbs).trans (HC.out p (by omega))
        have cnf:=(HW.out.cell (p:=⟨b,o+(p+1),none⟩) hbs).trans (HC.out (p+1) (by omega))
        rw[hpn] at cnf
        clear hpn
        have hsr:=HH.out.range p
        obtain⟨s,hs⟩:∃s,s=xs.getD p 0:=⟨_,rfl⟩
        rw[<- hs] at cst hsr
        obtain⟨hsr1,hsr2⟩:=hsr
        have HS:=Lib.hid hs;clear hs
        have HNB:Hid (¬ ObjOk xs l p->¬ HeapOk xs (top:Int)):=λhno ⟨t,l',e,_,_,_,hpl,hall,_⟩=>by
          obtain rfl:=Int.ofNat_inj.1 e
          rw[HP.out] at hpl
          obtain rfl:=Option.some.inj hpl
          exact hno (hall p HMEM.out)
        by_cases hs0:s<0
        · have HN:=Lib.hid (HNB.out (λh=>by have:=h.1;rw[<- HS.out] at this;omega))
          go_wp2
          go_ret
          exact RetCheck.bad HN.out HW.out
        by_cases hs1:2147483648<s
        · have HN:=Lib.hid (HNB.out (λh=>by have:=h.2.1;rw[<- HS.out] at this;omega))
          go_wp2
          go_ret
          exact RetCheck.bad HN.out HW.out
        have hd0:decide (s<0)=false:=decide_eq_false hs0
        have hd1:decide (2147483648<s)=false:=decide_eq_false hs1
        have HS2:Hid (0<=xs.getD p 0/\xs.getD p 0<=2147483648):=by rw[Hid,<- HS.out];omega
        have HOK:Hid ((∀j,j<m->WordOk l (xs.getD (p+2+j) 0))->∀j,j<k+1->ObjOk xs l (l.getD j 0)):=λhw j hj=>by
          by_cases e:j=k
          · rw[e,<- HPP.out]
            exact⟨HS2.out.1,HS2.out.2,λi hi=>hw i (by rw[HM.out];exact hi)⟩
          · exact HK.out j (by omega)
        have HNW:Hid (∀j,j<m->¬ WordOk l (xs.getD (p+2+j) 0)->¬ HeapOk xs (top:Int)):=λj hj hw=>HNB.out (λh=>hw (h.2.2 j (by rw[<- HM.out];exact hj)))
        clear HS HNB HPP HMEM HM
        by_cases hcp:c=p+2
        · have hm0:m=0:=by omega
          subst hm0
          subst hcp
          go_wp2
          go_quiet (fail)
          go_wp2_with fail
          go_loop [78] (λu=>u = .int .i64 0) (λ_=>0)
          case atStart=>rfl
          case round =>
            subst hrel
            go_wp2_with fail
            go_roundw
            case rel=>exact⟨k+1,by omega,by go_num,HOK.out (by omega),below_drewN HBE.out _⟩
            case measure=>simp[intOf];omega
        · go_wp2
          go_quiet (fail)
          go_wp2_with fail
          rw[Nat.add_sub_cancel_left]
          go_loop [78] (λu=>∃j:Nat,u = .int .i64 j/\j<=m/\∀i,i<j->WordOk l (xs.getD (p+2+i) 0)) (λu=>m - (intOf u).toNat)
          case atStart=>exact⟨0,rfl,Nat.zero_le _,by omega⟩
          case round =>
            obtain⟨j,rfl,hj,hw⟩:=hrel
            have HWK:=Lib.hid hw;clear hw
            by_cases hjm:j<m
            · have hc0:=HC.out (p+2+j) (by omega)
              rw[<- Nat.add_assoc] at hc0
              have hc1:=(HW.out.cell (p:=⟨b,o+(p+2)+j,none⟩) hbs).trans hc0
              clear hc0
              have hxr:=HH.out.range (p+2+j)
              obtain⟨x,hx⟩:∃x,x=xs.getD (p+2+j) 0:=⟨_,rfl⟩
              rw[<- hx] at hc1 hxr
              obtain⟨hxr1,hxr2⟩:=hxr
              have HX:=Lib.hid hx;clear hx
              have hst:Hid (WordOk l x->∀i,i<j+1->WordOk l (xs.getD (p+2+i) 0)):=λh i hi=>by
                by_cases e:i=j
                · rw[e,<- HX.out];exact h
                · exact HWK.out i (by omega)
              by_cases hx2:x % 2=0
              · have e1:(bits BinOp.and IntKind.i64 x 1 == 0)=true:=by rw[and_one_i64,hx2];rfl
                have e2:(bits BinOp.and IntKind.i64 x 1 == 1)=false:=by rw[and_one_i64,hx2];rfl
                have HX2:=Lib.hid hx2;clear hx2
                by_cases hxlo:x < -2199023255552
                · have HN:=Lib.hid (HNW.out j hjm (λh=>by have:=h.1;rw[<- HX.out] at this;have:=this HX2.out;omega))
                  go_wp2
                  go_ret
                  exact RetCheck.bad HN.out (below_drewN HW.out _)
                by_cases hxhi:2199023255552<x
                · have HN:=Lib.hid (HNW.out j hjm (λh=>by have:=h.1;rw[<- HX.out] at this;have:=this HX2.out;omega))
                  go_wp2
                  go_ret
                  exact RetCheck.bad HN.out (below_drewN HW.out _)
                have HY:=Lib.hid (hst.out ⟨λ_=>by omega,λh=>by have:=HX2.out;omega⟩)
                go_wp2
                go_round
                case rel=>exact⟨j+1,by go_num,by omega,HY.out⟩
                case measure=>simp[intOf];omega
              · have e1:(bits BinOp.and IntKind.i64 x 1 == 0)=false:=by rw[and_one_i64];simpa using hx2
                have e2:(bits BinOp.and IntKind.i64 x 1 == 1)=true:=by rw[and_one_i64];simp;omega
                have HX2:=Lib.hid hx2;clear hx2
                by_cases hx1:x=1
                · subst hx1
                  have HY:=Lib.hid (hst.out ⟨λh=>by omega,λ_ h=>absurd rfl h⟩)
                  have e3:((1:Int) != 1)=false:=rfl
                  go_wp2
                  go_round
                  case rel=>exact⟨j+1,by go_num,by omega,HY.out⟩
                  case measure=>simp[intOf];omega
                · have e3:(x != 1)=true:=by simpa using hx1
                  have HL:Hid (Ints (wr.drewN nq) (.slice (some ⟨lb,lo,none⟩) l.length c1) (intsOf l)):=HV.out.ints.below (Nat.le_refl _) (below_drewN HBE.out _)
                  by_cases hh:hasB (intsOf l) (x / 2)=true
                  · have HY:=Lib.hid (hst.out ⟨λh=>absurd h HX2.out,λ_ _=>hasB_places.1 hh⟩)
                    go_wp2_with (go_at_call 50;refine (search_any _ (intsOf l) _ _ HL.out (rises_places HP.out)).mono ?_;rintro e w2 ⟨i2,rfl,rfl⟩)
                    go_round
                    case rel=>exact⟨j+1,by go_num,by omega,HY.out⟩
                    case measure=>simp[intOf];omega
                  · have hh:hasB (intsOf l) (x / 2)=false:=by simpa using hh
                    have HN:=Lib.hid (HNW.out j hjm (λh=>by
                      have:=h.2
                      rw[<- HX.out] at this
                      have:=hasB_places.2 (this (by have:=HX2.out;omega) hx1)
                      rw[this] at hh;cases hh))
                    go_wp2_with (go_at_call 50;refine (search_any _ (intsOf l) _ _ HL.out (rises_places HP.out)).mono ?_;rintro e w2 ⟨i2,rfl,rfl⟩)
                    go_ret
                    exact RetCheck.bad HN.out (below_drewN HW.out _)
            · obtain rfl:j=m:=by omega
              have HY:=Lib.hid (HOK.out HWK.out)
              go_wp2_with fail
              go_roundw
              case rel=>exact⟨k+1,by omega,by go_num,HY.out,below_drewN HBE.out _⟩
              case measure=>simp[intOf];omega
      · have HALL:Hid (∀p ∈ l,ObjOk xs l p):=λp hp=>by
          obtain⟨j,hj,e⟩:=List.getElem_of_mem hp
          have:=HK.out j (by omega)
          simpa [List.getD,hj,e] using this
        clear HK
        by_cases hct:c=top
        · obtain rfl:xs.length=c:=by omega
          have HF:Hid (HeapOk xs (top:Int)):=⟨top,l,rfl,by omega,h1,h2,HP.out,HALL.out,λi hi hl=>by omega⟩
          subst hct
          go_wp2_with fail
          go_loop [117] (λu=>u = .int .i64 0) (λ_=>0)
          case atStart=>rfl
          case round =>
            subst hrel
            go_wp2
            go_ret
            exact⟨HW.out,.inl ⟨HF.out,rfl⟩⟩
        · go_wp2_with fail
          go_loop [117] (λu=>∃i:Nat,u = .int .i64 i/\i<=xs.length - top/\∀j,j<i->xs.getD (top+j) 0=0) (λu=>xs.length - top - (intOf u).toNat)
          case atStart=>exact⟨0,rfl,Nat.zero_le _,by omega⟩
          case round =>
            obtain⟨i,rfl,hi,hz⟩:=hrel
            have HZ:=Lib.hid hz;clear hz
            by_cases hil:i<xs.length - top
            · have hc0:=HC.out (top+i) (by omega)
              rw[<- Nat.add_assoc] at hc0
              have hc1:=(HW.out.cell (p:=⟨b,o+top+i,none⟩) hbs).trans hc0
              clear hc0
              obtain⟨x,hx⟩:∃x,x=xs.getD (top+i) 0:=⟨_,rfl⟩
              rw[<- hx] at hc1
              by_cases hx0:x=0
              · subst hx0
                have HX:=Lib.hid (show ∀j,j<i+1->xs.getD (top+j) 0=0 from λj hj=>by
                  by_cases e:j=i
                  · rw[e];exact hx.symm
                  · exact HZ.out j (by omega))
                clear hx
                go_wp2
                go_round
                case rel=>exact⟨i+1,by go_num,by omega,HX.out⟩
                case measure=>simp[intOf];omega
              · have hb:(x != 0)=true:=by simpa using hx0
                have HN:Hid (¬ HeapOk xs (top:Int)):=λ⟨t,l',e,_,_,_,_,_,h⟩=>by
                  obtain rfl:=Int.ofNat_inj.1 e
                  exact hx0 (by rw[hx];exact h (top+i) (by omega) (by omega))
                clear hx hx0
                go_wp2
                go_ret
                exact RetCheck.bad HN.out HW.out
            · have HF:Hid (HeapOk xs (top:Int)):=⟨top,l,rfl,by omega,h1,h2,HP.out,HALL.out,λj hj hl=>by
                have:=HZ.out (j - top) (by omega)
                rwa [Nat.add_sub_cancel' hj] at this⟩
              go_wp2
              go_ret
              exact⟨HW.out,.inl ⟨HF.out,rfl⟩⟩
theorem check_any (v:Value) (xs:List Int) (top:Int) (w:World) (h:Ints w v xs):Calls Try.prog 19 #[.agg #[v,.int .i64 top]] w (RetCheck w xs top):=by
  by_cases hl:1<=xs.length/\xs.length<=400/\1<=top/\top<=xs.length
  · obtain⟨t,rfl⟩:=Int.eq_ofNat_of_zero_le (show 0<=top by omega)
    exact check_main v xs t w h (by omega) (by omega) (by omega)
  · exact check_limits v xs top w h hl
end Go.Proofs.Ytbeilcaadpopmab
namespace Go.Proofs.Ytbeilcaadpopmab
open Go.RowKit
def AllocErr (xs:List Int) (top f er:Int):Prop :=
  (¬ HeapOk xs top/\er=5)\/(HeapOk xs top/\¬ (0<=f/\f<=6)/\er=2)\/(HeapOk xs top/\0<=f/\f<=6/\(xs.length:Int)<top+2+f/\er=1)
def RetAlloc (w:World) (xs:List Int) (top f:Int) (e:Ending) (w':World):Prop :=
  Below w.heap.size w w'/\((∃er,AllocErr xs top f er/\e = .returned (.tuple #[.agg #[.slice none 0 0,.int .i64 0],.int .i64 0,.int .i64 er])) \/
    ∃ (t k : Nat) (a : Option Addr) (c : Nat), top = (t : Int) ∧ f = (k : Int) ∧ HeapOk xs top ∧ k ≤ 6 ∧ t + 2 + k ≤ xs.length ∧
      e = .returned (.tuple #[.agg #[.slice a xs.length c,.int .i64 ((t+2+k:Nat):Int)],.int .i64 (t:Int),.int .i64 0])/\OwnInts w' w.heap.size (.slice a xs.length c) (xs.set (t+1) (k:Int)))
theorem AllocErr.ret {w w':World} {xs:List Int} {top f er:Int} (h:AllocErr xs top f er) (hb:Below w.heap.size w w'):RetAlloc w xs top f (.returned (.tuple #[.agg #[.slice none 0 0,.int .i64 0],.int .i64 0,.int .i64 er])) w':=⟨hb,.inl ⟨er,h,rfl⟩⟩
set_option maxHeartbeats 1000000 in
theorem alloc_any (v:Value) (xs:List Int) (top f:Int) (w:World) (h:Ints w v xs) :
    Calls Try.prog 17 #[.agg #[v,.int .i64 top],.int .i64 f] w (RetAlloc w xs top f):=by
  obtain⟨a,c,rfl,hc,hcm,_⟩:=h.len
  have HF:Hid (∀w2,Below w.heap.size w w2->Ints w2 (.slice a xs.length c) xs):=λw2 hb2=>h.below (Nat.le_refl _) hb2
  have HH:=Lib.hid h;clear h
  by_cases hok:HeapOk xs top
  · obtain⟨t,l,rfl,his⟩:=hok
    have HI:=Lib.hid his
    have i1:=his.1
    have i2:=his.2.1
    have i3:=his.2.2.1
    clear his
    have HOK:Hid (HeapOk xs (t:Int)):=⟨t,l,rfl,HI.out⟩
    by_cases hf:0<=f/\f<=6
    · obtain⟨hf0,hf6⟩:=hf
      obtain⟨k,rfl⟩:=Int.eq_ofNat_of_zero_le hf0
      by_cases hfit:t+2+k<=xs.length
      · go_enter Try.func17,Try.ntmps17
        go_wp2_with (go_at_call 19;refine (check_any _ _ _ _ (HF.out _ (by ((repeat first|exact bR _ _|with_reducible first|refine bN ?_|refine bD ?_|refine bA ?_ ?_|refine bS ?_ ?_);all_goals first|exact Nat.le_refl _|(simp;done)|omega|(simp;omega))))).mono ?_;rintro e w1 ⟨hb,⟨_,rfl⟩|⟨hno,rfl⟩⟩;rotate_left;exact absurd HOK.out hno;have zc1:=Nat.lt_of_lt_of_le (show w.heap.size<_ from (by first|(simp;done)|omega|(simp;omega))) (Below.size hb);have fc1_0:=Below.cell hb (p:=⟨w.heap.size,0,none⟩) (by first|(simp;done)|omega|(simp;omega));have gc1_0:=Below.frozen hb (p:=⟨w.heap.size,0,none⟩) (by first|(simp;done)|omega|(simp;omega));have fc1_1:=Below.cell hb (p:=⟨w.heap.size,1,none⟩) (by first|(simp;done)|omega|(simp;omega));have gc1_1:=Below.frozen hb (p:=⟨w.heap.size,1,none⟩) (by first|(simp;done)|omega|(simp;omega));(try simp at fc1_0 gc1_0 fc1_1 gc1_1);have zc2:=Nat.lt_of_lt_of_le (show w.heap.size+1<_ from (by first|(simp;done)|omega|(simp;omega))) (Below.size hb);have fc2_0:=Below.cell hb (p:=⟨w.heap.size+1,0,none⟩) (by first|(simp;done)|omega|(simp;omega));have gc2_0:=Below.frozen hb (p:=⟨w.heap.size+1,0,none⟩) (by first|(simp;done)|omega|(simp;omega));have fc2_1:=Below.cell hb (p:=⟨w.heap.size+1,1,none⟩) (by first|(simp;done)|omega|(simp;omega));have gc2_1:=Below.frozen hb (p:=⟨w.heap.size+1,1,none⟩) (by first|(simp;done)|omega|(simp;omega));(try simp at fc2_0 gc2_0 fc2_1 gc2_1))
        refine (heapCopy_any _ _ _ _ (HF.out _ (by ((repeat first|exact bR _ _|with_reducible first|refine bT ?_ hb ?_|refine bN ?_|refine bD ?_|refine bA ?_ ?_|refine bS ?_ ?_);all_goals first|exact Nat.le_refl _|(simp;done)|omega|(simp;omega)|(have z0:=Below.size hb;omega)|(have z0:=Below.size hb;simp at *;omega))))).mono ?_
        rintro e w2 ⟨a1,c1,rfl,hv1,hb2⟩
        have zc3:=Nat.lt_of_lt_of_le (show w.heap.size<_ from (by first|(simp;done)|omega|(simp;omega))) (Below.size hb2);have fc3_0:=Below.cell hb2 (p:=⟨w.heap.size,0,none⟩) (by first|(simp;done)|omega|(simp;omega));have gc3_0:=Below.frozen hb2 (p:=⟨w.heap.size,0,none⟩) (by first|(simp;done)|omega|(simp;omega));have fc3_1:=Below.cell hb2 (p:=⟨w.heap.size,1,none⟩) (by first|(simp;done)|omega|(simp;omega));have gc3_1:=Below.frozen hb2 (p:=⟨w.heap.size,1,none⟩) (by first|(simp;done)|omega|(simp;omega));(try simp at fc3_0 gc3_0 fc3_1 gc3_1);have zc4:=Nat.lt_of_lt_of_le (show w.heap.size+1<_ from (by first|(simp;done)|omega|(simp;omega))) (Below.size hb2);have fc4_0:=Below.cell hb2 (p:=⟨w.heap.size+1,0,none⟩) (by first|(simp;done)|omega|(simp;omega));have gc4_0:=Below.frozen hb2 (p:=⟨w.heap.size+1,0,none⟩) (by first|(simp;done)|omega|(simp;omega));have fc4_1:=Below.cell hb2 (p:=⟨w.heap.size+1,1,none⟩) (by first|(simp;done)|omega|(simp;omega));have gc4_1:=Below.frozen hb2 (p:=⟨w.heap.size+1,1,none⟩) (by first|(simp;done)|omega|(simp;omega));(try simp at fc4_0 gc4_0 fc4_1 gc4_1)
        obtain⟨g,rfl,hg1,hg2,hcell,hfz⟩:=hv1.spot (by omega)
        have hcg:=hcell (t+1) (by omega)
        have hzg:=hfz (t+1)
        have HV:=Lib.hid hv1;clear hv1 hcell hfz
        generalize xs.getD (t+1) 0=old at hcg
        have hgn:g≠w.heap.size:=(by omega)
        have hgn2:g≠w.heap.size+1:=(by omega)
        have hgn3:w.heap.size≠g:=(by omega)
        have hgn4:w.heap.size+1≠g:=(by omega)
        go_upto_region 12 with (fail)
        obtain⟨w3,x0,x1,y0,y1,z0,z1,hb3,hv3,hw⟩:∃w3,w3.cell? ⟨w.heap.size,0,none⟩=some (.slice (some ⟨g,0,none⟩) xs.length c1)/\w3.cell? ⟨w.heap.size,1,none⟩=some (.int .i64 ((t:Int)+(2+(k:Int))))/\w3.cell? ⟨w.heap.size+1,0,none⟩=some (.slice none 0 0)/\w3.cell? ⟨w.heap.size+1,1,none⟩=some (.int .i64 0)/\w3.frozen? ⟨w.heap.size+1,0,none⟩=false/\w3.frozen? ⟨w.heap.size+1,1,none⟩=false/\Below w.heap.size w w3/\OwnInts w3 (w.heap.size+1+1) (.slice (some ⟨g,0,none⟩) xs.length c1) (xs.set (t+1) (k:Int)) /\
            (((w2.setCell ⟨w.heap.size,0,none⟩ (.slice (some ⟨g,0,none⟩) xs.length c1)).setCell ⟨w.heap.size,1,none⟩ (.int .i64 (t:Int))).setCell ⟨g,t+1,none⟩ (.int .i64 (k:Int))).setCell ⟨w.heap.size,1,none⟩ (.int .i64 ((t:Int)+(2+(k:Int))))=w3:=by
          refine⟨_,?_,?_,?_,?_,?_,?_,?_,?_,rfl⟩
          · rw[World.cell?_setCell_other _ _ _ _ (by simp),World.cell?_setCell_other _ _ _ _ (by simp[hgn]),World.cell?_setCell_other _ _ _ _ (by simp),World.cell?_setCell_same _ _ _ (fc3_0.trans fc1_0)]
          · exact World.cell?_setCell_same _ _ _ (u:=.int .i64 (t:Int)) (by rw[World.cell?_setCell_other _ _ _ _ (by simp[hgn]),World.cell?_setCell_same _ _ _ (u:=.int .i64 (t:Int)) (by rw[World.cell?_setCell_other _ _ _ _ (by simp)];exact fc3_1.trans fc1_1)])
          · simp[go_sem, *]
          · simp[go_sem, *]
          · simp[go_sem, *]
          · simp[go_sem, *]
          · have hq:=((Below.refl _ w).alloc (Nat.le_refl _) (.cells #[.slice a xs.length c,.int .i64 (t:Int)] 25)).alloc (by simp) (.cells #[.slice none 0 0,.int .i64 0] 25)
            have hq1:=hq.trans (hb.mono (by simp;omega))
            have hq2:=hq1.trans (hb2.mono (by omega))
            exact (((hq2.setCell (Nat.le_refl _) _).setCell (Nat.le_refl _) _).setCell (by show w.heap.size<=g;omega) _).setCell (Nat.le_refl _) _
          · exact ((((HV.out.mono (by omega)).setBelow (by show w.heap.size<w.heap.size+1+1;omega) _).setBelow (by show w.heap.size<w.heap.size+1+1;omega) _).set (by omega) (by unfold I64;omega)).setBelow (by show w.heap.size<w.heap.size+1+1;omega) _
        rw[hw]
        clear hw
        have HB3:=Lib.hid hb3
        have HV3:=Lib.hid hv3
        clear hb3 hv3 hb hb2 HV hcg hzg fc1_0 fc1_1 gc1_0 gc1_1 fc2_0 fc2_1 gc2_0 gc2_1 fc3_0 fc3_1 gc3_0 gc3_1 fc4_0 fc4_1 gc4_0 gc4_1
        go_wp2
        refine bodyPost_ret (v:=.tuple #[.agg #[.slice (some ⟨g,0,none⟩) xs.length c1,.int .i64 ((t:Int)+(2+(k:Int)))],.int .i64 (t:Int),.int .i64 0]) (by simp[results,Try.results17,go_sem, *]) rfl ⟨(by ((repeat first|exact bR _ _|with_reducible first|refine bT ?_ HB3.out ?_|refine bN ?_|refine bD ?_|refine bA ?_ ?_|refine bS ?_ ?_);all_goals first|exact Nat.le_refl _|(simp;done)|omega|(simp;omega)|(have z0:=Below.size HB3.out;omega)|(have z0:=Below.size HB3.out;simp at *;omega))),.inr ⟨t,k,some ⟨g,0,none⟩,c1,rfl,rfl,HOK.out,by omega,hfit,?_,?_⟩⟩
        · rw[show ((t+2+k:Nat):Int)=(t:Int)+(2+(k:Int)) by omega]
        · exact ((HV3.out.setBelow (by show w.heap.size+1<w.heap.size+1+1;omega) _).setBelow (by show w.heap.size+1<w.heap.size+1+1;omega) _).mono (by omega)
      · have HE:=Lib.hid (show AllocErr xs (t:Int) (k:Int) 1 from .inr (.inr ⟨HOK.out,hf0,hf6,by omega,rfl⟩))
        go_enter Try.func17,Try.ntmps17
        go_wp2_with (go_at_call 19;refine (check_any _ _ _ _ (HF.out _ (by ((repeat first|exact bR _ _|with_reducible first|refine bN ?_|refine bD ?_|refine bA ?_ ?_|refine bS ?_ ?_);all_goals first|exact Nat.le_refl _|(simp;done)|omega|(simp;omega))))).mono ?_;rintro e w1 ⟨hb,⟨_,rfl⟩|⟨hno,rfl⟩⟩;rotate_left;exact absurd HOK.out hno;have zc5:=Nat.lt_of_lt_of_le (show w.heap.size<_ from (by first|(simp;done)|omega|(simp;omega))) (Below.size hb);have fc5_0:=Below.cell hb (p:=⟨w.heap.size,0,none⟩) (by first|(simp;done)|omega|(simp;omega));have gc5_0:=Below.frozen hb (p:=⟨w.heap.size,0,none⟩) (by first|(simp;done)|omega|(simp;omega));have fc5_1:=Below.cell hb (p:=⟨w.heap.size,1,none⟩) (by first|(simp;done)|omega|(simp;omega));have gc5_1:=Below.frozen hb (p:=⟨w.heap.size,1,none⟩) (by first|(simp;done)|omega|(simp;omega));(try simp at fc5_0 gc5_0 fc5_1 gc5_1);have zc6:=Nat.lt_of_lt_of_le (show w.heap.size+1<_ from (by first|(simp;done)|omega|(simp;omega))) (Below.size hb);have fc6_0:=Below.cell hb (p:=⟨w.heap.size+1,0,none⟩) (by first|(simp;done)|omega|(simp;omega));have gc6_0:=Below.frozen hb (p:=⟨w.heap.size+1,0,none⟩) (by first|(simp;done)|omega|(simp;omega));have fc6_1:=Below.cell hb (p:=⟨w.heap.size+1,1,none⟩) (by first|(simp;done)|omega|(simp;omega));have gc6_1:=Below.frozen hb (p:=⟨w.heap.size+1,1,none⟩) (by first|(simp;done)|omega|(simp;omega));(try simp at fc6_0 gc6_0 fc6_1 gc6_1))
        refine bodyPost_ret (v:=.tuple #[.agg #[.slice none 0 0,.int .i64 0],.int .i64 0,.int .i64 1]) (by simp[results,Try.results17,go_sem, *]) rfl (HE.out.ret (by ((repeat first|exact bR _ _|with_reducible first|refine bT ?_ hb ?_|refine bN ?_|refine bD ?_|refine bA ?_ ?_|refine bS ?_ ?_);all_goals first|exact Nat.le_refl _|(simp;done)|omega|(simp;omega)|(have z0:=Below.size hb;omega)|(have z0:=Below.size hb;simp at *;omega))))
    · have HE:=Lib.hid (show AllocErr xs (t:Int) f 2 from .inr (.inl ⟨HOK.out,hf,rfl⟩))
      by_cases hf0:f<0
      · clear hf
        go_enter Try.func17,Try.ntmps17
        go_wp2_with (go_at_call 19;refine (check_any _ _ _ _ (HF.out _ (by ((repeat first|exact bR _ _|with_reducible first|refine bN ?_|refine bD ?_|refine bA ?_ ?_|refine bS ?_ ?_);all_goals first|exact Nat.le_refl _|(simp;done)|omega|(simp;omega))))).mono ?_;rintro e w1 ⟨hb,⟨_,rfl⟩|⟨hno,rfl⟩⟩;rotate_left;exact absurd HOK.out hno;have zc7:=Nat.lt_of_lt_of_le (show w.heap.size<_ from (by first|(simp;done)|omega|(simp;omega))) (Below.size hb);have fc7_0:=Below.cell hb (p:=⟨w.heap.size,0,none⟩) (by first|(simp;done)|omega|(simp;omega));have gc7_0:=Below.frozen hb (p:=⟨w.heap.size,0,none⟩) (by first|(simp;done)|omega|(simp;omega));have fc7_1:=Below.cell hb (p:=⟨w.heap.size,1,none⟩) (by first|(simp;done)|omega|(simp;omega));have gc7_1:=Below.frozen hb (p:=⟨w.heap.size,1,none⟩) (by first|(simp;done)|omega|(simp;omega));(try simp at fc7_0 gc7_0 fc7_1 gc7_1);have zc8:=Nat.lt_of_lt_of_le (show w.heap.size+1<_ from (by first|(simp;done)|omega|(simp;omega))) (Below.size hb);have fc8_0:=Below.cell hb (p:=⟨w.heap.size+1,0,none⟩) (by first|(simp;done)|omega|(simp;omega));have gc8_0:=Below.frozen hb (p:=⟨w.heap.size+1,0,none⟩) (by first|(simp;done)|omega|(simp;omega));have fc8_1:=Below.cell hb (p:=⟨w.heap.size+1,1,none⟩) (by first|(simp;done)|omega|(simp;omega));have gc8_1:=Below.frozen hb (p:=⟨w.heap.size+1,1,none⟩) (by first|(simp;done)|omega|(simp;omega));(try simp at fc8_0 gc8_0 fc8_1 gc8_1))
        refine bodyPost_ret (v:=.tuple #[.agg #[.slice none 0 0,.int .i64 0],.int .i64 0,.int .i64 2]) (by simp[results,Try.results17,go_sem, *]) rfl (HE.out.ret (by ((repeat first|exact bR _ _|with_reducible first|refine bT ?_ hb ?_|refine bN ?_|refine bD ?_|refine bA ?_ ?_|refine bS ?_ ?_);all_goals first|exact Nat.le_refl _|(simp;done)|omega|(simp;omega)|(have z0:=Below.size hb;omega)|(have z0:=Below.size hb;simp at *;omega))))
      · have hf6:6<f:=by omega
        clear hf
        go_enter Try.func17,Try.ntmps17
        go_wp2_with (go_at_call 19;refine (check_any _ _ _ _ (HF.out _ (by ((repeat first|exact bR _ _|with_reducible first|refine bN ?_|refine bD ?_|refine bA ?_ ?_|refine bS ?_ ?_);all_goals first|exact Nat.le_refl _|(simp;done)|omega|(simp;omega))))).mono ?_;rintro e w1 ⟨hb,⟨_,rfl⟩|⟨hno,rfl⟩⟩;rotate_left;exact absurd HOK.out hno;have zc9:=Nat.lt_of_lt_of_le (show w.heap.size<_ from (by first|(simp;done)|omega|(simp;omega))) (Below.size hb);have fc9_0:=Below.cell hb (p:=⟨w.heap.size,0,none⟩) (by first|(simp;done)|omega|(simp;omega));have gc9_0:=Below.frozen hb (p:=⟨w.heap.size,0,none⟩) (by first|(simp;done)|omega|(simp;omega));have fc9_1:=Below.cell hb (p:=⟨w.heap.size,1,none⟩) (by first|(simp;done)|omega|(simp;omega));have gc9_1:=Below.frozen hb (p:=⟨w.heap.size,1,none⟩) (by first|(simp;done)|omega|(simp;omega));(try simp at fc9_0 gc9_0 fc9_1 gc9_1);have zc10:=Nat.lt_of_lt_of_le (show w.heap.size+1<_ from (by first|(simp;done)|omega|(simp;omega))) (Below.size hb);have fc10_0:=Below.cell hb (p:=⟨w.heap.size+1,0,none⟩) (by first|(simp;done)|omega|(simp;omega));have gc10_0:=Below.frozen hb (p:=⟨w.heap.size+1,0,none⟩) (by first|(simp;done)|omega|(simp;omega));have fc10_1:=Below.cell hb (p:=⟨w.heap.size+1,1,none⟩) (by first|(simp;done)|omega|(simp;omega));have gc10_1:=Below.frozen hb (p:=⟨w.heap.size+1,1,none⟩) (by first|(simp;done)|omega|(simp;omega));(try simp at fc10_0 gc10_0 fc10_1 gc10_1))
        refine bodyPost_ret (v:=.tuple #[.agg #[.slice none 0 0,.int .i64 0],.int .i64 0,.int .i64 2]) (by simp[results,Try.results17,go_sem, *]) rfl (HE.out.ret (by ((repeat first|exact bR _ _|with_reducible first|refine bT ?_ hb ?_|refine bN ?_|refine bD ?_|refine bA ?_ ?_|refine bS ?_ ?_);all_goals first|exact Nat.le_refl _|(simp;done)|omega|(simp;omega)|(have z0:=Below.size hb;omega)|(have z0:=Below.size hb;simp at *;omega))))
  · have HE:=Lib.hid (show AllocErr xs top f 5 from .inl ⟨hok,rfl⟩)
    go_enter Try.func17,Try.ntmps17
    go_wp2_with (go_at_call 19;refine (check_any _ _ _ _ (HF.out _ (by ((repeat first|exact bR _ _|with_reducible first|refine bN ?_|refine bD ?_|refine bA ?_ ?_|refine bS ?_ ?_);all_goals first|exact Nat.le_refl _|(simp;done)|omega|(simp;omega))))).mono ?_;rintro e w1 ⟨hb,⟨hyes,rfl⟩|⟨_,rfl⟩⟩;exact absurd hyes hok;have zc11:=Nat.lt_of_lt_of_le (show w.heap.size<_ from (by first|(simp;done)|omega|(simp;omega))) (Below.size hb);have fc11_0:=Below.cell hb (p:=⟨w.heap.size,0,none⟩) (by first|(simp;done)|omega|(simp;omega));have gc11_0:=Below.frozen hb (p:=⟨w.heap.size,0,none⟩) (by first|(simp;done)|omega|(simp;omega));have fc11_1:=Below.cell hb (p:=⟨w.heap.size,1,none⟩) (by first|(simp;done)|omega|(simp;omega));have gc11_1:=Below.frozen hb (p:=⟨w.heap.size,1,none⟩) (by first|(simp;done)|omega|(simp;omega));(try simp at fc11_0 gc11_0 fc11_1 gc11_1);have zc12:=Nat.lt_of_lt_of_le (show w.heap.size+1<_ from (by first|(simp;done)|omega|(simp;omega))) (Below.size hb);have fc12_0:=Below.cell hb (p:=⟨w.heap.size+1,0,none⟩) (by first|(simp;done)|omega|(simp;omega));have gc12_0:=Below.frozen hb (p:=⟨w.heap.size+1,0,none⟩) (by first|(simp;done)|omega|(simp;omega));have fc12_1:=Below.cell hb (p:=⟨w.heap.size+1,1,none⟩) (by first|(simp;done)|omega|(simp;omega));have gc12_1:=Below.frozen hb (p:=⟨w.heap.size+1,1,none⟩) (by first|(simp;done)|omega|(simp;omega));(try simp at fc12_0 gc12_0 fc12_1 gc12_1))
    refine bodyPost_ret (v:=.tuple #[.agg #[.slice none 0 0,.int .i64 0],.int .i64 0,.int .i64 5]) (by simp[results,Try.results17,go_sem, *]) rfl (HE.out.ret (by ((repeat first|exact bR _ _|with_reducible first|refine bT ?_ hb ?_|refine bN ?_|refine bD ?_|refine bA ?_ ?_|refine bS ?_ ?_);all_goals first|exact Nat.le_refl _|(simp;done)|omega|(simp;omega)|(have z0:=Below.size hb;omega)|(have z0:=Below.size hb;simp at *;omega))))
theorem AllocErr.uniq {xs:List Int} {top f er er':Int} (h:AllocErr xs top f er) (h':AllocErr xs top f er'):er=er':=by
  rcases h with ⟨h1,rfl⟩|⟨h1,h2,rfl⟩|⟨h1,h2,h3,h4,rfl⟩ <;> rcases h' with ⟨g1,rfl⟩|⟨g1,g2,rfl⟩|⟨g1,g2,g3,g4,rfl⟩ <;> first|rfl|(exfalso;first|exact h1 g1|exact g1 h1|exact h2 ⟨g2,g3⟩|exact g2 ⟨h2,h3⟩)
theorem AllocErr.not {xs:List Int} {t k:Nat} {er:Int} (h:AllocErr xs (t:Int) (k:Int) er) (h1:HeapOk xs (t:Int)) (h2:k<=6) (h3:t+2+k<=xs.length):False:=by
  rcases h with ⟨g,_⟩|⟨_,g,_⟩|⟨_,_,_,g,_⟩
  · exact g h1
  · exact g (by omega)
  · omega
end Go.Proofs.Ytbeilcaadpopmab
namespace Go.Proofs.Ytbeilcaadpopmab
open Go.RowKit
def RetPl (w:World) (xs:List Int) (top:Int) (e:Ending) (w':World):Prop :=
  Below w.heap.size w w'/\((∃(t:Nat) (l:List Nat) (a:Option Addr) (c:Nat),top=(t:Int)/\HeapIs xs t l/\e = .returned (.tuple #[.slice a l.length c,.int .i64 0])/\OwnInts w' w.heap.size (.slice a l.length c) (intsOf l)) \/
    (¬ HeapOk xs top/\e = .returned (.tuple #[.slice none 0 0,.int .i64 5])))
set_option maxHeartbeats 1000000 in
theorem Places_any (v:Value) (xs:List Int) (top:Int) (w:World) (h:Ints w v xs) :
    Calls Try.prog 18 #[.agg #[v,.int .i64 top]] w (RetPl w xs top):=by
  obtain⟨a,c,rfl,hc,hcm,_⟩:=h.len
  have HF:Hid (∀w2,Below w.heap.size w w2->Ints w2 (.slice a xs.length c) xs):=λw2 hb2=>h.below (Nat.le_refl _) hb2
  clear h
  by_cases hok:HeapOk xs top
  · obtain⟨t,l,rfl,his⟩:=hok
    have HI:=Lib.hid his
    obtain⟨i1,i2,i3,i4,_⟩:=his
    have HP:=Lib.hid i4;clear i4
    go_enter Try.func18,Try.ntmps18
    go_wp2_with (first|(go_at_call 19;refine (check_any _ _ _ _ (HF.out _ (by ((repeat first|exact bR _ _|with_reducible first|refine bN ?_|refine bD ?_|refine bA ?_ ?_|refine bS ?_ ?_);all_goals first|exact Nat.le_refl _|(simp;done)|omega|(simp;omega))))).mono ?_;rintro e w1 ⟨hb,⟨_,rfl⟩|⟨hno,rfl⟩⟩;rotate_left;exact absurd ⟨t,l,rfl,HI.out⟩ hno;have zc1:=Nat.lt_of_lt_of_le (show w.heap.size<_ from (by first|(simp;done)|omega|(simp;omega))) (Below.size hb);have fc1_0:=Below.cell hb (p:=⟨w.heap.size,0,none⟩) (by first|(simp;done)|omega|(simp;omega));have gc1_0:=Below.frozen hb (p:=⟨w.heap.size,0,none⟩) (by first|(simp;done)|omega|(simp;omega));have fc1_1:=Below.cell hb (p:=⟨w.heap.size,1,none⟩) (by first|(simp;done)|omega|(simp;omega));have gc1_1:=Below.frozen hb (p:=⟨w.heap.size,1,none⟩) (by first|(simp;done)|omega|(simp;omega));(try simp at fc1_0 gc1_0 fc1_1 gc1_1))|(go_at_call 49;refine (places_any _ _ _ _ (HF.out _ (by ((repeat first|exact bR _ _|with_reducible first|refine bT ?_ hb ?_|refine bN ?_|refine bD ?_|refine bA ?_ ?_|refine bS ?_ ?_);all_goals first|exact Nat.le_refl _|(simp;done)|omega|(simp;omega)|(have z0:=Below.size hb;omega)|(have z0:=Below.size hb;simp at *;omega)))) i2 i3 i1).mono ?_;rintro e w2 ⟨hb2,⟨l',a1,c1,hl,rfl,hv1⟩|⟨hl,rfl⟩⟩;rotate_left;(exfalso;rw[HP.out] at hl;cases hl);rw[HP.out] at hl;obtain rfl:=Option.some.inj hl;clear hl;have HV:=Lib.hid hv1;clear hv1))
    go_ret2
    exact⟨(by ((repeat first|exact bR _ _|with_reducible first|refine bT ?_ hb2 ?_|refine bT ?_ hb ?_|refine bN ?_|refine bD ?_|refine bA ?_ ?_|refine bS ?_ ?_);all_goals first|exact Nat.le_refl _|(simp;done)|omega|(simp;omega)|(have z0:=Below.size hb2;have z1:=Below.size hb;omega)|(have z0:=Below.size hb2;have z1:=Below.size hb;simp at *;omega))),.inl ⟨t,l,a1,c1,rfl,HI.out,rfl,(by refine OwnInts.via HV.out (base':=w.heap.size) ?_ ?_;(repeat (first|exact HV.out|with_reducible refine OwnInts.setBelow ?_ ?_ _|with_reducible refine OwnInts.below ?_ (Below.drew (Below.refl _ _))|with_reducible refine OwnInts.below ?_ (below_drewN (Below.refl _ _) _)|with_reducible refine OwnInts.below ?_ (Below.alloc (Below.refl _ _) (Nat.le_refl _) _)|with_reducible refine OwnInts.below ?_ hb));all_goals (first|exact Nat.le_refl _|(simp;done)|omega|(simp;omega)|(have z0:=Below.size hb;omega)|(have z0:=Below.size hb;simp at *;omega)))⟩⟩
  · have HO:=Lib.hid hok;clear hok
    go_enter Try.func18,Try.ntmps18
    go_wp2_with (go_at_call 19;refine (check_any _ _ _ _ (HF.out _ (by ((repeat first|exact bR _ _|with_reducible first|refine bN ?_|refine bD ?_|refine bA ?_ ?_|refine bS ?_ ?_);all_goals first|exact Nat.le_refl _|(simp;done)|omega|(simp;omega))))).mono ?_;rintro e w1 ⟨hb,⟨hyes,rfl⟩|⟨_,rfl⟩⟩;exact absurd hyes HO.out)
    go_ret2
    exact⟨(by ((repeat first|exact bR _ _|with_reducible first|refine bT ?_ hb ?_|refine bN ?_|refine bD ?_|refine bA ?_ ?_|refine bS ?_ ?_);all_goals first|exact Nat.le_refl _|(simp;done)|omega|(simp;omega)|(have z0:=Below.size hb;omega)|(have z0:=Below.size hb;simp at *;omega))),.inr ⟨HO.out,rfl⟩⟩
theorem HeapIs.uniq {xs:List Int} {t:Nat} {l l':List Nat} (h:HeapIs xs t l) (h':HeapIs xs t l'):l=l':=by
  have h1:=h.2.2.2.1
  rw[h'.2.2.2.1] at h1
  exact (Option.some.inj h1).symm
end Go.Proofs.Ytbeilcaadpopmab
