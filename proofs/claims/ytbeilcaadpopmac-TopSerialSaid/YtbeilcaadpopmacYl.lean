/- Texts put together: Dp, Ka, Dg. -/
import Derived.Test.YtbeilcaadpopmacYj
import Derived.Test.YtbeilcaadpopmacY2
import Derived.Test.YtbeilcaadpopmacY4
import Derived.Lib.SliceRun
set_option linter.unusedVariables false
set_option linter.unusedSimpArgs false
namespace Go.Proofs.Ytbeilcaadpopmac
open Go.RowKit Go.Maps
theorem ownsRow_put {w:World} {base:Nat} {e:TypeId} {size g c n:Nat} {xs:List Value} (h:w.ownsRow base e size (.slice (some ⟨g,0,none⟩) n c) n xs) (i:Nat) (u:Value) :
    (w.setCell ⟨g,i,none⟩ u).ownsRow base e size (.slice (some ⟨g,0,none⟩) n c) n (xs.set i u):=by
  obtain⟨h3,h4⟩:=h
  refine⟨by simpa using h3,?_⟩
  rcases h4 with ⟨e,_⟩|⟨g',cap,cur,e,hg,hh,hn,hc,hs,ht⟩
  · cases e
  · simp only [Value.slice.injEq,Option.some.injEq,Addr.mk.injEq] at e
    obtain⟨⟨rfl,_⟩,_,rfl⟩:=e
    refine .inr ⟨g,c,cur.setIfInBounds i u,rfl,hg,?_,hn,hc,by simpa using hs,?_⟩
    · simp only [World.setCell,Array.getElem?_modify,if_true,hh]
      rfl
    · rw[Array.toList_setIfInBounds,<- ht,List.take_set]
theorem ownsRow_behind {w:World} {base:Nat} {e:TypeId} {size g c n:Nat} {xs:List Value} (h:w.ownsRow base e size (.slice (some ⟨g,0,none⟩) n c) n xs) {i:Nat} (hi:n * size<=i) (u:Value) :
    (w.setCell ⟨g,i,none⟩ u).ownsRow base e size (.slice (some ⟨g,0,none⟩) n c) n xs:=by
  have:=ownsRow_put h i u
  rwa [List.set_eq_of_length_le (by rw[h.1];exact hi)] at this
theorem ownsRow_tail {base:Nat} {e:TypeId} {size g c n:Nat} {xs:List Value}:∀(zs:List Value) (o:Nat) (w:World),w.ownsRow base e size (.slice (some ⟨g,0,none⟩) n c) n xs->n * size<=o ->
    (w.setCells g o zs).ownsRow base e size (.slice (some ⟨g,0,none⟩) n c) n xs/\w.grownBy (w.setCells g o zs) (some g)
  | [],o,w,h,_=>⟨h,World.grownBy.refl _ _⟩
  | z :: zs,o,w,h,ho=>by
    have:=ownsRow_tail zs (o+1) _ (ownsRow_behind h ho z) (by omega)
    exact⟨this.1,grown_tr (grown_set w g o z) this.2⟩
theorem cellsAct_set:∀(l:List ActM) (i:Nat) (r:ActM),cellsAct (l.set i r)=(((((cellsAct l).set (i * 5) (.int .i64 r.kind)).set (i * 5+1) (.int .i64 r.t)).set (i * 5+2) (.int .i64 r.a)).set (i * 5+3) (.int .i64 r.b)).set (i * 5+4) (.int .i64 r.n)
  | [],i,r=>by simp[cellsAct]
  | m :: ms,0,r=>rfl
  | m :: ms,i+1,r=>by
    have e:∀(x:ActM) ns,cellsAct (x :: ns) = .int .i64 x.kind :: .int .i64 x.t :: .int .i64 x.a :: .int .i64 x.b :: .int .i64 x.n :: cellsAct ns:=λx ns=>rfl
    rw[List.set_cons_succ,e,e,cellsAct_set ms i r,show (i+1) * 5=i * 5+1+1+1+1+1 by omega]
    simp only [List.set_cons_succ,show ∀k,i * 5+1+1+1+1+1+k=i * 5+k+1+1+1+1+1 by intro k;omega]
theorem OwnAct.set {w:World} {base g n c:Nat} {l:List ActM} (h:OwnAct w base (.slice (some ⟨g,0,none⟩) n c) l) (hn:n=l.length) (i:Nat) (r:ActM) :
    OwnAct (((((w.setCell ⟨g,i * 5,none⟩ (.int .i64 r.kind)).setCell ⟨g,i * 5+1,none⟩ (.int .i64 r.t)).setCell ⟨g,i * 5+2,none⟩ (.int .i64 r.a)).setCell ⟨g,i * 5+3,none⟩ (.int .i64 r.b)).setCell ⟨g,i * 5+4,none⟩ (.int .i64 r.n)) base (.slice (some ⟨g,0,none⟩) n c) (l.set i r):=by
  subst hn
  refine⟨by simpa using h.1,?_⟩
  rw[cellsAct_set,List.length_set]
  exact ownsRow_put (ownsRow_put (ownsRow_put (ownsRow_put (ownsRow_put h.2 _ _) _ _) _ _) _ _) _ _
theorem OwnAct.first {w:World} {base g n c k:Nat} {l:List ActM} (h:OwnAct w base (.slice (some ⟨g,0,none⟩) n c) l) (hn:n=l.length) (hk:k<=n):OwnAct w base (.slice (some ⟨g,0,none⟩) k c) (l.take k):=by
  subst hn
  obtain⟨h1,h2,h3⟩:=h
  have hl:(l.take k).length=k:=by rw[List.length_take];omega
  refine⟨by omega,by rw[cellsAct_len],?_⟩
  rcases h3 with ⟨e,_⟩|⟨g',cap,cur,e,hg,hh,hn,hc,hs,ht⟩
  · cases e
  · simp only [Value.slice.injEq,Option.some.injEq,Addr.mk.injEq] at e
    obtain⟨⟨rfl,_⟩,_,rfl⟩:=e
    refine .inr ⟨g,c,cur,by rw[hl],hg,hh,by omega,hc,hs,?_⟩
    rw[cellsAct_take,<- ht,List.take_take,hl]
    congr 1
    omega
theorem OwnAct.spot {w:World} {base n c:Nat} {a:Option Addr} {l:List ActM} (h:OwnAct w base (.slice a n c) l) (hn:0<l.length) :
    ∃g,a=some ⟨g,0,none⟩/\base<=g/\g<w.heap.size/\n=l.length/\n<=c/\c<=9223372036854775807/\(∀i (hi:i<l.length),w.cell? ⟨g,i * 5,none⟩=some (.int .i64 l[i].kind)/\w.cell? ⟨g,i * 5+1,none⟩=some (.int .i64 l[i].t)/\w.cell? ⟨g,i * 5+2,none⟩=some (.int .i64 l[i].a)/\w.cell? ⟨g,i * 5+3,none⟩=some (.int .i64 l[i].b)/\w.cell? ⟨g,i * 5+4,none⟩=some (.int .i64 l[i].n))/\∀i,w.frozen? ⟨g,i,none⟩=false:=by
  have hr:=h.row
  rcases h.2.2 with ⟨e,e2⟩|⟨g,cap,cur,e,hg,hh,hnc,hc,hs,ht⟩
  · omega
  · simp only [Value.slice.injEq] at e
    obtain⟨rfl,rfl,rfl⟩:=e
    obtain⟨b,o,e1,hb,hcell⟩:=hr.at hn
    simp only [Option.some.injEq,Addr.mk.injEq] at e1
    obtain⟨rfl,rfl,_⟩:=e1
    refine⟨g,rfl,hg,hb,rfl,hnc,by simpa only [maxLen] using hc,λi hi=>?_,λi=>by simp[World.frozen?,hh]⟩
    have hl:=cellsAct_len l
    obtain⟨h0,h1,h2,h3,h4⟩:=cellsAct_at l i hi
    have key:∀k,k<5->w.cell? ⟨g,i * 5+k,none⟩=(cellsAct l)[i * 5+k]?:=λk hk=>by
      have hlt:i * 5+k<(cellsAct l).length:=by omega
      have:=hcell _ hlt
      rw[Nat.zero_add] at this
      rw[this,List.getD_eq_getElem?_getD,List.getElem?_eq_getElem hlt];rfl
    exact⟨(key 0 (by omega)).trans h0,(key 1 (by omega)).trans h1,(key 2 (by omega)).trans h2,(key 3 (by omega)).trans h3,(key 4 (by omega)).trans h4⟩
end Go.Proofs.Ytbeilcaadpopmac
namespace Go.Proofs.Ytbeilcaadpopmac
def noAct:ActM:=⟨0,0,0,0,0⟩
def firstA (pr:ActM->Bool) (xs:List ActM):Int:=if xs.any pr then (xs.findIdx pr:Int) else -1
theorem firstA_none {pr:ActM->Bool} {xs:List ActM} (h:∀j,j<xs.length->pr (xs.getD j noAct)=false):firstA pr xs = -1:=by
  unfold firstA
  rw[if_neg]
  intro hh
  obtain⟨x,hx,hp⟩:=List.any_eq_true.1 hh
  obtain⟨j,hj,e⟩:=List.mem_iff_getElem.1 hx
  have:=h j hj
  rw[List.getD_eq_getElem?_getD,List.getElem?_eq_getElem hj] at this
  simp only [Option.getD_some] at this
  rw[e,hp] at this
  cases this
theorem firstA_some {pr:ActM->Bool} {xs:List ActM} {k:Nat} (hk:k<xs.length) (h:∀j,j<k->pr (xs.getD j noAct)=false) (hy:pr (xs.getD k noAct)=true):firstA pr xs=(k:Int):=by
  have e:∀j (hj:j<xs.length),xs.getD j noAct=xs[j]:=λj hj=>by rw[List.getD_eq_getElem?_getD,List.getElem?_eq_getElem hj];rfl
  rw[e k hk] at hy
  unfold firstA
  rw[if_pos (List.any_eq_true.2 ⟨_,List.getElem_mem hk,hy⟩)]
  congr 1
  rw[List.findIdx_eq hk]
  exact⟨hy,λj hj=>by rw[<- e j (by omega)];exact h j hj⟩
def KeptA (pr:ActM->Bool) (xs ys:List ActM) (i j:Nat):Prop:=ys.length=xs.length/\i<j/\j<=xs.length/\ys.take i=(xs.take j).filter (λx=>!pr x)/\ys.drop j=xs.drop j
theorem take_oneA {xs:List ActM} {j:Nat} (h:j<xs.length):xs.take (j+1)=xs.take j++[xs.getD j noAct]:=by
  rw[List.take_succ_eq_append_getElem h,List.getD_eq_getElem?_getD,List.getElem?_eq_getElem h];rfl
theorem KeptA.skip {pr:ActM->Bool} {xs ys:List ActM} {i j:Nat} (h:KeptA pr xs ys i j) (hj:j<xs.length) (hp:pr (xs.getD j noAct)=true):KeptA pr xs ys i (j+1):=by
  obtain⟨h1,h2,h3,h4,h5⟩:=h
  refine⟨h1,by omega,by omega,?_,?_⟩
  · rw[h4,take_oneA hj,List.filter_append];simp only [List.filter_cons,hp,Bool.not_true,List.filter_nil];simp
  · have:=congrArg (List.drop 1) h5
    rw[List.drop_drop,List.drop_drop] at this
    exact this
theorem KeptA.keep {pr:ActM->Bool} {xs ys:List ActM} {i j:Nat} (h:KeptA pr xs ys i j) (hj:j<xs.length) (hp:pr (xs.getD j noAct)=false):KeptA pr xs (ys.set i (xs.getD j noAct)) (i+1) (j+1):=by
  obtain⟨h1,h2,h3,h4,h5⟩:=h
  refine⟨by simp[h1],by omega,by omega,?_,?_⟩
  · rw[take_oneA hj,List.filter_append,<- h4,take_oneA (by simp;omega),List.take_set_of_le (by omega)]
    simp only [List.filter_cons,hp,Bool.not_false,List.filter_nil,if_true]
    congr 2
    rw[List.getD_eq_getElem?_getD,List.getElem?_set_self (by omega)];rfl
  · rw[List.drop_set_of_lt (by omega)]
    have:=congrArg (List.drop 1) h5
    rw[List.drop_drop,List.drop_drop] at this
    exact this
theorem KeptA.at {pr:ActM->Bool} {xs ys:List ActM} {i j:Nat} (h:KeptA pr xs ys i j) (hj:j<xs.length):ys.getD j noAct=xs.getD j noAct:=by
  obtain⟨h1,h2,h3,h4,h5⟩:=h
  have:=congrArg (λl=>l[0]?) h5
  simp only [List.getElem?_drop,Nat.add_zero] at this
  rw[List.getD_eq_getElem?_getD,List.getD_eq_getElem?_getD,this]
theorem KeptA.first {pr:ActM->Bool} {xs:List ActM} {k:Nat} (hk:k<xs.length) (h:∀j,j<k->pr (xs.getD j noAct)=false) (hy:pr (xs.getD k noAct)=true):KeptA pr xs xs k (k+1):=by
  refine⟨rfl,by omega,by omega,?_,rfl⟩
  rw[take_oneA hk,List.filter_append]
  simp only [List.filter_cons,hy,Bool.not_true,List.filter_nil]
  have:(xs.take k).filter (λx=>!pr x)=xs.take k:=by
    rw[List.filter_eq_self]
    intro x hx
    obtain⟨j,hj,e⟩:=List.mem_iff_getElem.1 hx
    simp at hj
    have:=h j (by omega)
    rw[List.getD_eq_getElem?_getD,List.getElem?_eq_getElem (by omega)] at this
    simp only [Option.getD_some] at this
    rw[List.getElem_take] at e
    rw[<- e,this];rfl
  rw[this];simp
theorem firstA_cases (pr:ActM->Bool) (xs:List ActM):(firstA pr xs = -1/\xs.filter (λx=>!pr x)=xs)\/∃k:Nat,firstA pr xs=(k:Int)/\k<xs.length/\KeptA pr xs xs k (k+1):=by
  by_cases h:xs.any pr=true
  · right
    have hk:=List.findIdx_lt_length_of_exists (p:=pr) (List.any_eq_true.1 h)
    refine⟨xs.findIdx pr,by unfold firstA;rw[if_pos h],hk,KeptA.first hk (λj hj=>?_) ?_⟩
    · have:=List.not_of_lt_findIdx (p:=pr) hj
      rw[List.getD_eq_getElem?_getD,List.getElem?_eq_getElem (by omega)]
      simpa using this
    · have:=List.findIdx_getElem (p:=pr) (w:=hk)
      rw[List.getD_eq_getElem?_getD,List.getElem?_eq_getElem hk]
      simpa using this
  · left
    refine⟨by unfold firstA;rw[if_neg h],?_⟩
    rw[List.filter_eq_self]
    intro x hx
    simp only [List.any_eq_true,not_exists,not_and,Bool.not_eq_true] at h
    rw[h x hx];rfl
end Go.Proofs.Ytbeilcaadpopmac
namespace Go.Proofs.Ytbeilcaadpopmac
open Go.RowKit Go.Maps
set_option maxRecDepth 100000 in
theorem cleaning_any (k t a b n:Int) (w:World):Calls Try.prog 15 #[.agg #[.int .i64 k,.int .i64 t,.int .i64 a,.int .i64 b,.int .i64 n]] w λe w'=>e = .returned (.bool (cleaning ⟨k,t,a,b,n⟩))/\Below w.heap.size w w':=by
  have HC:Hid (cleaning ⟨k,t,a,b,n⟩=(k == 10 || k == 11 || k == 12)):=rfl
  rw[HC.out]
  clear HC
  by_cases h0:k=10
  · subst h0
    go_enter Try.func15,Try.ntmps15
    go_wp2_with fail
    refine bodyPost_ret (v:=.bool true) (by simp[results,Try.results15,go_sem, *]) rfl ⟨rfl,(by repeat (first|exact Below.refl _ _|with_reducible refine below_drewN ?_ _|with_reducible refine Below.drew ?_|with_reducible refine Below.alloc ?_ (by first|exact Nat.le_refl _|(simp;done)|omega|(simp;omega)) _|with_reducible refine Below.setCell ?_ (by first|exact Nat.le_refl _|(simp;done)|omega|(simp;omega)) _))⟩
  · by_cases h1:k=11
    · subst h1
      go_enter Try.func15,Try.ntmps15
      go_wp2_with fail
      refine bodyPost_ret (v:=.bool true) (by simp[results,Try.results15,go_sem, *]) rfl ⟨rfl,(by repeat (first|exact Below.refl _ _|with_reducible refine below_drewN ?_ _|with_reducible refine Below.drew ?_|with_reducible refine Below.alloc ?_ (by first|exact Nat.le_refl _|(simp;done)|omega|(simp;omega)) _|with_reducible refine Below.setCell ?_ (by first|exact Nat.le_refl _|(simp;done)|omega|(simp;omega)) _))⟩
    · have e0:(k == 10)=false:=beq_eq_false_iff_ne.2 h0
      have e1:(k == 11)=false:=beq_eq_false_iff_ne.2 h1
      by_cases h2:k=12
      · subst h2
        go_enter Try.func15,Try.ntmps15
        go_wp2_with fail
        refine bodyPost_ret (v:=.bool true) (by simp[results,Try.results15,go_sem, *]) rfl ⟨rfl,(by repeat (first|exact Below.refl _ _|with_reducible refine below_drewN ?_ _|with_reducible refine Below.drew ?_|with_reducible refine Below.alloc ?_ (by first|exact Nat.le_refl _|(simp;done)|omega|(simp;omega)) _|with_reducible refine Below.setCell ?_ (by first|exact Nat.le_refl _|(simp;done)|omega|(simp;omega)) _))⟩
      · have e2:(k == 12)=false:=beq_eq_false_iff_ne.2 h2
        rw[e0,e1,e2]
        clear h0 h1 h2
        go_enter Try.func15,Try.ntmps15
        go_wp2_with fail
        refine bodyPost_ret (v:=.bool false) (by simp[results,Try.results15,go_sem, *]) rfl ⟨rfl,(by repeat (first|exact Below.refl _ _|with_reducible refine below_drewN ?_ _|with_reducible refine Below.drew ?_|with_reducible refine Below.alloc ?_ (by first|exact Nat.le_refl _|(simp;done)|omega|(simp;omega)) _|with_reducible refine Below.setCell ?_ (by first|exact Nat.le_refl _|(simp;done)|omega|(simp;omega)) _))⟩
theorem cleaning_act (r:ActM) (w:World):Calls Try.prog 15 #[.agg #[.int .i64 r.kind,.int .i64 r.t,.int .i64 r.a,.int .i64 r.b,.int .i64 r.n]] w λe w'=>e = .returned (.bool (cleaning r))/\Below w.heap.size w w':=cleaning_any _ _ _ _ _ w
set_option maxRecDepth 100000 in
set_option maxHeartbeats 1000000 in
theorem indexActs_any (base:Nat) (v:Value) (xs:List ActM) (w:World) (h:OwnAct w base v xs) :
    Calls Try.prog 21 #[v,.func (.func 15) #[] #[]] w (λe w'=>e = .returned (.int .i64 (firstA cleaning xs))/\Below w.heap.size w w'):=by
  obtain⟨a,c,rfl⟩:=h.shape
  have hle:=h.1
  have HH:=Lib.hid h
  clear h
  go_enter Try.func21,Try.ntmps21
  go_wp2
  go_loopw [8] (λu wr=>∃k:Nat,u = .int .i64 k/\k<=xs.length/\(∀j,j<k->cleaning (xs.getD j noAct)=false)/\Below w.heap.size w wr) (λu _=>xs.length - (intOf u).toNat)
  case atStart=>exact⟨0,rfl,Nat.zero_le _,by omega,Below.refl _ _⟩
  case round =>
    obtain⟨k,rfl,hk,hall,hbel⟩:=hrel
    have HALL:=Lib.hid hall;have HB:=Lib.hid hbel;clear hall hbel
    by_cases hlt:k<xs.length
    · obtain⟨g,rfl,_,hg,_,hnc,hcm,hcell,_⟩:=(HH.out.below HB.out).spot (by omega)
      obtain⟨q0,q1,q2,q3,q4⟩:=hcell k hlt
      have hx:xs.getD k noAct=xs[k]:=by rw[List.getD_eq_getElem?_getD,List.getElem?_eq_getElem hlt];rfl
      have HX:Hid (cleaning xs[k]=true->firstA cleaning xs=(k:Int)):=λhy=>firstA_some hlt HALL.out (by rw[hx];exact hy)
      have HY:Hid (cleaning xs[k]=false->∀j,j<k+1->cleaning (xs.getD j noAct)=false):=λhn j hj=>by
        by_cases e:j=k
        · rw[e,hx];exact hn
        · exact HALL.out j (by omega)
      clear hcell hx
      generalize xs[k]=x at q0 q1 q2 q3 q4 HX HY
      have HC:Hid (∀W,Calls Try.prog 15 #[.agg #[.int .i64 x.kind,.int .i64 x.t,.int .i64 x.a,.int .i64 x.b,.int .i64 x.n]] W λe w'=>e = .returned (.bool (cleaning x))/\Below W.heap.size W w'):=λW=>cleaning_act x W
      cases hq:cleaning x with
      | true =>
        rw[hq] at HC
        have HE:=Lib.hid (HX.out hq)
        clear hq HX HY
        go_wp2_with (go_at_call 15;refine (HC.out _).mono ?_;rintro e w5 ⟨rfl,hb5⟩;have HB5:=Lib.hid hb5;clear hb5)
        go_ret
        exact⟨ret_int HE.out.symm,HB.out.trans (HB5.out.mono HB.out.size)⟩
      | false =>
        rw[hq] at HC
        have HE:=Lib.hid (HY.out hq)
        clear hq HX HY
        go_wp2_with (go_at_call 15;refine (HC.out _).mono ?_;rintro e w5 ⟨rfl,hb5⟩;have HB5:=Lib.hid hb5;clear hb5)
        go_roundw
        case rel=>exact⟨k+1,by go_num,by omega,HE.out,HB.out.trans (HB5.out.mono HB.out.size)⟩
        case measure=>simp[intOf];omega
    · have HE:Hid (firstA cleaning xs = -1):=firstA_none (λj hj=>HALL.out j (by omega))
      go_wp2
      go_ret
      exact⟨ret_int HE.out.symm,HB.out⟩
theorem run_clear_many (w:World) (t e ty:TypeId) (z:Value) (ht:Try.prog.underlying t=some (.slice e)) (hv:∀w,(zeroValue e).run Try.prog w = .ok z w) (b o n c:Nat) (hn:0<n) (h1:∀v ∈ (Builtin.zeroCells z.cells n).toList,v.oneCell' = true)
    (hc:∀j,j<(Builtin.zeroCells z.cells n).toList.length->(w.cell? ⟨b,o+j,none⟩).isSome=true) (hf:∀j,w.frozen? ⟨b,o+j,none⟩=false) :
    (Builtin.clear_ #[t] ty #[.slice (some ⟨b,o,none⟩) n c]).run Try.prog w = .ok (.tuple #[]) (w.setCells b o (Builtin.zeroCells z.cells n).toList):=by
  have hst:=run_storeCells_cells (P:=Try.prog) b o (Builtin.zeroCells z.cells n).toList 0 w (by simpa using hc) (by intro j hj;simpa using hf j) (λv hv'=>h1 v hv')
  simp only [Nat.add_zero] at hst
  obtain⟨m,rfl⟩:∃m,n=m+1:=⟨n - 1,by omega⟩
  simp[Builtin.clear_,run_underlying ht,hv,hst]
theorem zero_acts (n:Nat):(Builtin.zeroCells (Value.agg #[.int .i64 0,.int .i64 0,.int .i64 0,.int .i64 0,.int .i64 0]).cells n).toList.length=n * 5/\∀v ∈ (Builtin.zeroCells (Value.agg #[.int .i64 0,.int .i64 0,.int .i64 0,.int .i64 0,.int .i64 0]).cells n).toList,v.oneCell' = true:=by
  refine⟨by simp[Builtin.zeroCells,Value.cells],λv hv=>?_⟩
  simp only [Builtin.zeroCells,Value.cells,Array.toList_map,List.mem_map] at hv
  obtain⟨i,_,rfl⟩:=hv
  have h5:i % 5<5:=Nat.mod_lt _ (by omega)
  show Value.oneCell' (#[Value.int .i64 0,Value.int .i64 0,Value.int .i64 0,Value.int .i64 0,Value.int .i64 0][i % 5]!)=true
  rcases (show i % 5=0\/i % 5=1\/i % 5=2\/i % 5=3\/i % 5=4 by omega) with e|e|e|e|e <;> rw[e] <;> rfl
def RetDelA (w:World) (base:Nat) (ys:List ActM) (e:Ending) (w':World):Prop:=Below base w w'/\∃a c,e = .returned (.slice a ys.length c)/\OwnAct w' base (.slice a ys.length c) ys
set_option maxRecDepth 100000 in
set_option maxHeartbeats 4000000 in
theorem deleteActs_any (base:Nat) (v:Value) (xs:List ActM) (w:World) (h:OwnAct w base v xs) (hbase:base<=w.heap.size) :
    Calls Try.prog 13 #[v,.func (.func 15) #[] #[]] w (RetDelA w base (xs.filter λr=>!cleaning r)):=by
  have hif:=indexActs_any base v xs w h
  rcases firstA_cases cleaning xs with ⟨e1,e2⟩|⟨k,e1,hk,hkept⟩
  · rw[e1] at hif
    obtain⟨a,c,rfl⟩:=h.shape
    have HIF:=Lib.hid hif
    have HE:Hid (∀w',Below w.heap.size w w'->RetDelA w base (xs.filter λx=>!cleaning x) (.returned (.slice a xs.length c)) w'):=λw' hw=>⟨hw.mono hbase,a,c,by rw[e2],by rw[e2];exact h.below hw⟩
    have hle:=h.1
    clear hif e1 e2 h
    go_enter Try.func13,Try.ntmps13
    go_wp2_with (go_at_call 21;refine HIF.out.mono ?_;rintro e w' ⟨rfl,hb1⟩;have HB1:=Lib.hid hb1;clear hb1)
    refine bodyPost_ret (v:=.slice a xs.length c) (by simp[results,Try.results13,go_sem, *]) rfl (HE.out _ HB1.out)
  · rw [e1] at hif
    obtain⟨a,c,rfl⟩:=h.shape
    obtain⟨g,rfl,hg0,hgs,hj1,hcn,hcm,hj2⟩:=h.spot (by omega)
    clear hj1 hj2
    have hle:=h.1
    have HIF:=Lib.hid hif;have HO:=Lib.hid h;have HK:=Lib.hid hkept
    have hk1:((k:Int) == -1)=false:=beq_eq_false_iff_ne.2 (by omega)
    clear hif e1 h hkept
    go_enter Try.func13,Try.ntmps13
    go_wp2_with (go_at_call 21;refine HIF.out.mono ?_;rintro e w1 ⟨rfl,hb1⟩;have HB1:=Lib.hid hb1;clear hb1)
    have HO1:Hid (OwnAct w1 base (.slice (some ⟨g,0,none⟩) xs.length c) xs/\Below base w w1):=⟨HO.out.below HB1.out,HB1.out.mono hbase⟩
    clear HO HB1 HIF
    go_loopw [5,6] (λu u6 wr=>∃(i j:Nat) (ys:List ActM),u = .int .i64 i/\u6 = .int .i64 j/\KeptA cleaning xs ys i j/\OwnAct wr base (.slice (some ⟨g,0,none⟩) xs.length c) ys/\Below base w wr) (λ_ u6 _=>xs.length - (intOf u6).toNat)
    case atStart=>exact⟨k,k+1,xs,rfl,by go_num,HK.out,HO1.out.1,HO1.out.2⟩
    case round =>
      obtain⟨i,j,ys,rfl,rfl,hka,how,hbl⟩:=hrel
      have HKA:=Lib.hid hka;have HOW:=Lib.hid how;have HBL:=Lib.hid hbl
      obtain⟨q1,q2,q3,_,_⟩:=hka
      clear hbl HO1 HK
      obtain⟨g2,e,hg1,hg2,hd1,hd2,hd3,hcell,hfz⟩:=how.spot (by omega)
      clear hd1 hd2 hd3
      simp only [Option.some.injEq,Addr.mk.injEq] at e
      obtain⟨rfl,_⟩:=e
      have hzb:base<=wr.heap.size:=by omega
      by_cases hlt:j<xs.length
      · have hji:j<ys.length:=by omega
        obtain⟨c0,c1,c2,c3,c4⟩:=hcell j hji
        have hat:=HKA.out.at hlt
        rw[List.getD_eq_getElem?_getD,List.getElem?_eq_getElem hji,Option.getD_some] at hat
        rw[hat] at c0 c1 c2 c3 c4
        obtain⟨x,hx⟩:∃x,x=xs.getD j noAct:=⟨_,rfl⟩
        rw[<- hx] at c0 c1 c2 c3 c4
        have HX:=Lib.hid hx
        clear hat hx hcell hfz how
        have HC:Hid (∀W,Calls Try.prog 15 #[.agg #[.int .i64 x.kind,.int .i64 x.t,.int .i64 x.a,.int .i64 x.b,.int .i64 x.n]] W λe w'=>e = .returned (.bool (cleaning x))/\Below W.heap.size W w'):=λW=>cleaning_act x W
        have hlt':(j:Int)<(xs.length:Int):=by omega
        cases hq:cleaning x with
        | true =>
          rw[hq] at HC
          have HN:Hid (KeptA cleaning xs ys i (j+1)):=HKA.out.skip hlt (by rw[<- HX.out];exact hq)
          clear hq
          go_wp2_with (go_at_call 15;refine (HC.out _).mono ?_;rintro e w5 ⟨rfl,hb5⟩;have HB5:=Lib.hid hb5;clear hb5)
          have h15:Below wr.heap.size wr w5:=(by repeat (first|exact Below.refl _ _|with_reducible refine Below.trans ?_ (Below.mono HB5.out (by first|exact Nat.le_refl _|(simp;done)|omega|(simp;omega)|(have z0:=Below.size HB5.out;omega)|(have z0:=Below.size HB5.out;simp at *;omega)))|with_reducible refine below_drewN ?_ _|with_reducible refine Below.drew ?_|with_reducible refine Below.alloc ?_ (by first|exact Nat.le_refl _|(simp;done)|omega|(simp;omega)|(have z0:=Below.size HB5.out;omega)|(have z0:=Below.size HB5.out;simp at *;omega)) _|with_reducible refine Below.setCell ?_ (by first|exact Nat.le_refl _|(simp;done)|omega|(simp;omega)|(have z0:=Below.size HB5.out;omega)|(have z0:=Below.size HB5.out;simp at *;omega)) _))
          go_roundw
          case rel=>exact⟨i,j+1,ys,rfl,by go_num,HN.out,HOW.out.below h15,HBL.out.trans (h15.mono hzb)⟩
          case measure=>simp[intOf];omega
        | false =>
          rw[hq] at HC
          have HN:Hid (KeptA cleaning xs (ys.set i x) (i+1) (j+1)):=by rw[Hid,HX.out];exact HKA.out.keep hlt (by rw[<- HX.out];exact hq)
          clear hq
          go_upto_region 9 with (go_at_call 15;refine (HC.out _).mono ?_;rintro e w5 ⟨rfl,hb5⟩;have zc1:=Nat.lt_of_lt_of_le (show wr.heap.size<_ from (by first|(simp;done)|omega|(simp;omega))) (Below.size hb5);have fc1_0:=Below.cell hb5 (p:=⟨wr.heap.size,0,none⟩) (by first|(simp;done)|omega|(simp;omega));have gc1_0:=Below.frozen hb5 (p:=⟨wr.heap.size,0,none⟩) (by first|(simp;done)|omega|(simp;omega));have fc1_1:=Below.cell hb5 (p:=⟨wr.heap.size,1,none⟩) (by first|(simp;done)|omega|(simp;omega));have gc1_1:=Below.frozen hb5 (p:=⟨wr.heap.size,1,none⟩) (by first|(simp;done)|omega|(simp;omega));have fc1_2:=Below.cell hb5 (p:=⟨wr.heap.size,2,none⟩) (by first|(simp;done)|omega|(simp;omega));have gc1_2:=Below.frozen hb5 (p:=⟨wr.heap.size,2,none⟩) (by first|(simp;done)|omega|(simp;omega));have fc1_3:=Below.cell hb5 (p:=⟨wr.heap.size,3,none⟩) (by first|(simp;done)|omega|(simp;omega));have gc1_3:=Below.frozen hb5 (p:=⟨wr.heap.size,3,none⟩) (by first|(simp;done)|omega|(simp;omega));have fc1_4:=Below.cell hb5 (p:=⟨wr.heap.size,4,none⟩) (by first|(simp;done)|omega|(simp;omega));have gc1_4:=Below.frozen hb5 (p:=⟨wr.heap.size,4,none⟩) (by first|(simp;done)|omega|(simp;omega));(try simp at fc1_0 gc1_0 fc1_1 gc1_1 fc1_2 gc1_2 fc1_3 gc1_3 fc1_4 gc1_4);have HB5:=Lib.hid hb5;clear hb5)
          have HB15:Hid (Below wr.heap.size wr w5):=by rw[Hid];exact (by repeat (first|exact Below.refl _ _|with_reducible refine Below.trans ?_ (Below.mono HB5.out (by first|exact Nat.le_refl _|(simp;done)|omega|(simp;omega)|(have z0:=Below.size HB5.out;omega)|(have z0:=Below.size HB5.out;simp at *;omega)))|with_reducible refine below_drewN ?_ _|with_reducible refine Below.drew ?_|with_reducible refine Below.alloc ?_ (by first|exact Nat.le_refl _|(simp;done)|omega|(simp;omega)|(have z0:=Below.size HB5.out;omega)|(have z0:=Below.size HB5.out;simp at *;omega)) _|with_reducible refine Below.setCell ?_ (by first|exact Nat.le_refl _|(simp;done)|omega|(simp;omega)|(have z0:=Below.size HB5.out;omega)|(have z0:=Below.size HB5.out;simp at *;omega)) _))
          have HOW5:=Lib.hid (HOW.out.below HB15.out)
          obtain⟨g3,e,hd0,hg5,hd1,hd2,hd3,hcell5,hfz5⟩:=HOW5.out.spot (by omega)
          clear hd0 hd1 hd2 hd3
          simp only [Option.some.injEq,Addr.mk.injEq] at e
          obtain⟨rfl,_⟩:=e
          obtain⟨p0,p1,p2,p3,p4⟩:=hcell5 i (by omega)
          have z0:=hfz5 (i * 5);have z1:=hfz5 (i * 5+1);have z2:=hfz5 (i * 5+2);have z3:=hfz5 (i * 5+3);have z4:=hfz5 (i * 5+4)
          have hii:(i:Int)<(xs.length:Int):=by omega
          have HST:Hid (OwnAct (((((w5.setCell ⟨g,i * 5,none⟩ (.int .i64 x.kind)).setCell ⟨g,i * 5+1,none⟩ (.int .i64 x.t)).setCell ⟨g,i * 5+2,none⟩ (.int .i64 x.a)).setCell ⟨g,i * 5+3,none⟩ (.int .i64 x.b)).setCell ⟨g,i * 5+4,none⟩ (.int .i64 x.n)) base (.slice (some ⟨g,0,none⟩) xs.length c) (ys.set i x)):=HOW5.out.set q1.symm i x
          have HBS:Hid (Below base w (((((w5.setCell ⟨g,i * 5,none⟩ (.int .i64 x.kind)).setCell ⟨g,i * 5+1,none⟩ (.int .i64 x.t)).setCell ⟨g,i * 5+2,none⟩ (.int .i64 x.a)).setCell ⟨g,i * 5+3,none⟩ (.int .i64 x.b)).setCell ⟨g,i * 5+4,none⟩ (.int .i64 x.n))) :=
            (((((HBL.out.trans (HB15.out.mono hzb)).setCell hg0 _).setCell hg0 _).setCell hg0 _).setCell hg0 _).setCell hg0 _
          clear hcell5 hfz5 HB5 c0 c1 c2 c3 c4
          generalize ys[i]=old at p0 p1 p2 p3 p4
          go_wp2_with fail
          go_roundw
          case rel=>exact⟨i+1,j+1,_,by go_num,by go_num,HN.out,HST.out,HBS.out⟩
          case measure=>simp[intOf];omega
      · obtain rfl:j=xs.length:=by omega
        obtain⟨s1,s2⟩:=zero_acts (xs.length - i)
        have hcl:∀ty,(Builtin.clear_ #[23] ty #[.slice (some ⟨g,i * 5,none⟩) (xs.length - i) (c - i)]).run Try.prog wr = .ok (.tuple #[]) (wr.setCells g (i * 5) (Builtin.zeroCells (Value.agg #[.int .i64 0,.int .i64 0,.int .i64 0,.int .i64 0,.int .i64 0]).cells (xs.length - i)).toList):=λty =>
          run_clear_many wr _ _ ty _ Try.underlying23 (λw=>by kernel_rfl) g (i * 5) _ _ (by omega) s2 (λt ht=>by
            rw[s1] at ht
            obtain⟨r0,r1,r2,r3,r4⟩:=hcell (i+t / 5) (by omega)
            rw[show i * 5+t=(i+t / 5) * 5+t % 5 by omega]
            have h5:t % 5<5:=Nat.mod_lt _ (by omega)
            rcases (show t % 5=0\/t % 5=1\/t % 5=2\/t % 5=3\/t % 5=4 by omega) with e|e|e|e|e <;> rw[e] <;> simp only [Nat.add_zero,r0,r1,r2,r3,r4,Option.isSome_some]) (λt=>hfz (i * 5+t))
        have HEND:Hid (RetDelA w base (xs.filter λx=>!cleaning x) (.returned (.slice (some ⟨g,0,none⟩) i c)) (wr.setCells g (i * 5) (Builtin.zeroCells (Value.agg #[.int .i64 0,.int .i64 0,.int .i64 0,.int .i64 0,.int .i64 0]).cells (xs.length - i)).toList)):=by
          have hf:=HOW.out.first (k:=i) q1.symm (by omega)
          have hil:(ys.take i).length=i:=by rw[List.length_take];omega
          have e:=HKA.out.2.2.2.1
          rw[List.take_length] at e
          have ht:=ownsRow_tail (Builtin.zeroCells (Value.agg #[.int .i64 0,.int .i64 0,.int .i64 0,.int .i64 0,.int .i64 0]).cells (xs.length - i)).toList (i * 5) wr (by have:=hf.2;rw[hil] at this;exact this) (Nat.le_refl _)
          refine⟨HBL.out.grown ht.2 hzb λb hb=>by cases hb;exact hg0,_,c,by rw[<- e,hil],?_⟩
          rw[<- e,hil]
          exact⟨by omega,by rw[hil];exact ht.1⟩
        have hne:(c=i)=False:=by simp;omega
        have hic:i<=c:=by omega
        have hil:i<=xs.length:=by omega
        have hlt':¬ (xs.length:Int)<(xs.length:Int):=by omega
        clear hcell hfz how s1 s2
        go_wp2
        go_ret
        exact HEND.out
set_option maxRecDepth 100000 in
theorem plain_any (v:Value) (rs:List Raw4) (most th:Int) (w:World) (h:Raws w v rs) (hm:0<=most/\most<=100) (hth:1<=th/\th<=4) :
    Calls Try.prog 8 #[v,.int .i64 most,.int .i64 th] w λe w'=>Below w.heap.size w w'/\∃(l:List ActM) (a:Option Addr) (c:Nat),e = .returned (.slice a l.length c)/\OwnAct w' w.heap.size (.slice a l.length c) l/\(l.length:Int)<=most/\(∀r ∈ l,OkAct r/\r.t<th/\(r.kind=8->0<=r.n/\r.n<th))/\∀r ∈ l,cleaning r=false:=by
  have HA:=Lib.hid (acts_any v rs most th w h hm hth)
  go_enter Try.func8,Try.ntmps8
  go_wp2_with (first
    | (go_at_call 12;refine HA.out.mono ?_;rintro e w1 ⟨hb1,l,a1,c1,rfl,hv1,hl,hok⟩;have HB1:=Lib.hid hb1;have HV1:=Lib.hid hv1;have HOK:=Lib.hid hok;clear hb1 hv1 hok)
    | (go_at_call 13;refine (deleteActs_any w.heap.size _ l _ HV1.out HB1.out.size).mono ?_;rintro e w2 ⟨hb2,a2,c2,rfl,hv2⟩;have HB2:=Lib.hid hb2;have HV2:=Lib.hid hv2;clear hb2 hv2))
  refine bodyPost_ret (v:=.slice a2 (l.filter λr=>!cleaning r).length c2) (by simp[results,Try.results8,go_sem, *]) rfl ⟨HB1.out.trans HB2.out,_,_,_,rfl,HV2.out,?_,λr hr=>HOK.out r (List.mem_filter.1 hr).1,λr hr=>by simpa using (List.mem_filter.1 hr).2⟩
  have:=List.length_filter_le (λr=>!cleaning r) l
  omega
end Go.Proofs.Ytbeilcaadpopmac
