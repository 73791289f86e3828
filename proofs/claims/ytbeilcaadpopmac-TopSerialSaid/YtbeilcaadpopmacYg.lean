/- Texts put together: Sh, At, Tr, Sf. -/
import Derived.Test.YtbeilcaadpopmacYe
import Derived.Test.YtbeilcaadpopmacY6
import Derived.Test.YtbeilcaadpopmacYd
import Derived.Test.YtbeilcaadpopmacY1
import Derived.Deep.RegionHeld3
set_option linter.unusedVariables false
set_option linter.unusedSimpArgs false
namespace Go.Proofs.Ytbeilcaadpopmac
open Go.RowKit Go.Maps
structure OkAct (r:ActM):Prop where
  kind:1<=r.kind/\r.kind<=12
  t:0<=r.t/\r.t<4
  a:0<=r.a/\r.a<4
  b:0<=r.b/\r.b<4
  n : -400<=r.n/\r.n<=400
  new:r.kind=4->0<=r.n/\r.n<=3
theorem OkAct.I {r:ActM} (h:OkAct r):I64 r.kind/\I64 r.t/\I64 r.a/\I64 r.b/\I64 r.n:=by
  have:=h.kind;have:=h.t;have:=h.a;have:=h.b;have:=h.n
  unfold I64
  omega
theorem OwnAct.acts {w:World} {base:Nat} {v:Value} {l:List ActM} (h:OwnAct w base v l) (hI:∀r ∈ l,I64 r.kind/\I64 r.t/\I64 r.a/\I64 r.b/\I64 r.n):Acts w v l:=⟨⟨hI,by have:=h.1;omega⟩,h.row⟩
def BoxAct (w:World) (X base:Nat) (v:Value) (l:List ActM):Prop:=w.cell? ⟨X,0,none⟩=some v/\w.frozen? ⟨X,0,none⟩=false/\OwnAct w base v l/\X<base/\base<=w.heap.size
theorem BoxAct.put {w w':World} {X base:Nat} {v v':Value} {l l':List ActM} (h:BoxAct w X base v l) (ho:OwnAct w' base v' l') (hg:w.grownBy w' v.ownBlock):BoxAct (w'.setCell ⟨X,0,none⟩ v') X base v' l'/\Below X w (w'.setCell ⟨X,0,none⟩ v'):=by
  obtain⟨h1,h2,h3,h4,h5⟩:=h
  have hb:Below X w w':=(Below.refl X w).grown hg (by omega) λj hj=>by have:=(h3.lt hj).1;omega
  have hk:w'.heap[X]? = w.heap[X]?:=by
    have hb2:Below base w w':=(Below.refl base w).grown hg h5 λj hj=>(h3.lt hj).1
    exact hb2.block X h4
  have hc:w'.cell? ⟨X,0,none⟩=some v:=(World.cell?_of_block (a:=⟨X,0,none⟩) hk).trans h1
  have hf:w'.frozen? ⟨X,0,none⟩=false:=(World.frozen?_of_block (a:=⟨X,0,none⟩) hk).trans h2
  refine⟨⟨World.cell?_setCell_same _ _ _ hc,by rw[frozen_setCell_any];exact hf,ho.keep λj hj=>?_,h4,by have:=hb.size;simp[World.setCell];omega⟩,hb.setCell (Nat.le_refl _) _⟩
  exact Below.heap_setCell _ ⟨X,0,none⟩ _ _ (by have:=(ho.lt hj).1;show j≠X;omega)
theorem BoxAct.below {w w':World} {X base:Nat} {v:Value} {l:List ActM} (h:BoxAct w X base v l) (hb:Below w.heap.size w w'):BoxAct w' X base v l:=by
  obtain⟨h1,h2,h3,h4,h5⟩:=h
  have hx:X<w.heap.size:=by omega
  exact⟨(hb.cell (p:=⟨X,0,none⟩) hx).trans h1,(hb.frozen (p:=⟨X,0,none⟩) hx).trans h2,h3.below hb,h4,Nat.le_trans h5 hb.size⟩
theorem BoxAct.stay {w w':World} {X base:Nat} {v:Value} {l:List ActM} (h:BoxAct w X base v l) (hg:w.grownBy w' v.ownBlock):w'.cell? ⟨X,0,none⟩=some v/\w'.frozen? ⟨X,0,none⟩=false:=by
  obtain⟨h1,h2,h3,h4,h5⟩:=h
  have hb2:Below base w w':=(Below.refl base w).grown hg h5 λj hj=>(h3.lt hj).1
  have hk:=hb2.block X h4
  exact⟨(World.cell?_of_block (a:=⟨X,0,none⟩) hk).trans h1,(World.frozen?_of_block (a:=⟨X,0,none⟩) hk).trans h2⟩
set_option maxRecDepth 100000 in
theorem do_any (w:World) (X base:Nat) (v:Value) (l:List ActM) (k a b n:Int) (h:BoxAct w X base v l) (hl:l.length<=100) :
    Calls Try.prog 19 #[.int .i64 k,.int .i64 a,.int .i64 b,.int .i64 n,.pointer (some ⟨X,0,none⟩)] w λe w'=>e = .returned (.tuple #[])/\Below X w w'/\∃v',BoxAct w' X base v' (l++[⟨k,0,a,b,n⟩]):=by
  have H:=Lib.hid h
  obtain⟨h1,h2,_,h4,h5⟩:=h
  have hx:X<w.heap.size:=by omega
  clear h4
  obtain⟨r,hr⟩:∃r:ActM,r=⟨k,0,a,b,n⟩:=⟨_,rfl⟩
  have e0:r.kind=k:=by rw[hr]
  have e1:r.t=0:=by rw[hr]
  have e2:r.a=a:=by rw[hr]
  have e3:r.b=b:=by rw[hr]
  have e4:r.n=n:=by rw[hr]
  have HRE:=Lib.hid hr
  rw[<- hr]
  clear hr
  go_enter Try.func19,Try.ntmps19
  go_wp2_with (at_builtin;refine wpl_append_Act rfl _ _ rfl base v l rfl (H.out.2.2.1.below (by repeat (first|exact Below.refl _ _|with_reducible refine below_drewN ?_ _|with_reducible refine Below.drew ?_|with_reducible refine Below.alloc ?_ (by first|exact Nat.le_refl _|(simp;done)|omega|(simp;omega)) _|with_reducible refine Below.setCell ?_ (by first|exact Nat.le_refl _|(simp;done)|omega|(simp;omega)) _))) _ [r] rfl (by rw[<- e0,<- e1,<- e2,<- e3,<- e4];exact row_Act _ r rfl) (by simp;omega) (by simp;omega) ?_;intro v7 w7 hv7 hg7 hn7;obtain⟨x7,c7,rfl⟩:=hv7.shape;obtain⟨d0,d1⟩:=(H.out.below (by repeat (first|exact Below.refl _ _|with_reducible refine below_drewN ?_ _|with_reducible refine Below.drew ?_|with_reducible refine Below.alloc ?_ (by first|exact Nat.le_refl _|(simp;done)|omega|(simp;omega)) _|with_reducible refine Below.setCell ?_ (by first|exact Nat.le_refl _|(simp;done)|omega|(simp;omega)) _))).stay hg7;have HV7:=Lib.hid hv7;have HG7:=Lib.hid hg7;clear hv7 hg7 hn7)
  obtain⟨h7,h8⟩:=(H.out.below (w':=w.alloc (.cells #[.int .i64 k,.int .i64 0,.int .i64 a,.int .i64 b,.int .i64 n] 27)) (by repeat (first|exact Below.refl _ _|with_reducible refine below_drewN ?_ _|with_reducible refine Below.drew ?_|with_reducible refine Below.alloc ?_ (by first|exact Nat.le_refl _|(simp;done)|omega|(simp;omega)) _|with_reducible refine Below.setCell ?_ (by first|exact Nat.le_refl _|(simp;done)|omega|(simp;omega)) _))).put HV7.out HG7.out
  rw[show (l++[r]).length=l.length+1 by simp] at h7 h8
  exact bodyPost_end (results_none rfl _ _ _) rfl ⟨rfl,(show Below X w (w.alloc (.cells #[.int .i64 k,.int .i64 0,.int .i64 a,.int .i64 b,.int .i64 n] 27)) from (by exact (Below.refl _ _).alloc (by omega) _)).trans h8,_,h7⟩
def sharedL:List ActM:=[⟨1,0,0,0,0⟩,⟨4,0,0,0,3⟩,⟨4,0,1,0,3⟩,⟨6,0,0,1,0⟩,⟨6,0,1,0,1⟩,⟨2,0,0,0,0⟩,⟨8,1,0,0,0⟩,⟨8,1,1,1,0⟩,⟨8,2,0,0,0⟩,⟨8,2,1,1,0⟩,⟨8,3,0,0,0⟩,⟨8,3,1,1,0⟩]
theorem shared_ok:∀r ∈ sharedL,OkAct r:=by
  intro r hr
  simp only [sharedL,List.mem_cons,List.not_mem_nil,or_false] at hr
  rcases hr with rfl|rfl|rfl|rfl|rfl|rfl|rfl|rfl|rfl|rfl|rfl|rfl <;> constructor <;> dsimp only <;> omega
theorem row_Act2 (w:World) (u r:ActM) {n:Nat} (hn:n=w.heap.size):Row (w.alloc (.cells #[.int .i64 u.kind,.int .i64 u.t,.int .i64 u.a,.int .i64 u.b,.int .i64 u.n,.int .i64 r.kind,.int .i64 r.t,.int .i64 r.a,.int .i64 r.b,.int .i64 r.n] 27)) (.slice (some ⟨n,0,none⟩) 2 2) 2 5 (cellsAct [u,r]):=by
  subst hn
  refine⟨rfl,by omega,_,2,rfl,Nat.le_refl _,by unfold maxLen;omega,(λh=>by cases h),λ_=>⟨w.heap.size,0,rfl,by simp,λi hi=>?_⟩⟩
  have:i=0\/i=1\/i=2\/i=3\/i=4\/i=5\/i=6\/i=7\/i=8\/i=9:=by simp[cellsAct] at hi;omega
  rcases this with rfl|rfl|rfl|rfl|rfl|rfl|rfl|rfl|rfl|rfl <;> simp[cellsAct]
def shareT (k:Nat):List ActM:=sharedL.take (6+2 * (k - 1))
set_option maxRecDepth 100000 in
set_option maxHeartbeats 4000000 in
theorem shared_any (w:World):Calls Try.prog 7 #[.int .i64 4] w λe w'=>Below w.heap.size w w'/\∃a c,e = .returned (.slice a 12 c)/\OwnAct w' w.heap.size (.slice a 12 c) sharedL:=by
  obtain⟨X,hX⟩:∃X,X=w.heap.size:=⟨_,rfl⟩
  go_enter Try.func7,Try.ntmps7
  go_upto_region 3 with fail
  obtain⟨w1,hw1⟩:∃w1,w1=w.alloc (.cells #[.slice none 0 0] 23):=⟨_,rfl⟩
  have HB1:Hid (BoxAct w1 X (X+1) (.slice none 0 0) []/\Below X w w1):=by
    rw[Hid,hw1,hX]
    exact⟨⟨by simp,by simp,OwnAct.nil _ _,by omega,by simp⟩,(by repeat (first|exact Below.refl _ _|with_reducible refine below_drewN ?_ _|with_reducible refine Below.drew ?_|with_reducible refine Below.alloc ?_ (by first|exact Nat.le_refl _|(simp;done)|omega|(simp;omega)) _|with_reducible refine Below.setCell ?_ (by first|exact Nat.le_refl _|(simp;done)|omega|(simp;omega)) _))⟩
  have HXE:=Lib.hid hX
  rw[<- hw1,<- hX]
  clear hw1 hX
  go_upto_region 4 with (go_at_call 19;refine (do_any _ X (X+1) _ _ _ _ _ _ HB1.out.1 (by simp)).mono ?_;rintro e w2 ⟨rfl,hb2,v2,hx2⟩;have HB2:=Lib.hid (And.intro hx2 (HB1.out.2.trans hb2));clear hb2 hx2 HB1)
  go_upto_region 5 with (go_at_call 19;refine (do_any _ X (X+1) _ _ _ _ _ _ HB2.out.1 (by simp)).mono ?_;rintro e w3 ⟨rfl,hb2,v3,hx2⟩;have HB3:=Lib.hid (And.intro hx2 (HB2.out.2.trans hb2));clear hb2 hx2 HB2)
  go_upto_region 6 with (go_at_call 19;refine (do_any _ X (X+1) _ _ _ _ _ _ HB3.out.1 (by simp)).mono ?_;rintro e w4 ⟨rfl,hb2,v4,hx2⟩;have HB4:=Lib.hid (And.intro hx2 (HB3.out.2.trans hb2));clear hb2 hx2 HB3)
  go_upto_region 7 with (go_at_call 19;refine (do_any _ X (X+1) _ _ _ _ _ _ HB4.out.1 (by simp)).mono ?_;rintro e w5 ⟨rfl,hb2,v5,hx2⟩;have HB5:=Lib.hid (And.intro hx2 (HB4.out.2.trans hb2));clear hb2 hx2 HB4)
  go_upto_region 8 with (go_at_call 19;refine (do_any _ X (X+1) _ _ _ _ _ _ HB5.out.1 (by simp)).mono ?_;rintro e w6 ⟨rfl,hb2,v6,hx2⟩;have HB6:=Lib.hid (And.intro hx2 (HB5.out.2.trans hb2));clear hb2 hx2 HB5)
  go_upto_region 9 with (go_at_call 19;refine (do_any _ X (X+1) _ _ _ _ _ _ HB6.out.1 (by simp)).mono ?_;rintro e w7 ⟨rfl,hb2,v7,hx2⟩;have HB7:=Lib.hid (And.intro hx2 (HB6.out.2.trans hb2));clear hb2 hx2 HB6)
  have HB8:Hid (∃v,BoxAct w7 X (X+1) v (shareT 1)/\Below X w w7):=⟨v7,HB7.out⟩
  clear HB7
  go_wp2_with fail
  go_loopw [5] (λu wr=>∃k:Nat,1<=k/\k<=4/\u = .int .i64 k/\∃v,BoxAct wr X (X+1) v (shareT k)/\Below X w wr) (λu _=>4 - (intOf u).toNat)
  case atStart=>exact⟨1,by omega,by omega,rfl,HB8.out⟩
  case round =>
    obtain⟨k,hk1,hk4,rfl,v,hx,hb⟩:=hrel
    have HX:=Lib.hid hx;have HB:=Lib.hid hb
    obtain⟨d0,d1,_,_,hz⟩:=hx
    clear hb HB8
    by_cases hk:k<4
    · have hk':(k:Int)<4:=by omega
      obtain⟨r,hr⟩:∃r:ActM,r=⟨8,k,0,0,0⟩:=⟨_,rfl⟩
      obtain⟨s,hs⟩:∃s:ActM,s=⟨8,k,1,1,0⟩:=⟨_,rfl⟩
      have HRW:Hid (∀W:World,Row (W.alloc (.cells #[.int .i64 8,.int .i64 (k:Int),.int .i64 0,.int .i64 0,.int .i64 0,.int .i64 8,.int .i64 (k:Int),.int .i64 1,.int .i64 1,.int .i64 0] 27)) (.slice (some ⟨W.heap.size,0,none⟩) 2 2) 2 5 (cellsAct [r,s])):=λW=>by
        have:=row_Act2 W r s rfl
        rw[hr,hs] at this ⊢
        exact this
      have HSH:Hid (shareT (k+1)=shareT k++[r,s]/\(shareT k).length<=12):=by
        rw[Hid,hr,hs]
        rcases (show k=1\/k=2\/k=3 by omega) with rfl|rfl|rfl <;> exact⟨rfl,by decide⟩
      clear hr hs
      go_wp2_with (at_builtin;refine wpl_append_Act rfl _ _ rfl (X+1) v (shareT k) rfl (HX.out.2.2.1.below (by repeat (first|exact Below.refl _ _|with_reducible refine below_drewN ?_ _|with_reducible refine Below.drew ?_|with_reducible refine Below.alloc ?_ (by first|exact Nat.le_refl _|(simp;done)|omega|(simp;omega)) _|with_reducible refine Below.setCell ?_ (by first|exact Nat.le_refl _|(simp;done)|omega|(simp;omega)) _))) _ [r,s] rfl (HRW.out _) (by have:=HSH.out.2;simp;omega) (by simp;omega) ?_;intro v9 w9 hv9 hg9 hn9;obtain⟨x9,c9,rfl⟩:=hv9.shape;obtain⟨e0,e1⟩:=(HX.out.below (by repeat (first|exact Below.refl _ _|with_reducible refine below_drewN ?_ _|with_reducible refine Below.drew ?_|with_reducible refine Below.alloc ?_ (by first|exact Nat.le_refl _|(simp;done)|omega|(simp;omega)) _|with_reducible refine Below.setCell ?_ (by first|exact Nat.le_refl _|(simp;done)|omega|(simp;omega)) _))).stay hg9;have HV9:=Lib.hid hv9;have HG9:=Lib.hid hg9;clear hv9 hg9 hn9)
      obtain⟨w8,hw8⟩:∃w8,w8=wr.alloc (.cells #[.int .i64 8,.int .i64 (k:Int),.int .i64 0,.int .i64 0,.int .i64 0,.int .i64 8,.int .i64 (k:Int),.int .i64 1,.int .i64 1,.int .i64 0] 27):=⟨_,rfl⟩
      have HB8:Hid (Below wr.heap.size wr w8):=by rw[Hid,hw8];exact (by repeat (first|exact Below.refl _ _|with_reducible refine below_drewN ?_ _|with_reducible refine Below.drew ?_|with_reducible refine Below.alloc ?_ (by first|exact Nat.le_refl _|(simp;done)|omega|(simp;omega)) _|with_reducible refine Below.setCell ?_ (by first|exact Nat.le_refl _|(simp;done)|omega|(simp;omega)) _))
      rw[<- hw8] at HG9
      clear hw8
      obtain⟨h7,h8⟩:=(HX.out.below HB8.out).put HV9.out HG9.out
      rw[show (shareT k++[r,s]).length=(shareT k).length+2 by simp] at h7 h8
      refine⟨⟨k+1,by omega,by omega,by go_num,.slice x9 ((shareT k).length+2) c9,?_,(HB.out.trans (HB8.out.mono (by have:=HX.out.2.2.2.1;omega))).trans h8⟩,by simp[intOf];omega⟩
      rw[HSH.out.1]
      exact h7
    · have:k=4:=by omega
      subst this
      obtain⟨a9,c9,rfl⟩:=HX.out.2.2.1.shape
      rw[show (shareT 4).length=12 from rfl] at HX d0
      go_wp2
      refine bodyPost_ret (v:=.slice a9 12 c9) (by simp[results,Try.results7,go_sem, *]) rfl ⟨?_,_,_,rfl,?_⟩
      · rw[<- HXE.out];exact HB.out
      · rw[<- HXE.out];exact HX.out.2.2.1.mono (by omega)
end Go.Proofs.Ytbeilcaadpopmac
namespace Go.Proofs.Ytbeilcaadpopmac
open Go.RowKit Go.Maps
theorem pick_of (x m:Int) (hm:1<=m):∃k:Nat,pick x m=(k:Int)/\(k:Int)<m:=⟨(pick x m).toNat,by have:=pick_lo x m hm;omega,by have:=pick_lo x m hm;have:=pick_hi x m hm;omega⟩
theorem tdiv4 (x:Int) (h0 : -9223372036854775808<=x) (h1:x<=9223372036854775807) : -9223372036854775808<=x.tdiv 4/\x.tdiv 4<=9223372036854775807:=by
  rcases Int.lt_or_le x 0 with h|h
  · have e:x.tdiv 4 = -((-x).tdiv 4):=by rw[Int.neg_tdiv,Int.neg_neg]
    rw[e,Int.tdiv_eq_ediv_of_nonneg (by omega)];omega
  · rw[Int.tdiv_eq_ediv_of_nonneg h];omega
theorem wp_name {P:Program} {c:Code} {Q:Exit->Act->World->Prop} {a A0:Act} {w W0:World} (h1:Code.wp P c (λe a' w'=>e = .normal/\a' = A0/\w' = W0) a w) (h2:Q .normal A0 W0):Code.wp P c Q a w :=
  Code.wp_mono (Q:=λe a' w'=>e = .normal/\a' = A0/\w' = W0) (λe a' w' ⟨h3,h4,h5⟩=>by subst h3 h4 h5;exact h2) h1
def ActsInv (w:World) (th:Int) (k:Nat) (u:Value) (wr:World):Prop:=∃l:List ActM,l.length=k/\(∀r ∈ l,OkAct r/\r.t<th/\(r.kind=8->0<=r.n/\r.n<th))/\OwnAct wr w.heap.size u l/\Below w.heap.size w wr
set_option maxRecDepth 100000 in
set_option maxHeartbeats 16000000 in
theorem acts_any (v:Value) (rs:List Raw4) (most th:Int) (w:World) (h:Raws w v rs) (hm:0<=most/\most<=100) (hth:1<=th/\th<=4) :
    Calls Try.prog 12 #[v,.int .i64 most,.int .i64 th] w λe w'=>Below w.heap.size w w'/\∃(l:List ActM) (a:Option Addr) (c:Nat),e = .returned (.slice a l.length c)/\OwnAct w' w.heap.size (.slice a l.length c) l/\(l.length:Int)<=most/\∀r ∈ l,OkAct r/\r.t<th/\(r.kind=8->0<=r.n/\r.n<th):=by
  have HR:Hid (∀W,Below w.heap.size w W->Raws W v rs):=λW hW=>h.below (Nat.le_refl _) hW
  obtain⟨va,vc,rfl,hvc,hvm,_⟩:=h.len
  have hle:=h.le
  obtain⟨hm0,hm1⟩:=hm
  obtain⟨ht0,ht1⟩:=hth
  clear h
  go_enter Try.func12,Try.ntmps12
  have HST:Hid (ActsInv w th 0 (.slice none 0 0) w):=⟨[],rfl,(λ_ h=>by cases h),OwnAct.nil _ _,Below.refl _ _⟩
  go_wp2_with fail
  go_loopw [7,8] (λu7 u wr=>∃k:Nat,u = .int .i64 k/\k<=rs.length/\(k:Int)<=most/\ActsInv w th k u7 wr) (λ_ u _=>rs.length - (intOf u).toNat)
  case atStart=>exact⟨0,rfl,Nat.zero_le _,hm0,HST.out⟩
  case round =>
    obtain⟨k,rfl,hk,hkm,l,hl,hok,ho,hb⟩:=hrel
    have HL:=Lib.hid hl;have HOK:=Lib.hid hok;have HO:=Lib.hid ho;have HBW:=Lib.hid hb
    clear hok ho hb HST
    by_cases hlt:k<rs.length/\(k:Int)<most
    · obtain⟨hlt1,hlt2⟩:=hlt
      have hlt3:(k:Int)<(rs.length:Int):=by omega
      obtain⟨rb,ro,rfl,hrb,hrcell⟩:=(HR.out wr HBW.out).at (by omega)
      obtain⟨⟨g0,g1,g2,g3⟩,⟨k1,k2⟩,⟨a1,a2⟩,⟨b1,b2⟩,⟨c1,c2⟩⟩:=hrcell k hlt1
      clear hrcell
      generalize hre:rs[k]=r at g0 g1 g2 g3 k1 k2 a1 a2 b1 b2 c1 c2
      clear hre
      go_upto_region 6 with fail
      obtain⟨z,hz⟩:∃z,z=wr.heap.size:=⟨_,rfl⟩
      obtain⟨w5,hw5⟩:∃w5,w5=wr.alloc (.cells #[.int .i64 r.k,.int .i64 r.a,.int .i64 r.b,.int .i64 r.c] 53):=⟨_,rfl⟩
      have HB5:Hid (Below wr.heap.size wr w5):=by rw[Hid,hw5];exact (by repeat (first|exact Below.refl _ _|with_reducible refine below_drewN ?_ _|with_reducible refine Below.drew ?_|with_reducible refine Below.alloc ?_ (by first|exact Nat.le_refl _|(simp;done)|omega|(simp;omega)) _|with_reducible refine Below.setCell ?_ (by first|exact Nat.le_refl _|(simp;done)|omega|(simp;omega)) _))
      have HZ5:Hid (z<w5.heap.size/\z=wr.heap.size):=by rw[Hid,hw5,hz];simp
      have HR5:Hid (RowAt w5 z [.int .i64 r.k,.int .i64 r.a,.int .i64 r.b,.int .i64 r.c]):=by rw[Hid,hw5,hz];exact RowAt.alloc _ _ _
      rw[<- hz,<- hw5]
      clear hz hw5 g0 g1 g2 g3
      have HKEEP:Hid (∀W,Below w5.heap.size w5 W->W.cell? ⟨z,0,none⟩=some (.int .i64 r.k)/\W.cell? ⟨z,1,none⟩=some (.int .i64 r.a)/\W.cell? ⟨z,2,none⟩=some (.int .i64 r.b)/\W.cell? ⟨z,3,none⟩=some (.int .i64 r.c)/\Below w5.heap.size w5 W):=λW hW=>by
        have h:=HR5.out.below hW
        exact⟨(h.2 0 (by simp)).1,(h.2 1 (by simp)).1,(h.2 2 (by simp)).1,(h.2 3 (by simp)).1,hW⟩
      obtain⟨pt,hpt,hpt4⟩:=pick_of r.c th ht0
      obtain⟨pa,hpa,hpa4⟩:=pick_of r.a 4 (by decide)
      obtain⟨pb,hpb,hpb4⟩:=pick_of r.b 4 (by decide)
      have HPT:=Lib.hid hpt;have HPA:=Lib.hid hpa;have HPB:=Lib.hid hpb
      clear hpt hpa hpb
      apply wp_name
      case h1 =>
        go_region_held3 (λW=>W.cell? ⟨z,0,none⟩=some (.int .i64 r.k)/\W.cell? ⟨z,1,none⟩=some (.int .i64 r.a)/\W.cell? ⟨z,2,none⟩=some (.int .i64 r.b)/\W.cell? ⟨z,3,none⟩=some (.int .i64 r.c)/\Below w5.heap.size w5 W)
          (first|exact HKEEP.out _ (by repeat (first|exact Below.refl _ _|with_reducible refine below_drewN ?_ _|with_reducible refine Below.drew ?_|with_reducible refine Below.alloc ?_ (by first|exact Nat.le_refl _|(simp;done)|omega|(simp;omega)) _|with_reducible refine Below.setCell ?_ (by first|exact Nat.le_refl _|(simp;done)|omega|(simp;omega)) _)))
          ((go_at_call 20;refine (picked_any _ _ _ (by omega) (by omega) (by omega) (by omega)).mono ?_;rintro e w1 ⟨rfl,rfl⟩;first|rw[HPT.out]|rw[HPA.out]|rw[HPB.out]))
        all_goals exact⟨rfl,rfl,rfl⟩
      obtain⟨y,hy⟩:∃y,y=w5.heap.size:=⟨_,rfl⟩
      obtain⟨w6,hw6⟩:∃w6,w6=(w5.alloc (.cells #[.int .i64 0,.int .i64 (pt:Int),.int .i64 (pa:Int),.int .i64 (pb:Int),.int .i64 0] 27)).drew:=⟨_,rfl⟩
      have HB56:Hid (Below w5.heap.size w5 w6):=by rw[Hid,hw6];exact ((Below.refl _ _).alloc (Nat.le_refl _) _).drew
      have HB6:Hid (Below wr.heap.size wr w6):=HB5.out.trans (HB56.out.mono HB5.out.size)
      have HY:Hid (RowAt w6 y (actL 0 pt pa pb 0)):=by rw[Hid,hw6,hy];exact (RowAt.alloc w5 _ _).below (Below.refl _ _).drew
      have HZ:Hid (RowAt w6 z [.int .i64 r.k,.int .i64 r.a,.int .i64 r.b,.int .i64 r.c]):=HR5.out.below HB56.out
      have hzy:wr.heap.size<=z/\z<y/\wr.heap.size<=y:=by rw[hy];have:=HZ5.out;omega
      rw[<- hy,<- hw6]
      clear hy hw6 HKEEP HR5 HB5 HB56 HZ5
      have z0:=HZ.out.2 0 (by simp);have z1:=HZ.out.2 1 (by simp);have z2:=HZ.out.2 2 (by simp)
      obtain⟨z0,_⟩:=z0;obtain⟨z1,_⟩:=z1;obtain⟨z2,_⟩:=z2
      dsimp only [List.getElem_cons_zero,List.getElem_cons_succ] at z0 z1 z2
      have y0:=HY.out.2 0 (by simp[actL]);have y1:=HY.out.2 1 (by simp[actL]);have y2:=HY.out.2 2 (by simp[actL]);have y3:=HY.out.2 3 (by simp[actL]);have y4:=HY.out.2 4 (by simp[actL])
      obtain⟨y0,f0⟩:=y0;obtain⟨y1,f1⟩:=y1;obtain⟨y2,f2⟩:=y2;obtain⟨y3,f3⟩:=y3;obtain⟨y4,f4⟩:=y4
      simp only [actL,List.getElem_cons_zero,List.getElem_cons_succ] at y0 y1 y2 y3 y4
      obtain⟨hzy1,hzy2,hzy3⟩:=hzy
      have hzn:z≠y:=by omega
      have hyn:y≠z:=by omega
      have hqa:=tdiv4 r.a a1 a2;have hqb:=tdiv4 r.b b1 b2
      obtain⟨pk,hpk,hpk40⟩:=pick_of r.k 40 (by decide)
      have HPK:=Lib.hid hpk
      clear hpk
      go_upto_region 9 with (go_at_call 20;refine (picked_any _ _ _ (by omega) (by omega) (by omega) (by omega)).mono ?_;rintro e w1 ⟨rfl,rfl⟩;rw[HPK.out])
      clear HPK HPT HPA HPB HZ HR
      by_cases h0:pk<6
      · have p6:(pk:Int)<6:=by omega
        have p10:(pk:Int)<10:=by omega
        have p15:(pk:Int)<15:=by omega
        have p22:(pk:Int)<22:=by omega
        have p30:(pk:Int)<30:=by omega
        have p33:(pk:Int)<33:=by omega
        have p37:(pk:Int)<37:=by omega
        have p39:(pk:Int)<39:=by omega
        have e10:((pk:Int) == 10)=false:=beq_eq_false_iff_ne.2 (by omega)
        have e33:((pk:Int) == 33)=false:=beq_eq_false_iff_ne.2 (by omega)
        have e34:((pk:Int) == 34)=false:=beq_eq_false_iff_ne.2 (by omega)
        go_upto_region 31 with fail
        obtain⟨rr,hrr⟩:∃rr:ActM,rr=⟨1,pt,pa,pb,0⟩:=⟨_,rfl⟩
        have HOKR:Hid (OkAct rr/\rr.t<th/\(rr.kind=8->0<=rr.n/\rr.n<th)):=by rw[Hid,hrr];exact⟨⟨by dsimp only;omega,by dsimp only;omega,by dsimp only;omega,by dsimp only;omega,by dsimp only;omega,λh=>by dsimp only at *;omega⟩,by dsimp only;omega,λh=>by dsimp only at *;omega⟩
        obtain⟨w7,hw7⟩:∃w7,w7=w6.setCell ⟨y,0,none⟩ (.int .i64 1):=⟨_,rfl⟩
        have HF:Hid (RowAt w7 y (actL rr.kind rr.t rr.a rr.b rr.n)):=by rw[Hid,hw7,hrr];exact HY.out.set 0 _
        have HB7:Hid (Below wr.heap.size wr w7):=by rw[Hid,hw7];exact HB6.out.setCell hzy3 _
        rw[<- hw7]
        clear hrr hw7 y0 y1 y2 y3 y4 f0 f1 f2 f3 f4 z0 z1 z2
        obtain⟨q0,q1,q2,q3,q4⟩:=HF.out.act
        have HLE:Hid (l.length<=100):=by rw[Hid];omega
        have HWS:Hid (w.heap.size<=w7.heap.size):=Nat.le_trans HBW.out.size HB7.out.size
        go_wp2_with (at_builtin;refine wpl_append_Act rfl _ _ rfl w.heap.size u7 l rfl ((HO.out.below HB7.out).below (by repeat (first|exact Below.refl _ _|with_reducible refine below_drewN ?_ _|with_reducible refine Below.drew ?_|with_reducible refine Below.alloc ?_ (by first|exact Nat.le_refl _|(simp;done)|omega|(simp;omega)) _|with_reducible refine Below.setCell ?_ (by first|exact Nat.le_refl _|(simp;done)|omega|(simp;omega)) _))) _ [rr] rfl (row_Act _ rr rfl) (by have:=HLE.out;simp;omega) (by have:=HWS.out;simp;omega) ?_;intro v9 w9 hv9 hg9 hn9;have HV9:=Lib.hid hv9;have HG9:=Lib.hid hg9;clear hv9 hg9 hn9)
        refine⟨⟨k+1,by go_num,by omega,by omega,l++[rr],by simp;omega,λx hx=>?_,HV9.out,?_⟩,by simp[intOf];omega⟩
        · rcases List.mem_append.1 hx with hx|hx
          · exact HOK.out x hx
          · rw[List.mem_singleton.1 hx];exact HOKR.out
        · have h07:Below w.heap.size w w7:=HBW.out.trans (HB7.out.mono HBW.out.size)
          exact (show Below w.heap.size w _ from h07.alloc HWS.out _).grown HG9.out (by have:=HWS.out;simp;omega) λj hj=>(HO.out.lt hj).1
      by_cases h1:pk<10
      · have n6:¬ (pk:Int)<6:=by omega
        have p10:(pk:Int)<10:=by omega
        have p15:(pk:Int)<15:=by omega
        have p22:(pk:Int)<22:=by omega
        have p30:(pk:Int)<30:=by omega
        have p33:(pk:Int)<33:=by omega
        have p37:(pk:Int)<37:=by omega
        have p39:(pk:Int)<39:=by omega
        have e10:((pk:Int) == 10)=false:=beq_eq_false_iff_ne.2 (by omega)
        have e33:((pk:Int) == 33)=false:=beq_eq_false_iff_ne.2 (by omega)
        have e34:((pk:Int) == 34)=false:=beq_eq_false_iff_ne.2 (by omega)
        go_upto_region 31 with fail
        obtain⟨rr,hrr⟩:∃rr:ActM,rr=⟨2,pt,pa,pb,0⟩:=⟨_,rfl⟩
        have HOKR:Hid (OkAct rr/\rr.t<th/\(rr.kind=8->0<=rr.n/\rr.n<th)):=by rw[Hid,hrr];exact⟨⟨by dsimp only;omega,by dsimp only;omega,by dsimp only;omega,by dsimp only;omega,by dsimp only;omega,λh=>by dsimp only at *;omega⟩,by dsimp only;omega,λh=>by dsimp only at *;omega⟩
        obtain⟨w7,hw7⟩:∃w7,w7=w6.setCell ⟨y,0,none⟩ (.int .i64 2):=⟨_,rfl⟩
        have HF:Hid (RowAt w7 y (actL rr.kind rr.t rr.a rr.b rr.n)):=by rw[Hid,hw7,hrr];exact HY.out.set 0 _
        have HB7:Hid (Below wr.heap.size wr w7):=by rw[Hid,hw7];exact HB6.out.setCell hzy3 _
        rw[<- hw7]
        clear hrr hw7 y0 y1 y2 y3 y4 f0 f1 f2 f3 f4 z0 z1 z2
        obtain⟨q0,q1,q2,q3,q4⟩:=HF.out.act
        have HLE:Hid (l.length<=100):=by rw[Hid];omega
        have HWS:Hid (w.heap.size<=w7.heap.size):=Nat.le_trans HBW.out.size HB7.out.size
        go_wp2_with (at_builtin;refine wpl_append_Act rfl _ _ rfl w.heap.size u7 l rfl ((HO.out.below HB7.out).below (by repeat (first|exact Below.refl _ _|with_reducible refine below_drewN ?_ _|with_reducible refine Below.drew ?_|with_reducible refine Below.alloc ?_ (by first|exact Nat.le_refl _|(simp;done)|omega|(simp;omega)) _|with_reducible refine Below.setCell ?_ (by first|exact Nat.le_refl _|(simp;done)|omega|(simp;omega)) _))) _ [rr] rfl (row_Act _ rr rfl) (by have:=HLE.out;simp;omega) (by have:=HWS.out;simp;omega) ?_;intro v9 w9 hv9 hg9 hn9;have HV9:=Lib.hid hv9;have HG9:=Lib.hid hg9;clear hv9 hg9 hn9)
        refine⟨⟨k+1,by go_num,by omega,by omega,l++[rr],by simp;omega,λx hx=>?_,HV9.out,?_⟩,by simp[intOf];omega⟩
        · rcases List.mem_append.1 hx with hx|hx
          · exact HOK.out x hx
          · rw[List.mem_singleton.1 hx];exact HOKR.out
        · have h07:Below w.heap.size w w7:=HBW.out.trans (HB7.out.mono HBW.out.size)
          exact (show Below w.heap.size w _ from h07.alloc HWS.out _).grown HG9.out (by have:=HWS.out;simp;omega) λj hj=>(HO.out.lt hj).1
      by_cases h2:pk<11
      · obtain rfl:pk=10:=by omega
        go_upto_region 31 with fail
        obtain⟨rr,hrr⟩:∃rr:ActM,rr=⟨3,pt,pa,pb,0⟩:=⟨_,rfl⟩
        have HOKR:Hid (OkAct rr/\rr.t<th/\(rr.kind=8->0<=rr.n/\rr.n<th)):=by rw[Hid,hrr];exact⟨⟨by dsimp only;omega,by dsimp only;omega,by dsimp only;omega,by dsimp only;omega,by dsimp only;omega,λh=>by dsimp only at *;omega⟩,by dsimp only;omega,λh=>by dsimp only at *;omega⟩
        obtain⟨w7,hw7⟩:∃w7,w7=w6.setCell ⟨y,0,none⟩ (.int .i64 3):=⟨_,rfl⟩
        have HF:Hid (RowAt w7 y (actL rr.kind rr.t rr.a rr.b rr.n)):=by rw[Hid,hw7,hrr];exact HY.out.set 0 _
        have HB7:Hid (Below wr.heap.size wr w7):=by rw[Hid,hw7];exact HB6.out.setCell hzy3 _
        rw[<- hw7]
        clear hrr hw7 y0 y1 y2 y3 y4 f0 f1 f2 f3 f4 z0 z1 z2
        obtain⟨q0,q1,q2,q3,q4⟩:=HF.out.act
        have HLE:Hid (l.length<=100):=by rw[Hid];omega
        have HWS:Hid (w.heap.size<=w7.heap.size):=Nat.le_trans HBW.out.size HB7.out.size
        go_wp2_with (at_builtin;refine wpl_append_Act rfl _ _ rfl w.heap.size u7 l rfl ((HO.out.below HB7.out).below (by repeat (first|exact Below.refl _ _|with_reducible refine below_drewN ?_ _|with_reducible refine Below.drew ?_|with_reducible refine Below.alloc ?_ (by first|exact Nat.le_refl _|(simp;done)|omega|(simp;omega)) _|with_reducible refine Below.setCell ?_ (by first|exact Nat.le_refl _|(simp;done)|omega|(simp;omega)) _))) _ [rr] rfl (row_Act _ rr rfl) (by have:=HLE.out;simp;omega) (by have:=HWS.out;simp;omega) ?_;intro v9 w9 hv9 hg9 hn9;have HV9:=Lib.hid hv9;have HG9:=Lib.hid hg9;clear hv9 hg9 hn9)
        refine⟨⟨k+1,by go_num,by omega,by omega,l++[rr],by simp;omega,λx hx=>?_,HV9.out,?_⟩,by simp[intOf];omega⟩
        · rcases List.mem_append.1 hx with hx|hx
          · exact HOK.out x hx
          · rw[List.mem_singleton.1 hx];exact HOKR.out
        · have h07:Below w.heap.size w w7:=HBW.out.trans (HB7.out.mono HBW.out.size)
          exact (show Below w.heap.size w _ from h07.alloc HWS.out _).grown HG9.out (by have:=HWS.out;simp;omega) λj hj=>(HO.out.lt hj).1
      by_cases h3:pk<15
      · have n6:¬ (pk:Int)<6:=by omega
        have n10:¬ (pk:Int)<10:=by omega
        have p15:(pk:Int)<15:=by omega
        have p22:(pk:Int)<22:=by omega
        have p30:(pk:Int)<30:=by omega
        have p33:(pk:Int)<33:=by omega
        have p37:(pk:Int)<37:=by omega
        have p39:(pk:Int)<39:=by omega
        have e10:((pk:Int) == 10)=false:=beq_eq_false_iff_ne.2 (by omega)
        have e33:((pk:Int) == 33)=false:=beq_eq_false_iff_ne.2 (by omega)
        have e34:((pk:Int) == 34)=false:=beq_eq_false_iff_ne.2 (by omega)
        obtain⟨m,hm,hm9⟩:=pick_of r.b 3 (by omega)
        have HM:=Lib.hid hm;clear hm
        go_upto_region 31 with (go_at_call 20;refine (picked_any _ _ _ (by omega) (by omega) (by omega) (by omega)).mono ?_;rintro e w1 ⟨rfl,rfl⟩;rw[HM.out])
        obtain⟨rr,hrr⟩:∃rr:ActM,rr=⟨4,pt,pa,pb,(1+(m:Int))⟩:=⟨_,rfl⟩
        have HOKR:Hid (OkAct rr/\rr.t<th/\(rr.kind=8->0<=rr.n/\rr.n<th)):=by rw[Hid,hrr];exact⟨⟨by dsimp only;omega,by dsimp only;omega,by dsimp only;omega,by dsimp only;omega,by dsimp only;omega,λh=>by dsimp only at *;omega⟩,by dsimp only;omega,λh=>by dsimp only at *;omega⟩
        obtain⟨w7,hw7⟩:∃w7,w7=(w6.setCell ⟨y,0,none⟩ (.int .i64 4)).setCell ⟨y,4,none⟩ (.int .i64 (1+(m:Int))):=⟨_,rfl⟩
        have HF:Hid (RowAt w7 y (actL rr.kind rr.t rr.a rr.b rr.n)):=by rw[Hid,hw7,hrr];exact (HY.out.set 0 _).set 4 _
        have HB7:Hid (Below wr.heap.size wr w7):=by rw[Hid,hw7];exact (HB6.out.setCell hzy3 _).setCell hzy3 _
        rw[<- hw7]
        clear hrr hw7 y0 y1 y2 y3 y4 f0 f1 f2 f3 f4 z0 z1 z2
        obtain⟨q0,q1,q2,q3,q4⟩:=HF.out.act
        have HLE:Hid (l.length<=100):=by rw[Hid];omega
        have HWS:Hid (w.heap.size<=w7.heap.size):=Nat.le_trans HBW.out.size HB7.out.size
        go_wp2_with (at_builtin;refine wpl_append_Act rfl _ _ rfl w.heap.size u7 l rfl ((HO.out.below HB7.out).below (by repeat (first|exact Below.refl _ _|with_reducible refine below_drewN ?_ _|with_reducible refine Below.drew ?_|with_reducible refine Below.alloc ?_ (by first|exact Nat.le_refl _|(simp;done)|omega|(simp;omega)) _|with_reducible refine Below.setCell ?_ (by first|exact Nat.le_refl _|(simp;done)|omega|(simp;omega)) _))) _ [rr] rfl (row_Act _ rr rfl) (by have:=HLE.out;simp;omega) (by have:=HWS.out;simp;omega) ?_;intro v9 w9 hv9 hg9 hn9;have HV9:=Lib.hid hv9;have HG9:=Lib.hid hg9;clear hv9 hg9 hn9)
        refine⟨⟨k+1,by go_num,by omega,by omega,l++[rr],by simp;omega,λx hx=>?_,HV9.out,?_⟩,by simp[intOf];omega⟩
        · rcases List.mem_append.1 hx with hx|hx
          · exact HOK.out x hx
          · rw[List.mem_singleton.1 hx];exact HOKR.out
        · have h07:Below w.heap.size w w7:=HBW.out.trans (HB7.out.mono HBW.out.size)
          exact (show Below w.heap.size w _ from h07.alloc HWS.out _).grown HG9.out (by have:=HWS.out;simp;omega) λj hj=>(HO.out.lt hj).1
      by_cases h4:pk<22
      · have n6:¬ (pk:Int)<6:=by omega
        have n10:¬ (pk:Int)<10:=by omega
        have n15:¬ (pk:Int)<15:=by omega
        have p22:(pk:Int)<22:=by omega
        have p30:(pk:Int)<30:=by omega
        have p33:(pk:Int)<33:=by omega
        have p37:(pk:Int)<37:=by omega
        have p39:(pk:Int)<39:=by omega
        have e10:((pk:Int) == 10)=false:=beq_eq_false_iff_ne.2 (by omega)
        have e33:((pk:Int) == 33)=false:=beq_eq_false_iff_ne.2 (by omega)
        have e34:((pk:Int) == 34)=false:=beq_eq_false_iff_ne.2 (by omega)
        obtain⟨m,hm,hm9⟩:=pick_of (r.a.tdiv 4) 3 (by omega)
        have HM:=Lib.hid hm;clear hm
        go_upto_region 31 with (go_at_call 20;refine (picked_any _ _ _ (by omega) (by omega) (by omega) (by omega)).mono ?_;rintro e w1 ⟨rfl,rfl⟩;rw[HM.out])
        obtain⟨rr,hrr⟩:∃rr:ActM,rr=⟨5,pt,pa,pb,(m:Int)⟩:=⟨_,rfl⟩
        have HOKR:Hid (OkAct rr/\rr.t<th/\(rr.kind=8->0<=rr.n/\rr.n<th)):=by rw[Hid,hrr];exact⟨⟨by dsimp only;omega,by dsimp only;omega,by dsimp only;omega,by dsimp only;omega,by dsimp only;omega,λh=>by dsimp only at *;omega⟩,by dsimp only;omega,λh=>by dsimp only at *;omega⟩
        obtain⟨w7,hw7⟩:∃w7,w7=(w6.setCell ⟨y,0,none⟩ (.int .i64 5)).setCell ⟨y,4,none⟩ (.int .i64 (m:Int)):=⟨_,rfl⟩
        have HF:Hid (RowAt w7 y (actL rr.kind rr.t rr.a rr.b rr.n)):=by rw[Hid,hw7,hrr];exact (HY.out.set 0 _).set 4 _
        have HB7:Hid (Below wr.heap.size wr w7):=by rw[Hid,hw7];exact (HB6.out.setCell hzy3 _).setCell hzy3 _
        rw[<- hw7]
        clear hrr hw7 y0 y1 y2 y3 y4 f0 f1 f2 f3 f4 z0 z1 z2
        obtain⟨q0,q1,q2,q3,q4⟩:=HF.out.act
        have HLE:Hid (l.length<=100):=by rw[Hid];omega
        have HWS:Hid (w.heap.size<=w7.heap.size):=Nat.le_trans HBW.out.size HB7.out.size
        go_wp2_with (at_builtin;refine wpl_append_Act rfl _ _ rfl w.heap.size u7 l rfl ((HO.out.below HB7.out).below (by repeat (first|exact Below.refl _ _|with_reducible refine below_drewN ?_ _|with_reducible refine Below.drew ?_|with_reducible refine Below.alloc ?_ (by first|exact Nat.le_refl _|(simp;done)|omega|(simp;omega)) _|with_reducible refine Below.setCell ?_ (by first|exact Nat.le_refl _|(simp;done)|omega|(simp;omega)) _))) _ [rr] rfl (row_Act _ rr rfl) (by have:=HLE.out;simp;omega) (by have:=HWS.out;simp;omega) ?_;intro v9 w9 hv9 hg9 hn9;have HV9:=Lib.hid hv9;have HG9:=Lib.hid hg9;clear hv9 hg9 hn9)
        refine⟨⟨k+1,by go_num,by omega,by omega,l++[rr],by simp;omega,λx hx=>?_,HV9.out,?_⟩,by simp[intOf];omega⟩
        · rcases List.mem_append.1 hx with hx|hx
          · exact HOK.out x hx
          · rw[List.mem_singleton.1 hx];exact HOKR.out
        · have h07:Below w.heap.size w w7:=HBW.out.trans (HB7.out.mono HBW.out.size)
          exact (show Below w.heap.size w _ from h07.alloc HWS.out _).grown HG9.out (by have:=HWS.out;simp;omega) λj hj=>(HO.out.lt hj).1
      by_cases h5:pk<30
      · have n6:¬ (pk:Int)<6:=by omega
        have n10:¬ (pk:Int)<10:=by omega
        have n15:¬ (pk:Int)<15:=by omega
        have n22:¬ (pk:Int)<22:=by omega
        have p30:(pk:Int)<30:=by omega
        have p33:(pk:Int)<33:=by omega
        have p37:(pk:Int)<37:=by omega
        have p39:(pk:Int)<39:=by omega
        have e10:((pk:Int) == 10)=false:=beq_eq_false_iff_ne.2 (by omega)
        have e33:((pk:Int) == 33)=false:=beq_eq_false_iff_ne.2 (by omega)
        have e34:((pk:Int) == 34)=false:=beq_eq_false_iff_ne.2 (by omega)
        obtain⟨m,hm,hm9⟩:=pick_of (r.a.tdiv 4) 3 (by omega)
        have HM:=Lib.hid hm;clear hm
        go_upto_region 31 with (go_at_call 20;refine (picked_any _ _ _ (by omega) (by omega) (by omega) (by omega)).mono ?_;rintro e w1 ⟨rfl,rfl⟩;rw[HM.out])
        obtain⟨rr,hrr⟩:∃rr:ActM,rr=⟨6,pt,pa,pb,(m:Int)⟩:=⟨_,rfl⟩
        have HOKR:Hid (OkAct rr/\rr.t<th/\(rr.kind=8->0<=rr.n/\rr.n<th)):=by rw[Hid,hrr];exact⟨⟨by dsimp only;omega,by dsimp only;omega,by dsimp only;omega,by dsimp only;omega,by dsimp only;omega,λh=>by dsimp only at *;omega⟩,by dsimp only;omega,λh=>by dsimp only at *;omega⟩
        obtain⟨w7,hw7⟩:∃w7,w7=(w6.setCell ⟨y,0,none⟩ (.int .i64 6)).setCell ⟨y,4,none⟩ (.int .i64 (m:Int)):=⟨_,rfl⟩
        have HF:Hid (RowAt w7 y (actL rr.kind rr.t rr.a rr.b rr.n)):=by rw[Hid,hw7,hrr];exact (HY.out.set 0 _).set 4 _
        have HB7:Hid (Below wr.heap.size wr w7):=by rw[Hid,hw7];exact (HB6.out.setCell hzy3 _).setCell hzy3 _
        rw[<- hw7]
        clear hrr hw7 y0 y1 y2 y3 y4 f0 f1 f2 f3 f4 z0 z1 z2
        obtain⟨q0,q1,q2,q3,q4⟩:=HF.out.act
        have HLE:Hid (l.length<=100):=by rw[Hid];omega
        have HWS:Hid (w.heap.size<=w7.heap.size):=Nat.le_trans HBW.out.size HB7.out.size
        go_wp2_with (at_builtin;refine wpl_append_Act rfl _ _ rfl w.heap.size u7 l rfl ((HO.out.below HB7.out).below (by repeat (first|exact Below.refl _ _|with_reducible refine below_drewN ?_ _|with_reducible refine Below.drew ?_|with_reducible refine Below.alloc ?_ (by first|exact Nat.le_refl _|(simp;done)|omega|(simp;omega)) _|with_reducible refine Below.setCell ?_ (by first|exact Nat.le_refl _|(simp;done)|omega|(simp;omega)) _))) _ [rr] rfl (row_Act _ rr rfl) (by have:=HLE.out;simp;omega) (by have:=HWS.out;simp;omega) ?_;intro v9 w9 hv9 hg9 hn9;have HV9:=Lib.hid hv9;have HG9:=Lib.hid hg9;clear hv9 hg9 hn9)
        refine⟨⟨k+1,by go_num,by omega,by omega,l++[rr],by simp;omega,λx hx=>?_,HV9.out,?_⟩,by simp[intOf];omega⟩
        · rcases List.mem_append.1 hx with hx|hx
          · exact HOK.out x hx
          · rw[List.mem_singleton.1 hx];exact HOKR.out
        · have h07:Below w.heap.size w w7:=HBW.out.trans (HB7.out.mono HBW.out.size)
          exact (show Below w.heap.size w _ from h07.alloc HWS.out _).grown HG9.out (by have:=HWS.out;simp;omega) λj hj=>(HO.out.lt hj).1
      by_cases h6:pk<33
      · have n6:¬ (pk:Int)<6:=by omega
        have n10:¬ (pk:Int)<10:=by omega
        have n15:¬ (pk:Int)<15:=by omega
        have n22:¬ (pk:Int)<22:=by omega
        have n30:¬ (pk:Int)<30:=by omega
        have p33:(pk:Int)<33:=by omega
        have p37:(pk:Int)<37:=by omega
        have p39:(pk:Int)<39:=by omega
        have e10:((pk:Int) == 10)=false:=beq_eq_false_iff_ne.2 (by omega)
        have e33:((pk:Int) == 33)=false:=beq_eq_false_iff_ne.2 (by omega)
        have e34:((pk:Int) == 34)=false:=beq_eq_false_iff_ne.2 (by omega)
        obtain⟨m,hm,hm9⟩:=pick_of r.b 100 (by omega)
        have HM:=Lib.hid hm;clear hm
        go_upto_region 31 with (go_at_call 20;refine (picked_any _ _ _ (by omega) (by omega) (by omega) (by omega)).mono ?_;rintro e w1 ⟨rfl,rfl⟩;rw[HM.out])
        obtain⟨rr,hrr⟩:∃rr:ActM,rr=⟨7,pt,pa,pb,((m:Int) - 50)⟩:=⟨_,rfl⟩
        have HOKR:Hid (OkAct rr/\rr.t<th/\(rr.kind=8->0<=rr.n/\rr.n<th)):=by rw[Hid,hrr];exact⟨⟨by dsimp only;omega,by dsimp only;omega,by dsimp only;omega,by dsimp only;omega,by dsimp only;omega,λh=>by dsimp only at *;omega⟩,by dsimp only;omega,λh=>by dsimp only at *;omega⟩
        obtain⟨w7,hw7⟩:∃w7,w7=(w6.setCell ⟨y,0,none⟩ (.int .i64 7)).setCell ⟨y,4,none⟩ (.int .i64 ((m:Int) - 50)):=⟨_,rfl⟩
        have HF:Hid (RowAt w7 y (actL rr.kind rr.t rr.a rr.b rr.n)):=by rw[Hid,hw7,hrr];exact (HY.out.set 0 _).set 4 _
        have HB7:Hid (Below wr.heap.size wr w7):=by rw[Hid,hw7];exact (HB6.out.setCell hzy3 _).setCell hzy3 _
        rw[<- hw7]
        clear hrr hw7 y0 y1 y2 y3 y4 f0 f1 f2 f3 f4 z0 z1 z2
        obtain⟨q0,q1,q2,q3,q4⟩:=HF.out.act
        have HLE:Hid (l.length<=100):=by rw[Hid];omega
        have HWS:Hid (w.heap.size<=w7.heap.size):=Nat.le_trans HBW.out.size HB7.out.size
        go_wp2_with (at_builtin;refine wpl_append_Act rfl _ _ rfl w.heap.size u7 l rfl ((HO.out.below HB7.out).below (by repeat (first|exact Below.refl _ _|with_reducible refine below_drewN ?_ _|with_reducible refine Below.drew ?_|with_reducible refine Below.alloc ?_ (by first|exact Nat.le_refl _|(simp;done)|omega|(simp;omega)) _|with_reducible refine Below.setCell ?_ (by first|exact Nat.le_refl _|(simp;done)|omega|(simp;omega)) _))) _ [rr] rfl (row_Act _ rr rfl) (by have:=HLE.out;simp;omega) (by have:=HWS.out;simp;omega) ?_;intro v9 w9 hv9 hg9 hn9;have HV9:=Lib.hid hv9;have HG9:=Lib.hid hg9;clear hv9 hg9 hn9)
        refine⟨⟨k+1,by go_num,by omega,by omega,l++[rr],by simp;omega,λx hx=>?_,HV9.out,?_⟩,by simp[intOf];omega⟩
        · rcases List.mem_append.1 hx with hx|hx
          · exact HOK.out x hx
          · rw[List.mem_singleton.1 hx];exact HOKR.out
        · have h07:Below w.heap.size w w7:=HBW.out.trans (HB7.out.mono HBW.out.size)
          exact (show Below w.heap.size w _ from h07.alloc HWS.out _).grown HG9.out (by have:=HWS.out;simp;omega) λj hj=>(HO.out.lt hj).1
      by_cases h7:pk<34
      · obtain rfl:pk=33:=by omega
        obtain⟨m,hm,hm9⟩:=pick_of (r.b.tdiv 4) th (by omega)
        have HM:=Lib.hid hm;clear hm
        go_upto_region 31 with (go_at_call 20;refine (picked_any _ _ _ (by omega) (by omega) (by omega) (by omega)).mono ?_;rintro e w1 ⟨rfl,rfl⟩;rw[HM.out])
        obtain⟨rr,hrr⟩:∃rr:ActM,rr=⟨8,pt,pa,pb,(m:Int)⟩:=⟨_,rfl⟩
        have HOKR:Hid (OkAct rr/\rr.t<th/\(rr.kind=8->0<=rr.n/\rr.n<th)):=by rw[Hid,hrr];exact⟨⟨by dsimp only;omega,by dsimp only;omega,by dsimp only;omega,by dsimp only;omega,by dsimp only;omega,λh=>by dsimp only at *;omega⟩,by dsimp only;omega,λh=>by dsimp only at *;omega⟩
        obtain⟨w7,hw7⟩:∃w7,w7=(w6.setCell ⟨y,0,none⟩ (.int .i64 8)).setCell ⟨y,4,none⟩ (.int .i64 (m:Int)):=⟨_,rfl⟩
        have HF:Hid (RowAt w7 y (actL rr.kind rr.t rr.a rr.b rr.n)):=by rw[Hid,hw7,hrr];exact (HY.out.set 0 _).set 4 _
        have HB7:Hid (Below wr.heap.size wr w7):=by rw[Hid,hw7];exact (HB6.out.setCell hzy3 _).setCell hzy3 _
        rw[<- hw7]
        clear hrr hw7 y0 y1 y2 y3 y4 f0 f1 f2 f3 f4 z0 z1 z2
        obtain⟨q0,q1,q2,q3,q4⟩:=HF.out.act
        have HLE:Hid (l.length<=100):=by rw[Hid];omega
        have HWS:Hid (w.heap.size<=w7.heap.size):=Nat.le_trans HBW.out.size HB7.out.size
        go_wp2_with (at_builtin;refine wpl_append_Act rfl _ _ rfl w.heap.size u7 l rfl ((HO.out.below HB7.out).below (by repeat (first|exact Below.refl _ _|with_reducible refine below_drewN ?_ _|with_reducible refine Below.drew ?_|with_reducible refine Below.alloc ?_ (by first|exact Nat.le_refl _|(simp;done)|omega|(simp;omega)) _|with_reducible refine Below.setCell ?_ (by first|exact Nat.le_refl _|(simp;done)|omega|(simp;omega)) _))) _ [rr] rfl (row_Act _ rr rfl) (by have:=HLE.out;simp;omega) (by have:=HWS.out;simp;omega) ?_;intro v9 w9 hv9 hg9 hn9;have HV9:=Lib.hid hv9;have HG9:=Lib.hid hg9;clear hv9 hg9 hn9)
        refine⟨⟨k+1,by go_num,by omega,by omega,l++[rr],by simp;omega,λx hx=>?_,HV9.out,?_⟩,by simp[intOf];omega⟩
        · rcases List.mem_append.1 hx with hx|hx
          · exact HOK.out x hx
          · rw[List.mem_singleton.1 hx];exact HOKR.out
        · have h07:Below w.heap.size w w7:=HBW.out.trans (HB7.out.mono HBW.out.size)
          exact (show Below w.heap.size w _ from h07.alloc HWS.out _).grown HG9.out (by have:=HWS.out;simp;omega) λj hj=>(HO.out.lt hj).1
      by_cases h8:pk<35
      · obtain rfl:pk=34:=by omega
        go_upto_region 31 with fail
        obtain⟨rr,hrr⟩:∃rr:ActM,rr=⟨9,pt,pa,pb,0⟩:=⟨_,rfl⟩
        have HOKR:Hid (OkAct rr/\rr.t<th/\(rr.kind=8->0<=rr.n/\rr.n<th)):=by rw[Hid,hrr];exact⟨⟨by dsimp only;omega,by dsimp only;omega,by dsimp only;omega,by dsimp only;omega,by dsimp only;omega,λh=>by dsimp only at *;omega⟩,by dsimp only;omega,λh=>by dsimp only at *;omega⟩
        obtain⟨w7,hw7⟩:∃w7,w7=w6.setCell ⟨y,0,none⟩ (.int .i64 9):=⟨_,rfl⟩
        have HF:Hid (RowAt w7 y (actL rr.kind rr.t rr.a rr.b rr.n)):=by rw[Hid,hw7,hrr];exact HY.out.set 0 _
        have HB7:Hid (Below wr.heap.size wr w7):=by rw[Hid,hw7];exact HB6.out.setCell hzy3 _
        rw[<- hw7]
        clear hrr hw7 y0 y1 y2 y3 y4 f0 f1 f2 f3 f4 z0 z1 z2
        obtain⟨q0,q1,q2,q3,q4⟩:=HF.out.act
        have HLE:Hid (l.length<=100):=by rw[Hid];omega
        have HWS:Hid (w.heap.size<=w7.heap.size):=Nat.le_trans HBW.out.size HB7.out.size
        go_wp2_with (at_builtin;refine wpl_append_Act rfl _ _ rfl w.heap.size u7 l rfl ((HO.out.below HB7.out).below (by repeat (first|exact Below.refl _ _|with_reducible refine below_drewN ?_ _|with_reducible refine Below.drew ?_|with_reducible refine Below.alloc ?_ (by first|exact Nat.le_refl _|(simp;done)|omega|(simp;omega)) _|with_reducible refine Below.setCell ?_ (by first|exact Nat.le_refl _|(simp;done)|omega|(simp;omega)) _))) _ [rr] rfl (row_Act _ rr rfl) (by have:=HLE.out;simp;omega) (by have:=HWS.out;simp;omega) ?_;intro v9 w9 hv9 hg9 hn9;have HV9:=Lib.hid hv9;have HG9:=Lib.hid hg9;clear hv9 hg9 hn9)
        refine⟨⟨k+1,by go_num,by omega,by omega,l++[rr],by simp;omega,λx hx=>?_,HV9.out,?_⟩,by simp[intOf];omega⟩
        · rcases List.mem_append.1 hx with hx|hx
          · exact HOK.out x hx
          · rw[List.mem_singleton.1 hx];exact HOKR.out
        · have h07:Below w.heap.size w w7:=HBW.out.trans (HB7.out.mono HBW.out.size)
          exact (show Below w.heap.size w _ from h07.alloc HWS.out _).grown HG9.out (by have:=HWS.out;simp;omega) λj hj=>(HO.out.lt hj).1
      by_cases h9:pk<37
      · have n6:¬ (pk:Int)<6:=by omega
        have n10:¬ (pk:Int)<10:=by omega
        have n15:¬ (pk:Int)<15:=by omega
        have n22:¬ (pk:Int)<22:=by omega
        have n30:¬ (pk:Int)<30:=by omega
        have n33:¬ (pk:Int)<33:=by omega
        have p37:(pk:Int)<37:=by omega
        have p39:(pk:Int)<39:=by omega
        have e10:((pk:Int) == 10)=false:=beq_eq_false_iff_ne.2 (by omega)
        have e33:((pk:Int) == 33)=false:=beq_eq_false_iff_ne.2 (by omega)
        have e34:((pk:Int) == 34)=false:=beq_eq_false_iff_ne.2 (by omega)
        go_upto_region 31 with fail
        obtain⟨rr,hrr⟩:∃rr:ActM,rr=⟨10,0,0,0,0⟩:=⟨_,rfl⟩
        have HOKR:Hid (OkAct rr/\rr.t<th/\(rr.kind=8->0<=rr.n/\rr.n<th)):=by rw[Hid,hrr];exact⟨⟨by dsimp only;omega,by dsimp only;omega,by dsimp only;omega,by dsimp only;omega,by dsimp only;omega,λh=>by dsimp only at *;omega⟩,by dsimp only;omega,λh=>by dsimp only at *;omega⟩
        obtain⟨w7,hw7⟩:∃w7,w7=(((((w6).setCell ⟨y,0,none⟩ (.int .i64 10)).setCell ⟨y,1,none⟩ (.int .i64 0)).setCell ⟨y,2,none⟩ (.int .i64 0)).setCell ⟨y,3,none⟩ (.int .i64 0)).setCell ⟨y,4,none⟩ (.int .i64 0):=⟨_,rfl⟩
        have HF:Hid (RowAt w7 y (actL rr.kind rr.t rr.a rr.b rr.n)):=by rw[Hid,hw7,hrr];exact (((((HY.out).set 0 _).set 1 _).set 2 _).set 3 _).set 4 _
        have HB7:Hid (Below wr.heap.size wr w7):=by rw[Hid,hw7];exact (((((HB6.out).setCell hzy3 _).setCell hzy3 _).setCell hzy3 _).setCell hzy3 _).setCell hzy3 _
        rw[<- hw7]
        clear hrr hw7 y0 y1 y2 y3 y4 f0 f1 f2 f3 f4 z0 z1 z2
        obtain⟨q0,q1,q2,q3,q4⟩:=HF.out.act
        have HLE:Hid (l.length<=100):=by rw[Hid];omega
        have HWS:Hid (w.heap.size<=w7.heap.size):=Nat.le_trans HBW.out.size HB7.out.size
        go_wp2_with (at_builtin;refine wpl_append_Act rfl _ _ rfl w.heap.size u7 l rfl ((HO.out.below HB7.out).below (by repeat (first|exact Below.refl _ _|with_reducible refine below_drewN ?_ _|with_reducible refine Below.drew ?_|with_reducible refine Below.alloc ?_ (by first|exact Nat.le_refl _|(simp;done)|omega|(simp;omega)) _|with_reducible refine Below.setCell ?_ (by first|exact Nat.le_refl _|(simp;done)|omega|(simp;omega)) _))) _ [rr] rfl (row_Act _ rr rfl) (by have:=HLE.out;simp;omega) (by have:=HWS.out;simp;omega) ?_;intro v9 w9 hv9 hg9 hn9;have HV9:=Lib.hid hv9;have HG9:=Lib.hid hg9;clear hv9 hg9 hn9)
        refine⟨⟨k+1,by go_num,by omega,by omega,l++[rr],by simp;omega,λx hx=>?_,HV9.out,?_⟩,by simp[intOf];omega⟩
        · rcases List.mem_append.1 hx with hx|hx
          · exact HOK.out x hx
          · rw[List.mem_singleton.1 hx];exact HOKR.out
        · have h07:Below w.heap.size w w7:=HBW.out.trans (HB7.out.mono HBW.out.size)
          exact (show Below w.heap.size w _ from h07.alloc HWS.out _).grown HG9.out (by have:=HWS.out;simp;omega) λj hj=>(HO.out.lt hj).1
      by_cases h10:pk<39
      · have n6:¬ (pk:Int)<6:=by omega
        have n10:¬ (pk:Int)<10:=by omega
        have n15:¬ (pk:Int)<15:=by omega
        have n22:¬ (pk:Int)<22:=by omega
        have n30:¬ (pk:Int)<30:=by omega
        have n33:¬ (pk:Int)<33:=by omega
        have n37:¬ (pk:Int)<37:=by omega
        have p39:(pk:Int)<39:=by omega
        have e10:((pk:Int) == 10)=false:=beq_eq_false_iff_ne.2 (by omega)
        have e33:((pk:Int) == 33)=false:=beq_eq_false_iff_ne.2 (by omega)
        have e34:((pk:Int) == 34)=false:=beq_eq_false_iff_ne.2 (by omega)
        obtain⟨m,hm,hm9⟩:=pick_of r.a 5 (by omega)
        have HM:=Lib.hid hm;clear hm
        go_upto_region 31 with (go_at_call 20;refine (picked_any _ _ _ (by omega) (by omega) (by omega) (by omega)).mono ?_;rintro e w1 ⟨rfl,rfl⟩;rw[HM.out])
        obtain⟨rr,hrr⟩:∃rr:ActM,rr=⟨11,0,0,0,(1+(m:Int))⟩:=⟨_,rfl⟩
        have HOKR:Hid (OkAct rr/\rr.t<th/\(rr.kind=8->0<=rr.n/\rr.n<th)):=by rw[Hid,hrr];exact⟨⟨by dsimp only;omega,by dsimp only;omega,by dsimp only;omega,by dsimp only;omega,by dsimp only;omega,λh=>by dsimp only at *;omega⟩,by dsimp only;omega,λh=>by dsimp only at *;omega⟩
        obtain⟨w7,hw7⟩:∃w7,w7=(((((w6).setCell ⟨y,0,none⟩ (.int .i64 11)).setCell ⟨y,1,none⟩ (.int .i64 0)).setCell ⟨y,2,none⟩ (.int .i64 0)).setCell ⟨y,3,none⟩ (.int .i64 0)).setCell ⟨y,4,none⟩ (.int .i64 (1+(m:Int))):=⟨_,rfl⟩
        have HF:Hid (RowAt w7 y (actL rr.kind rr.t rr.a rr.b rr.n)):=by rw[Hid,hw7,hrr];exact (((((HY.out).set 0 _).set 1 _).set 2 _).set 3 _).set 4 _
        have HB7:Hid (Below wr.heap.size wr w7):=by rw[Hid,hw7];exact (((((HB6.out).setCell hzy3 _).setCell hzy3 _).setCell hzy3 _).setCell hzy3 _).setCell hzy3 _
        rw[<- hw7]
        clear hrr hw7 y0 y1 y2 y3 y4 f0 f1 f2 f3 f4 z0 z1 z2
        obtain⟨q0,q1,q2,q3,q4⟩:=HF.out.act
        have HLE:Hid (l.length<=100):=by rw[Hid];omega
        have HWS:Hid (w.heap.size<=w7.heap.size):=Nat.le_trans HBW.out.size HB7.out.size
        go_wp2_with (at_builtin;refine wpl_append_Act rfl _ _ rfl w.heap.size u7 l rfl ((HO.out.below HB7.out).below (by repeat (first|exact Below.refl _ _|with_reducible refine below_drewN ?_ _|with_reducible refine Below.drew ?_|with_reducible refine Below.alloc ?_ (by first|exact Nat.le_refl _|(simp;done)|omega|(simp;omega)) _|with_reducible refine Below.setCell ?_ (by first|exact Nat.le_refl _|(simp;done)|omega|(simp;omega)) _))) _ [rr] rfl (row_Act _ rr rfl) (by have:=HLE.out;simp;omega) (by have:=HWS.out;simp;omega) ?_;intro v9 w9 hv9 hg9 hn9;have HV9:=Lib.hid hv9;have HG9:=Lib.hid hg9;clear hv9 hg9 hn9)
        refine⟨⟨k+1,by go_num,by omega,by omega,l++[rr],by simp;omega,λx hx=>?_,HV9.out,?_⟩,by simp[intOf];omega⟩
        · rcases List.mem_append.1 hx with hx|hx
          · exact HOK.out x hx
          · rw[List.mem_singleton.1 hx];exact HOKR.out
        · have h07:Below w.heap.size w w7:=HBW.out.trans (HB7.out.mono HBW.out.size)
          exact (show Below w.heap.size w _ from h07.alloc HWS.out _).grown HG9.out (by have:=HWS.out;simp;omega) λj hj=>(HO.out.lt hj).1
      obtain rfl:pk=39:=by omega
      go_upto_region 31 with fail
      obtain⟨rr,hrr⟩:∃rr:ActM,rr=⟨12,0,0,0,0⟩:=⟨_,rfl⟩
      have HOKR:Hid (OkAct rr/\rr.t<th/\(rr.kind=8->0<=rr.n/\rr.n<th)):=by rw[Hid,hrr];exact⟨⟨by dsimp only;omega,by dsimp only;omega,by dsimp only;omega,by dsimp only;omega,by dsimp only;omega,λh=>by dsimp only at *;omega⟩,by dsimp only;omega,λh=>by dsimp only at *;omega⟩
      obtain⟨w7,hw7⟩:∃w7,w7=(((((w6).setCell ⟨y,0,none⟩ (.int .i64 12)).setCell ⟨y,1,none⟩ (.int .i64 0)).setCell ⟨y,2,none⟩ (.int .i64 0)).setCell ⟨y,3,none⟩ (.int .i64 0)).setCell ⟨y,4,none⟩ (.int .i64 0):=⟨_,rfl⟩
      have HF:Hid (RowAt w7 y (actL rr.kind rr.t rr.a rr.b rr.n)):=by rw[Hid,hw7,hrr];exact (((((HY.out).set 0 _).set 1 _).set 2 _).set 3 _).set 4 _
      have HB7:Hid (Below wr.heap.size wr w7):=by rw[Hid,hw7];exact (((((HB6.out).setCell hzy3 _).setCell hzy3 _).setCell hzy3 _).setCell hzy3 _).setCell hzy3 _
      rw[<- hw7]
      clear hrr hw7 y0 y1 y2 y3 y4 f0 f1 f2 f3 f4 z0 z1 z2
      obtain⟨q0,q1,q2,q3,q4⟩:=HF.out.act
      have HLE:Hid (l.length<=100):=by rw[Hid];omega
      have HWS:Hid (w.heap.size<=w7.heap.size):=Nat.le_trans HBW.out.size HB7.out.size
      go_wp2_with (at_builtin;refine wpl_append_Act rfl _ _ rfl w.heap.size u7 l rfl ((HO.out.below HB7.out).below (by repeat (first|exact Below.refl _ _|with_reducible refine below_drewN ?_ _|with_reducible refine Below.drew ?_|with_reducible refine Below.alloc ?_ (by first|exact Nat.le_refl _|(simp;done)|omega|(simp;omega)) _|with_reducible refine Below.setCell ?_ (by first|exact Nat.le_refl _|(simp;done)|omega|(simp;omega)) _))) _ [rr] rfl (row_Act _ rr rfl) (by have:=HLE.out;simp;omega) (by have:=HWS.out;simp;omega) ?_;intro v9 w9 hv9 hg9 hn9;have HV9:=Lib.hid hv9;have HG9:=Lib.hid hg9;clear hv9 hg9 hn9)
      refine⟨⟨k+1,by go_num,by omega,by omega,l++[rr],by simp;omega,λx hx=>?_,HV9.out,?_⟩,by simp[intOf];omega⟩
      · rcases List.mem_append.1 hx with hx|hx
        · exact HOK.out x hx
        · rw[List.mem_singleton.1 hx];exact HOKR.out
      · have h07:Below w.heap.size w w7:=HBW.out.trans (HB7.out.mono HBW.out.size)
        exact (show Below w.heap.size w _ from h07.alloc HWS.out _).grown HG9.out (by have:=HWS.out;simp;omega) λj hj=>(HO.out.lt hj).1
    · have HEND:Hid (∀x ∈ l,OkAct x/\x.t<th/\(x.kind=8->0<=x.n/\x.n<th)):=HOK.out
      obtain⟨ua,uc,rfl⟩:=HO.out.shape
      have hkl:l.length=k:=hl
      by_cases hlt1:k<rs.length
      · have hlt3:(k:Int)<(rs.length:Int):=by omega
        have hlt2:¬ (k:Int)<most:=by omega
        go_wp2_with fail
        refine bodyPost_ret (v:=.slice ua l.length uc) (by simp[results,Try.results12,go_sem, *]) rfl ⟨HBW.out,l,_,_,rfl,HO.out,by omega,HEND.out⟩
      · have hlt3:¬ (k:Int)<(rs.length:Int):=by omega
        go_wp2_with fail
        refine bodyPost_ret (v:=.slice ua l.length uc) (by simp[results,Try.results12,go_sem, *]) rfl ⟨HBW.out,l,_,_,rfl,HO.out,by omega,HEND.out⟩
end Go.Proofs.Ytbeilcaadpopmac
namespace Go.Proofs.Ytbeilcaadpopmac
open Go.RowKit Go.Maps
set_option maxRecDepth 100000 in
theorem trun_any (v:Value) (l:List ActM) (w:World) (h:Acts w v l) (hl:l.length<=400):Calls Try.prog 9 #[v] w λe w'=>Below w.heap.size w w'/\∃a c,e = .returned (.tuple #[.slice a l.length c,.bool true])/\OwnAns w' w.heap.size (.slice a l.length c) ((hall0 400).answers l):=by
  have HA:Hid (Acts w v l):=h
  obtain⟨a,c,rfl,hc,hcm,_⟩:=h.len
  clear h
  go_enter Try.func9,Try.ntmps9
  go_wp2_with (go_at_call 17;refine (run_any 400 _ l _ HA.out).mono ?_;rintro e w1 ⟨hb1,⟨hno,_⟩|⟨_,hno,_⟩|⟨_,_,aa,ac,ha,hc',t,xs,lp,rfl,hv,_⟩⟩;exact absurd ⟨by omega,by omega⟩ hno;exact absurd hl (by omega);have HV:=Lib.hid hv;have HB:=Lib.hid hb1;clear hv hb1)
  refine bodyPost_ret (v:=.tuple #[.slice aa l.length ac,.bool true]) (by simp[results,Try.results9,go_sem, *]) rfl ⟨(by repeat (first|exact Below.refl _ _|with_reducible refine Below.trans ?_ (Below.mono HB.out (by first|exact Nat.le_refl _|(simp;done)|omega|(simp;omega)|(have z0:=Below.size HB.out;omega)|(have z0:=Below.size HB.out;simp at *;omega)))|with_reducible refine below_drewN ?_ _|with_reducible refine Below.drew ?_|with_reducible refine Below.alloc ?_ (by first|exact Nat.le_refl _|(simp;done)|omega|(simp;omega)|(have z0:=Below.size HB.out;omega)|(have z0:=Below.size HB.out;simp at *;omega)) _|with_reducible refine Below.setCell ?_ (by first|exact Nat.le_refl _|(simp;done)|omega|(simp;omega)|(have z0:=Below.size HB.out;omega)|(have z0:=Below.size HB.out;simp at *;omega)) _)),_,_,rfl,?_⟩
  exact HV.out.keep λj hj=>by
    have:=HV.out.lt hj
    exact (show Below w1.heap.size w1 _ from (by repeat (first|exact Below.refl _ _|with_reducible refine below_drewN ?_ _|with_reducible refine Below.drew ?_|with_reducible refine Below.alloc ?_ (by first|exact Nat.le_refl _|(simp;done)|omega|(simp;omega)) _|with_reducible refine Below.setCell ?_ (by first|exact Nat.le_refl _|(simp;done)|omega|(simp;omega)) _))).block j this.2
end Go.Proofs.Ytbeilcaadpopmac
namespace Go.Proofs.Ytbeilcaadpopmac
open Go.RowKit Go.Maps
def Sofar (w wr:World) (v:Value) (L:List ActM):Prop:=OwnAct wr w.heap.size v L/\Below w.heap.size w wr/\∀r ∈ L,OkAct r
theorem Sofar.below {w wr w':World} {v:Value} {L:List ActM} (h:Sofar w wr v L) (hb:Below wr.heap.size wr w'):Sofar w w' v L:=⟨h.1.below hb,h.2.1.trans (hb.mono h.2.1.size),h.2.2⟩
theorem Sofar.acts {w wr:World} {v:Value} {L:List ActM} (h:Sofar w wr v L):Acts wr v L:=h.1.acts λr hr=>(h.2.2 r hr).I
theorem Sofar.shape {w wr:World} {v:Value} {L:List ActM} (h:Sofar w wr v L):∃a c,v = .slice a L.length c:=h.1.shape
theorem Sofar.nil (w:World) {wr:World} (h:Below w.heap.size w wr):Sofar w wr (.slice none 0 0) []:=⟨OwnAct.nil _ _,h,λ_ h=>(by cases h)⟩
theorem wpl_append_So {ops:Array Oper} {rest:List Oper} {o:Oper} {a:Act} {Q:Exit->Act->World->Prop} {w wr:World} (hg:o.guard=none) (s x:Operand)
    (ho:o.op = .call { callee:=.builtin .append,args:=#[s,x],argTypes:=#[23,23] }) (v:Value) (L:List ActM) (hs:a.eval s=v) (h:Sofar w wr v L)
    (sv:Value) (ys:List ActM) (hx:a.eval x=sv) (hy:Row wr sv ys.length 5 (cellsAct ys)) (hok:∀r ∈ ys,OkAct r) (hlen:L.length+ys.length<900000)
    (k:∀v' w',Sofar w w' v' (L++ys)->wr.grownBy w' v.ownBlock->wpList Try.prog ops Q rest (a.put o.dst v') w'):wpList Try.prog ops Q (o :: rest) a wr :=
  wpl_append_Act hg s x ho w.heap.size v L hs h.1 sv ys hx hy hlen h.2.1.size λv' w' h1 h2 _ =>
    k v' w' ⟨h1,h.2.1.grown h2 h.2.1.size λj hj=>(h.1.lt hj).1,λr hr=>(List.mem_append.1 hr).elim (h.2.2 r) (hok r)⟩ h2
theorem sharedL_len:sharedL.length=12:=rfl
end Go.Proofs.Ytbeilcaadpopmac
