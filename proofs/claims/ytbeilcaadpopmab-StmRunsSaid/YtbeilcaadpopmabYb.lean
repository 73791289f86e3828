/- Texts put together: Ea, Rn, Eb, Ec, Ed, Ef, Eg. -/
import Derived.Test.YtbeilcaadpopmabY6
import Derived.Deep.RegionHeld3
import Derived.Test.YtbeilcaadpopmabY5
import Derived.Laws.IdiomRangeMap
import Derived.Test.YtbeilcaadpopmabY8
import Derived.Test.YtbeilcaadpopmabY7
import Derived.Outline
set_option linter.unusedVariables false
set_option linter.unusedSimpArgs false
namespace Go.Proofs.Ytbeilcaadpopmab
open Go.RowKit Go.Maps
inductive Pos where
  | reg (t r:Nat)
  | saved (t r:Nat)
  | was (t i:Nat)
def Pos.ok (M:CM):Pos->Prop
  | .reg t r=>t<4/\r<4
  | .saved t r=>t<4/\r<4
  | .was t i=>t<4/\i<(M.txs t).undo.length
def PosAt (B:Nat) (nm:Nm):Pos->Nat->Nat->Prop
  | .reg t r,b,o=>b=B/\o=2+t * 8+r * 2
  | .saved t r,b,o=>b=B/\o=34+t * 12+1+r * 2
  | .was t i,b,o=>∃n c,nm.uv t = .slice (some ⟨b,0,none⟩) n c/\o=i * 4+2
def CM.at (M:CM):Pos->Int × Int
  | .reg t r=>M.regs t r
  | .saved t r=>(M.txs t).saved r
  | .was t i=>((M.txs t).undo.getD i ⟨0,0,(0,0)⟩).was
theorem cellOf_saved2 (nm:Nm) (M:CM) {t r:Nat} (ht:t<4) (hr:r<4):cellOf nm M (34+t * 12+1+r * 2) = .int .i64 ((M.txs t).saved r).1/\cellOf nm M (34+t * 12+1+r * 2+1) = .int .i64 ((M.txs t).saved r).2:=by
  have h1:=cellOf_tx nm M ht (q:=1+r * 2) (by omega)
  have h2:=cellOf_tx nm M ht (q:=1+r * 2+1) (by omega)
  rw[show 34+t * 12+(1+r * 2)=34+t * 12+1+r * 2 by omega] at h1
  rw[show 34+t * 12+(1+r * 2+1)=34+t * 12+1+r * 2+1 by omega] at h2
  rw[h1,h2]
  unfold txC valC
  refine⟨?_,?_⟩
  · rw[if_neg (by omega),if_pos (by omega),if_pos (by omega),show (1+r * 2 - 1) / 2=r by omega]
  · rw[if_neg (by omega),if_pos (by omega),if_neg (by omega),show (1+r * 2+1 - 1) / 2=r by omega]
theorem Mach.pos {base B:Nat} {w:World} {nm:Nm} {M:CM} (h:Mach base w B nm M) {p:Pos} {b o:Nat} (hp:p.ok M) (ha:PosAt B nm p b o) :
    w.cell? ⟨b,o,none⟩=some (.int .i64 (M.at p).1)/\w.cell? ⟨b,o+1,none⟩=some (.int .i64 (M.at p).2)/\w.frozen? ⟨b,o,none⟩=false/\w.frozen? ⟨b,o+1,none⟩=false/\b<w.heap.size:=by
  have hb:=h.box
  cases p with
  | reg t r =>
    obtain⟨ht,hr⟩:=hp
    obtain⟨rfl,rfl⟩:=ha
    obtain⟨e1,e2⟩:=cellOf_reg nm M ht hr
    exact⟨by rw[(hb _ (by omega)).1,e1];rfl,by rw[(hb _ (by omega)).1,e2];rfl,(hb _ (by omega)).2,(hb _ (by omega)).2,h.lt⟩
  | saved t r =>
    obtain⟨ht,hr⟩:=hp
    obtain⟨rfl,rfl⟩:=ha
    obtain⟨e1,e2⟩:=cellOf_saved2 nm M ht hr
    exact⟨by rw[(hb _ (by omega)).1,e1];rfl,by rw[(hb _ (by omega)).1,e2];rfl,(hb _ (by omega)).2,(hb _ (by omega)).2,h.lt⟩
  | was t i =>
    obtain⟨ht,hi⟩:=hp
    obtain⟨n,c,e,rfl⟩:=ha
    have hU:OwnU w base (nm.uv t) (M.txs t).undo:=h.part (.undo t) ht
    have hlt:=(hU.lt (k:=b) (by rw[e];rfl)).2
    rw[e] at hU
    obtain⟨a',c',e',_,_⟩:=hU.shape
    simp only [Value.slice.injEq] at e'
    obtain⟨rfl,rfl,rfl⟩:=e'
    obtain⟨g,e2,_,_,_,_,h3,h4,hz⟩:=hU.at hi
    simp only [Option.some.injEq,Addr.mk.injEq] at e2
    obtain⟨rfl,_,_⟩:=e2
    have e3:M.at (.was t i)=(M.txs t).undo[i].was:=by
      unfold CM.at
      dsimp only
      rw[List.getD_eq_getElem?_getD,List.getElem?_eq_getElem hi];rfl
    rw[e3]
    exact⟨h3,h4,hz _,hz _,hlt⟩
set_option maxRecDepth 100000 in
set_option maxHeartbeats 1000000 in
theorem collect1_any (base:Nat) (w:World) (B:Nat) (nm:Nm) (M:CM) (h:Mach base w B nm M) (X:Nat) (hX:w.cell? ⟨X,0,none⟩=some (.pointer (some ⟨B,0,none⟩))) (p:Pos) (b o:Nat) (hp:p.ok M) (ha:PosAt B nm p b o)
    (hk:I64 (M.at p).1/\I64 (M.at p).2) (hn:M.going=true->M.S.length<900000/\M.gray.length<900000) :
    Calls Try.prog 97 #[.pointer (some ⟨b,o,none⟩),.pointer (some ⟨X,0,none⟩)] w (RetM 0 base w B nm (M.see (M.at p)) (.tuple #[])):=by
  obtain⟨x0,x1,z0,z1,hlt⟩:=h.pos hp ha
  have HM:=Lib.hid h;have HK:=Lib.hid hk;have HN:=Lib.hid hn
  clear h hp ha hk hn z0 z1
  generalize M.at p=v at x0 x1 HK
  obtain⟨v1,v2⟩:=v
  dsimp only at x0 x1
  go_enter Try.func97,Try.ntmps97
  go_wp2_with fail
  obtain⟨w2,hw2⟩:∃w2,w2=w.drew:=⟨_,rfl⟩
  have HB2:Hid (Below w.heap.size w w2):=by rw[Hid,hw2];exact (Below.refl _ _).drew
  have x0':w2.cell? ⟨b,o,none⟩=some (.int .i64 v1):=by rw[hw2];exact x0
  have x1':w2.cell? ⟨b,o+1,none⟩=some (.int .i64 v2):=by rw[hw2];exact x1
  have hX':w2.cell? ⟨X,0,none⟩=some (.pointer (some ⟨B,0,none⟩)):=by rw[hw2];exact hX
  clear x0 x1 hX
  refine still_tail_at 4 (by kernel_rfl) (by kernel_rfl) hw2 ?_;simp only [List.take_succ_cons,List.take_zero,List.drop_succ_cons,List.drop_zero];clear hw2;(repeat still_step);refine wpStill_nil ?_
  go_wp2_with (go_at_call 98;refine (see_any base _ B nm M (HM.out.below HB2.out) (v1,v2) HK.out.1 HK.out.2 HN.out).mono ?_;rintro e w5 ⟨rfl,nm5,hM5,hW5⟩;have HM5:=Lib.hid hM5;have HW5:=Lib.hid hW5;clear hM5 hW5)
  exact bodyPost_end (results_none rfl _ _ _) rfl ⟨rfl,_,HM5.out,HW5.out.after HB2.out⟩
def Does (F:Nat) (cap:Array Value) (base B:Nat) (w:World) (nm:Nm) (J:CM->Prop) (step:Pos->CM->CM):Prop :=
  ∀ (w' : World) (nm' : Nm) (M' : CM) (p : Pos) (b o : Nat), Mach base w' B nm' M' → Went 0 w w' B nm nm' → J M' → p.ok M' → PosAt B nm' p b o →
    Calls Try.prog F (#[.pointer (some ⟨b,o,none⟩)]++cap) w' (RetM 0 base w' B nm' (step p M') (.tuple #[]))
def steps (step:Pos->CM->CM) (ps:List Pos) (M:CM):CM:=ps.foldl (λM p=>step p M) M
theorem steps_snoc (step:Pos->CM->CM) (ps:List Pos) (p:Pos) (M:CM):steps step (ps++[p]) M=step p (steps step ps M):=by simp[steps]
def posT (M:CM) (t:Nat):List Pos:=(List.range 4).map (Pos.reg t)++(List.range 4).map (Pos.saved t)++(List.range (M.txs t).undo.length).map (Pos.was t)
def posL (M:CM) (n:Nat):List Pos:=(List.range n).flatMap (posT M)
theorem posL_snoc (M:CM) (n:Nat):posL M (n+1)=posL M n++posT M n:=by simp[posL,List.range_succ]
theorem map_snoc {α:Type} (f:Nat->α) (n:Nat):(List.range (n+1)).map f=(List.range n).map f++[f n]:=by simp[List.range_succ]
def EachInv (base B:Nat) (w:World) (nm:Nm) (M:CM) (J:CM->Prop) (step:Pos->CM->CM) (ps:List Pos) (wr:World):Prop :=
  ∃nm',Mach base wr B nm' (steps step ps M)/\Went 0 w wr B nm nm'/\J (steps step ps M)
theorem EachInv.next {base B:Nat} {w wr w5:World} {nm nm1 nm5:Nm} {M:CM} {J:CM->Prop} {step:Pos->CM->CM} {ps:List Pos} (p:Pos) (hW:Went 0 w wr B nm nm1) (hJ:J (step p (steps step ps M)))
    (h5:Mach base w5 B nm5 (step p (steps step ps M))) (h6:Went 0 wr w5 B nm1 nm5):EachInv base B w nm M J step (ps++[p]) w5 :=
  ⟨nm5,by rw[steps_snoc];exact h5,hW.trans h6,by rw[steps_snoc];exact hJ⟩
set_option maxRecDepth 100000 in
set_option maxHeartbeats 2000000 in
theorem each_any (F : Nat) (cap : Array Value) (eg : ∀ args w, (callFunc F args).run Try.prog w = .ok (.enter F args) w) (base : Nat) (w : World) (B : Nat) (nm : Nm) (M : CM) (h : Mach base w B nm M) (J : CM → Prop) (step : Pos → CM → CM)
    (hJ0:J M) (hJ:∀M' p,J M'->p.ok M->J (step p M')) (hU:∀M',J M'->∀t,(M'.txs t).undo.length=(M.txs t).undo.length) (hD:Does F cap base B w nm J step) :
    Calls Try.prog 96 #[.pointer (some ⟨B,0,none⟩),.func (.func F) #[] cap] w (RetM 0 base w B nm (steps step (posL M 4) M) (.tuple #[])):=by
  have HJ:=Lib.hid hJ;have HU:=Lib.hid hU;have HD:=Lib.hid hD
  have hst:EachInv base B w nm M J step (posL M 0) w:=⟨nm,h,Went.refl _ _ _,hJ0⟩
  have HST:=Lib.hid hst
  clear h hJ hU hD hst hJ0
  go_enter Try.func96,Try.ntmps96
  go_wp2_with fail
  go_loopw [9] (λu wr=>∃t:Nat,u = .int .i64 t/\t<=4/\EachInv base B w nm M J step (posL M t) wr) (λu _=>(4 - intOf u).toNat)
  case atStart=>exact⟨0,rfl,by omega,HST.out⟩
  case round =>
    obtain⟨t,rfl,ht,hinv⟩:=hrel
    have HINV:=Lib.hid hinv
    clear hinv HST
    by_cases ht4:t<4
    · have i1 : (t : Int) < 4 := by omega
      obtain⟨ps,hps⟩:∃ps,ps=posL M t:=⟨_,rfl⟩
      rw[<- hps] at HINV
      have HPS:=Lib.hid hps
      clear hps
      obtain⟨wo,hwo⟩:∃wo:World,wo=wr:=⟨_,rfl⟩
      rw[<- hwo] at HINV ⊢
      clear hwo
      go_wp2_with fail
      go_loopw [12] (λu wr=>∃r:Nat,u = .int .i64 r/\r<=4/\EachInv base B w nm M J step (ps++(List.range r).map (Pos.reg t)) wr) (λu _=>(4 - intOf u).toNat)
      case atStart=>exact⟨0,rfl,by omega,by simpa using HINV.out⟩
      case round =>
        obtain⟨r,rfl,hr,hinv⟩:=hrel
        have HI2:=Lib.hid hinv
        clear hinv HINV
        by_cases hr4:r<4
        · have i2:(r:Int)<4:=by omega
          obtain⟨nm1,hM1,hW1,hJ1⟩:=HI2.out
          have HM1:=Lib.hid hM1;have HW1:=Lib.hid hW1
          have HC:=Lib.hid (HD.out wr nm1 _ (.reg t r) B (2+t * 8+r * 2) hM1 hW1 hJ1 ⟨ht4,hr4⟩ ⟨rfl,rfl⟩)
          have HJ2:=Lib.hid (HJ.out _ (.reg t r) hJ1 ⟨ht4,hr4⟩)
          clear hM1 hW1 hJ1
          have hBl:=HM1.out.lt
          go_wp2_with fail
          refine HC.out.mono ?_
          rintro e w5 ⟨rfl,nm5,hM5,hW5⟩
          have HM5:=Lib.hid hM5;have HW5:=Lib.hid hW5
          clear hM5 hW5
          dsimp only
          go_wp2_with fail
          go_roundw
          case rel=>exact⟨r+1,by go_num,by omega,by rw[map_snoc,<- List.append_assoc];exact EachInv.next _ HW1.out HJ2.out HM5.out HW5.out⟩
          case measure=>simp[intOf];omega
        · have hr5:r=4:=by omega
          subst hr5
          obtain⟨ps2,hps2⟩:∃ps2,ps2=ps++(List.range 4).map (Pos.reg t):=⟨_,rfl⟩
          rw[<- hps2] at HI2
          have HPS2:=Lib.hid hps2
          clear hps2
          have hBl:B<wr.heap.size:=by obtain⟨nm1,hM1,_,_⟩:=HI2.out;exact hM1.lt
          obtain⟨wo2,hwo2⟩:∃wo:World,wo=wr:=⟨_,rfl⟩
          rw[<- hwo2] at HI2 hBl ⊢
          clear hwo2
          go_wp2_with fail
          go_loopw [30] (λu wr=>∃r:Nat,u = .int .i64 r/\r<=4/\EachInv base B w nm M J step (ps2++(List.range r).map (Pos.saved t)) wr) (λu _=>(4 - intOf u).toNat)
          case atStart=>exact⟨0,rfl,by omega,by simpa using HI2.out⟩
          case round =>
            obtain⟨r,rfl,hr,hinv⟩:=hrel
            have HI3:=Lib.hid hinv
            clear hinv HI2
            by_cases hr4:r<4
            · have i2:(r:Int)<4:=by omega
              obtain⟨nm1,hM1,hW1,hJ1⟩:=HI3.out
              have HM1:=Lib.hid hM1;have HW1:=Lib.hid hW1
              have HC:=Lib.hid (HD.out wr nm1 _ (.saved t r) B (34+t * 12+1+r * 2) hM1 hW1 hJ1 ⟨ht4,hr4⟩ ⟨rfl,rfl⟩)
              have HJ2:=Lib.hid (HJ.out _ (.saved t r) hJ1 ⟨ht4,hr4⟩)
              clear hM1 hW1 hJ1
              have hBl:=HM1.out.lt
              go_wp2_with fail
              refine HC.out.mono ?_
              rintro e w5 ⟨rfl,nm5,hM5,hW5⟩
              have HM5:=Lib.hid hM5;have HW5:=Lib.hid hW5
              clear hM5 hW5
              dsimp only
              go_wp2_with fail
              go_roundw
              case rel=>exact⟨r+1,by go_num,by omega,by rw[map_snoc,<- List.append_assoc];exact EachInv.next _ HW1.out HJ2.out HM5.out HW5.out⟩
              case measure=>simp[intOf];omega
            · have hr5:r=4:=by omega
              subst hr5
              obtain⟨ps3,hps3⟩:∃ps3,ps3=ps2++(List.range 4).map (Pos.saved t):=⟨_,rfl⟩
              rw[<- hps3] at HI3
              have HPS3:=Lib.hid hps3
              clear hps3
              obtain⟨n,hn⟩:∃n,n=(M.txs t).undo.length:=⟨_,rfl⟩
              have HN:=Lib.hid hn
              clear hn
              have HSH:Hid (∀wq nmq ps,Mach base wq B nmq (steps step ps M)->J (steps step ps M)->∃a c,nmq.uv t = .slice a n c/\n<=c/\c<=9223372036854775807/\n<=1000000/\wq.cell? ⟨B,34+t * 12+11,none⟩=some (.slice a n c)/\(0<n->∃g,a=some ⟨g,0,none⟩)):=by
                intro wq nmq ps hMq hJq
                have hUq:OwnU wq base (nmq.uv t) ((steps step ps M).txs t).undo:=hMq.part (.undo t) ht4
                have hul:=HU.out _ hJq t
                obtain⟨a,c,e,e1,e2⟩:=hUq.shape
                have hle:=hUq.1
                rw[hul,<- HN.out] at e e1 hle
                obtain⟨_,_,_,d11,_⟩:=hMq.cTx ht4
                rw[e] at d11
                refine⟨a,c,e,e1,e2,hle,d11,λhpos=>?_⟩
                rw[e] at hUq
                have hl2:((steps step ps M).txs t).undo.length=n:=by rw[hul,<- HN.out]
                obtain⟨g,hg,_⟩:=hUq.at (i:=0) (by omega)
                exact⟨g,hg⟩
              have hBl2:B<wr.heap.size:=by obtain⟨nm1,hM1,_,_⟩:=HI3.out;exact hM1.lt
              have hsl:∃a c,wr.cell? ⟨B,34+t * 12+11,none⟩=some (.slice a n c)/\n<=c/\c<=9223372036854775807/\n<=1000000:=by
                obtain⟨nm1,hM1,_,hJ1⟩:=HI3.out
                obtain⟨a,c,_,e1,e2,e3,e4,_⟩:=HSH.out wr nm1 _ hM1 hJ1
                exact⟨a,c,e4,e1,e2,e3⟩
              obtain⟨a0,c0,d11,_,_,hn1⟩:=hsl
              obtain⟨wo3,hwo3⟩:∃wo:World,wo=wr:=⟨_,rfl⟩
              rw[<- hwo3] at HI3 hBl2 d11 ⊢
              clear hwo3
              go_wp2_with fail
              go_loopw [46] (λu wr=>∃r:Nat,u = .int .i64 r/\r<=n/\EachInv base B w nm M J step (ps3++(List.range r).map (Pos.was t)) wr) (λu _=>(n - intOf u).toNat)
              case atStart=>exact⟨0,rfl,by omega,by simpa using HI3.out⟩
              case round =>
                obtain⟨r,rfl,hr,hinv⟩:=hrel
                have HI4:=Lib.hid hinv
                clear hinv HI3 d11
                by_cases hr4:r<n
                · have i2:(r:Int)<(n:Int):=by omega
                  obtain⟨nm1,hM1,hW1,hJ1⟩:=HI4.out
                  have HM1:=Lib.hid hM1;have HW1:=Lib.hid hW1
                  obtain⟨a,c,e0,e1,e2,e3,d11,e5⟩:=HSH.out wr nm1 _ hM1 hJ1
                  obtain⟨g,rfl⟩:=e5 (by omega)
                  have hok:Pos.ok M (.was t r):=⟨ht4,by rw[<- HN.out];exact hr4⟩
                  have hok2:Pos.ok (steps step (ps3++(List.range r).map (Pos.was t)) M) (.was t r):=⟨ht4,by rw[HU.out _ hJ1,<- HN.out];exact hr4⟩
                  have hgl:g<wr.heap.size:=(hM1.pos hok2 ⟨n,c,e0,rfl⟩).2.2.2.2
                  have HC:=Lib.hid (HD.out wr nm1 _ (.was t r) g (r * 4+2) hM1 hW1 hJ1 hok2 ⟨n,c,e0,rfl⟩)
                  have HJ2:=Lib.hid (HJ.out _ (.was t r) hJ1 hok)
                  clear hM1 hW1 hJ1
                  have hBl:=HM1.out.lt
                  go_wp2_with fail
                  refine HC.out.mono ?_
                  rintro e w5 ⟨rfl,nm5,hM5,hW5⟩
                  have HM5:=Lib.hid hM5;have HW5:=Lib.hid hW5
                  clear hM5 hW5
                  dsimp only
                  go_wp2_with fail
                  go_roundw
                  case rel=>exact⟨r+1,by go_num,by omega,by rw[map_snoc,<- List.append_assoc];exact EachInv.next _ HW1.out HJ2.out HM5.out HW5.out⟩
                  case measure=>simp[intOf];omega
                · have hr5:r=n:=by omega
                  subst hr5
                  go_wp2_with fail
                  go_roundw
                  case rel =>
                    refine⟨t+1,by go_num,by omega,?_⟩
                    have e:posL M (t+1)=ps3++(List.range r).map (Pos.was t):=by
                      rw[posL_snoc,HPS3.out,HPS2.out,HPS.out,HN.out]
                      unfold posT
                      simp only [List.append_assoc]
                    rw[e]
                    exact HI4.out
                  case measure=>simp[intOf];omega
    · have ht5:t=4:=by omega
      subst ht5
      go_wp2_with fail
      obtain⟨nm1,hM1,hW1,hJ1⟩:=HINV.out
      exact bodyPost_end (results_none rfl _ _ _) rfl ⟨rfl,nm1,hM1,hW1⟩
end Go.Proofs.Ytbeilcaadpopmab
namespace Go.Proofs.Ytbeilcaadpopmab
open Go.RowKit Go.Maps
def MRange (w:World) (b:Option Nat) (r N:Nat) (f:Int->Option Int) (todo:Int->Bool) (cnt:Nat):Prop:=match b with
  | none=>(∀x,f x=none)/\(∀x,todo x=false)/\cnt=0/\w.heap[r]? = some (.mapIter none 0 #[] 0)
  | some b=>∃n,n<=N/\FunRange w b r n f todo cnt
def mleft (w:World) (b:Option Nat) (r:Nat):Nat:=match b with
  | none=>0
  | some b=>w.rangeLeft b r
theorem MRange.left_eq {w:World} {b:Option Nat} {r N cnt:Nat} {f:Int->Option Int} {todo:Int->Bool} (h:MRange w b r N f todo cnt):mleft w b r=cnt:=by
  cases b with
  | none=>exact h.2.2.1.symm
  | some b=>obtain⟨n,_,h⟩:=h;exact h.left_eq
theorem MRange.keep {w w':World} {b:Option Nat} {r N cnt:Nat} {f:Int->Option Int} {todo:Int->Bool} (h:MRange w b r N f todo cnt) (e1:∀k,b=some k->w'.heap[k]? = w.heap[k]?) (e2:w'.heap[r]? = w.heap[r]?):MRange w' b r N f todo cnt:=by
  cases b with
  | none=>exact⟨h.1,h.2.1,h.2.2.1,e2.trans h.2.2.2⟩
  | some b=>obtain⟨n,hn,h⟩:=h;exact⟨n,hn,h.keep (e1 b rfl) e2⟩
theorem MRange.lt {w:World} {b:Option Nat} {r N cnt:Nat} {f:Int->Option Int} {todo:Int->Bool} (h:MRange w b r N f todo cnt):r<w.heap.size:=by
  cases b with
  | none=>exact (Array.getElem?_eq_some_iff.1 h.2.2.2).1
  | some b=>obtain⟨n,_,h⟩:=h;exact h.lt.2
theorem MRange.map {w:World} {b:Option Nat} {r N cnt:Nat} {f:Int->Option Int} {todo:Int->Bool} (h:MRange w b r N f todo cnt):MapAt w b N f:=by
  cases b with
  | none=>exact h.1
  | some b=>obtain⟨n,hn,h⟩:=h;exact⟨n,hn,h.map⟩
theorem next_nil (w:World) (r:Nat) (ty:TypeId) (a b:Nat) (s:Array Nat) (h:w.heap[r]? = some (.mapIter none a s b)):(Instr.next (.pointer (some ⟨r,0,none⟩)) false ty).run Try.prog w = .ok (.tuple #[.bool false]) w:=by
  simp only [Instr.next,getObj,Sem.run_bind,Sem.run,h,Result.andThen]
  rfl
theorem wpl_rangeMap {ops:Array Oper} {rest:List Oper} {o:Oper} {a:Act} {Q:Exit->Act->World->Prop} {w:World} (hg:o.guard=none) (m:Operand)
    (hop:o.op=Op.range 71 m) (b:Option Nat) (N:Nat) (f:Int->Option Int) (hm:a.eval m = .map b) (hS:MapAt w b N f)
    (hK:∀w' cnt,MRange w' b w.heap.size N f (λx=>(f x).isSome) cnt->w.grownBy w' none->w'.heap.size=w.heap.size+1->wpList Try.prog ops Q rest (a.put o.dst (.pointer (some ⟨w.heap.size,0,none⟩))) w'):wpList Try.prog ops Q (o :: rest) a w:=by
  cases b with
  | none =>
    refine wpList_plain hg λK' hK'=>?_
    have hrun:=run_range_nilMap (P:=Try.prog) w 71 _ _ Try.underlying71
    unfold Oper.wp
    simp[execOp,hop,hm,hrun,Result.andThen]
    refine hK' _ _ (hK _ 0 ⟨hS,λx=>?_,rfl,?_⟩ ?_ (by simp))
    · show (f x).isSome=false
      rw[hS x];rfl
    · show (w.heap.push (.mapIter none 0 #[] 0))[w.heap.size]? = _
      exact Array.getElem?_push_size
    · exact World.grownBy_alloc w _ none
  | some b =>
    obtain⟨n,hn,hS⟩:=hS
    exact wpl_rangeFun hg m hop b n f hm hS λw' cnt h1 h2 h3=>hK w' cnt ⟨n,hn,h1⟩ h2 h3
theorem wpl_nextMap {ops:Array Oper} {rest:List Oper} {o:Oper} {a:Act} {Q:Exit->Act->World->Prop} {w:World} (hg:o.guard=none) (it:Operand)
    (hop:o.op=Op.next it false) (b:Option Nat) (r N cnt:Nat) (f:Int->Option Int) (todo:Int->Bool) (hit:a.eval it = .pointer (some ⟨r,0,none⟩)) (h:MRange w b r N f todo cnt)
    (hDone:(∀x,todo x=false)->wpList Try.prog ops Q rest (a.put o.dst (.tuple #[.bool false])) w)
    (hMore:∀(x c:Int) (w':World) (cnt':Nat),I64 x->I64 c->todo x=true->f x=some c->MRange w' b r N f (strike todo x) cnt'->cnt'<cnt->w.grownBy w' (some r)->w'.heap.size=w.heap.size ->
      (Instr.entry (.pointer (some ⟨r,0,none⟩))).run Try.prog w' = .ok (.tuple #[.int .i64 x,.int .i64 c]) w'->wpList Try.prog ops Q rest (a.put o.dst (.tuple #[.bool true,.int .i64 x,.int .i64 c])) w'):wpList Try.prog ops Q (o :: rest) a w:=by
  cases b with
  | none =>
    refine wpList_plain hg λK' hK'=>?_
    have hrun:=next_nil w r o.type 0 0 #[] h.2.2.2
    unfold Oper.wp
    simp[execOp,hop,hit,hrun,Result.andThen]
    exact hK' _ _ (hDone h.2.1)
  | some b =>
    obtain⟨n,hn,h⟩:=h
    exact wpl_nextFun hg it hop b r n cnt f todo hit h hDone λx c w' cnt' h1 h2 h3 h4 h5 h6 h7 h8 h9=>hMore x c w' cnt' h1 h2 h3 h4 ⟨n,hn,h5⟩ h6 h7 h8 h9
end Go.Proofs.Ytbeilcaadpopmab
namespace Go.Proofs.Ytbeilcaadpopmab
open Go.RowKit Go.Maps
def CM.marks (M:CM):CM:={ M with going:=true,gray:=[],S:=[] }
theorem Mach.marks {base B b:Nat} {w w':World} {nm:Nm} {M:CM} (h:Mach base w B nm M) (hc:Chg (λk=>k=B) w w') (hbox:Box w' B (ins (ins (ins (cellOf nm M) 82 (.bool true)) 83 (.slice none 0 0)) 84 (.map (some b)))) (hS:SetMap w' b 0 []) (hb:w.heap.size<=b) :
    Mach base w' B { nm with gv:=.slice none 0 0,mb:=some b } M.marks/\Went 0 w w' B nm { nm with gv:=.slice none 0 0,mb:=some b }:=by
  have hbl:=hS.lt
  refine h.upd (λi=>i = .box\/i = .gray\/i = .mark) 0 (Nat.le_refl _) (hc.mono λk _ e=>⟨.box,trivial,.inl rfl,by rw[e];rfl⟩) ?_ ?_ ?_ h.opn
  · intro i hi hx
    refine⟨?_,λp=>?_⟩
    · cases i with
      | gray=>exact absurd (.inr (.inl rfl)) hx
      | mark=>exact absurd (.inr (.inr rfl)) hx
      | _=>rfl
    · cases i with
      | gray=>exact absurd (.inr (.inl rfl)) hx
      | mark=>exact absurd (.inr (.inr rfl)) hx
      | box=>exact absurd (.inl rfl) hx
      | _=>exact p
  · rintro i hi (rfl|rfl|rfl)
    · refine⟨hbox.congr λi hi=>?_,.inl rfl⟩
      unfold ins
      by_cases e3:i=83
      · subst e3;rfl
      by_cases e4:i=84
      · subst e4;rfl
      by_cases e2:i=82
      · subst e2;rfl
      · rw[if_neg e4,if_neg e3,if_neg e2]
        unfold cellOf
        simp only [e2,e3,if_false]
        by_cases h0:i=0
        · simp[h0]
        by_cases h1:i=1
        · simp[h1];rfl
        by_cases h2:i<34
        · simp[h0,h1,h2];rfl
        by_cases h3:i<82
        · simp only [h0,h1,h2,h3,if_true,if_false];rfl
        · omega
    · exact⟨(show OwnInts w' base (.slice none 0 0) [] from ⟨⟨by simp,by simp⟩,World.ownsRow_nil _ _ _ _⟩),.inr λk e=>by cases e⟩
    · exact⟨λ_=>⟨b,rfl,hS⟩,.inr λk e=>by cases e;exact⟨hb,hbl⟩⟩
  · rintro i j k hi hj (rfl|rfl|rfl) (rfl|rfl|rfl) h1 h2 hk
    all_goals first
      | rfl
      | (exfalso;have:=(h.lo .box k trivial h1).2;omega)
      | (exfalso;have:=(h.lo .box k trivial h2).2;omega)
      | (exfalso;have e:(none:Option Nat)=some k:=h1;cases e)
      | (exfalso;have e:(none:Option Nat)=some k:=h2;cases e)
def Seen (M M':CM) (P:Int->Prop):Prop:=∃gray S,M' = { M with going:=true,gray:=gray,S:=S }/\gray.Nodup/\S.Nodup/\(∀y,y ∈ S ↔ y ∈ gray)/\∀y,y ∈ gray ↔ y≠0/\P y
theorem Seen.push {M M':CM} {P:Int->Prop} (h:Seen M M' P) (x:Int):Seen M (M'.push x) (λy=>P y\/y=x):=by
  obtain⟨g,S,rfl,ng,nS,hS,hg⟩:=h
  refine⟨pushG x g S,pushS x S,rfl,?_,?_,λy=>?_,λy=>?_⟩
  · unfold pushG
    split
    · exact ng
    · rename_i hn
      rw[List.nodup_append]
      exact⟨ng,by simp,λa ha b hb e=>hn (.inr ((hS x).2 (by simp at hb;subst hb;rw[<- e];exact ha)))⟩
  · unfold pushS
    split
    · exact nS
    · rename_i hn
      exact List.nodup_cons.2 ⟨λh=>hn (.inr h),nS⟩
  · unfold pushG pushS
    split
    · exact hS y
    · simp only [List.mem_cons,List.mem_append,List.not_mem_nil,or_false,hS y]
      exact or_comm
  · unfold pushG
    split
    · rename_i hn
      rw[hg y]
      constructor
      · rintro ⟨a,b⟩;exact⟨a,.inl b⟩
      · rintro ⟨a,b|b⟩
        · exact⟨a,b⟩
        · subst b
          rcases hn with hn|hn
          · exact absurd hn a
          · exact (hg y).1 ((hS y).1 hn)
    · rename_i hn
      simp only [List.mem_append,List.mem_singleton,hg y]
      constructor
      · rintro (⟨a,b⟩|b)
        · exact⟨a,.inl b⟩
        · subst b;exact⟨λe=>hn (.inl e),.inr rfl⟩
      · rintro ⟨a,b|b⟩
        · exact .inl ⟨a,b⟩
        · exact .inr b
theorem Seen.at {M M':CM} {P:Int->Prop} (h:Seen M M' P) (p:Pos):M'.at p=M.at p:=by
  obtain⟨g,S,rfl,_⟩:=h
  cases p <;> rfl
theorem Seen.see {M M':CM} {P:Int->Prop} (h:Seen M M' P) (p:Pos):Seen M (M'.see (M'.at p)) (λy=>P y\/M.at p=(1,y)):=by
  have hp:=h.push (M.at p).2
  rw[h.at p]
  have hgo:M'.going=true:=by obtain⟨g,S,rfl,_⟩:=h;rfl
  unfold CM.see
  by_cases e:(M.at p).1=1
  · rw[if_pos ⟨hgo,e⟩]
    have e2:(λy=>P y\/M.at p=(1,y))=λy=>P y\/y=(M.at p).2:=by
      funext y
      refine propext (or_congr_right ⟨λh=>by rw[h],λh=>Prod.ext e h.symm⟩)
    rw[e2];exact hp
  · rw[if_neg (λh=>e h.2)]
    have e2:(λy=>P y\/M.at p=(1,y))=P:=by
      funext y
      refine propext ⟨λh=>h.resolve_right λh=>e (by rw[h]),.inl⟩
    rw[e2];exact h
theorem Seen.steps {M:CM}:∀(ps:List Pos) {M':CM} {P:Int->Prop},Seen M M' P->Seen M (steps (λp M=>M.see (M.at p)) ps M') (λy=>P y\/∃p ∈ ps,M.at p=(1,y))
  | [],M',P,h=>by simpa [Go.Proofs.Ytbeilcaadpopmab.steps] using h
  | p :: ps,M',P,h=>by
    have h2:=Seen.steps ps (h.see p)
    have e:(λy=>P y\/∃q ∈ p :: ps,M.at q=(1,y))=λy=>(P y\/M.at p=(1,y))\/∃q ∈ ps,M.at q=(1,y):=by
      funext y
      simp[or_assoc]
    rw[e];exact h2
theorem Seen.mono {M M':CM} {P Q:Int->Prop} (h:Seen M M' P) (e:∀y,P y ↔ Q y):Seen M M' Q:=by
  obtain⟨g,S,h0,ng,nS,hS,hg⟩:=h
  exact⟨g,S,h0,ng,nS,hS,λy=>by rw[hg y,e y]⟩
theorem nodup_few {L:List Int} (h:L.Nodup) (hb:∀y ∈ L,0<=y/\y<1000):L.length<=1000:=by
  have h1:L.length<=((List.range 1000).map λ(k:Nat)=>(k:Int)).length :=
    List.Nodup.length_le_of_subset h λp hp=>List.mem_map.2 ⟨p.toNat,List.mem_range.2 (by have:=hb p hp;omega),by have:=hb p hp;omega⟩
  simpa using h1
theorem Seen.few {M M':CM} {P:Int->Prop} (h:Seen M M' P) (hb:∀y,P y->0<=y/\y<1000):M'.S.length<=1000/\M'.gray.length<=1000:=by
  obtain⟨g,S,rfl,ng,nS,hS,hg⟩:=h
  exact⟨nodup_few nS λy hy=>hb y ((hg y).1 ((hS y).1 hy)).2,nodup_few ng λy hy=>hb y ((hg y).1 hy).2⟩
theorem Seen.start (M:CM):Seen M M.marks (λ_=>False):=⟨[],[],rfl,by simp,by simp,λy=>by simp,λy=>by simp⟩
theorem mem_posT {M:CM} {t:Nat} {p:Pos}:p ∈ posT M t ↔ (∃r,r<4/\p = .reg t r)\/(∃r,r<4/\p = .saved t r)\/∃i,i<(M.txs t).undo.length/\p = .was t i:=by
  unfold posT
  simp only [List.mem_append,List.mem_map,List.mem_range,or_assoc,eq_comm]
theorem held_pos {M:CM} (y:Int):M.held y ↔ (∃p ∈ posL M 4,M.at p=(1,y))\/∃t,t<4/\((M.txs t).reads y≠none\/(M.txs t).owned y≠none):=by
  unfold CM.held posL
  simp only [List.mem_flatMap,List.mem_range]
  constructor
  · rintro ⟨t,ht,⟨r,hr,e⟩|⟨r,hr,e⟩|⟨u,hu,e⟩|e|e⟩
    · exact .inl ⟨.reg t r,⟨t,ht,mem_posT.2 (.inl ⟨r,hr,rfl⟩)⟩,e⟩
    · exact .inl ⟨.saved t r,⟨t,ht,mem_posT.2 (.inr (.inl ⟨r,hr,rfl⟩))⟩,e⟩
    · obtain⟨i,hi,rfl⟩:=List.mem_iff_getElem.1 hu
      refine .inl ⟨.was t i,⟨t,ht,mem_posT.2 (.inr (.inr ⟨i,hi,rfl⟩))⟩,?_⟩
      unfold CM.at
      dsimp only
      rw[List.getD_eq_getElem?_getD,List.getElem?_eq_getElem hi]
      exact e
    · exact .inr ⟨t,ht,.inl e⟩
    · exact .inr ⟨t,ht,.inr e⟩
  · rintro (⟨p,⟨t,ht,hp⟩,e⟩|⟨t,ht,e|e⟩)
    · rcases mem_posT.1 hp with ⟨r,hr,rfl⟩|⟨r,hr,rfl⟩|⟨i,hi,rfl⟩
      · exact⟨t,ht,.inl ⟨r,hr,e⟩⟩
      · exact⟨t,ht,.inr (.inl ⟨r,hr,e⟩)⟩
      · refine⟨t,ht,.inr (.inr (.inl ⟨(M.txs t).undo[i],List.getElem_mem hi,?_⟩))⟩
        unfold CM.at at e
        dsimp only at e
        rw[List.getD_eq_getElem?_getD,List.getElem?_eq_getElem hi] at e
        exact e
    · exact⟨t,ht,.inr (.inr (.inr (.inl e)))⟩
    · exact⟨t,ht,.inr (.inr (.inr (.inr e)))⟩
theorem pos_ok {M:CM} {p:Pos} (h:p ∈ posL M 4):p.ok M:=by
  unfold posL at h
  simp only [List.mem_flatMap,List.mem_range] at h
  obtain⟨t,ht,hp⟩:=h
  rcases mem_posT.1 hp with ⟨r,hr,rfl⟩|⟨r,hr,rfl⟩|⟨i,hi,rfl⟩
  · exact⟨ht,hr⟩
  · exact⟨ht,hr⟩
  · exact⟨ht,hi⟩
theorem ok_pos {M:CM} {p:Pos} (h:p.ok M):p ∈ posL M 4:=by
  unfold posL
  simp only [List.mem_flatMap,List.mem_range]
  cases p with
  | reg t r=>exact⟨t,h.1,mem_posT.2 (.inl ⟨r,h.2,rfl⟩)⟩
  | saved t r=>exact⟨t,h.1,mem_posT.2 (.inr (.inl ⟨r,h.2,rfl⟩))⟩
  | was t i=>exact⟨t,h.1,mem_posT.2 (.inr (.inr ⟨i,h.2,rfl⟩))⟩
set_option maxRecDepth 100000 in
set_option maxHeartbeats 2000000 in
theorem collect_any (base:Nat) (w:World) (B:Nat) (nm:Nm) (M:CM) (h:Mach base w B nm M) (ok:∀y,M.held y->0<=y/\y<1000) (okv:∀p:Pos,p.ok M->I64 (M.at p).1/\I64 (M.at p).2) :
    Calls Try.prog 81 #[.pointer (some ⟨B,0,none⟩)] w (RetC 0 base w B nm (λc M'=>(M.going=true/\c=5/\M' = M)\/(M.going=false/\c=0/\M.Collected M'))):=by
  have HM:=Lib.hid h;have HOK:=Lib.hid ok;have HOV:=Lib.hid okv
  clear okv
  have hB:=h.lt
  have c82:=h.c82
  by_cases hg:M.going=true
  · have HG:=Lib.hid hg
    rw[hg] at c82
    clear h ok hg
    go_enter Try.func81,Try.ntmps81
    go_wp2_with fail
    refine bodyPost_ret (v:=.int .i64 5) (by simp[results,Try.results81,go_sem, *]) rfl ?_
    exact⟨5,M,.inl ⟨HG.out,rfl,rfl⟩,rfl,nm,HM.out.below (by ((repeat first|exact bR _ _|with_reducible first|refine bN ?_|refine bD ?_|refine bA ?_ ?_|refine bS ?_ ?_);all_goals first|exact Nat.le_refl _|(simp;done)|omega|(simp;omega))),(Went.refl w B nm).below (by ((repeat first|exact bR _ _|with_reducible first|refine bN ?_|refine bD ?_|refine bA ?_ ?_|refine bS ?_ ?_);all_goals first|exact Nat.le_refl _|(simp;done)|omega|(simp;omega))) HM.out.has_lt⟩
  · have HG:=Lib.hid hg
    have hg':M.going=false:=by simpa using hg
    rw[hg'] at c82
    have HG':=Lib.hid hg'
    clear h ok hg hg'
    go_enter Try.func81,Try.ntmps81
    go_upto_region 3 with fail
    obtain⟨X,hX⟩:∃X,X=w.heap.size:=⟨_,rfl⟩
    obtain⟨w1,hw1⟩:∃w1,w1=w.alloc (.cells #[.pointer (some ⟨B,0,none⟩)] 108):=⟨_,rfl⟩
    have HB1:Hid (Below w.heap.size w w1):=by rw[Hid,hw1];exact (by ((repeat first|exact bR _ _|with_reducible first|refine bN ?_|refine bD ?_|refine bA ?_ ?_|refine bS ?_ ?_);all_goals first|exact Nat.le_refl _|(simp;done)|omega|(simp;omega)))
    have HR:Hid (RowAt w1 X [.pointer (some ⟨B,0,none⟩)]):=by rw[Hid,hw1,hX];exact RowAt.alloc _ _ _
    have HM1:=Lib.hid (HM.out.below HB1.out)
    have HZ1:Hid (w1.heap.size=X+1):=by rw[Hid,hw1,hX];simp
    have HX:=Lib.hid hX
    rw[<- hw1]
    clear hw1 c82
    rw[<- hX]
    clear hX
    have hB1:=HM1.out.lt
    have x0:=(HR.out.2 0 (by simp)).1
    have hXB:X≠B:=by have:=HX.out;omega
    have hbx:=HM1.out.box
    have c82:=(hbx 82 (by omega)).1;have z82:=(hbx 82 (by omega)).2
    have c83:=(hbx 83 (by omega)).1;have z83:=(hbx 83 (by omega)).2
    have c84:=(hbx 84 (by omega)).1;have z84:=(hbx 84 (by omega)).2
    clear hbx
    have HKEEP:Hid (∀W,Chg (λk=>k=B) w1 W->W.cell? ⟨X,0,none⟩=some (.pointer (some ⟨B,0,none⟩))/\Chg (λk=>k=B) w1 W):=λW hW=>⟨(hW.cell HR.out.1 hXB 0).1.trans x0,hW⟩
    have hmm:=@run_makeMap Try.prog
    go_region_held3 (λW=>W.cell? ⟨X,0,none⟩=some (.pointer (some ⟨B,0,none⟩))/\Chg (λk=>k=B) w1 W)
      ((refine HKEEP.out _ ?_;repeat (first|with_reducible exact Chg.refl _ _|with_reducible refine Chg.trans ?_ (Chg.alloc _ _ _)|with_reducible refine Chg.trans ?_ (Chg.setB _ _ _ _)|with_reducible refine Chg.trans ?_ (Chg.drew _ _))))
      (fail)
    all_goals (
      rename_i hHeld
      clear hHeld HKEEP x0 c82 z82 c83 z83 c84 z84 hmm hB1
      obtain⟨b,hb⟩:∃b,b=w1.heap.size:=⟨_,rfl⟩
      rw[<- hb]
      obtain⟨w2,hw2⟩:∃w2,w2=((((w1.setCell ⟨B,82,none⟩ (.bool true)).setCell ⟨B,83,none⟩ (.slice none 0 0)).setCell ⟨B,84,none⟩ (.map (some b))).alloc (.map #[] 0)).drew:=⟨_,rfl⟩
      rw[<- hw2]
      have HBX2:Hid (Box w2 B (ins (ins (ins (cellOf nm M) 82 (.bool true)) 83 (.slice none 0 0)) 84 (.map (some b)))):=by
        rw[Hid,hw2]
        refine ((((HM1.out.box.set (o:=82) (by omega) (.bool true)).set (o:=83) (by omega) (.slice none 0 0)).set (o:=84) (by omega) (.map (some b))).keep ?_:_)
        refine Below.heap_alloc _ _ _ ?_
        have:=HM1.out.lt
        simpa [World.setCell] using this
      have HC2:Hid (Chg (λk=>k=B) w1 w2):=by
        rw[Hid,hw2]
        exact (((((Chg.setB _ _ _ _).trans (Chg.setB _ _ _ _)).trans (Chg.setB _ _ _ _)).trans (Chg.alloc _ _ _)).trans (Chg.drew _ _))
      have HS2:Hid (SetMap w2 b 0 []):=by
        have h1:=setMap_made (((w1.setCell ⟨B,82,none⟩ (.bool true)).setCell ⟨B,83,none⟩ (.slice none 0 0)).setCell ⟨B,84,none⟩ (.map (some b)))
        have h2:(((w1.setCell ⟨B,82,none⟩ (.bool true)).setCell ⟨B,83,none⟩ (.slice none 0 0)).setCell ⟨B,84,none⟩ (.map (some b))).heap.size=b:=by rw[hb];simp[World.setCell]
        rw[h2] at h1
        rw[Hid,hw2]
        exact h1.keep rfl
      obtain⟨q1,q2⟩:=HM1.out.marks HC2.out HBX2.out HS2.out (Nat.le_of_eq hb.symm)
      have HM2:=Lib.hid q1;have HW2:=Lib.hid q2
      obtain⟨nm2,hnm2⟩:∃nm2,nm2=({ nm with gv:=.slice none 0 0,mb:=some b }:Nm):=⟨_,rfl⟩
      rw[<- hnm2] at HM2 HW2
      have HNH:Hid (∀k,Has B nm k->k<X):=λk hk=>by have:=HM.out.has_lt k hk;have:=HX.out;omega
      have HXC:Hid (∀W nm',Went 0 w1 W B nm nm'->W.cell? ⟨X,0,none⟩=some (.pointer (some ⟨B,0,none⟩))/\X<W.heap.size):=λW nm' hW =>
        ⟨(hW.cell HR.out.1 (λhn=>by have:=HNH.out _ hn;omega) 0).1.trans (HR.out.2 0 (by simp)).1,Nat.lt_of_lt_of_le HR.out.1 hW.chg.size⟩
      clear q1 q2 hnm2 hw2 hb HBX2 HC2 HS2
      have HEACH:Hid (Calls Try.prog 96 #[.pointer (some ⟨B,0,none⟩),.func (.func 97) #[] #[.pointer (some ⟨X,0,none⟩)]] w2 (RetM 0 base w2 B nm2 (steps (λp M=>M.see (M.at p)) (posL M 4) M.marks) (.tuple #[]))):=by
        refine each_any 97 #[.pointer (some ⟨X,0,none⟩)] (λ_ _=>by kernel_rfl) base w2 B nm2 M.marks HM2.out (λM'=>∃P,Seen M M' P/\∀y,P y->M.held y) (λp M=>M.see (M.at p)) ⟨_,Seen.start M,λy h=>h.elim⟩ ?_ ?_ ?_
        · rintro M' p ⟨P,h1,h2⟩ hp
          refine⟨_,h1.see p,λy hy=>?_⟩
          rcases hy with hy|hy
          · exact h2 y hy
          · exact (held_pos y).2 (.inl ⟨p,ok_pos hp,hy⟩)
        · rintro M' ⟨P,⟨g,S,rfl,_⟩,_⟩ t
          rfl
        · rintro w' nm' M' p b' o' hm hw ⟨P,h1,h2⟩ hp ha
          have hx:=(HXC.out w' nm' (HW2.out.trans hw)).1
          have hat:=h1.at p
          have hp2:p.ok M:=by
            obtain⟨g,S,rfl,_⟩:=h1
            cases p <;> exact hp
          have hf:=h1.few λy hy=>HOK.out y (h2 y hy)
          have:=collect1_any base w' B nm' M' hm X hx p b' o' hp ha (by rw[hat];exact HOV.out p hp2) (λ_=>by omega)
          exact this
      have x2:=(HXC.out _ _ HW2.out).1
      have hB2:=HM2.out.lt
      go_wp2_with (go_at_call 96;refine HEACH.out.mono ?_;rintro e w3 ⟨rfl,nm3,hM3,hW3⟩;have HM3:=Lib.hid hM3;have HW3:=Lib.hid (HW2.out.trans hW3);clear hM3 hW3)
      have HSEEN:Hid (Seen M (steps (λp M=>M.see (M.at p)) (posL M 4) M.marks) (λy=>False\/∃p ∈ posL M 4,M.at p=(1,y))):=Seen.steps (posL M 4) (Seen.start M)
      obtain⟨M3,hM3⟩:∃M3,M3=steps (λp M=>M.see (M.at p)) (posL M 4) M.marks:=⟨_,rfl⟩
      rw[<- hM3] at HM3 HSEEN
      clear hM3 HEACH x2 HM2 HW2
      have HSEEN0:Hid (Seen M M3 (λy=>(∃p ∈ posL M 4,M.at p=(1,y))\/∃u,u<0/\((M.txs u).reads y≠none\/(M.txs u).owned y≠none))):=HSEEN.out.mono λy=>by simp
      have HSUB:Hid (∀(t:Nat) y,t<=4->((∃p ∈ posL M 4,M.at p=(1,y))\/∃u,u<t/\((M.txs u).reads y≠none\/(M.txs u).owned y≠none))->0<=y/\y<1000):=λt y ht hy=>HOK.out y ((held_pos y).2 (by
        rcases hy with hy|⟨u,hu,hy⟩
        · exact .inl hy
        · exact .inr ⟨u,by omega,hy⟩))
      obtain⟨PP,hPP⟩:∃PP:Nat->Int->Prop,PP=λt y=>(∃p ∈ posL M 4,M.at p=(1,y))\/∃u,u<t/\((M.txs u).reads y≠none\/(M.txs u).owned y≠none):=⟨_,rfl⟩
      have HPP:=Lib.hid hPP
      have HSEEN1:Hid (Seen M M3 (PP 0)):=by rw[Hid,hPP];exact HSEEN0.out
      have HSUB1:Hid (∀(t:Nat) y,t<=4->PP t y->0<=y/\y<1000):=by rw[Hid,hPP];exact HSUB.out
      clear hPP HSEEN HSEEN0 HSUB
      go_loopw [21] (λu wr=>∃(t:Nat) (nm':Nm) (M':CM),u = .int .i64 t/\t<=4/\Mach base wr B nm' M'/\Went 0 w1 wr B nm nm'/\Seen M M' (PP t)) (λu _=>(4 - intOf u).toNat)
      case atStart=>exact⟨0,nm3,M3,rfl,by omega,HM3.out,HW3.out,HSEEN1.out⟩
      case round =>
        obtain⟨t,nm4,M4,rfl,ht,hM4,hW4,hS4⟩:=hrel
        have HM4:=Lib.hid hM4;have HW4:=Lib.hid hW4;have HS4:=Lib.hid hS4
        clear hM4 hW4 hS4 HM3 HW3 HSEEN1
        have x4:=(HXC.out _ _ HW4.out).1
        have hB4:=HM4.out.lt
        have HX4:=Lib.hid (HXC.out _ _ HW4.out).2
        by_cases ht4:t<4
        · have i1 : (t : Int) < 4 := by omega
          obtain⟨_,d9,d10,_,_⟩:=HM4.out.cTx ht4
          have HT4:=Lib.hid ht4
          have HMA:Hid (MapAt wr (nm4.rb t) nm4.N (M.txs t).reads):=by
            have:=HM4.out.part (.reads t) ht4
            obtain⟨g,S,e,_⟩:=HS4.out
            rw[e] at this
            exact this
          clear d10
          go_wp2_with (at_range;refine wpl_rangeMap rfl _ rfl (nm4.rb t) nm4.N (M.txs t).reads rfl HMA.out ?_;intro w5 cnt hrg hg5 hs5)
          go_frame
          obtain⟨r,hr⟩:∃r,r=wr.heap.size:=⟨_,rfl⟩
          rw[<- hr] at hrg hs5 ⊢
          have HR5:=Lib.hid hr
          have HB5:Hid (Below wr.heap.size wr w5):=below_of_grown hg5
          obtain⟨f,hf⟩:∃f,f=(M.txs t).reads:=⟨_,rfl⟩
          rw[<- hf] at hrg
          have HF:=Lib.hid hf
          have hMw5:=HM4.out.below HB5.out
          have hWw5:=HW4.out.below HB5.out HM4.out.has_lt
          have hSw5:Seen M M4 (λy=>PP t y\/(f y≠none/\(f y).isSome=false)):=HS4.out.mono λy=>by
            constructor
            · exact .inl
            · rintro (h|⟨h1,h2⟩)
              · exact h
              · cases e:f y with
                | none=>exact absurd e h1
                | some v=>rw[e] at h2;cases h2
          have hrg5:=hrg
          have HRB:Hid (w1.heap.size<=r):=by rw[Hid,HR5.out];exact HW4.out.chg.size
          have HSUBI:Hid (∀y,PP t y\/f y≠none->0<=y/\y<1000):=λy hy=>HSUB1.out (t+1) y (by omega) (by
            rw[HF.out] at hy
            rw[HPP.out] at hy ⊢
            rcases hy with (hy|⟨u,hu,hy⟩)|hy
            · exact .inl hy
            · exact .inr ⟨u,by omega,hy⟩
            · exact .inr ⟨t,by omega,.inl hy⟩)
          clear hrg hf hr hg5 d9 x4 hB4 HMA
          go_loopw [4] (λu wx=>∃(todo:Int->Bool) (cnt':Nat) (nm':Nm) (M':CM),MRange wx (nm'.rb t) r nm'.N f todo cnt'/\Mach base wx B nm' M'/\Went 0 w1 wx B nm nm'/\Seen M M' (λy=>PP t y\/(f y≠none/\todo y=false))/\nm'.rb t=nm4.rb t/\¬ Has B nm' r/\r<wx.heap.size) (λ_ wx=>mleft wx (nm4.rb t) r)
          case atStart=>exact⟨_,cnt,nm4,M4,hrg5,hMw5,hWw5,hSw5,rfl,λhn=>by have:=HM4.out.has_lt r hn;have:=HR5.out;omega,by omega⟩
          case round =>
            obtain⟨todo,cnt',nm6,M6,hrg6,hM6,hW6,hS6,hrb6,hnr6,hr6⟩:=hrel
            have HRG6:=Lib.hid hrg6;have HM6:=Lib.hid hM6;have HW6:=Lib.hid hW6;have HS6:=Lib.hid hS6;have HRB6:=Lib.hid hrb6;have HNR6:=Lib.hid hnr6
            have x6:=(HXC.out _ _ HW6.out).1
            have hB6:=HM6.out.lt
            clear hrg6 hM6 hW6 hS6 hrb6 hnr6 hMw5 hWw5 hSw5 hrg5
            go_wp2_with (at_next;refine wpl_nextMap rfl _ rfl (nm6.rb t) r nm6.N cnt' f todo rfl HRG6.out ?_ ?_)
            · intro hdone
              have HSD:Hid (Seen M M6 (λy=>PP t y\/f y≠none)):=HS6.out.mono λy=>by simp[hdone]
              clear hdone
              obtain⟨PQ,hPQ⟩:∃PQ:Int->Prop,PQ=λy=>PP t y\/f y≠none:=⟨_,rfl⟩
              have HPQ:=Lib.hid hPQ
              have HSD1:Hid (Seen M M6 PQ):=by rw[Hid,hPQ];exact HSD.out
              clear hPQ HSD HS6 HRG6 HNR6 HRB6
              obtain⟨wo,hwo⟩:∃wo:World,wo=wr:=⟨_,rfl⟩
              rw[<- hwo] at HM6 HW6 x6 hB6 hr6 ⊢
              clear hwo
              obtain⟨_,_,d10,_,_⟩:=HM6.out.cTx HT4.out
              have HMA:Hid (MapAt wo (nm6.ob t) nm6.N (M.txs t).owned):=by
                have:=HM6.out.part (.owned t) HT4.out
                obtain⟨g,S,e,_⟩:=HSD1.out
                rw[e] at this
                exact this
              go_wp2_with (at_range;refine wpl_rangeMap rfl _ rfl (nm6.ob t) nm6.N (M.txs t).owned rfl HMA.out ?_;intro w15 cntb hrg hg5 hs5)
              go_frame
              obtain⟨r2,hr⟩:∃r2,r2=wo.heap.size:=⟨_,rfl⟩
              rw[<- hr] at hrg hs5 ⊢
              have HR15:=Lib.hid hr
              have HB15:Hid (Below wo.heap.size wo w15):=below_of_grown hg5
              obtain⟨f2,hf⟩:∃f,f=(M.txs t).owned:=⟨_,rfl⟩
              rw[<- hf] at hrg
              have HF2:=Lib.hid hf
              have hMw5:=HM6.out.below HB15.out
              have hWw5:=HW6.out.below HB15.out HM6.out.has_lt
              have hSw5:Seen M M6 (λy=>PQ y\/(f2 y≠none/\(f2 y).isSome=false)):=HSD1.out.mono λy=>by
                constructor
                · exact .inl
                · rintro (h|⟨h1,h2⟩)
                  · exact h
                  · cases e:f2 y with
                    | none=>exact absurd e h1
                    | some v=>rw[e] at h2;cases h2
              have hrg5:=hrg
              have HRB2:Hid (w1.heap.size<=r2):=by rw[Hid,HR15.out];exact HW6.out.chg.size
              have HSUBJ:Hid (∀y,PQ y\/f2 y≠none->0<=y/\y<1000):=λy hy=>HSUB1.out (t+1) y (by have:=HT4.out;omega) (by
                rw[HPQ.out,HF.out,HF2.out] at hy
                rw[HPP.out] at hy ⊢
                rcases hy with (( hy|⟨u,hu,hy⟩)|hy)|hy
                · exact .inl hy
                · exact .inr ⟨u,by omega,hy⟩
                · exact .inr ⟨t,by omega,.inl hy⟩
                · exact .inr ⟨t,by omega,.inr hy⟩)
              clear hrg hf hr hg5 d10 x6 hB6 HMA
              go_loopw [5] (λu wx=>∃(todo:Int->Bool) (cnt':Nat) (nm':Nm) (M':CM),MRange wx (nm'.ob t) r2 nm'.N f2 todo cnt'/\Mach base wx B nm' M'/\Went 0 w1 wx B nm nm'/\Seen M M' (λy=>PQ y\/(f2 y≠none/\todo y=false))/\nm'.ob t=nm6.ob t/\¬ Has B nm' r2/\r2<wx.heap.size) (λ_ wx=>mleft wx (nm6.ob t) r2)
              case atStart=>exact⟨_,cntb,nm6,M6,hrg5,hMw5,hWw5,hSw5,rfl,λhn=>by have:=HM6.out.has_lt r2 hn;have:=HR15.out;omega,by omega⟩
              case round =>
                obtain⟨todo2,cnt2',nm16,M16,hrg16,hM16,hW16,hS16,hrb16,hnr16,hr16⟩:=hrel
                have HRG16:=Lib.hid hrg16;have HM16:=Lib.hid hM16;have HW16:=Lib.hid hW16;have HS16:=Lib.hid hS16;have HRB16:=Lib.hid hrb16;have HNR16:=Lib.hid hnr16
                have x16:=(HXC.out _ _ HW16.out).1
                have hB16:=HM16.out.lt
                clear hrg16 hM16 hW16 hS16 hrb16 hnr16 hMw5 hWw5 hSw5 hrg5
                go_wp2_with (at_next;refine wpl_nextMap rfl _ rfl (nm16.ob t) r2 nm16.N cnt2' f2 todo2 rfl HRG16.out ?_ ?_)
                · intro hdone
                  have HSE:Hid (Seen M M16 (PP (t+1))):=HS16.out.mono λy=>by
                    rw[HPQ.out,HPP.out,HF2.out,HF.out]
                    simp only [hdone,and_true]
                    constructor
                    · rintro (((hy|⟨u,hu,hy⟩)|hy)|hy)
                      · exact .inl hy
                      · exact .inr ⟨u,by omega,hy⟩
                      · exact .inr ⟨t,by omega,.inl hy⟩
                      · exact .inr ⟨t,by omega,.inr hy⟩
                    · rintro (hy|⟨u,hu,hy⟩)
                      · exact .inl (.inl (.inl hy))
                      · by_cases e:u=t
                        · subst e
                          rcases hy with hy|hy
                          · exact .inl (.inr hy)
                          · exact .inr hy
                        · exact .inl (.inl (.inr ⟨u,by omega,hy⟩))
                  clear hdone
                  go_wp2_with fail
                  go_roundw
                  case rel=>exact⟨t+1,nm16,M16,by go_num,by omega,HM16.out,HW16.out,HSE.out⟩
                  case measure=>simp[intOf];omega
                · intro x y w7 cnt7 hxI hyI htodo hfx hrg7 hlt hg7 hs7 hen
                  have hrr:=HRG16.out.lt
                  have hXr:X≠r2:=by
                    have h1:=HR.out.1
                    have h2:=HRB2.out
                    omega
                  have hg7':Chg (λk=>k=r2) wr w7:=.ofGrown _ hg7 λi e=>by cases e;rfl
                  have HM7:=Lib.hid (HM16.out.other (hg7'.mono λk _ e=>by subst e;exact HNR16.out))
                  have HW7:=Lib.hid (HW16.out.newer (hg7'.mono λk _ e=>by subst e;exact HRB2.out))
                  have x7:w7.cell? ⟨X,0,none⟩=some (.pointer (some ⟨B,0,none⟩)):=(HXC.out _ _ HW7.out).1
                  have hgo:M16.going=true:=by obtain⟨g,S,e,_⟩:=HS16.out;rw[e]
                  obtain⟨b7,hb7,hmk⟩:=HM7.out.marker hgo
                  have HMK:=Lib.hid hmk;have HB7:=Lib.hid hb7
                  have hfew:=HS16.out.few (λy hy=>HSUBJ.out y (by
                    rcases hy with hy|hy
                    · exact .inl hy
                    · exact .inr hy.1))
                  have HFEW:=Lib.hid hfew
                  have HI:=Lib.hid hxI;have HRG7:=Lib.hid hrg7;have HFX:=Lib.hid hfx;have HTD:=Lib.hid htodo;have HSZ7:=Lib.hid hs7
                  have hB7:=HM7.out.lt
                  clear hmk hb7 hfew hgo hxI hyI htodo hfx hrg7 hg7 hs7 hg7' x16 hB16
                  go_wp2_with (go_at_call 60;refine (push_any (cut w7 base) w7 B 83 b7 base nm16.gv M16.gray M16.S x HMK.out HI.out (by have:=HFEW.out;omega) (by have:=HFEW.out;omega)).mono ?_;rintro e w8 ⟨rfl,gv8,hM8,hT8⟩;have HM8:=Lib.hid hM8;have HT8:=Lib.hid hT8;clear hM8 hT8)
                  obtain⟨q1,q2⟩:=HM7.out.turned HB7.out HM8.out HT8.out
                  have HQ1:=Lib.hid q1;have HQ2:=Lib.hid q2
                  have HMR8:Hid (MRange w8 (nm16.ob t) r2 nm16.N f2 (strike todo2 x) cnt7):=HRG7.out.keep (λk hk=>HT8.out.2.1 k (HM7.out.lo (.owned t) k HT4.out hk).2
                      (λe=>by have:=HM7.out.apart (.owned t) .box k HT4.out trivial hk (by rw[e];rfl);cases this)
                      (λe=>by have:=HM7.out.apart (.owned t) .mark k HT4.out trivial hk (by rw[e];exact HB7.out);cases this)
                      (λe=>by have:=HM7.out.apart (.owned t) .gray k HT4.out trivial hk e;cases this))
                    (HT8.out.2.1 r2 (by have:=HRG7.out.lt;exact this) (λe=>HNR16.out ⟨.box,trivial,by rw[e];rfl⟩) (λe=>HNR16.out ⟨.mark,trivial,by rw[e];exact HB7.out⟩) (λe=>HNR16.out ⟨.gray,trivial,e⟩))
                  clear q1 q2
                  go_roundw
                  case rel =>
                    refine⟨strike todo2 x,cnt7,{ nm16 with gv:=gv8 },_,HMR8.out,HQ1.out,HW7.out.trans HQ2.out,?_,HRB16.out,HQ2.out.not_has (by have:=HRG7.out.lt;exact this) HNR16.out,Nat.lt_of_lt_of_le HRG7.out.lt HQ2.out.chg.size⟩
                    refine (HS16.out.push x).mono λy=>?_
                    unfold strike
                    by_cases e:y=x
                    · subst e
                      simp[HFX.out]
                    · simp[e]
                  case measure =>
                    have e1:=HMR8.out.left_eq
                    have e2:=HRG16.out.left_eq
                    rw[HRB16.out] at e1 e2
                    rw[e1,e2];exact hlt
            · intro x y w7 cnt7 hxI hyI htodo hfx hrg7 hlt hg7 hs7 hen
              have hrr:=HRG6.out.lt
              have hXr:X≠r:=by
                have h1:=HR.out.1
                have h2:=HRB.out
                omega
              have hg7':Chg (λk=>k=r) wr w7:=.ofGrown _ hg7 λi e=>by cases e;rfl
              have HM7:=Lib.hid (HM6.out.other (hg7'.mono λk _ e=>by subst e;exact HNR6.out))
              have HW7:=Lib.hid (HW6.out.newer (hg7'.mono λk _ e=>by subst e;exact HRB.out))
              have x7:w7.cell? ⟨X,0,none⟩=some (.pointer (some ⟨B,0,none⟩)):=(HXC.out _ _ HW7.out).1
              have hgo:M6.going=true:=by obtain⟨g,S,e,_⟩:=HS6.out;rw[e]
              obtain⟨b7,hb7,hmk⟩:=HM7.out.marker hgo
              have HMK:=Lib.hid hmk;have HB7:=Lib.hid hb7
              have hfew:=HS6.out.few (λy hy=>HSUBI.out y (by
                rcases hy with hy|hy
                · exact .inl hy
                · exact .inr hy.1))
              have HFEW:=Lib.hid hfew
              have HI:=Lib.hid hxI;have HRG7:=Lib.hid hrg7;have HFX:=Lib.hid hfx;have HTD:=Lib.hid htodo;have HSZ7:=Lib.hid hs7
              have hB7:=HM7.out.lt
              clear hmk hb7 hfew hgo hxI hyI htodo hfx hrg7 hg7 hs7 hg7' x6 hB6
              go_wp2_with (go_at_call 60;refine (push_any (cut w7 base) w7 B 83 b7 base nm6.gv M6.gray M6.S x HMK.out HI.out (by have:=HFEW.out;omega) (by have:=HFEW.out;omega)).mono ?_;rintro e w8 ⟨rfl,gv8,hM8,hT8⟩;have HM8:=Lib.hid hM8;have HT8:=Lib.hid hT8;clear hM8 hT8)
              obtain⟨q1,q2⟩:=HM7.out.turned HB7.out HM8.out HT8.out
              have HQ1:=Lib.hid q1;have HQ2:=Lib.hid q2
              have HMR8:Hid (MRange w8 (nm6.rb t) r nm6.N f (strike todo x) cnt7):=HRG7.out.keep (λk hk=>HT8.out.2.1 k (HM7.out.lo (.reads t) k HT4.out hk).2
                  (λe=>by have:=HM7.out.apart (.reads t) .box k HT4.out trivial hk (by rw[e];rfl);cases this)
                  (λe=>by have:=HM7.out.apart (.reads t) .mark k HT4.out trivial hk (by rw[e];exact HB7.out);cases this)
                  (λe=>by have:=HM7.out.apart (.reads t) .gray k HT4.out trivial hk e;cases this))
                (HT8.out.2.1 r (by have:=HRG7.out.lt;exact this) (λe=>HNR6.out ⟨.box,trivial,by rw[e];rfl⟩) (λe=>HNR6.out ⟨.mark,trivial,by rw[e];exact HB7.out⟩) (λe=>HNR6.out ⟨.gray,trivial,e⟩))
              clear q1 q2
              go_roundw
              case rel =>
                refine⟨strike todo x,cnt7,{ nm6 with gv:=gv8 },_,HMR8.out,HQ1.out,HW7.out.trans HQ2.out,?_,HRB6.out,HQ2.out.not_has (by have:=HRG7.out.lt;exact this) HNR6.out,Nat.lt_of_lt_of_le HRG7.out.lt HQ2.out.chg.size⟩
                refine (HS6.out.push x).mono λy=>?_
                unfold strike
                by_cases e:y=x
                · subst e
                  simp[HFX.out]
                · simp[e]
              case measure =>
                have e1:=HMR8.out.left_eq
                have e2:=HRG6.out.left_eq
                rw[HRB6.out] at e1 e2
                rw[e1,e2];exact hlt
        · have ht5:t=4:=by omega
          subst ht5
          go_wp2_with fail
          refine bodyPost_ret (v:=.int .i64 0) (by simp[results,Try.results81,go_sem, *]) rfl ?_
          refine⟨0,M4,.inr ⟨HG'.out,rfl,?_⟩,rfl,nm4,HM4.out,HW4.out.after HB1.out⟩
          obtain⟨g,S,h1,h2,h3,h4,h5⟩:=HS4.out
          refine⟨g,S,h1,h2,h3,h4,λy=>(h5 y).trans (and_congr_right λ_=>?_)⟩
          rw[HPP.out,held_pos])
end Go.Proofs.Ytbeilcaadpopmab
namespace Go.Proofs.Ytbeilcaadpopmab
open Go.RowKit Go.Maps
theorem FunRange.cnt_le {w:World} {b r n cnt:Nat} {f:Int->Option Int} {todo:Int->Bool} (h:FunRange w b r n f todo cnt):cnt<=n:=by
  obtain⟨D,left,⟨es,clock,since,seen,c0,g1,g2,g3,g4,g5,g6,g7,_⟩,_⟩:=h
  rw[<- g7]
  exact Nat.le_trans (Array.size_filter_le) g3
theorem MRange.cnt_le {w:World} {b:Option Nat} {r N cnt:Nat} {f:Int->Option Int} {todo:Int->Bool} (h:MRange w b r N f todo cnt):cnt<=N:=by
  cases b with
  | none=>rw[h.2.2.1];exact Nat.zero_le _
  | some b=>obtain⟨n,hn,h⟩:=h;exact Nat.le_trans h.cnt_le hn
theorem run_funLook {w:World} {b n:Nat} {f:Int->Option Int} (h:FunMap w b n f) {X:Int} (hX:I64 X):(Instr.lookup 71 (.map (some b)) (.int .i64 X) false).run Try.prog w = .ok (.int .i64 ((f X).getD 0)) w:=by
  obtain⟨D,h1,h2,h3⟩:=h
  obtain⟨v,ps,hrun,hv⟩:=h1.lookup lawI Try.underlying71 (zeroI w) (plainElem_int Try.underlying3 (wf_of_i64 (x:=0) (by unfold I64;omega))) (keyOf_int_mk Try.underlying3 (wf_of_i64 hX))
  obtain⟨c,rfl,hc⟩:=plainElem_int_inv Try.underlying3 hv
  rw[(h3 X).2] at hc
  simp only [Prod.mk.injEq,DataW.lit.injEq,Lit.int.injEq,true_and] at hc
  rw[hc.1.1]
  exact hrun
theorem still_funLook {ops:Array Oper} {rest:List Oper} {o:Oper} {a:Act} {Q:Act->Prop} {w:World} (hg:o.guard=none) (m x:Operand)
    (hop:o.op=Op.lookup 71 m x false) (b n:Nat) (f:Int->Option Int) (hm:a.eval m = .map (some b)) (hS:FunMap w b n f) (X:Int) (hx:a.eval x = .int .i64 X) (hX:I64 X)
    (h:wpStill Try.prog ops w Q rest (a.put o.dst (.int .i64 ((f X).getD 0)))):wpStill Try.prog ops w Q (o :: rest) a:=by
  unfold wpStill
  have hw:Region.wanted o (yielded ops a.tmps)=true:=by simp[Region.wanted,hg]
  rw[if_pos hw]
  unfold Oper.still execOp
  simp only [hop,hm,hx,run_funLook hS hX,Sem.run_bind,Sem.run_pure,Result.andThen_ok]
  exact⟨rfl,h⟩
def CM.putN (M:CM) (p:Pos) (n:Int):CM:=match p with
  | .reg t r=>M.setReg t r ((M.regs t r).1,n)
  | .saved t r=>M.setTx t { M.txs t with saved:=pt (M.txs t).saved r (((M.txs t).saved r).1,n) }
  | .was t i=>M.setTx t { M.txs t with undo:=(M.txs t).undo.modify i (λu=>{ u with was:=(u.was.1,n) }) }
theorem cellsU_was (n:Int):∀(us:List CU) (i:Nat),i<us.length->cellsU (us.modify i (λu=>{ u with was:=(u.was.1,n) }))=(cellsU us).set (i * 4+3) (.int .i64 n)
  | [],i,h=>by simp at h
  | u :: us,0,h=>by simp[cellsU]
  | u :: us,i+1,h=>by
    have ih:=cellsU_was n us i (by simpa using h)
    have e:∀(u:CU) us,cellsU (u :: us) = .int .i64 (u.p:Int) :: .int .i64 (u.k:Int) :: .int .i64 u.was.1 :: .int .i64 u.was.2 :: cellsU us:=λ_ _=>rfl
    rw[List.modify_succ_cons,e,e,ih,show (i+1) * 4+3=i * 4+3+1+1+1+1 by omega]
    simp only [List.set_cons_succ]
theorem cellsU_place (q:Nat):∀(us:List CU) (i:Nat),i<us.length->cellsU (us.modify i (λu=>{ u with p:=q }))=(cellsU us).set (i * 4) (.int .i64 q)
  | [],i,h=>by simp at h
  | u :: us,0,h=>by simp[cellsU]
  | u :: us,i+1,h=>by
    have ih:=cellsU_place q us i (by simpa using h)
    have e:∀(u:CU) us,cellsU (u :: us) = .int .i64 (u.p:Int) :: .int .i64 (u.k:Int) :: .int .i64 u.was.1 :: .int .i64 u.was.2 :: cellsU us:=λ_ _=>rfl
    rw[List.modify_succ_cons,e,e,ih,show (i+1) * 4=i * 4+1+1+1+1 by omega]
    simp only [List.set_cons_succ]
theorem OwnU.set {w:World} {base g n c:Nat} {us us':List CU} (h:OwnU w base (.slice (some ⟨g,0,none⟩) n c) us) {j:Nat} (hj:j<us.length * 4) {x:Value} (hl:us'.length=us.length) (hx:cellsU us' = (cellsU us).set j x) :
    OwnU (w.setCell ⟨g,j,none⟩ x) base (.slice (some ⟨g,0,none⟩) n c) us':=by
  obtain⟨h1,h3,h4⟩:=h
  refine⟨by omega,by rw[cellsU_len],?_⟩
  rcases h4 with ⟨e,_⟩|⟨g',cap,cur,e,hg,hh,hn,hc,hs,ht⟩
  · cases e
  · simp only [Value.slice.injEq,Option.some.injEq,Addr.mk.injEq] at e
    obtain⟨⟨rfl,_⟩,rfl,rfl⟩:=e
    refine .inr ⟨g,c,cur.setIfInBounds j x,by rw[hl],hg,?_,by rw[hl];exact hn,hc,by simpa using hs,?_⟩
    · simp only [World.setCell,Array.getElem?_modify,if_true,hh]
      rfl
    · rw[hx,<- ht,hl]
      simp only [Array.toList_setIfInBounds]
      rw[List.take_set]
theorem Mach.undoOnly {base B:Nat} {w w':World} {nm:Nm} {M:CM} (h:Mach base w B nm M) {t:Nat} (ht:t<4) (us:List CU) (hc:Chg (λk=>(nm.uv t).ownBlock=some k) w w') (hO:OwnU w' base (nm.uv t) us) :
    Mach base w' B nm (M.setTx t { M.txs t with undo:=us })/\Went 0 w w' B nm nm:=by
  have hT:∀u,((M.setTx t { M.txs t with undo:=us }).txs u).reads=(M.txs u).reads/\((M.setTx t { M.txs t with undo:=us }).txs u).owned=(M.txs u).owned/\((M.setTx t { M.txs t with undo:=us }).txs u).op=(M.txs u).op/\((M.setTx t { M.txs t with undo:=us }).txs u).saved=(M.txs u).saved/\(u≠t->((M.setTx t { M.txs t with undo:=us }).txs u).undo=(M.txs u).undo):=λu=>by
    by_cases e:u=t
    · subst e
      simp[CM.setTx,pt]
    · simp[CM.setTx,pt,e]
  refine h.upd (λi=>i = .undo t) 0 (Nat.le_refl _) (hc.mono λk _ e=>⟨.undo t,ht,rfl,e⟩) ?_ ?_ ?_ (λu hu ho=>h.opn u hu (by rw[<- (hT u).2.2.1];exact ho))
  · intro i hi hx
    refine⟨by cases i <;> rfl,λp=>?_⟩
    cases i with
    | words=>exact p
    | box =>
      refine Box.congr p λi hi=>?_
      unfold cellOf txC
      rw[(hT _).2.2.1,(hT _).2.2.2.1]
      rfl
    | reads u=>show MapAt w' (nm.rb u) nm.N _;rw[(hT u).1];exact p
    | owned u=>show MapAt w' (nm.ob u) nm.N _;rw[(hT u).2.1];exact p
    | undo u =>
      have hu:u≠t:=λe=>hx (by rw[e])
      show OwnU w' base (nm.uv u) _
      rw[(hT u).2.2.2.2 hu]
      exact p
    | gray=>exact p
    | mark=>exact p
  · rintro i hi rfl
    refine⟨?_,.inl rfl⟩
    show OwnU w' base (nm.uv t) _
    have e:((M.setTx t { M.txs t with undo:=us }).txs t).undo=us:=by simp[CM.setTx,pt]
    rw[e];exact hO
  · rintro i j k hi hj rfl rfl _ _ _
    rfl
theorem Mach.putN {base B:Nat} {w:World} {nm:Nm} {M:CM} (h:Mach base w B nm M) {p:Pos} {b o:Nat} (hp:p.ok M) (ha:PosAt B nm p b o) (n:Int) :
    Mach base (w.setCell ⟨b,o+1,none⟩ (.int .i64 n)) B nm (M.putN p n)/\Went 0 w (w.setCell ⟨b,o+1,none⟩ (.int .i64 n)) B nm nm:=by
  cases p with
  | reg t r =>
    obtain⟨ht,hr⟩:=hp
    obtain⟨rfl,rfl⟩:=ha
    refine h.storeReg ht hr ((M.regs t r).1,n) (Chg.set _ _ _ _ rfl) ((h.box.set (by omega) _).congr λi hi=>?_)
    unfold ins insL
    obtain⟨e1,e2⟩:=cellOf_reg nm M ht hr
    by_cases e:i=2+t * 8+r * 2+1
    · subst e
      rw[if_pos rfl,if_pos (by simp),show 2+t * 8+r * 2+1 - (2+t * 8+r * 2)=1 by omega]
      rfl
    · rw[if_neg e]
      by_cases e0:i=2+t * 8+r * 2
      · subst e0
        rw[if_pos (by simp),Nat.sub_self,e1]
        rfl
      · rw[if_neg (by simp;omega)]
  | saved t r =>
    obtain⟨ht,hr⟩:=hp
    obtain⟨rfl,rfl⟩:=ha
    refine h.boxOnly (Chg.set _ _ _ _ rfl) ((h.box.set (by omega) _).congr λi hi=>?_) rfl (λu=>?_) rfl rfl id (λu hu=>?_)
    · unfold ins
      by_cases e:i=34+t * 12+1+r * 2+1
      · subst e
        rw[if_pos rfl,(cellOf_saved2 nm _ ht hr).2]
        simp[CM.putN,CM.setTx,pt]
      · rw[if_neg e]
        by_cases hin:34+t * 12<=i/\i<34+t * 12+12
        · obtain⟨q,hq,rfl⟩:∃q,q<12/\i=34+t * 12+q:=⟨i - (34+t * 12),by omega,by omega⟩
          rw[cellOf_tx nm M ht hq,cellOf_tx nm _ ht hq]
          have e2:(M.putN (.saved t r) n).txs t={ M.txs t with saved:=pt (M.txs t).saved r (((M.txs t).saved r).1,n) }:=pt_same _ _ _
          rw[e2]
          unfold txC
          by_cases q0:q=0
          · simp[q0]
          · by_cases q9:q<9
            · simp only [q0,q9,if_false,if_true]
              by_cases hrr:(q - 1) / 2=r
              · rw[hrr,pt_same]
                unfold valC
                have:(q - 1) % 2=0:=by omega
                rw[if_pos this,if_pos this]
              · rw[pt_other _ _ hrr]
            · simp[q0,q9]
        · exact (cellOf_other nm nm M (M.putN (.saved t r) n) t ht rfl rfl rfl (λu hu=>⟨pt_other _ _ hu,rfl,rfl,rfl⟩) rfl rfl rfl hin).symm
    · by_cases e:u=t
      · subst e
        have e2:(M.putN (.saved u r) n).txs u={ M.txs u with saved:=pt (M.txs u).saved r (((M.txs u).saved r).1,n) }:=pt_same _ _ _
        rw[e2];exact⟨rfl,rfl,rfl⟩
      · have e2:(M.putN (.saved t r) n).txs u=M.txs u:=pt_other _ _ e
        rw[e2];exact⟨rfl,rfl,rfl⟩
    · by_cases e:u=t
      · subst e
        have e2:(M.putN (.saved u r) n).txs u={ M.txs u with saved:=pt (M.txs u).saved r (((M.txs u).saved r).1,n) }:=pt_same _ _ _
        rw[e2];exact id
      · have e2:(M.putN (.saved t r) n).txs u=M.txs u:=pt_other _ _ e
        rw[e2];exact id
  | was t i =>
    obtain⟨ht,hi⟩:=hp
    obtain⟨n',c',e,rfl⟩:=ha
    have hU:OwnU w base (nm.uv t) (M.txs t).undo:=h.part (.undo t) ht
    refine h.undoOnly ht _ (Chg.set _ _ _ _ (by rw[e];rfl)) ?_
    rw[e] at hU ⊢
    exact hU.set (by omega) (by simp) (cellsU_was n _ i hi)
def mvG (F:Int->Option Int) (v:Int × Int):Int × Int:=if v.1=1 then (v.1,(F v.2).getD 0) else v
def CM.mvAt (F:Int->Option Int) (p:Pos) (M:CM):CM:=if (M.at p).1=1 then M.putN p ((F (M.at p).2).getD 0) else M
set_option maxRecDepth 100000 in
set_option maxHeartbeats 1000000 in
theorem step1_any (base:Nat) (w:World) (B:Nat) (nm:Nm) (M:CM) (h:Mach base w B nm M) (hg:M.going=true) (X:Nat) (hX:w.cell? ⟨X,0,none⟩=some (.pointer (some ⟨B,0,none⟩))) (q:Int) (hq:I64 q) :
    Calls Try.prog 99 #[.int .i64 q,.pointer (some ⟨X,0,none⟩)] w (λe w'=>e = .returned (.bool (!decide (q ∈ M.S)))/\w=w'):=by
  obtain⟨b,hb,hS⟩:=h.part .mark trivial hg
  have hbx:=h.box
  have c84:=(hbx 84 (by omega)).1
  have e84:cellOf nm M 84 = .map (some b):=by show Value.map nm.mb=_;rw[hb]
  rw[e84] at c84
  have HS:=Lib.hid hS;have HQ:=Lib.hid hq
  clear h hg hS hq hbx e84 hb
  go_enter Try.func99,Try.ntmps99
  go_wp2_with (at_lookup;refine wpl_setLook rfl _ _ rfl b _ M.S rfl HS.out q rfl HQ.out ?_)
  exact bodyPost_ret (v:=.bool (!decide (q ∈ M.S))) (by simp[results,Try.results99,go_sem, *]) rfl ⟨rfl,rfl⟩
set_option maxRecDepth 100000 in
set_option maxHeartbeats 1000000 in
theorem step2_any (base:Nat) (w:World) (B:Nat) (nm:Nm) (M:CM) (h:Mach base w B nm M) (Y:Nat) (c n:Nat) (F:Int->Option Int) (hY:w.cell? ⟨Y,0,none⟩=some (.map (some c))) (hF:FunMap w c n F) (p:Pos) (b o:Nat) (hp:p.ok M) (ha:PosAt B nm p b o)
    (hk:I64 (M.at p).1/\I64 (M.at p).2) :
    Calls Try.prog 100 #[.pointer (some ⟨b,o,none⟩),.pointer (some ⟨Y,0,none⟩)] w (RetM 0 base w B nm (M.mvAt F p) (.tuple #[])):=by
  obtain⟨x0,x1,z0,z1,hlt⟩:=h.pos hp ha
  by_cases hv:(M.at p).1=1
  · have HM:=Lib.hid h;have HF:=Lib.hid hF;have HI:=Lib.hid hk.2
    have hE:M.mvAt F p=M.putN p ((F (M.at p).2).getD 0):=by unfold CM.mvAt;rw[if_pos hv]
    have HE:=Lib.hid hE
    have HP:=Lib.hid hp;have HA:=Lib.hid ha
    rw[hv] at x0
    clear h hF hk hE hp ha hv
    obtain⟨m,hm⟩:∃m,m=(M.at p).2:=⟨_,rfl⟩
    rw[<- hm] at HE HI x1
    clear hm
    go_enter Try.func100,Try.ntmps100
    go_wp2_with fail
    obtain⟨w2,hw2⟩:∃w2,w2=w.drew:=⟨_,rfl⟩
    have HB2:Hid (Below w.heap.size w w2):=by rw[Hid,hw2];exact (Below.refl _ _).drew
    have x1':w2.cell? ⟨b,o+1,none⟩=some (.int .i64 m):=by rw[hw2];exact x1
    have z1':w2.frozen? ⟨b,o+1,none⟩=false:=by rw[hw2];exact z1
    have hY':w2.cell? ⟨Y,0,none⟩=some (.map (some c)):=by rw[hw2];exact hY
    have HF2:=Lib.hid (HF.out.below HB2.out)
    clear x0 x1 z0 z1 hY
    refine still_tail_at 9 (by kernel_rfl) (by kernel_rfl) hw2 ?_;simp only [List.take_succ_cons,List.take_zero,List.drop_succ_cons,List.drop_zero];clear hw2;(repeat (first|(refine still_funLook rfl _ _ rfl c n F rfl HF2.out m rfl HI.out ?_)|still_step));refine wpStill_nil ?_
    go_wp2_with fail
    obtain⟨q1,q2⟩:=(HM.out.below HB2.out).putN HP.out HA.out ((F m).getD 0)
    refine bodyPost_end (results_none rfl _ _ _) rfl ⟨rfl,nm,?_,?_⟩
    · rw[HE.out];exact q1
    · exact q2.after HB2.out
  · have hE:M.mvAt F p=M:=by unfold CM.mvAt;rw[if_neg hv]
    have hv2:((M.at p).1 == 1)=false:=by simpa using hv
    have HM:=Lib.hid h;have HE:=Lib.hid hE
    clear h hF hk hE hp ha hv
    generalize M.at p=v at x0 x1 hv2
    obtain⟨v1,v2⟩:=v
    dsimp only at x0 x1 hv2
    go_enter Try.func100,Try.ntmps100
    go_wp2_with fail
    refine bodyPost_end (results_none rfl _ _ _) rfl ⟨rfl,nm,?_,?_⟩
    · rw[HE.out];exact HM.out.below (by ((repeat first|exact bR _ _|with_reducible first|refine bN ?_|refine bD ?_|refine bA ?_ ?_|refine bS ?_ ?_);all_goals first|exact Nat.le_refl _|(simp;done)|omega|(simp;omega)))
    · exact (Went.refl w B nm).below (by ((repeat first|exact bR _ _|with_reducible first|refine bN ?_|refine bD ?_|refine bA ?_ ?_|refine bS ?_ ?_);all_goals first|exact Nat.le_refl _|(simp;done)|omega|(simp;omega))) HM.out.has_lt
end Go.Proofs.Ytbeilcaadpopmab
namespace Go.Proofs.Ytbeilcaadpopmab
open Go.RowKit Go.Maps
def MovedBy (F:Int->Option Int) (f g:Int->Option Int):Prop:=∀q v,g q=some v ↔ ∃x,f x=some v/\(F x).getD 0=q
def RetMoved (w:World) (lb:Option Nat) (N:Nat) (g:Int->Option Int) (e:Ending) (w':World):Prop :=
  Below w.heap.size w w'/\((lb=none/\e = .returned (.map none))\/∃k m,lb≠none/\e = .returned (.map (some k))/\w.heap.size<=k/\m<=N/\FunMap w' k m g)
set_option maxRecDepth 100000 in
set_option maxHeartbeats 1000000 in
theorem moved_any (w:World) (lb:Option Nat) (N:Nat) (f:Int->Option Int) (hl:MapAt w lb N f) (c n:Nat) (F:Int->Option Int) (hF:FunMap w c n F) (hinj:∀x y,f x≠none->f y≠none->(F x).getD 0=(F y).getD 0->x=y)
    (hI:∀x v,f x=some v->I64 ((F x).getD 0)) (hN:N<900000) (g:Int->Option Int) (hg:MovedBy F f g) :
    Calls Try.prog 101 #[.map lb,.map (some c)] w (RetMoved w lb N g):=by
  cases lb with
  | none =>
    have heq:(binOp .eql 71 (.map none) (.map none)).run Try.prog w = .ok (.bool true) w:=by kernel_rfl
    clear hl hF hinj hI hg
    go_enter Try.func101,Try.ntmps101
    go_wp2_with fail
    refine bodyPost_ret (v:=.map none) (by simp[results,Try.results101,go_sem, *]) rfl ⟨(by ((repeat first|exact bR _ _|with_reducible first|refine bN ?_|refine bD ?_|refine bA ?_ ?_|refine bS ?_ ?_);all_goals first|exact Nat.le_refl _|(simp;done)|omega|(simp;omega))),.inl ⟨rfl,rfl⟩⟩
  | some b =>
    obtain⟨n0,hn0,hfm⟩:=hl
    have hbl:=hfm.lt
    have HFM:=Lib.hid hfm;have HF:=Lib.hid hF;have HINJ:=Lib.hid hinj;have HI:=Lib.hid hI;have HG:=Lib.hid hg
    have hmm:=@run_makeMap Try.prog
    have heq:(binOp .eql 71 (.map (some b)) (.map none)).run Try.prog w = .ok (.bool false) w:=by kernel_rfl
    clear hfm hF hinj hI hg
    obtain⟨k,hk⟩:∃k,k=w.heap.size:=⟨_,rfl⟩
    have HK:=Lib.hid hk
    have HFA:Hid (FunMap (w.alloc (.map #[] 0)) b n0 f):=HFM.out.below (by ((repeat first|exact bR _ _|with_reducible first|refine bN ?_|refine bD ?_|refine bA ?_ ?_|refine bS ?_ ?_);all_goals first|exact Nat.le_refl _|(simp;done)|omega|(simp;omega)))
    go_enter Try.func101,Try.ntmps101
    go_wp2_with (at_range;refine wpl_rangeFun rfl _ rfl b n0 f rfl HFA.out ?_;intro w2 cnt hrg hg2 hs2)
    go_frame
    obtain⟨r,hr⟩:∃r,r=(w.alloc (.map #[] 0)).heap.size:=⟨_,rfl⟩
    have hr1:r=k+1:=by rw[hr,hk];simp
    rw[<- hr] at hrg hs2 ⊢
    rw[<- hk]
    have hcnt:=hrg.cnt_le
    have HB2:Hid (Below w.heap.size w w2):=by
      have h1:Below w.heap.size w (w.alloc (.map #[] 0)):=(by ((repeat first|exact bR _ _|with_reducible first|refine bN ?_|refine bD ?_|refine bA ?_ ?_|refine bS ?_ ?_);all_goals first|exact Nat.le_refl _|(simp;done)|omega|(simp;omega)))
      exact h1.trans ((below_of_grown hg2).mono h1.size)
    have hG2:FunMap w2 k 0 (λ_=>none):=by
      have:=funMap_made w
      rw[<- hk] at this
      exact this.keep (hg2.block k (by rw[hk];simp) (by simp))
    have hrg2:=hrg
    have HR1:=Lib.hid hr1;have HCNT:=Lib.hid hcnt;have HS2:=Lib.hid hs2
    clear hrg hr hg2 HFA hk hr1 hcnt hs2 heq hmm
    go_loopw [6] (λu wr=>∃(todo:Int->Bool) (cnt' m:Nat) (gp:Int->Option Int),FunRange wr b r n0 f todo cnt'/\FunMap wr k m gp/\m+cnt'<=cnt/\(∀q v,gp q=some v ↔ ∃x,f x=some v/\todo x=false/\(F x).getD 0=q)/\Below w.heap.size w wr/\r<wr.heap.size) (λ_ wr=>wr.rangeLeft b r)
    case atStart =>
      refine⟨_,cnt,0,λ_=>none,hrg2,hG2,by omega,λq v=>?_,HB2.out,by have:=HS2.out;omega⟩
      constructor
      · intro h;cases h
      · rintro ⟨x,h1,h2,_⟩
        rw[h1] at h2;cases h2
    case round =>
      obtain⟨todo,cnt',m,gp,hrg3,hG3,hm3,hgp3,hB3,hr3⟩:=hrel
      have HRG3:=Lib.hid hrg3;have HG3:=Lib.hid hG3;have HGP3:=Lib.hid hgp3;have HB3:=Lib.hid hB3;have HM3:=Lib.hid hm3
      clear hrg3 hG3 hgp3 hB3 hrg2 hG2 hm3
      go_wp2_with (at_next;refine wpl_nextFun rfl _ rfl b r n0 cnt' f todo rfl HRG3.out ?_ ?_)
      · intro hdone
        have hgg:gp=g:=by
          funext q
          refine Option.ext λv=>?_
          rw[HGP3.out q v,HG.out q v]
          simp only [hdone,true_and]
        have HGG:=Lib.hid hgg
        clear hdone hgg
        go_wp2_with fail
        refine bodyPost_ret (v:=.map (some k)) (by simp[results,Try.results101,go_sem, *]) rfl ⟨HB3.out,.inr ⟨k,m,by simp,rfl,by rw[HK.out];exact Nat.le_refl _,?_,by rw[<- HGG.out];exact HG3.out⟩⟩
        have:=HM3.out;have:=HCNT.out
        omega
      · intro x y w4 cnt4 hxI hyI htodo hfx hrg4 hlt hg4 hs4 hen
        have hB4:Below w.heap.size w w4:=⟨hg4.os.trans HB3.out.os,hg4.tape.trans HB3.out.tape,hg4.output.trans HB3.out.output,Nat.le_trans HB3.out.size hg4.size,λi hi=>(hg4.block i (Nat.lt_of_lt_of_le hi HB3.out.size) (λe=>by have:=HR1.out;have:=HK.out;cases e;omega)).trans (HB3.out.block i hi)⟩
        have HF4:Hid (FunMap w4 c n F):=HF.out.below hB4
        have HG4:Hid (FunMap w4 k m gp):=HG3.out.keep (hg4.block k (by have:=HR1.out;omega) (λe=>by have:=HR1.out;cases e;omega))
        have HB4:=Lib.hid hB4;have HRG4:=Lib.hid hrg4;have HFX:=Lib.hid hfx;have HTD:=Lib.hid htodo;have HXI:=Lib.hid hxI;have HYI:=Lib.hid hyI
        have HQI:=Lib.hid (HI.out x y hfx)
        have hm4:m<1000000:=by have:=HM3.out;have:=HCNT.out;omega
        clear hB4 hrg4 hfx htodo hxI hyI hg4
        go_wp2_with (first|(at_lookup;refine wpl_funLook rfl _ _ rfl c n F rfl HF4.out x rfl HXI.out ?_)|(at_mapUpdate;refine wpl_funPut rfl _ _ _ rfl k m gp rfl HG4.out hm4 ((F x).getD 0) y rfl HQI.out rfl HYI.out ?_;intro w5 hf5 hg5;go_frame))
        have hkr:k≠r:=by have:=HR1.out;omega
        have HRG5:Hid (FunRange w5 b r n0 f (strike todo x) cnt4):=HRG4.out.keep (hg5.block b (by have:=HR1.out;have:=HK.out;omega) (λe=>by have:=HK.out;cases e;omega)) (hg5.block r (by omega) (λe=>by cases e;omega))
        have HB5:Hid (Below w.heap.size w w5):=⟨hg5.os.trans HB4.out.os,hg5.tape.trans HB4.out.tape,hg5.output.trans HB4.out.output,Nat.le_trans HB4.out.size hg5.size,λi hi=>(hg5.block i (Nat.lt_of_lt_of_le hi HB4.out.size) (λe=>by have:=HK.out;cases e;omega)).trans (HB4.out.block i hi)⟩
        have HF5:=Lib.hid hf5
        have HSZ:=Lib.hid hg5.size
        clear hf5 hg5
        go_roundw
        case rel =>
          refine⟨strike todo x,cnt4,m+1,_,HRG5.out,HF5.out,by have:=HM3.out;omega,λq v=>?_,HB5.out,by have:=HSZ.out;omega⟩
          unfold strike
          by_cases e:q=(F x).getD 0
          · rw[if_pos e]
            constructor
            · intro h
              cases h
              exact⟨x,HFX.out,by simp,e.symm⟩
            · rintro ⟨z,h1,h2,h3⟩
              have:z=x:=HINJ.out z x (by rw[h1];simp) (by rw[HFX.out];simp) (h3.trans e)
              subst this
              rw[HFX.out] at h1
              exact h1
          · rw[if_neg e,HGP3.out q v]
            constructor
            · rintro ⟨z,h1,h2,h3⟩;exact⟨z,h1,by rw[h2];rfl,h3⟩
            · rintro ⟨z,h1,h2,h3⟩
              refine⟨z,h1,?_,h3⟩
              have hzx:z≠x:=λe2=>e (by rw[<- h3,e2])
              simpa [hzx] using h2
        case measure=>rw[HRG5.out.left_eq,HRG3.out.left_eq];exact hlt
end Go.Proofs.Ytbeilcaadpopmab
namespace Go.Proofs.Ytbeilcaadpopmab
open Go.RowKit Go.Maps
structure Like (M M':CM):Prop where
  xs:M'.xs=M.xs
  top:M'.top=M.top
  going:M'.going=M.going
  gray:M'.gray=M.gray
  S:M'.S=M.S
  regs:∀t,t<4->∀r,r<4->M'.regs t r=M.regs t r
  txs:∀t,t<4->(M'.txs t).op=(M.txs t).op/\(∀r,r<4->(M'.txs t).saved r=(M.txs t).saved r)/\(M'.txs t).reads=(M.txs t).reads/\(M'.txs t).owned=(M.txs t).owned/\(M'.txs t).undo=(M.txs t).undo
theorem Like.cell {M M':CM} (h:Like M M') (nm:Nm) {i:Nat} (hi:i<85):cellOf nm M' i=cellOf nm M i:=by
  unfold cellOf
  by_cases h0:i=0
  · simp[h0]
  by_cases h1:i=1
  · simp[h1,h.top]
  by_cases h2:i<34
  · simp only [h0,h1,h2,if_false,if_true]
    rw[h.regs _ (by omega) _ (by omega)]
  by_cases h3:i<82
  · simp only [h0,h1,h2,h3,if_false,if_true]
    obtain⟨a,b,_⟩:=h.txs ((i - 34) / 12) (by omega)
    unfold txC
    rw[a]
    by_cases q0:(i - 34) % 12=0
    · simp[q0]
    by_cases q9:(i - 34) % 12<9
    · simp only [q0,q9,if_false,if_true]
      rw[b _ (by omega)]
    · simp[q0,q9]
  · simp only [h0,h1,h2,h3,if_false]
    rw[h.going]
theorem Mach.like {base B:Nat} {w:World} {nm:Nm} {M M':CM} (h:Mach base w B nm M) (k:Like M M'):Mach base w B nm M':=by
  refine⟨λi hi=>?_,h.lo,h.apart,λt ht ho=>h.opn t ht (by rw[<- (k.txs t ht).1];exact ho),h.base_le⟩
  have p:=h.part i hi
  cases i with
  | box=>exact Box.congr p λi hi=>(k.cell nm hi).symm
  | words=>show OwnInts w base nm.hv M'.xs;rw[k.xs];exact p
  | reads t=>show MapAt w (nm.rb t) nm.N (M'.txs t).reads;rw[(k.txs t hi).2.2.1];exact p
  | owned t=>show MapAt w (nm.ob t) nm.N (M'.txs t).owned;rw[(k.txs t hi).2.2.2.1];exact p
  | undo t=>show OwnU w base (nm.uv t) (M'.txs t).undo;rw[(k.txs t hi).2.2.2.2];exact p
  | gray=>show OwnInts w base nm.gv M'.gray;rw[k.gray];exact p
  | mark=>intro hg;rw[k.S];exact p (by rw[<- k.going];exact hg)
noncomputable instance posEq:DecidableEq Pos:=λ_ _=>Classical.propDecidable _
theorem putN_at (M:CM) {p:Pos} (hp:p.ok M) (n:Int) (q:Pos):(M.putN p n).at q=if q=p then ((M.at p).1,n) else M.at q:=by
  cases p with
  | reg t r =>
    cases q with
    | reg u s =>
      by_cases e:u=t/\s=r
      · obtain⟨rfl,rfl⟩:=e
        simp[CM.putN,CM.at,CM.setReg,pt2]
      · have e2:¬ (Pos.reg u s=Pos.reg t r):=λh=>by cases h;exact e ⟨rfl,rfl⟩
        rw[if_neg e2]
        simp[CM.putN,CM.at,CM.setReg,pt2,e]
    | saved u s=>rw[if_neg (by intro h;cases h)];rfl
    | was u i=>rw[if_neg (by intro h;cases h)];rfl
  | saved t r =>
    cases q with
    | reg u s=>rw[if_neg (by intro h;cases h)];rfl
    | saved u s =>
      by_cases e:u=t
      · subst e
        by_cases e2:s=r
        · subst e2
          simp[CM.putN,CM.at,CM.setTx,pt]
        · have e3:¬ (Pos.saved u s=Pos.saved u r):=λh=>by cases h;exact e2 rfl
          rw[if_neg e3]
          simp[CM.putN,CM.at,CM.setTx,pt,e2]
      · have e3:¬ (Pos.saved u s=Pos.saved t r):=λh=>by cases h;exact e rfl
        rw[if_neg e3]
        simp[CM.putN,CM.at,CM.setTx,pt,e]
    | was u i =>
      rw[if_neg (by intro h;cases h)]
      by_cases e:u=t
      · subst e;simp[CM.putN,CM.at,CM.setTx,pt]
      · simp[CM.putN,CM.at,CM.setTx,pt,e]
  | was t i =>
    cases q with
    | reg u s=>rw[if_neg (by intro h;cases h)];rfl
    | saved u s =>
      rw[if_neg (by intro h;cases h)]
      by_cases e:u=t
      · subst e;simp[CM.putN,CM.at,CM.setTx,pt]
      · simp[CM.putN,CM.at,CM.setTx,pt,e]
    | was u j =>
      by_cases e:u=t
      · subst e
        have hi:i<(M.txs u).undo.length:=hp.2
        by_cases e2:j=i
        · subst e2
          rw[if_pos rfl]
          simp[CM.putN,CM.at,CM.setTx,pt,List.getD_eq_getElem?_getD,hi]
        · have e3:¬ (Pos.was u j=Pos.was u i):=λh=>by cases h;exact e2 rfl
          rw[if_neg e3]
          have e4:¬ i=j:=λh=>e2 h.symm
          simp[CM.putN,CM.at,CM.setTx,pt,List.getD_eq_getElem?_getD,List.getElem?_modify,e4]
      · have e3:¬ (Pos.was u j=Pos.was t i):=λh=>by cases h;exact e rfl
        rw[if_neg e3]
        simp[CM.putN,CM.at,CM.setTx,pt,e]
structure Rest (M M':CM):Prop where
  xs:M'.xs=M.xs
  top:M'.top=M.top
  going:M'.going=M.going
  gray:M'.gray=M.gray
  S:M'.S=M.S
  txs:∀t,(M'.txs t).op=(M.txs t).op/\(M'.txs t).reads=(M.txs t).reads/\(M'.txs t).owned=(M.txs t).owned/\(M'.txs t).undo.length=(M.txs t).undo.length /\
    ∀i (h:i<(M.txs t).undo.length) (h':i<(M'.txs t).undo.length),(M'.txs t).undo[i].p=(M.txs t).undo[i].p/\(M'.txs t).undo[i].k=(M.txs t).undo[i].k
theorem Rest.refl (M:CM):Rest M M:=⟨rfl,rfl,rfl,rfl,rfl,λt=>⟨rfl,rfl,rfl,rfl,λ_ _ _=>⟨rfl,rfl⟩⟩⟩
theorem Rest.trans {A B C:CM} (h:Rest A B) (k:Rest B C):Rest A C :=
  ⟨k.xs.trans h.xs,k.top.trans h.top,k.going.trans h.going,k.gray.trans h.gray,k.S.trans h.S,λt=>by
    obtain⟨a1,a2,a3,a4,a5⟩:=h.txs t
    obtain⟨b1,b2,b3,b4,b5⟩:=k.txs t
    exact⟨b1.trans a1,b2.trans a2,b3.trans a3,b4.trans a4,λi hi hi'=>⟨(b5 i (by omega) hi').1.trans (a5 i hi (by omega)).1,(b5 i (by omega) hi').2.trans (a5 i hi (by omega)).2⟩⟩⟩
theorem Rest.putN (M:CM) (p:Pos) (n:Int):Rest M (M.putN p n):=by
  cases p with
  | reg t r=>exact⟨rfl,rfl,rfl,rfl,rfl,λu=>⟨rfl,rfl,rfl,rfl,λ_ _ _=>⟨rfl,rfl⟩⟩⟩
  | saved t r =>
    refine⟨rfl,rfl,rfl,rfl,rfl,λu=>?_⟩
    by_cases e:u=t
    · subst e
      have e2:(M.putN (.saved u r) n).txs u={ M.txs u with saved:=pt (M.txs u).saved r (((M.txs u).saved r).1,n) }:=pt_same _ _ _
      rw[e2]
      exact⟨rfl,rfl,rfl,rfl,λi _ _=>⟨rfl,rfl⟩⟩
    · have e2:(M.putN (.saved t r) n).txs u=M.txs u:=pt_other _ _ e
      rw[e2]
      exact⟨rfl,rfl,rfl,rfl,λi _ _=>⟨rfl,rfl⟩⟩
  | was t j =>
    refine⟨rfl,rfl,rfl,rfl,rfl,λu=>?_⟩
    by_cases e:u=t
    · subst e
      have e2:(M.putN (.was u j) n).txs u={ M.txs u with undo:=(M.txs u).undo.modify j (λx=>{ x with was:=(x.was.1,n) }) }:=pt_same _ _ _
      rw[e2]
      refine⟨rfl,rfl,rfl,by simp,λi h h'=>?_⟩
      simp only [List.getElem_modify]
      split <;> exact⟨rfl,rfl⟩
    · have e2:(M.putN (.was t j) n).txs u=M.txs u:=pt_other _ _ e
      rw[e2]
      exact⟨rfl,rfl,rfl,rfl,λi _ _=>⟨rfl,rfl⟩⟩
theorem Rest.mvAt (F:Int->Option Int) (p:Pos) (M:CM):Rest M (M.mvAt F p):=by
  unfold CM.mvAt
  split
  · exact Rest.putN _ _ _
  · exact Rest.refl _
theorem Rest.ok {M M':CM} (h:Rest M M') (p:Pos):p.ok M' ↔ p.ok M:=by
  cases p with
  | reg t r=>exact Iff.rfl
  | saved t r=>exact Iff.rfl
  | was t i=>show (t<4/\_) ↔ (t<4/\_);rw[(h.txs t).2.2.2.1]
theorem mvAt_at (F:Int->Option Int) (M:CM) {p:Pos} (hp:p.ok M) (q:Pos):(M.mvAt F p).at q=if q=p then mvG F (M.at p) else M.at q:=by
  unfold CM.mvAt mvG
  by_cases e:(M.at p).1=1
  · rw[if_pos e,putN_at M hp,if_pos e]
  · rw[if_neg e,if_neg e]
    split
    · rename_i e2;rw[e2]
    · rfl
theorem mv_steps (F:Int->Option Int):∀(ps:List Pos) (M:CM),ps.Nodup->(∀p ∈ ps,p.ok M)->Rest M (steps (λp M=>M.mvAt F p) ps M)/\(∀q ∈ ps,(steps (λp M=>M.mvAt F p) ps M).at q=mvG F (M.at q))/\∀q,q ∉ ps->(steps (λp M=>M.mvAt F p) ps M).at q=M.at q
  | [],M,_,_=>⟨Rest.refl _,λq h=>(by cases h),λq _=>rfl⟩
  | p :: ps,M,hn,hok=>by
    rw[List.nodup_cons] at hn
    have hr:=Rest.mvAt F p M
    obtain⟨i1,i2,i3⟩:=mv_steps F ps (M.mvAt F p) hn.2 (λq hq=>(hr.ok q).2 (hok q (by simp[hq])))
    have hat:=mvAt_at F M (hok p (by simp))
    refine⟨hr.trans i1,λq hq=>?_,λq hq=>?_⟩
    · rcases List.mem_cons.1 hq with e|hq
      · subst e
        show (steps (λp M=>M.mvAt F p) ps (M.mvAt F q)).at q=_
        rw[i3 q hn.1,hat,if_pos rfl]
      · show (steps (λp M=>M.mvAt F p) ps (M.mvAt F p)).at q=_
        have hne:q≠p:=λe=>hn.1 (e ▸ hq)
        rw[i2 q hq,hat,if_neg hne]
    · simp only [List.mem_cons,not_or] at hq
      show (steps (λp M=>M.mvAt F p) ps (M.mvAt F p)).at q=_
      rw[i3 q hq.2,hat,if_neg hq.1]
theorem posT_nodup (M:CM) (t:Nat):(posT M t).Nodup:=by
  have inj:∀(f:Nat->Pos) (n:Nat),(∀a b,f a=f b->a=b)->((List.range n).map f).Nodup:=λf n hf=>by
    exact List.pairwise_map.2 (List.nodup_range.imp λh e=>h (hf _ _ e))
  unfold posT
  rw[List.nodup_append,List.nodup_append]
  refine⟨⟨inj _ _ (λa b e=>by cases e;rfl),inj _ _ (λa b e=>by cases e;rfl),?_⟩,inj _ _ (λa b e=>by cases e;rfl),?_⟩
  · intro a ha b hb e
    obtain⟨x,_,rfl⟩:=List.mem_map.1 ha
    obtain⟨y,_,rfl⟩:=List.mem_map.1 hb
    cases e
  · intro a ha b hb e
    obtain⟨y,_,rfl⟩:=List.mem_map.1 hb
    rcases List.mem_append.1 ha with ha|ha
    · obtain⟨x,_,rfl⟩:=List.mem_map.1 ha;cases e
    · obtain⟨x,_,rfl⟩:=List.mem_map.1 ha;cases e
theorem posL_nodup (M:CM):∀n,(posL M n).Nodup
  | 0=>by simp[posL]
  | n+1=>by
    rw[posL_snoc,List.nodup_append]
    refine⟨posL_nodup M n,posT_nodup M n,λa ha b hb e=>?_⟩
    subst e
    have hu:∀t,a ∈ posT M t->(match a with | .reg u _=>u | .saved u _=>u | .was u _=>u)=t:=λt ht=>by
      unfold posT at ht
      simp only [List.mem_append,List.mem_map] at ht
      rcases ht with (⟨x,_,rfl⟩|⟨x,_,rfl⟩)|⟨x,_,rfl⟩ <;> rfl
    unfold posL at ha
    obtain⟨u,hu1,hu2⟩:=List.mem_flatMap.1 ha
    rw[List.mem_range] at hu1
    have h1:=hu u hu2
    have h2:=hu n hb
    omega
def mvP (ms:List (Nat × Nat)) (u:CU):CU:={ u with p:=((toF ms (u.p:Int)).getD 0).toNat }
def mvT2 (ms:List (Nat × Nat)) (x:CTx):CTx:={ x with reads:=mvF ms x.reads,owned:=mvF ms x.owned,undo:=x.undo.map (mvP ms) }
def CM.mvTo (M:CM) (ms:List (Nat × Nat)) (n:Nat):CM:={ M with txs:=λu=>if u<n then mvT2 ms (M.txs u) else M.txs u }
theorem CM.mvTo_zero (M:CM) (ms:List (Nat × Nat)):M.mvTo ms 0=M:=by simp[CM.mvTo]
theorem CM.mvTo_at (M:CM) (ms:List (Nat × Nat)) (n:Nat):(M.mvTo ms n).txs n=M.txs n:=by simp[CM.mvTo]
theorem CM.mvTo_succ (M:CM) (ms:List (Nat × Nat)) (n:Nat):M.mvTo ms (n+1)=(M.mvTo ms n).setTx n (mvT2 ms (M.txs n)):=by
  unfold CM.mvTo CM.setTx pt
  congr 1
  funext u
  dsimp only
  by_cases e:u=n
  · subst e;simp
  · by_cases e2:u<n
    · rw[if_pos (by omega),if_neg e,if_pos e2]
    · rw[if_neg (by omega),if_neg e,if_neg e2]
theorem closed_like (M M8:CM) (ks:List Nat) (L:List Int) (ms:List (Nat × Nat)) (hms:ms=mvs M.xs ks 1) (h:M8=steps (λp N=>N.mvAt (toF ms) p) (posL M 4) M) :
    Like ({ M8.mvTo ms 4 with xs:=padTo M.xs.length (0 :: L),top:=topOf M.xs ks 1,going:=false }:CM) (M.closed ks L):=by
  obtain⟨hr,hin,_⟩:=mv_steps (toF ms) (posL M 4) M (posL_nodup M 4) (λp hp=>pos_ok hp)
  rw[<- h] at hr hin
  have hall:∀p:Pos,p.ok M->M8.at p=mvV ms (M.at p):=λp hp=>hin p (ok_pos hp)
  unfold CM.closed
  rw[<- hms]
  refine⟨rfl,rfl,rfl,hr.gray.symm,hr.S.symm,λt ht r hr2=>(hall (.reg t r) ⟨ht,hr2⟩).symm,λt ht=>?_⟩
  obtain⟨a1,a2,a3,a4,a5⟩:=hr.txs t
  have e:(M8.mvTo ms 4).txs t=mvT2 ms (M8.txs t):=by simp[CM.mvTo,ht]
  dsimp only
  rw[e]
  refine⟨a1.symm,λr hr2=>(hall (.saved t r) ⟨ht,hr2⟩).symm,?_,?_,?_⟩
  · show mvF ms (M.txs t).reads=mvF ms (M8.txs t).reads
    rw[a2]
  · show mvF ms (M.txs t).owned=mvF ms (M8.txs t).owned
    rw[a3]
  · show (M.txs t).undo.map (mvU ms)=(M8.txs t).undo.map (mvP ms)
    refine List.ext_getElem (by simp[a4]) λi h1 h2=>?_
    have h1':i<(M.txs t).undo.length:=by simpa using h1
    have h2':i<(M8.txs t).undo.length:=by omega
    obtain⟨b1,b2⟩:=a5 i h1' h2'
    have hw:=hall (.was t i) ⟨ht,h1'⟩
    unfold CM.at at hw
    dsimp only at hw
    rw[List.getD_eq_getElem?_getD,List.getElem?_eq_getElem h2',List.getD_eq_getElem?_getD,List.getElem?_eq_getElem h1'] at hw
    simp only [List.getElem_map,mvU,mvP,b1,b2]
    congr 1
    exact hw.symm
end Go.Proofs.Ytbeilcaadpopmab
namespace Go.Proofs.Ytbeilcaadpopmab
open Go.RowKit Go.Maps
theorem toF_of {ms:List (Nat × Nat)} (hn:(ms.map (·.1)).Nodup) {m:Nat × Nat} (hm:m ∈ ms) (h0:m.1≠0):toF ms (m.1:Int)=some (m.2:Int):=by
  unfold toF
  rw[if_neg (by omega)]
  cases hf:ms.find? (λx=>decide ((x.1:Int)=(m.1:Int))) with
  | none =>
    rw[List.find?_eq_none] at hf
    exact absurd (by simp) (hf m hm)
  | some d =>
    have e:=List.find?_some hf
    simp only [decide_eq_true_eq] at e
    have:=nodup_key ms hn m hm d (List.mem_of_find?_eq_some hf) (by omega)
    rw[this];rfl
theorem mvs_snd (xs:List Int):∀(ks:List Nat) (s:Nat),((mvs xs ks s).map (·.2)).Nodup
  | [],s=>by simp[mvs]
  | p :: ks,s=>by
    rw[mvs,List.map_cons,List.nodup_cons]
    refine⟨λh=>?_,mvs_snd xs ks _⟩
    obtain⟨m,hm,e⟩:=List.mem_map.1 h
    have:=mvs_le xs ks _ m hm
    omega
theorem nodup_snd {ms:List (Nat × Nat)} (hn:(ms.map (·.2)).Nodup) {c d:Nat × Nat} (hc:c ∈ ms) (hd:d ∈ ms) (e:d.2=c.2):d=c:=by
  have key:=nodup_key (ms.map Prod.swap) (by rw[List.map_map];exact hn) c.swap (List.mem_map.2 ⟨c,hc,rfl⟩) d.swap (List.mem_map.2 ⟨d,hd,rfl⟩) e
  have:=congrArg Prod.swap key
  simpa using this
structure MvOk (ms:List (Nat × Nat)):Prop where
  n1:(ms.map (·.1)).Nodup
  n2:(ms.map (·.2)).Nodup
  z:∀m ∈ ms,m.1≠0
  hi:∀m ∈ ms,m.1<=400/\m.2<=400
theorem MvOk.inj {ms:List (Nat × Nat)} (h:MvOk ms) {f:Int->Option Int} (hf:∀x v,f x=some v->∃m ∈ ms,x=(m.1:Int)) (x y:Int) (hx:f x≠none) (hy:f y≠none) (e:(toF ms x).getD 0=(toF ms y).getD 0):x=y:=by
  obtain⟨v,hv⟩:=Option.ne_none_iff_exists'.1 hx
  obtain⟨u,hu⟩:=Option.ne_none_iff_exists'.1 hy
  obtain⟨c,hc,rfl⟩:=hf x v hv
  obtain⟨d,hd,rfl⟩:=hf y u hu
  rw[toF_of h.n1 hc (h.z c hc),toF_of h.n1 hd (h.z d hd)] at e
  simp only [Option.getD_some] at e
  rw[nodup_snd h.n2 hd hc (by omega)]
theorem MvOk.by {ms:List (Nat × Nat)} (h:MvOk ms) {f:Int->Option Int} (hf:∀x v,f x=some v->∃m ∈ ms,x=(m.1:Int)):MovedBy (toF ms) f (mvF ms f):=by
  intro q v
  unfold mvF
  constructor
  · intro e
    rw[Option.bind_eq_some_iff] at e
    obtain⟨m,hm,e⟩:=e
    have e2:=List.find?_some hm
    simp only [decide_eq_true_eq] at e2
    have hmm:=List.mem_of_find?_eq_some hm
    exact⟨m.1,e,by rw[toF_of h.n1 hmm (h.z m hmm)];exact e2⟩
  · rintro ⟨x,h1,h2⟩
    obtain⟨m,hm,rfl⟩:=hf x v h1
    rw[toF_of h.n1 hm (h.z m hm)] at h2
    simp only [Option.getD_some] at h2
    cases hfd:ms.find? (λm=>decide ((m.2:Int)=q)) with
    | none =>
      rw[List.find?_eq_none] at hfd
      exact absurd (by simpa using h2) (hfd m hm)
    | some d =>
      have e2:=List.find?_some hfd
      simp only [decide_eq_true_eq] at e2
      have:=nodup_snd h.n2 hm (List.mem_of_find?_eq_some hfd) (by omega)
      rw[Option.bind_some,this];exact h1
theorem MvOk.i64 {ms:List (Nat × Nat)} (h:MvOk ms) (x:Int):0<=(toF ms x).getD 0/\(toF ms x).getD 0<=400:=by
  unfold toF
  split
  · exact⟨Int.le_refl _,by simp⟩
  · cases hf:ms.find? (λm=>decide ((m.1:Int)=x)) with
    | none=>exact⟨Int.le_refl _,by simp⟩
    | some m =>
      have:=(h.hi m (List.mem_of_find?_eq_some hf)).2
      simp only [Option.map_some,Option.getD_some]
      omega
theorem Mach.newMaps {base B:Nat} {w w1:World} {nm:Nm} {M:CM} (h:Mach base w B nm M) {t:Nat} (ht:t<4) (rb ob:Option Nat) (f g:Int->Option Int) (hb:Below w.heap.size w w1)
    (h1:MapAt w1 rb nm.N f) (h2:MapAt w1 ob nm.N g) (n1:∀k,rb=some k->w.heap.size<=k/\k<w1.heap.size) (n2:∀k,ob=some k->w.heap.size<=k/\k<w1.heap.size) (n4:∀k,rb=some k->ob≠some k)
    (o1:rb=none ↔ nm.rb t=none) (o2:ob=none ↔ nm.ob t=none) :
    Mach base ((w1.setCell ⟨B,34+t * 12+9,none⟩ (.map rb)).setCell ⟨B,34+t * 12+10,none⟩ (.map ob)) B { nm with rb:=pt nm.rb t rb,ob:=pt nm.ob t ob,uv:=pt nm.uv t (nm.uv t) } (M.setTx t { M.txs t with reads:=f,owned:=g }) /\
    Went 0 w ((w1.setCell ⟨B,34+t * 12+9,none⟩ (.map rb)).setCell ⟨B,34+t * 12+10,none⟩ (.map ob)) B nm { nm with rb:=pt nm.rb t rb,ob:=pt nm.ob t ob,uv:=pt nm.uv t (nm.uv t) }:=by
  have hB:=h.lt
  have hB1:B<w1.heap.size:=Nat.lt_of_lt_of_le hB hb.size
  have hz:((w1.setCell ⟨B,34+t * 12+9,none⟩ (.map rb)).setCell ⟨B,34+t * 12+10,none⟩ (.map ob)).heap.size=w1.heap.size:=by simp[World.setCell]
  have hkeep:∀k,k≠B->((w1.setCell ⟨B,34+t * 12+9,none⟩ (.map rb)).setCell ⟨B,34+t * 12+10,none⟩ (.map ob)).heap[k]? = w1.heap[k]?:=λk hk =>
    (Below.heap_setCell _ ⟨B,34+t * 12+10,none⟩ _ _ hk).trans (Below.heap_setCell _ ⟨B,34+t * 12+9,none⟩ _ _ hk)
  have hbx:Box w1 B (cellOf nm M):=h.box.keep (hb.block B hB)
  have hset:=(hbx.set (o:=34+t * 12+9) (by omega) (.map rb)).set (o:=34+t * 12+10) (by omega) (.map ob)
  have hU:OwnU w base (nm.uv t) (M.txs t).undo:=h.part (.undo t) ht
  refine h.newTx ht { M.txs t with reads:=f,owned:=g } rb ob (nm.uv t) ?_ (λi hi=>⟨?_,(hset i hi).2⟩) ?_ ?_ ?_ ?_ ?_ (.inl rfl) (λk _=>n4 k) ?_ ?_ ?_
  · exact (Chg.ofBelow _ hb).trans ((Chg.set _ _ _ _ (.inl rfl)).trans (Chg.set _ _ _ _ (.inl rfl)))
  · rw[(hset i hi).1]
    congr 1
    unfold ins
    by_cases e9:i=34+t * 12+9
    · subst e9
      rw[if_neg (by omega),if_pos rfl,if_pos (by omega),show 34+t * 12+9 - 34 - t * 12=9 by omega]
      unfold txC
      simp[pt_same]
    · by_cases e10:i=34+t * 12+10
      · subst e10
        rw[if_pos rfl,if_pos (by omega),show 34+t * 12+10 - 34 - t * 12=10 by omega]
        unfold txC
        simp[pt_same]
      · rw[if_neg e10,if_neg e9]
        split
        · rename_i hr
          obtain⟨q,hq,rfl⟩:∃q,q<12/\i=34+t * 12+q:=⟨i - (34+t * 12),by omega,by omega⟩
          rw[cellOf_tx nm M ht hq,show 34+t * 12+q - 34 - t * 12=q by omega]
          unfold txC
          by_cases q0:q=0
          · simp[q0]
          by_cases q9:q<9
          · simp only [q0,q9,if_false,if_true]
          · have:q=11:=by omega
            subst this
            simp[pt_same]
        · rfl
  · refine h1.keep λk hk=>hkeep k λe=>?_
    have:=(n1 k hk).1;omega
  · refine h2.keep λk hk=>hkeep k λe=>?_
    have:=(n2 k hk).1;omega
  · refine hU.keep λk hk=>(hkeep k λe=>?_).trans (hb.block k (hU.lt hk).2)
    have:=h.apart (.undo t) .box k ht trivial hk (by rw[e];rfl)
    cases this
  · exact .inr λk hk=>by rw[hz];exact n1 k hk
  · exact .inr λk hk=>by rw[hz];exact n2 k hk
  · intro k hk e1 e2
    have:=(hU.lt e2).2;have:=(n1 k e1).1;omega
  · intro k hk e1 e2
    have:=(hU.lt e2).2;have:=(n2 k e1).1;omega
  · intro ho
    obtain⟨a,b⟩:=h.opn t ht ho
    refine⟨?_,?_⟩
    · rw[Option.isSome_iff_ne_none] at a ⊢
      exact λe=>a (o1.1 e)
    · rw[Option.isSome_iff_ne_none] at b ⊢
      exact λe=>b (o2.1 e)
theorem Mach.setHeap {base B:Nat} {w1 w:World} {nm0 nm:Nm} {M:CM} (h:Mach base w B nm M) (hw:Went 0 w1 w B nm0 nm) {a:Option Addr} {n c:Nat} {ys:List Int} {lo tp:Nat} (hO:OwnInts w lo (.slice a n c) ys) (hlo:w1.heap.size<=lo) (hbl:base<=w1.heap.size)
    (hnh:∀k,Value.ownBlock (.slice a n c)=some k->¬ Has B nm k) (hB0:B<w1.heap.size) :
    Mach base (((w.setCell ⟨B,0,none⟩ (.slice a n c)).setCell ⟨B,1,none⟩ (.int .i64 (tp:Int))).setCell ⟨B,82,none⟩ (.bool false)) B { nm with hv:=.slice a n c } { M with xs:=ys,top:=tp,going:=false } /\
    Went 0 w1 (((w.setCell ⟨B,0,none⟩ (.slice a n c)).setCell ⟨B,1,none⟩ (.int .i64 (tp:Int))).setCell ⟨B,82,none⟩ (.bool false)) B nm0 { nm with hv:=.slice a n c }:=by
  have hbx:=((h.box.set (o:=0) (by omega) (.slice a n c)).set (o:=1) (by omega) (.int .i64 (tp:Int))).set (o:=82) (by omega) (.bool false)
  obtain⟨w',hw'⟩:∃w',w' = ((w.setCell ⟨B,0,none⟩ (.slice a n c)).setCell ⟨B,1,none⟩ (.int .i64 (tp:Int))).setCell ⟨B,82,none⟩ (.bool false):=⟨_,rfl⟩
  have hC:Chg (λk=>k=B) w w':=by
    rw[hw']
    exact ((Chg.setB _ _ _ _).trans (Chg.setB _ _ _ _)).trans (Chg.setB _ _ _ _)
  rw[<- hw'] at hbx ⊢
  clear hw'
  have hlt:=h.lt
  have hkO:∀k,Value.ownBlock (.slice a n c)=some k->lo<=k/\k<w.heap.size:=λk hk=>hO.lt hk
  have hrole:∀i:Ro,i.ok->i≠.words->role B { nm with hv:=.slice a n c } i=role B nm i:=λi _ hi=>by
    cases i with
    | words=>exact absurd rfl hi
    | _=>rfl
  have hkeep:∀k,k<w.heap.size->k≠B->w'.heap[k]? = w.heap[k]?:=λk h1 h2=>hC.block k h1 h2
  have hapB:∀(i:Ro),i.ok->i≠.box->∀k,role B nm i=some k->k≠B:=λi hi hne k hk e=>hne (h.apart i .box k hi trivial hk (by rw[e];rfl))
  refine⟨⟨λi hi=>?_,λi k hi hk=>?_,λi j k hi hj h1 h2=>?_,h.opn,Nat.le_trans h.base_le hC.size⟩,?_⟩
  · cases i with
    | box =>
      refine hbx.congr λi hi=>?_
      unfold ins
      by_cases e82:i=82
      · subst e82;rfl
      by_cases e1:i=1
      · subst e1;rfl
      by_cases e0:i=0
      · subst e0;rfl
      rw[if_neg e82,if_neg e1,if_neg e0]
      unfold cellOf
      simp only [e0,e1,e82,if_false]
      rfl
    | words =>
      refine⟨hO.1,?_⟩
      have h2:=(hO.mono (base':=base) (by omega)).2
      exact ownsRow_keep h2 λk hk=>hkeep k (hkO k hk).2 (λe=>hnh k hk ⟨.box,trivial,by rw[e];rfl⟩)
    | reads t=>exact (h.part (.reads t) hi).keep λk hk=>hkeep k (h.lo (.reads t) k hi hk).2 (hapB (.reads t) hi (by simp) k hk)
    | owned t=>exact (h.part (.owned t) hi).keep λk hk=>hkeep k (h.lo (.owned t) k hi hk).2 (hapB (.owned t) hi (by simp) k hk)
    | undo t=>exact (h.part (.undo t) hi).keep λk hk=>hkeep k (h.lo (.undo t) k hi hk).2 (hapB (.undo t) hi (by simp) k hk)
    | gray=>exact (h.part .gray hi).keep λk hk=>hkeep k (h.lo .gray k hi hk).2 (hapB .gray hi (by simp) k hk)
    | mark=>intro e;cases e
  · by_cases e:i = .words
    · subst e
      have:=hkO k hk
      have:=hC.size
      exact⟨by omega,by omega⟩
    · rw[hrole i hi e] at hk
      have:=h.lo i k hi hk
      have:=hC.size
      omega
  · by_cases e:i = .words
    · by_cases e2:j = .words
      · rw[e,e2]
      · rw[hrole j hj e2] at h2
        subst e
        exact absurd ⟨j,hj,h2⟩ (hnh k h1)
    · by_cases e2:j = .words
      · rw[hrole i hi e] at h1
        subst e2
        exact absurd ⟨i,hi,h1⟩ (hnh k h2)
      · rw[hrole i hi e] at h1
        rw[hrole j hj e2] at h2
        exact h.apart i j k hi hj h1 h2
  · refine⟨⟨hC.os.trans hw.chg.os,hC.tape.trans hw.chg.tape,hC.output.trans hw.chg.output,Nat.le_trans hw.chg.size hC.size,λk hk hx=>?_⟩,λk hk hx=>?_,hw.few⟩
    · have hkB:k≠B:=λe=>hx (hw.own k hk ⟨.box,trivial,by rw[e];rfl⟩)
      exact (hkeep k (Nat.lt_of_lt_of_le hk hw.chg.size) hkB).trans (hw.chg.block k hk hx)
    · obtain⟨i,hi,e⟩:=hx
      by_cases e2:i = .words
      · subst e2
        have:=(hkO k e).1
        omega
      · rw[hrole i hi e2] at e
        exact hw.own k hk ⟨i,hi,e⟩
end Go.Proofs.Ytbeilcaadpopmab
