/- Texts put together: J8, J9, Jl, Jm, Jo. -/
import Derived.Test.YtbeilcaadpopmabYf
set_option linter.unusedVariables false
set_option linter.unusedSimpArgs false
namespace Go.Proofs.Ytbeilcaadpopmab
open Go.RowKit Go.Maps
def sweep1 (x:Thing):Thing:={ x with gone:=x.gone || (!x.kept && !x.fresh) }
def goneT (x:Thing):Thing:={ x with gone:=true }
def swpT (l:List Thing) (k:Nat):List Thing:=l.mapIdx λi x=>if i<k then sweep1 x else x
theorem swpT_len (l:List Thing) (k:Nat):(swpT l k).length=l.length:=by simp[swpT]
theorem swpT_zero (l:List Thing):swpT l 0=l:=by
  refine List.ext_getElem (by simp[swpT]) λi h1 h2=>by simp[swpT]
theorem swpT_all (l:List Thing):swpT l l.length=sweepF l:=by
  refine List.ext_getElem (by simp[swpT,sweepF]) λi h1 h2=>?_
  have:i<l.length:=by simpa [swpT] using h1
  simp[swpT,sweepF,this,sweep1]
theorem swpT_at (l:List Thing) (k:Nat) (hk:k<l.length):th (swpT l k) (k+1)=th l (k+1):=by
  rw[th_at _ _ (by rw[swpT_len];exact hk),th_at _ _ hk]
  simp[swpT]
theorem swpT_yes (l:List Thing) (k:Nat) (hk:k<l.length) (h1:(th l (k+1)).kept=false) (h2:(th l (k+1)).fresh=false):turnT (swpT l k) (k+1) goneT=swpT l (k+1):=by
  rw[th_at _ _ hk] at h1 h2
  show (swpT l k).modify (k+1 - 1) goneT=_
  refine List.ext_getElem (by simp[swpT]) λi h3 h4=>?_
  have hi:i<l.length:=by simpa [swpT] using h4
  rw[List.getElem_modify]
  simp only [swpT,List.getElem_mapIdx,show k+1 - 1=k by omega]
  by_cases e:k=i
  · subst e
    simp[sweep1,goneT,h1,h2]
  · rw[if_neg e]
    by_cases e2:i<k
    · rw[if_pos e2,if_pos (by omega)]
    · rw[if_neg e2,if_neg (by omega)]
theorem swpT_no (l:List Thing) (k:Nat) (hk:k<l.length) (h:(th l (k+1)).kept=true\/(th l (k+1)).fresh=true):swpT l (k+1)=swpT l k:=by
  rw[th_at _ _ hk] at h
  refine List.ext_getElem (by simp[swpT]) λi h3 h4=>?_
  have hi:i<l.length:=by simpa [swpT] using h4
  simp only [swpT,List.getElem_mapIdx]
  by_cases e:k=i
  · subst e
    rw[if_pos (by omega),if_neg (by omega)]
    have e2:(l[k].gone || (!l[k].kept && !l[k].fresh))=l[k].gone:=by rcases h with h|h <;> rw[h] <;> simp
    unfold sweep1
    rw[e2]
  · by_cases e2:i<k
    · rw[if_pos e2,if_pos (by omega)]
    · rw[if_neg e2,if_neg (by omega)]
theorem thingC_gone (f:Value) (x:Thing):∀i,i<6->thingC f (goneT x) i=ins (thingC f x) 3 (.bool true) i:=λi hi=>by
  rcases (show i=0\/i=1\/i=2\/i=3\/i=4\/i=5 by omega) with rfl|rfl|rfl|rfl|rfl|rfl <;> rfl
theorem Rmem.gone {base B:Nat} {w:World} {nm:Rn} {H:Hall} (h:Rmem base w B nm H) {n:Nat} (h1:1<=n) (hn:n<=H.things.length) :
    Rmem base (w.setCell ⟨nm.tb (n - 1),3,none⟩ (.bool true)) B nm { H with things:=turnT H.things n goneT }/\WentR w (w.setCell ⟨nm.tb (n - 1),3,none⟩ (.bool true)) B H.things.length H.things.length nm nm:=by
  refine h.thingTurn h1 hn goneT (λ_=>rfl) (Chg.set _ _ _ _ rfl) ?_
  have hb:=h.thing (i:=n - 1) (by omega)
  rw[show n - 1+1=n by omega] at hb
  exact (hb.set (o:=3) (by omega) (.bool true)).congr λi hi=>(thingC_gone _ _ i hi).symm
theorem swpT_f6 {l:List Thing} (hf:∀x ∈ l,x.fields.length<=6) (k:Nat):∀x ∈ swpT l k,x.fields.length<=6:=λx hx=>by
  obtain⟨i,hi,rfl⟩:=List.getElem_of_mem hx
  have hi2:i<l.length:=by simpa [swpT] using hi
  have:=hf _ (List.getElem_mem hi2)
  simp only [swpT,List.getElem_mapIdx]
  split
  · exact this
  · exact this
set_option maxRecDepth 100000 in
set_option maxHeartbeats 8000000 in
theorem acted_step (base:Nat) (w:World) (B:Nat) (nm:Rn) (H:Hall) (h:Rmem base w B nm H) (hf:∀x ∈ H.things,x.fields.length<=6) (hl:Left2 H) (t a b n:Int) :
    Calls Try.prog 67 #[.pointer (some ⟨B,0,none⟩),.agg #[.int .i64 11,.int .i64 t,.int .i64 a,.int .i64 b,.int .i64 n]] w (RetRA base w B nm H (H.step n)):=by
  have HM:=Lib.hid h
  have H6:=Lib.hid hf
  clear hf
  by_cases hn:1<=n/\n<=400
  · obtain⟨hn1,hn2⟩:=hn
    have HIN:Hid (∀W,Calls Try.prog 56 #[.int .i64 n,.int .i64 1,.int .i64 400] W (λe w'=>e = .returned (.bool true)/\W=w')):=λW=>by
      have:=in_any n 1 400 W
      rwa [inB_true (by omega) (by omega)] at this
    cases hg:H.going with
    | false =>
      have HP:Hid (H.step n=(H,.err 5)):=by unfold Hid Hall.step;rw[if_neg (by omega),if_pos hg]
      rw[HP.out]
      have HG:=Lib.hid hg
      clear hg HP h hl hn1 hn2
      go_enter Try.func67,Try.ntmps67
      go_upto_region 91 with (first|(go_at_call 56;(with_reducible refine (in_kind 11 (by omega) _).mono ?_);rintro e w1 ⟨rfl,hb1⟩;obtain⟨HA,HR1,HR2,HB1,hz1⟩:=rows3 hb1;clear hb1;obtain⟨a0,a1,a2,a3,a4⟩:=HA.out.act)|(go_at_call 56;(with_reducible refine (HIN.out _).mono ?_);rintro e _ ⟨rfl,rfl⟩))
      obtain⟨X2,hX2⟩:∃X2,X2=w.heap.size+1+1:=⟨_,rfl⟩
      rw[<- hX2] at HR2 ⊢
      obtain⟨X1,hX1⟩:∃X1,X1=w.heap.size+1:=⟨_,rfl⟩
      rw[<- hX1] at HR1 ⊢
      have hx:w.heap.size<X1/\X1<X2/\X2<w1.heap.size:=by omega
      have hx12:X1≠X2:=by omega
      have HF:=Lib.hid (AF.start HM.out HB1.out hx HA.out HR1.out HR2.out)
      have HM1:=Lib.hid HF.out.mem
      have hB1:=HM1.out.lt
      have hBX2:B≠X2:=by have:=HM.out.lt;omega
      have hBX1:B≠X1:=by have:=HM.out.lt;omega
      clear hX1 hX2 hz1 HA HR1 HR2
      have c82:=(HM1.out.box 82 (by omega)).1
      rw[show hallC nm H 82 = .bool H.going from rfl,HG.out] at c82
      obtain⟨⟨o0,o1,o2,o3,o4,o5,o6⟩,z0,z1,z2,z3,z4,z5,z6⟩:=HF.out.r2.ans
      obtain⟨⟨p0,p1,p2,p3,p4,p5,p6⟩,y0,y1,y2,y3,y4,y5,y6⟩:=HF.out.r1.ans
      go_wp2_with fail
      have HEND:Hid (RowAt (((((((((w1).setCell ⟨X2,0,none⟩ (.int .i64 5)).setCell ⟨X1,0,none⟩ (.int .i64 5)).setCell ⟨X1,1,none⟩ (.bool AnsM.nil.is)).setCell ⟨X1,2,none⟩ (.int .i64 AnsM.nil.number)).setCell ⟨X1,3,none⟩ (.bool AnsM.nil.yes)).setCell ⟨X1,4,none⟩ (.int .i64 AnsM.nil.words)).setCell ⟨X1,5,none⟩ (.bool AnsM.nil.going)).setCell ⟨X1,6,none⟩ (.int .i64 AnsM.nil.freed)) X1 (ansL (.err 5))) :=
        ((((((((HF.out.r1).setFar _ _ (by simp;omega)).set 0 _).set 1 _).set 2 _).set 3 _).set 4 _).set 5 _).set 6 _
      refine bodyPost_ret (v:=ansV (.err 5)) (res_acted rfl HEND.out) rfl ?_
      exact HF.out.fin (by repeat with_reducible (first|exact Chg.refl _ _|refine chgS ?_ (by first|(simp;done)|(simp;omega))))
    | true =>
      obtain⟨l1,l2⟩:=hl hg
      have wl:IntKind.i64.wrap (H.left - n)=H.left - n:=IntWalk.i64_in _ (by omega)
      by_cases hle:H.left - n<=0
      · have HP : Hid (H.step n = ({ H with things := sweepF H.things, going := false, left := H.left - n }, ⟨0, false, 0, false, 0, false, (usedOf H.things : Int) - usedOf (sweepF H.things)⟩)) := by unfold Hid Hall.step; rw [if_neg (by omega), if_neg (by rw [hg]; simp), if_pos hle]
        have HG:=Lib.hid hg
        clear hg h hl
        go_enter Try.func67,Try.ntmps67
        go_upto_region 91 with (first|(go_at_call 56;(with_reducible refine (in_kind 11 (by omega) _).mono ?_);rintro e w1 ⟨rfl,hb1⟩;obtain⟨HA,HR1,HR2,HB1,hz1⟩:=rows3 hb1;clear hb1;obtain⟨a0,a1,a2,a3,a4⟩:=HA.out.act)|(go_at_call 56;(with_reducible refine (HIN.out _).mono ?_);rintro e _ ⟨rfl,rfl⟩))
        obtain⟨X2,hX2⟩:∃X2,X2=w.heap.size+1+1:=⟨_,rfl⟩
        rw[<- hX2] at HR2 ⊢
        obtain⟨X1,hX1⟩:∃X1,X1=w.heap.size+1:=⟨_,rfl⟩
        rw[<- hX1] at HR1 ⊢
        have hx:w.heap.size<X1/\X1<X2/\X2<w1.heap.size:=by omega
        have hx12:X1≠X2:=by omega
        have HF:=Lib.hid (AF.start HM.out HB1.out hx HA.out HR1.out HR2.out)
        have HM1:=Lib.hid HF.out.mem
        have hB1:=HM1.out.lt
        have hBX2:B≠X2:=by have:=HM.out.lt;omega
        have hBX1:B≠X1:=by have:=HM.out.lt;omega
        clear hX1 hX2 hz1 HA HR1 HR2
        have c82:=(HM1.out.box 82 (by omega)).1
        rw[show hallC nm H 82 = .bool H.going from rfl,HG.out] at c82
        go_upto_region 93 with (fail)
        clear c82
        obtain⟨w2,hw2⟩:∃w2,w2=w1.drew:=⟨_,rfl⟩
        have HF2:Hid (AF base w B nm H (actL 11 t a b n) X1 X2 AnsM.nil w2 nm H):=by rw[Hid,hw2];exact HF.out.below (Below.refl _ _).drew
        clear a0 a1 a2 a3 a4
        obtain⟨a0,a1,a2,a3,a4⟩:=HF2.out.ra.act
        obtain⟨d83,dz⟩:=HF2.out.mem.box 83 (by omega)
        rw[show hallC nm H 83 = .int .i64 H.left from rfl] at d83
        have hB2:=HF2.out.mem.lt
        refine still_tail_at 10 (by kernel_rfl) (by kernel_rfl) hw2 ?_;simp only [List.take_succ_cons,List.take_zero,List.drop_succ_cons,List.drop_zero];clear hw2;(repeat still_step);refine wpStill_nil ?_
        obtain⟨q1,q2⟩:=HF2.out.mem.setLeft (H.left - n)
        have HF3:=Lib.hid (HF2.out.step q1 q2)
        clear q1 q2
        have HF4:=Lib.hid HF3.out
        go_upto_region 95 with (fail)
        obtain⟨w3,hw3⟩:∃w3,w3=w2.setCell ⟨B,83,none⟩ (.int .i64 (H.left - n)):=⟨_,rfl⟩
        rw[<- hw3] at HF3 ⊢
        clear hw3 HF4 d83 dz a0 a1 a2 a3 a4
        obtain⟨x,hxx⟩:∃x,x=H.left - n:=⟨_,rfl⟩
        rw[<- hxx] at HF3 HP
        have hKb:H.things.length<=1000000:=by obtain⟨_,_,_,_,_,h6,_⟩:=HF3.out.mem.tv;exact h6
        have hu:=usedOf_small _ H6.out
        have HX:=Lib.hid hxx
        clear hxx
        obtain⟨u0,hu0⟩:∃u0,u0=usedOf H.things:=⟨_,rfl⟩
        have HU0:=Lib.hid hu0
        rw[<- hu0] at hu
        clear hu0
        go_wp2_with (go_at_call 85;refine (used_any HF3.out.mem H6.out).mono ?_;rintro e _ ⟨rfl,rfl⟩;rw[show ({ H with left:=x }:Hall).used=u0 from HU0.out.symm])
        go_loopw [21] (λu wx=>∃k:Nat,k<=H.things.length/\u = .int .i64 (k:Int)/\AF base w B nm H (actL 11 t a b n) X1 X2 AnsM.nil wx nm { H with left:=x,things:=swpT H.things k }) (λu _=>H.things.length - (intOf u).toNat)
        case atStart=>exact⟨0,Nat.zero_le _,rfl,by rw[swpT_zero];exact HF3.out⟩
        case round =>
          obtain⟨k,hk,rfl,hF⟩:=hrel
          have HF4:=Lib.hid hF
          clear hF HF3
          have hB4:=HF4.out.mem.lt
          have hl:(swpT H.things k).length=H.things.length:=swpT_len _ _
          obtain⟨a',c,e,hc1,hc2,_,hat⟩:=HF4.out.mem.tv
          dsimp only at e hc1 hat
          rw[hl] at e hc1 hat
          obtain⟨c1,_⟩:=HF4.out.mem.box 1 (by omega)
          rw[show hallC nm { H with left:=x,things:=swpT H.things k } 1=nm.tv from rfl,e] at c1
          obtain⟨K,hK⟩:∃K,K=H.things.length:=⟨_,rfl⟩
          rw[<- hK] at c1 hc1 hk hKb hu ⊢
          have HK:=Lib.hid hK
          by_cases hlt:k<K
          · have hlt2:k<H.things.length:=by omega
            obtain⟨g,rfl,hg,hgB,d0,_⟩:=hat k hlt2
            have HGONE:=Lib.hid (HF4.out.mem.gone (n:=k+1) (by omega) (by dsimp only;rw[hl];omega))
            obtain⟨_,_,_,t3,t4,t5,tz,htl⟩:=HF4.out.mem.cT (n:=k+1) (by omega) (by dsimp only;rw[hl];omega)
            have tz3:=tz 3 (by omega)
            dsimp only at t3 t4 t5
            rw[swpT_at _ _ hlt2] at t3 t4 t5
            rw[show k+1 - 1=k by omega] at HGONE t3 t4 t5 tz3 htl
            obtain⟨T,hT⟩:∃T,T=nm.tb k:=⟨_,rfl⟩
            rw[<- hT] at HGONE d0 t3 t4 t5 tz3 htl
            have hkk:(k:Int)<(K:Int):=by omega
            have HYES:=Lib.hid (swpT_yes H.things k hlt2)
            have HNO:=Lib.hid (swpT_no H.things k hlt2)
            have HLL:Hid ((swpT H.things k).length=K):=by rw[Hid,hl,hK]
            have HC1:=Lib.hid c1;have HD0:=Lib.hid d0
            clear hat tz hT e hl hK hlt2
            cases hkp:(th H.things (k+1)).kept with
            | true =>
              rw[hkp] at t5
              have HN:Hid (swpT H.things (k+1)=swpT H.things k):=HNO.out (.inl hkp)
              clear hkp
              go_wp2_with fail
              go_roundw
              case rel=>exact⟨k+1,by omega,by go_num,by rw[HN.out];exact HF4.out.below (by ((repeat first|exact bR _ _|with_reducible first|refine bN ?_|refine bD ?_|refine bA ?_ ?_|refine bS ?_ ?_);all_goals first|exact Nat.le_refl _|(simp;done)|omega|(simp;omega)))⟩
              case measure=>simp[intOf];omega
            | false =>
              rw[hkp] at t5
              cases hfr:(th H.things (k+1)).fresh with
              | true =>
                rw[hfr] at t4
                have HN:Hid (swpT H.things (k+1)=swpT H.things k):=HNO.out (.inr hfr)
                clear hkp hfr
                go_wp2_with fail
                go_roundw
                case rel=>exact⟨k+1,by omega,by go_num,by rw[HN.out];exact HF4.out.below (by ((repeat first|exact bR _ _|with_reducible first|refine bN ?_|refine bD ?_|refine bA ?_ ?_|refine bS ?_ ?_);all_goals first|exact Nat.le_refl _|(simp;done)|omega|(simp;omega)))⟩
                case measure=>simp[intOf];omega
              | false =>
                rw[hfr] at t4
                have HN:Hid (turnT (swpT H.things k) (k+1) goneT=swpT H.things (k+1)):=HYES.out hkp hfr
                clear hkp hfr
                go_wp2_with fail
                go_roundw
                case rel =>
                  refine⟨k+1,by omega,by go_num,?_⟩
                  obtain⟨q1,q2⟩:=HGONE.out
                  have h5:=HF4.out.step q1 (by have:=q2;dsimp only at this ⊢;rw[len_turn];exact this)
                  dsimp only at h5
                  rw[HN.out] at h5
                  exact h5.below (by ((repeat first|exact bR _ _|with_reducible first|refine bN ?_|refine bD ?_|refine bA ?_ ?_|refine bS ?_ ?_);all_goals first|exact Nat.le_refl _|(simp;done)|omega|(simp;omega)))
                case measure=>simp[intOf];omega
          · have hkK:k=H.things.length:=by omega
            have HF5:Hid (AF base w B nm H (actL 11 t a b n) X1 X2 AnsM.nil wr nm { H with left:=x,things:=sweepF H.things }):=by have:=HF4.out;rw[hkK,swpT_all] at this;exact this
            have H7:Hid (∀y ∈ sweepF H.things,y.fields.length<=6):=by rw[Hid,<- swpT_all];exact swpT_f6 H6.out _
            have hu2:=usedOf_small _ H7.out
            rw[show (sweepF H.things).length=K by rw[hK];simp[sweepF]] at hu2
            obtain⟨u1,hu1⟩:∃u1,u1=usedOf (sweepF H.things):=⟨_,rfl⟩
            rw[<- hu1] at hu2
            have wu:IntKind.i64.wrap ((u0:Int) - (u1:Int))=(u0:Int) - (u1:Int):=IntWalk.i64_in _ (by omega)
            have HU1:=Lib.hid hu1
            clear hat e hl hK hkK HF4 hu1
            obtain⟨⟨o0,o1,o2,o3,o4,o5,o6⟩,z0,z1,z2,z3,z4,z5,z6⟩:=HF5.out.r2.ans
            go_upto_region 102 with (go_at_call 85;refine (used_any HF5.out.mem H7.out).mono ?_;rintro e _ ⟨rfl,rfl⟩;rw[show ({ H with left:=x,things:=sweepF H.things }:Hall).used=u1 from HU1.out.symm])
            clear wu
            obtain⟨w5,hw5⟩:∃w5,w5=wr.setCell ⟨X2,6,none⟩ (.int .i64 ((u0:Int) - (u1:Int))):=⟨_,rfl⟩
            have HF6:Hid (AF base w B nm H (actL 11 t a b n) X1 X2 ⟨0,false,0,false,0,false,(u0:Int) - (u1:Int)⟩ w5 nm { H with left:=x,things:=sweepF H.things }):=by rw[hw5];exact HF5.out.set2 6 _ rfl
            rw[<- hw5]
            clear hw5 HF5 c1 o0 o1 o2 o3 o4 o5 o6 z0 z1 z2 z3 z4 z5 z6
            have hB6:=HF6.out.mem.lt
            obtain⟨c82,z82⟩:=HF6.out.mem.box 82 (by omega)
            obtain⟨q1,q2⟩:=HF6.out.mem.setGo false
            have HF7:=Lib.hid (HF6.out.step q1 q2)
            clear q1 q2
            have HPE:Hid (H.step n=({ H with left:=x,things:=sweepF H.things,going:=false },⟨0,false,0,false,0,false,(u0:Int) - (u1:Int)⟩)):=by
              have e:=HP.out
              rw[<- HU0.out,<- HU1.out] at e
              exact e
            obtain⟨⟨o0,o1,o2,o3,o4,o5,o6⟩,z0,z1,z2,z3,z4,z5,z6⟩:=HF6.out.r2.ans
            obtain⟨⟨p0,p1,p2,p3,p4,p5,p6⟩,y0,y1,y2,y3,y4,y5,y6⟩:=HF6.out.r1.ans
            go_wp2_with fail
            have HEND:Hid (RowAt ((((((((w5.setCell ⟨B,82,none⟩ (.bool false)).setCell ⟨X1,0,none⟩ (.int .i64 0)).setCell ⟨X1,1,none⟩ (.bool false)).setCell ⟨X1,2,none⟩ (.int .i64 0)).setCell ⟨X1,3,none⟩ (.bool false)).setCell ⟨X1,4,none⟩ (.int .i64 0)).setCell ⟨X1,5,none⟩ (.bool false)).setCell ⟨X1,6,none⟩ (.int .i64 ((u0:Int) - (u1:Int)))) X1 (ansL ⟨0,false,0,false,0,false,(u0:Int) - (u1:Int)⟩)) :=
              (((((((HF7.out.r1).set 0 _).set 1 _).set 2 _).set 3 _).set 4 _).set 5 _).set 6 _
            refine bodyPost_ret (v:=ansV ⟨0,false,0,false,0,false,(u0:Int) - (u1:Int)⟩) (res_acted rfl HEND.out) rfl ?_
            rw[HPE.out]
            exact HF7.out.fin (by repeat with_reducible (first|exact Chg.refl _ _|refine chgS ?_ (by first|(simp;done)|(simp;omega))))
      · have HP:Hid (H.step n=({ H with left:=H.left - n },.nil)):=by unfold Hid Hall.step;rw[if_neg (by omega),if_neg (by rw[hg];simp),if_neg hle]
        rw[HP.out]
        have HG:=Lib.hid hg
        clear hg h hl HP
        go_enter Try.func67,Try.ntmps67
        go_upto_region 91 with (first|(go_at_call 56;(with_reducible refine (in_kind 11 (by omega) _).mono ?_);rintro e w1 ⟨rfl,hb1⟩;obtain⟨HA,HR1,HR2,HB1,hz1⟩:=rows3 hb1;clear hb1;obtain⟨a0,a1,a2,a3,a4⟩:=HA.out.act)|(go_at_call 56;(with_reducible refine (HIN.out _).mono ?_);rintro e _ ⟨rfl,rfl⟩))
        obtain⟨X2,hX2⟩:∃X2,X2=w.heap.size+1+1:=⟨_,rfl⟩
        rw[<- hX2] at HR2 ⊢
        obtain⟨X1,hX1⟩:∃X1,X1=w.heap.size+1:=⟨_,rfl⟩
        rw[<- hX1] at HR1 ⊢
        have hx:w.heap.size<X1/\X1<X2/\X2<w1.heap.size:=by omega
        have hx12:X1≠X2:=by omega
        have HF:=Lib.hid (AF.start HM.out HB1.out hx HA.out HR1.out HR2.out)
        have HM1:=Lib.hid HF.out.mem
        have hB1:=HM1.out.lt
        have hBX2:B≠X2:=by have:=HM.out.lt;omega
        have hBX1:B≠X1:=by have:=HM.out.lt;omega
        clear hX1 hX2 hz1 HA HR1 HR2
        have c82:=(HM1.out.box 82 (by omega)).1
        rw[show hallC nm H 82 = .bool H.going from rfl,HG.out] at c82
        go_upto_region 93 with (fail)
        clear c82
        obtain⟨w2,hw2⟩:∃w2,w2=w1.drew:=⟨_,rfl⟩
        have HF2:Hid (AF base w B nm H (actL 11 t a b n) X1 X2 AnsM.nil w2 nm H):=by rw[Hid,hw2];exact HF.out.below (Below.refl _ _).drew
        clear a0 a1 a2 a3 a4
        obtain⟨a0,a1,a2,a3,a4⟩:=HF2.out.ra.act
        obtain⟨d83,dz⟩:=HF2.out.mem.box 83 (by omega)
        rw[show hallC nm H 83 = .int .i64 H.left from rfl] at d83
        have hB2:=HF2.out.mem.lt
        refine still_tail_at 10 (by kernel_rfl) (by kernel_rfl) hw2 ?_;simp only [List.take_succ_cons,List.take_zero,List.drop_succ_cons,List.drop_zero];clear hw2;(repeat still_step);refine wpStill_nil ?_
        obtain⟨q1,q2⟩:=HF2.out.mem.setLeft (H.left - n)
        have HF3:=Lib.hid (HF2.out.step q1 q2)
        clear q1 q2
        obtain⟨⟨o0,o1,o2,o3,o4,o5,o6⟩,z0,z1,z2,z3,z4,z5,z6⟩:=HF2.out.r2.ans
        obtain⟨⟨p0,p1,p2,p3,p4,p5,p6⟩,y0,y1,y2,y3,y4,y5,y6⟩:=HF2.out.r1.ans
        go_wp2_with fail
        have HEND:Hid (RowAt ((((((((w2.setCell ⟨B,83,none⟩ (.int .i64 (H.left - n))).setCell ⟨X1,0,none⟩ (.int .i64 AnsM.nil.code)).setCell ⟨X1,1,none⟩ (.bool AnsM.nil.is)).setCell ⟨X1,2,none⟩ (.int .i64 AnsM.nil.number)).setCell ⟨X1,3,none⟩ (.bool AnsM.nil.yes)).setCell ⟨X1,4,none⟩ (.int .i64 AnsM.nil.words)).setCell ⟨X1,5,none⟩ (.bool AnsM.nil.going)).setCell ⟨X1,6,none⟩ (.int .i64 AnsM.nil.freed)) X1 (ansL AnsM.nil)) :=
          (((((((HF3.out.r1).set 0 _).set 1 _).set 2 _).set 3 _).set 4 _).set 5 _).set 6 _
        refine bodyPost_ret (v:=ansV AnsM.nil) (res_acted rfl HEND.out) rfl ?_
        exact HF3.out.fin (by repeat with_reducible (first|exact Chg.refl _ _|refine chgS ?_ (by first|(simp;done)|(simp;omega))))
  · have HP:Hid (H.step n=(H,.err 2)):=by unfold Hid Hall.step;rw[if_pos hn]
    rw[HP.out]
    have HIN:Hid (∀W,Calls Try.prog 56 #[.int .i64 n,.int .i64 1,.int .i64 400] W (λe w'=>e = .returned (.bool false)/\W=w')):=λW=>by
      have:=in_any n 1 400 W
      by_cases h1:1<=n
      · rwa [inB_hi (by omega)] at this
      · rwa [inB_lo h1] at this
    clear hn HP h hl
    go_enter Try.func67,Try.ntmps67
    go_upto_region 89 with (first|(go_at_call 56;(with_reducible refine (in_kind 11 (by omega) _).mono ?_);rintro e w1 ⟨rfl,hb1⟩;obtain⟨HA,HR1,HR2,HB1,hz1⟩:=rows3 hb1;clear hb1;obtain⟨a0,a1,a2,a3,a4⟩:=HA.out.act))
    obtain⟨X2,hX2⟩:∃X2,X2=w.heap.size+1+1:=⟨_,rfl⟩
    rw[<- hX2] at HR2 ⊢
    obtain⟨X1,hX1⟩:∃X1,X1=w.heap.size+1:=⟨_,rfl⟩
    rw[<- hX1] at HR1 ⊢
    have hx:w.heap.size<X1/\X1<X2/\X2<w1.heap.size:=by omega
    have hx12:X1≠X2:=by omega
    have HF:=Lib.hid (AF.start HM.out HB1.out hx HA.out HR1.out HR2.out)
    have HM1:=Lib.hid HF.out.mem
    have hB1:=HM1.out.lt
    have hBX2:B≠X2:=by have:=HM.out.lt;omega
    have hBX1:B≠X1:=by have:=HM.out.lt;omega
    clear hX1 hX2 hz1 HA HR1 HR2
    obtain⟨⟨o0,o1,o2,o3,o4,o5,o6⟩,z0,z1,z2,z3,z4,z5,z6⟩:=HF.out.r2.ans
    obtain⟨⟨p0,p1,p2,p3,p4,p5,p6⟩,y0,y1,y2,y3,y4,y5,y6⟩:=HF.out.r1.ans
    go_wp2_with (go_at_call 56;refine (HIN.out _).mono ?_;rintro e _ ⟨rfl,rfl⟩)
    have HEND:Hid (RowAt (((((((((w1).setCell ⟨X2,0,none⟩ (.int .i64 2)).setCell ⟨X1,0,none⟩ (.int .i64 2)).setCell ⟨X1,1,none⟩ (.bool AnsM.nil.is)).setCell ⟨X1,2,none⟩ (.int .i64 AnsM.nil.number)).setCell ⟨X1,3,none⟩ (.bool AnsM.nil.yes)).setCell ⟨X1,4,none⟩ (.int .i64 AnsM.nil.words)).setCell ⟨X1,5,none⟩ (.bool AnsM.nil.going)).setCell ⟨X1,6,none⟩ (.int .i64 AnsM.nil.freed)) X1 (ansL (.err 2))) :=
      ((((((((HF.out.r1).setFar _ _ (by simp;omega)).set 0 _).set 1 _).set 2 _).set 3 _).set 4 _).set 5 _).set 6 _
    refine bodyPost_ret (v:=ansV (.err 2)) (res_acted rfl HEND.out) rfl ?_
    exact HF.out.fin (by repeat with_reducible (first|exact Chg.refl _ _|refine chgS ?_ (by first|(simp;done)|(simp;omega))))
end Go.Proofs.Ytbeilcaadpopmab
namespace Go.Proofs.Ytbeilcaadpopmab
open Go.RowKit Go.Maps
set_option maxRecDepth 100000 in
set_option maxHeartbeats 2000000 in
theorem acted_get_err (base:Nat) (w:World) (B:Nat) (nm:Rn) (H:Hall) (h:Rmem base w B nm H) (t a b:Nat) (ht:t<4) (ha:a<4) (hb:b<4) (n:Int) (hacc:H.acc t b n≠0) (ok:UndOk H t) (hid:(H.regs t b).id<=H.things.length) (h6:∀i,(th H.things i).fields.length<=6) (hver:∀i u,(th H.things i).owner=some u->u<4) :
    Calls Try.prog 67 #[.pointer (some ⟨B,0,none⟩),.agg #[.int .i64 5,.int .i64 (t:Int),.int .i64 (a:Int),.int .i64 (b:Int),.int .i64 n]] w (RetRA base w B nm H (H.get t a b n)):=by
  have HM:=Lib.hid h
  have i1:(t:Int)<4:=by omega
  have i2:(a:Int)<4:=by omega
  have i3:(b:Int)<4:=by omega
  have HTT:=Lib.hid ht;have HAA:=Lib.hid ha;have HBB:=Lib.hid hb
  obtain⟨c,hc⟩:∃c,c=H.acc t b n:=⟨_,rfl⟩
  have hc0:(c != 0)=true:=by rw[hc];simpa using hacc
  have HP:Hid (H.get t a b n=((if c=6 then H.undone t else H),.err c)):=by unfold Hid Hall.get;rw[if_neg hacc,hc]
  rw[HP.out]
  obtain⟨G,hG⟩:∃G,G=(if c=6 then H.undone t else H):=⟨_,rfl⟩
  rw[<- hG]
  have HACC:Hid (∀W,Rmem base W B nm H->Calls Try.prog 86 #[.pointer (some ⟨B,0,none⟩),.int .i64 (t:Int),.int .i64 (b:Int),.int .i64 n] W (RetH base W B nm H G (.tuple #[.int .i64 0,.int .i64 c]))):=λW hW=>by
    have:=access_any base W B nm H hW t b ht hb n ok hid h6 hver
    rw[if_neg hacc,<- hc,<- hG] at this;exact this
  clear h ht ha hb hc hG hacc ok hid h6 hver HP
  go_enter Try.func67,Try.ntmps67
  go_upto_region 53 with (first|(go_at_call 56;(with_reducible refine (in_kind 5 (by omega) _).mono ?_);rintro e w1 ⟨rfl,hb1⟩;obtain⟨HA,HR1,HR2,HB1,hz1⟩:=rows3 hb1;clear hb1;obtain⟨a0,a1,a2,a3,a4⟩:=HA.out.act)|(go_at_call 56;(with_reducible refine (in_reg t HTT.out _).mono ?_);rintro e _ ⟨rfl,rfl⟩)|(go_at_call 56;(with_reducible refine (in_reg a HAA.out _).mono ?_);rintro e _ ⟨rfl,rfl⟩)|(go_at_call 56;(with_reducible refine (in_reg b HBB.out _).mono ?_);rintro e _ ⟨rfl,rfl⟩))
  obtain⟨X2,hX2⟩:∃X2,X2=w.heap.size+1+1:=⟨_,rfl⟩
  rw[<- hX2] at HR2 ⊢
  obtain⟨X1,hX1⟩:∃X1,X1=w.heap.size+1:=⟨_,rfl⟩
  rw[<- hX1] at HR1 ⊢
  have hx:w.heap.size<X1/\X1<X2/\X2<w1.heap.size:=by omega
  have hx12:X1≠X2:=by omega
  have HF:=Lib.hid (AF.start HM.out HB1.out hx HA.out HR1.out HR2.out)
  have HM1:=Lib.hid HF.out.mem
  have hB1:=HM1.out.lt
  have hBX2:B≠X2:=by have:=HM.out.lt;omega
  have hBX1:B≠X1:=by have:=HM.out.lt;omega
  clear hX1 hX2 hz1 HA HR1 HR2
  go_wp2_with (go_at_call 86;refine (HACC.out _ HM1.out).mono ?_;rintro e w2 ⟨rfl,nm2,hM2,hW2⟩;have HF2:=Lib.hid (HF.out.step hM2 hW2);obtain⟨⟨o0,o1,o2,o3,o4,o5,o6⟩,z0,z1,z2,z3,z4,z5,z6⟩:=HF2.out.r2.ans;obtain⟨⟨p0,p1,p2,p3,p4,p5,p6⟩,y0,y1,y2,y3,y4,y5,y6⟩:=HF2.out.r1.ans;clear hM2 hW2 a0 a1 a2 a3 a4)
  have HEND:Hid (RowAt (((((((((w2).setCell ⟨X2,0,none⟩ (.int .i64 c)).setCell ⟨X1,0,none⟩ (.int .i64 c)).setCell ⟨X1,1,none⟩ (.bool AnsM.nil.is)).setCell ⟨X1,2,none⟩ (.int .i64 AnsM.nil.number)).setCell ⟨X1,3,none⟩ (.bool AnsM.nil.yes)).setCell ⟨X1,4,none⟩ (.int .i64 AnsM.nil.words)).setCell ⟨X1,5,none⟩ (.bool AnsM.nil.going)).setCell ⟨X1,6,none⟩ (.int .i64 AnsM.nil.freed)) X1 (ansL (.err c))) :=
    ((((((((HF2.out.r1).setFar _ _ (by simp;omega)).set 0 _).set 1 _).set 2 _).set 3 _).set 4 _).set 5 _).set 6 _
  refine bodyPost_ret (v:=ansV (.err c)) (res_acted rfl HEND.out) rfl ?_
  exact HF2.out.fin (by repeat with_reducible (first|exact Chg.refl _ _|refine chgS ?_ (by first|(simp;done)|(simp;omega))))
set_option maxRecDepth 100000 in
set_option maxHeartbeats 2000000 in
theorem acted_put_err (base:Nat) (w:World) (B:Nat) (nm:Rn) (H:Hall) (h:Rmem base w B nm H) (t a b:Nat) (ht:t<4) (ha:a<4) (hb:b<4) (n:Int) (hacc:H.acc t a n≠0) (ok:UndOk H t) (hid:(H.regs t a).id<=H.things.length) (h6:∀i,(th H.things i).fields.length<=6) (hver:∀i u,(th H.things i).owner=some u->u<4) :
    Calls Try.prog 67 #[.pointer (some ⟨B,0,none⟩),.agg #[.int .i64 6,.int .i64 (t:Int),.int .i64 (a:Int),.int .i64 (b:Int),.int .i64 n]] w (RetRA base w B nm H (H.put t a b n)):=by
  have HM:=Lib.hid h
  have i1:(t:Int)<4:=by omega
  have i2:(a:Int)<4:=by omega
  have i3:(b:Int)<4:=by omega
  have HTT:=Lib.hid ht;have HAA:=Lib.hid ha;have HBB:=Lib.hid hb
  obtain⟨c,hc⟩:∃c,c=H.acc t a n:=⟨_,rfl⟩
  have hc0:(c != 0)=true:=by rw[hc];simpa using hacc
  have HP:Hid (H.put t a b n=((if c=6 then H.undone t else H),.err c)):=by unfold Hid Hall.put;rw[if_neg hacc,hc]
  rw[HP.out]
  obtain⟨G,hG⟩:∃G,G=(if c=6 then H.undone t else H):=⟨_,rfl⟩
  rw[<- hG]
  have HACC:Hid (∀W,Rmem base W B nm H->Calls Try.prog 86 #[.pointer (some ⟨B,0,none⟩),.int .i64 (t:Int),.int .i64 (a:Int),.int .i64 n] W (RetH base W B nm H G (.tuple #[.int .i64 0,.int .i64 c]))):=λW hW=>by
    have:=access_any base W B nm H hW t a ht ha n ok hid h6 hver
    rw[if_neg hacc,<- hc,<- hG] at this;exact this
  clear h ht ha hb hc hG hacc ok hid h6 hver HP
  go_enter Try.func67,Try.ntmps67
  go_upto_region 63 with (first|(go_at_call 56;(with_reducible refine (in_kind 6 (by omega) _).mono ?_);rintro e w1 ⟨rfl,hb1⟩;obtain⟨HA,HR1,HR2,HB1,hz1⟩:=rows3 hb1;clear hb1;obtain⟨a0,a1,a2,a3,a4⟩:=HA.out.act)|(go_at_call 56;(with_reducible refine (in_reg t HTT.out _).mono ?_);rintro e _ ⟨rfl,rfl⟩)|(go_at_call 56;(with_reducible refine (in_reg a HAA.out _).mono ?_);rintro e _ ⟨rfl,rfl⟩)|(go_at_call 56;(with_reducible refine (in_reg b HBB.out _).mono ?_);rintro e _ ⟨rfl,rfl⟩))
  obtain⟨X2,hX2⟩:∃X2,X2=w.heap.size+1+1:=⟨_,rfl⟩
  rw[<- hX2] at HR2 ⊢
  obtain⟨X1,hX1⟩:∃X1,X1=w.heap.size+1:=⟨_,rfl⟩
  rw[<- hX1] at HR1 ⊢
  have hx:w.heap.size<X1/\X1<X2/\X2<w1.heap.size:=by omega
  have hx12:X1≠X2:=by omega
  have HF:=Lib.hid (AF.start HM.out HB1.out hx HA.out HR1.out HR2.out)
  have HM1:=Lib.hid HF.out.mem
  have hB1:=HM1.out.lt
  have hBX2:B≠X2:=by have:=HM.out.lt;omega
  have hBX1:B≠X1:=by have:=HM.out.lt;omega
  clear hX1 hX2 hz1 HA HR1 HR2
  go_wp2_with (go_at_call 86;refine (HACC.out _ HM1.out).mono ?_;rintro e w2 ⟨rfl,nm2,hM2,hW2⟩;have HF2:=Lib.hid (HF.out.step hM2 hW2);obtain⟨⟨o0,o1,o2,o3,o4,o5,o6⟩,z0,z1,z2,z3,z4,z5,z6⟩:=HF2.out.r2.ans;obtain⟨⟨p0,p1,p2,p3,p4,p5,p6⟩,y0,y1,y2,y3,y4,y5,y6⟩:=HF2.out.r1.ans;clear hM2 hW2 a0 a1 a2 a3 a4)
  have HEND:Hid (RowAt (((((((((w2).setCell ⟨X2,0,none⟩ (.int .i64 c)).setCell ⟨X1,0,none⟩ (.int .i64 c)).setCell ⟨X1,1,none⟩ (.bool AnsM.nil.is)).setCell ⟨X1,2,none⟩ (.int .i64 AnsM.nil.number)).setCell ⟨X1,3,none⟩ (.bool AnsM.nil.yes)).setCell ⟨X1,4,none⟩ (.int .i64 AnsM.nil.words)).setCell ⟨X1,5,none⟩ (.bool AnsM.nil.going)).setCell ⟨X1,6,none⟩ (.int .i64 AnsM.nil.freed)) X1 (ansL (.err c))) :=
    ((((((((HF2.out.r1).setFar _ _ (by simp;omega)).set 0 _).set 1 _).set 2 _).set 3 _).set 4 _).set 5 _).set 6 _
  refine bodyPost_ret (v:=ansV (.err c)) (res_acted rfl HEND.out) rfl ?_
  exact HF2.out.fin (by repeat with_reducible (first|exact Chg.refl _ _|refine chgS ?_ (by first|(simp;done)|(simp;omega))))
end Go.Proofs.Ytbeilcaadpopmab
namespace Go.Proofs.Ytbeilcaadpopmab
open Go.RowKit Go.Maps
set_option maxRecDepth 100000 in
set_option maxHeartbeats 8000000 in
theorem acted_get_noted (base:Nat) (w:World) (B:Nat) (nm:Rn) (H:Hall) (h:Rmem base w B nm H) (t a b m f:Nat) (ht:t<4) (ha:a<4) (hb:b<4) (hm1:1<=m) (hm2:m<=H.things.length) (hf:f<(th H.things m).fields.length) (hreg:H.regs t b = .ref m) (hacc:H.acc t b (f:Int)=0) (x:Nat) (hno:noted (H.deals t).reads m=some x) (ok:UndOk H t) (hid:(H.regs t b).id<=H.things.length) (h6:∀i,(th H.things i).fields.length<=6) (hver:∀i u,(th H.things i).owner=some u->u<4) :
    Calls Try.prog 67 #[.pointer (some ⟨B,0,none⟩),.agg #[.int .i64 5,.int .i64 (t:Int),.int .i64 (a:Int),.int .i64 (b:Int),.int .i64 (f:Int)]] w (RetRA base w B nm H (({ H with regs:=put2 H.regs t a ((th H.things m).fields.getD f (.num 0)),deals:=H.deals },told ((th H.things m).fields.getD f (.num 0))))):=by
  have HM:=Lib.hid h
  have i1:(t:Int)<4:=by omega
  have i2:(a:Int)<4:=by omega
  have i3:(b:Int)<4:=by omega
  have HTT:=Lib.hid ht;have HAA:=Lib.hid ha;have HBB:=Lib.hid hb
  have HO1:=Lib.hid hm1;have HO2:=Lib.hid hm2;have HO3:=Lib.hid hf;have H6:=Lib.hid h6
  have HAT:Hid (∀(W:World) (nm':Rn),Rmem base W B nm' H->Calls Try.prog 87 #[nm'.rv t,.int .i64 (m:Int)] W (λe w'=>e = .returned (.int .i64 (x:Int))/\W=w')):=λW nm' hW=>by
    have:=at_any (show Go.Proofs.Ytbeilcaadpopmab.OwnL rSeen W base (nm'.rv t) (H.deals t).reads from hW.part (.reads t) ht) m
    rwa [show atN (H.deals t).reads m=(x:Int) from by unfold atN;rw[hno]] at this
  obtain⟨D,hD⟩:∃D,D=H.deals:=⟨_,rfl⟩
  rw[<- hD]
  have HD:=Lib.hid hD
  have HOW:Hid (ownN (th H.things m).owner=ownN (th H.things m).owner):=by rfl
  obtain⟨vg,hvg⟩:∃vg,vg=(th H.things m).fields.getD f (.num 0):=⟨_,rfl⟩
  rw[<- hvg]
  have HVG:=Lib.hid hvg
  have HACC:Hid (∀W,Rmem base W B nm H->Calls Try.prog 86 #[.pointer (some ⟨B,0,none⟩),.int .i64 (t:Int),.int .i64 (b:Int),.int .i64 (f:Int)] W (RetH base W B nm H H (.tuple #[.int .i64 (m:Int),.int .i64 0]))):=λW hW=>by
    have:=access_any base W B nm H hW t b ht hb (f:Int) ok hid h6 hver
    rw[hacc,if_pos rfl,if_neg (by decide),hreg] at this;exact this
  clear h ht ha hb hacc hreg ok hid h6 hver hm1 hm2 hf hD hno hvg
  go_enter Try.func67,Try.ntmps67
  go_upto_region 53 with (first|(go_at_call 56;(with_reducible refine (in_kind 5 (by omega) _).mono ?_);rintro e w1 ⟨rfl,hb1⟩;obtain⟨HA,HR1,HR2,HB1,hz1⟩:=rows3 hb1;clear hb1;obtain⟨a0,a1,a2,a3,a4⟩:=HA.out.act)|(go_at_call 56;(with_reducible refine (in_reg t HTT.out _).mono ?_);rintro e _ ⟨rfl,rfl⟩)|(go_at_call 56;(with_reducible refine (in_reg a HAA.out _).mono ?_);rintro e _ ⟨rfl,rfl⟩)|(go_at_call 56;(with_reducible refine (in_reg b HBB.out _).mono ?_);rintro e _ ⟨rfl,rfl⟩))
  obtain⟨X2,hX2⟩:∃X2,X2=w.heap.size+1+1:=⟨_,rfl⟩
  rw[<- hX2] at HR2 ⊢
  obtain⟨X1,hX1⟩:∃X1,X1=w.heap.size+1:=⟨_,rfl⟩
  rw[<- hX1] at HR1 ⊢
  have hx:w.heap.size<X1/\X1<X2/\X2<w1.heap.size:=by omega
  have hx12:X1≠X2:=by omega
  have HF:=Lib.hid (AF.start HM.out HB1.out hx HA.out HR1.out HR2.out)
  have HM1:=Lib.hid HF.out.mem
  have hB1:=HM1.out.lt
  have hBX2:B≠X2:=by have:=HM.out.lt;omega
  have hBX1:B≠X1:=by have:=HM.out.lt;omega
  clear hX1 hX2 hz1 HA HR1 HR2
  go_upto_region 57 with (go_at_call 86;refine (HACC.out _ HM1.out).mono ?_;rintro e w2 ⟨rfl,nm2,hM2,hW2⟩;have HF2:=Lib.hid (HF.out.step hM2 hW2);clear hM2 hW2 a0 a1 a2 a3 a4)
  have HM2:=Lib.hid HF2.out.mem
  have hB2:=HM2.out.lt
  obtain⟨_,c9,_,_,cz⟩:=HM2.out.cD HTT.out
  have cz9:=cz 9 (by omega)
  obtain⟨ra,rc,er,hrc1,hrc2⟩:=Go.Proofs.Ytbeilcaadpopmab.OwnL.shape (show Go.Proofs.Ytbeilcaadpopmab.OwnL rSeen w2 base (nm2.rv t) (H.deals t).reads from HM2.out.part (.reads t) HTT.out)
  have HAT2:=Lib.hid (HAT.out w2 nm2 HM2.out)
  rw[er] at c9 HAT2
  have HTH:Hid (∀W,Below w2.heap.size w2 W->Calls Try.prog 83 #[.pointer (some ⟨B,0,none⟩),.int .i64 (m:Int)] W (λe w'=>e = .returned (.pointer (some ⟨nm2.tb (m - 1),0,none⟩))/\W=w')):=λW hW=>thing_any (HM2.out.below hW) HO1.out HO2.out
  obtain⟨_,t1,t2,_,_,_,_,htl2⟩:=HM2.out.cT HO1.out HO2.out
  have HER:=Lib.hid er
  clear cz er
  go_upto_region 60 with (first|(go_at_call 83;refine (HTH.out _ (by ((repeat first|exact bR _ _|with_reducible first|refine bN ?_|refine bD ?_|refine bA ?_ ?_|refine bS ?_ ?_);all_goals first|exact Nat.le_refl _|(simp;done)|omega|(simp;omega)))).mono ?_;rintro e _ ⟨rfl,rfl⟩)|(go_at_call 87;refine HAT2.out.mono ?_;rintro e _ ⟨rfl,rfl⟩))
  have HF3:Hid (AF base w B nm H (actL 5 (t:Int) (a:Int) (b:Int) (f:Int)) X1 X2 AnsM.nil w2 nm2 { H with deals:=D }):=by rw[Hid,HD.out];exact HF2.out
  clear c9 cz9 t1 t2 htl2 HAT2
  have HM3:=Lib.hid HF3.out.mem
  obtain⟨⟨fa,fc,hfv,hfc1,hfc2,t0,hfld⟩,_,_,_,_,_,_,htl⟩:=HM3.out.cT (n:=m) HO1.out HO2.out
  dsimp only at hfv hfc1 t0 hfld
  obtain⟨g,rfl,hg,hgB,_,d0,d1,_⟩:=hfld f HO3.out
  have hv:vg=(th H.things m).fields[f]'HO3.out:=by rw[HVG.out,List.getD_eq_getElem?_getD,List.getElem?_eq_getElem HO3.out];rfl
  rw[<- hv] at d0 d1
  obtain⟨vk,hvk⟩:∃vk,vk=vg.k:=⟨_,rfl⟩
  obtain⟨vn,hvn⟩:∃vn,vn=vg.n:=⟨_,rfl⟩
  rw[<- hvk] at d0;rw[<- hvn] at d1
  have HVK:=Lib.hid hvk;have HVN:=Lib.hid hvn
  obtain⟨fl,hfl⟩:∃fl,fl=(th H.things m).fields.length:=⟨_,rfl⟩
  rw[<- hfl] at t0 hfc1
  have hff:(f:Int)<(fl:Int):=by have:=HO3.out;omega
  obtain⟨T,hT⟩:∃T,T=nm2.tb (m - 1):=⟨_,rfl⟩
  have HTE:=Lib.hid hT
  simp only [<- hT] at t0 htl ⊢
  have hTB:T≠B:=λe=>by
    have:=HM3.out.apart (.thing (m - 1)) .box B (by show m - 1<H.things.length;have:=HO1.out;have:=HO2.out;omega) trivial (by show some (nm2.tb (m - 1))=_;rw[<- hT,e]) rfl
    cases this
  clear hfld hfv hv hvk hvn hfl hT
  obtain⟨w4,hw4⟩:∃w4,w4=w2.drew:=⟨_,rfl⟩
  have hb4:Below w2.heap.size w2 w4:=by rw[hw4];exact (Below.refl _ _).drew
  have HF4:=Lib.hid (HF3.out.below hb4)
  have t0':=(hb4.cell (p:=⟨T,0,none⟩) htl).trans t0
  have d0':=(hb4.cell (p:=⟨g,f * 2,none⟩) hg).trans d0
  have d1':=(hb4.cell (p:=⟨g,f * 2+1,none⟩) hg).trans d1
  have hgl4:g<w4.heap.size:=Nat.lt_of_lt_of_le hg hb4.size
  have htl4:T<w4.heap.size:=Nat.lt_of_lt_of_le htl hb4.size
  clear t0 d0 d1 hb4 hg htl
  obtain⟨a0,a1,a2,a3,a4⟩:=HF4.out.ra.act
  have HBX:=Lib.hid HF4.out.mem.box
  refine still_tail_at 16 (by kernel_rfl) (by kernel_rfl) hw4 ?_;simp only [List.take_succ_cons,List.take_zero,List.drop_succ_cons,List.drop_zero];clear hw4;(repeat still_step);refine wpStill_nil ?_
  have ho:2+t * 8+a * 2+(#[.int .i64 vk,.int .i64 vn]:Array Value).size<=84:=by have:=HTT.out;have:=HAA.out;simp;omega
  refine wpl_storeN rfl 36 _ _ rfl B (2+t * 8+a * 2) #[.int .i64 vk,.int .i64 vn] rfl rfl _ HBX.out ho Try.sizeVal (by simp[Value.oneCell']) ?_
  intro hbx hcg
  rw[List.toList_toArray] at hbx hcg ⊢
  have e5:=(hcg.cell htl4 hTB 0).1.trans t0'
  have e6:=(hcg.cell hgl4 hgB (f * 2)).1.trans d0'
  have e7:=(hcg.cell hgl4 hgB (f * 2+1)).1.trans d1'
  obtain⟨w5,hw5⟩:∃w5,w5=w4.setCells B (2+t * 8+a * 2) [.int .i64 vk,.int .i64 vn]:=⟨_,rfl⟩
  rw[<- hw5] at hbx hcg e5 e6 e7 ⊢
  obtain⟨q1,q2⟩:=HF4.out.mem.setReg HTT.out HAA.out vg hcg (by rw[HVK.out,HVN.out] at hbx;exact hbx)
  have HF5:=Lib.hid (HF4.out.step q1 q2)
  have htl5:T<w5.heap.size:=Nat.lt_of_lt_of_le htl4 hcg.size
  have hgl5:g<w5.heap.size:=Nat.lt_of_lt_of_le hgl4 hcg.size
  clear hbx hcg q1 q2 hw5 ho HBX a0 a1 a2 a3 a4 t0' d0' d1'
  go_frame
  go_wp2_with fail
  have hA5:=HF5.out.ra.1
  have hAX:w.heap.size≠X2:=by omega
  have hTX:T≠X2:=λe=>HF5.out.no X2 (by omega) (Nat.le_refl _) ⟨.thing (m - 1),by show m - 1<H.things.length;have:=HO1.out;have:=HO2.out;omega,by show some (nm2.tb (m - 1))=_;rw[<- HTE.out,e]⟩
  have hgX:g≠X2:=λe=>HF5.out.no X2 (by omega) (Nat.le_refl _) (by
    obtain⟨fa',fc',hfv,_⟩:=(HF5.out.mem.cT (n:=m) HO1.out HO2.out).1
    have e0:=(HF5.out.mem.thing (i:=m - 1) (by have:=HO1.out;have:=HO2.out;dsimp only;omega) 0 (by omega)).1
    rw[<- HTE.out,e5] at e0
    have e1:nm2.fv (m - 1) = .slice (some ⟨g,0,none⟩) fl fc:=(Option.some.inj e0).symm
    exact⟨.flds (m - 1),by show m - 1<H.things.length;have:=HO1.out;have:=HO2.out;omega,by show (nm2.fv (m - 1)).ownBlock=_;rw[e1,<- e];rfl⟩)
  have d4:=HF5.out.ra.act.2.2.2.2
  have HK5:Hid (∀W,Chg (λk=>k=X2) w5 W->W.cell? ⟨w.heap.size,4,none⟩=some (.int .i64 (f:Int))/\W.cell? ⟨T,0,none⟩=some (.slice (some ⟨g,0,none⟩) fl fc)/\W.cell? ⟨g,f * 2,none⟩=some (.int .i64 vk)/\W.cell? ⟨g,f * 2+1,none⟩=some (.int .i64 vn)):=λW hW=>⟨(hW.cell hA5 hAX 4).1.trans d4,(hW.cell htl5 hTX 0).1.trans e5,(hW.cell hgl5 hgX _).1.trans e6,(hW.cell hgl5 hgX _).1.trans e7⟩
  obtain⟨r,hr⟩:∃r,r=told vg:=⟨_,rfl⟩
  have HR:=Lib.hid hr
  have HTOLD:Hid (∀W,Calls Try.prog 88 #[.agg #[.int .i64 vk,.int .i64 vn]] W (λe w'=>e = .returned (.agg #[.int .i64 r.code,.bool r.is,.int .i64 r.number,.bool r.yes,.int .i64 r.words,.bool r.going,.int .i64 r.freed])/\Below W.heap.size W w')):=λW=>by rw[HVK.out,HVN.out,hr];exact told_any vg W
  clear d4 e5 e6 e7 hr
  go_region_held3 (λW=>W.cell? ⟨w.heap.size,4,none⟩=some (.int .i64 (f:Int))/\W.cell? ⟨T,0,none⟩=some (.slice (some ⟨g,0,none⟩) fl fc)/\W.cell? ⟨g,f * 2,none⟩=some (.int .i64 vk)/\W.cell? ⟨g,f * 2+1,none⟩=some (.int .i64 vn))
    (first|(refine HK6.out _ ?_;(repeat (first|with_reducible exact Chg.refl _ _|with_reducible refine Chg.trans ?_ (Chg.setB _ _ _ _)|with_reducible refine Chg.trans ?_ (Chg.drew _ _)));done)|(refine HK5.out _ ?_;(repeat (first|with_reducible exact Chg.refl _ _|with_reducible refine Chg.trans ?_ (Chg.setB _ _ _ _)|with_reducible refine Chg.trans ?_ (Chg.drew _ _)));done))
    ((go_at_call 88;refine (HTOLD.out _).mono ?_;rintro e w6 ⟨rfl,hb6⟩;have HB6:=Lib.hid (show Below w5.heap.size w5 w6 from (by ((repeat first|exact bR _ _|with_reducible first|refine bT ?_ hb6 ?_|refine bN ?_|refine bD ?_|refine bA ?_ ?_|refine bS ?_ ?_);all_goals first|exact Nat.le_refl _|(simp;done)|omega|(simp;omega)|(have z0:=Below.size hb6;omega)|(have z0:=Below.size hb6;simp at *;omega))));have HF6:=Lib.hid (HF5.out.below HB6.out);have HK6:Hid (∀W,Chg (λk=>k=X2) w6 W->W.cell? ⟨w.heap.size,4,none⟩=some (.int .i64 (f:Int))/\W.cell? ⟨T,0,none⟩=some (.slice (some ⟨g,0,none⟩) fl fc)/\W.cell? ⟨g,f * 2,none⟩=some (.int .i64 vk)/\W.cell? ⟨g,f * 2+1,none⟩=some (.int .i64 vn)):=(λW hW=>by obtain⟨s1,s2,s3,s4⟩:=HK5.out w5 (Chg.refl _ _);exact⟨(hW.cell (Nat.lt_of_lt_of_le hA5 HB6.out.size) hAX 4).1.trans ((HB6.out.cell (p:=⟨w.heap.size,4,none⟩) hA5).trans s1),(hW.cell (Nat.lt_of_lt_of_le htl5 HB6.out.size) hTX 0).1.trans ((HB6.out.cell (p:=⟨T,0,none⟩) htl5).trans s2),(hW.cell (Nat.lt_of_lt_of_le hgl5 HB6.out.size) hgX _).1.trans ((HB6.out.cell (p:=⟨g,f * 2,none⟩) hgl5).trans s3),(hW.cell (Nat.lt_of_lt_of_le hgl5 HB6.out.size) hgX _).1.trans ((HB6.out.cell (p:=⟨g,f * 2+1,none⟩) hgl5).trans s4)⟩);clear hb6;obtain⟨⟨o0,o1,o2,o3,o4,o5,o6⟩,z0,z1,z2,z3,z4,z5,z6⟩:=HF6.out.r2.ans;obtain⟨⟨p0,p1,p2,p3,p4,p5,p6⟩,y0,y1,y2,y3,y4,y5,y6⟩:=HF6.out.r1.ans))
  rename_i hHeld
  clear hHeld
  go_wp2_with fail
  have HEND:Hid (RowAt (((((((((((((((w6).setCell ⟨X2,0,none⟩ (.int .i64 r.code)).setCell ⟨X2,1,none⟩ (.bool r.is)).setCell ⟨X2,2,none⟩ (.int .i64 r.number)).setCell ⟨X2,3,none⟩ (.bool r.yes)).setCell ⟨X2,4,none⟩ (.int .i64 r.words)).setCell ⟨X2,5,none⟩ (.bool r.going)).setCell ⟨X2,6,none⟩ (.int .i64 r.freed)).setCell ⟨X1,0,none⟩ (.int .i64 r.code)).setCell ⟨X1,1,none⟩ (.bool r.is)).setCell ⟨X1,2,none⟩ (.int .i64 r.number)).setCell ⟨X1,3,none⟩ (.bool r.yes)).setCell ⟨X1,4,none⟩ (.int .i64 r.words)).setCell ⟨X1,5,none⟩ (.bool r.going)).setCell ⟨X1,6,none⟩ (.int .i64 r.freed)) X1 (ansL r)) :=
    ((((((((((((((HF6.out.r1).setFar _ _ (by simp;omega)).setFar _ _ (by simp;omega)).setFar _ _ (by simp;omega)).setFar _ _ (by simp;omega)).setFar _ _ (by simp;omega)).setFar _ _ (by simp;omega)).setFar _ _ (by simp;omega)).set 0 _).set 1 _).set 2 _).set 3 _).set 4 _).set 5 _).set 6 _
  refine bodyPost_ret (v:=ansV r) (res_acted rfl HEND.out) rfl ?_
  rw[<- HR.out]
  exact HF6.out.fin (by repeat with_reducible (first|exact Chg.refl _ _|refine chgS ?_ (by first|(simp;done)|(simp;omega))))
end Go.Proofs.Ytbeilcaadpopmab
namespace Go.Proofs.Ytbeilcaadpopmab
open Go.RowKit Go.Maps
set_option maxRecDepth 100000 in
set_option maxHeartbeats 8000000 in
theorem acted_get_own (base:Nat) (w:World) (B:Nat) (nm:Rn) (H:Hall) (h:Rmem base w B nm H) (t a b m f:Nat) (ht:t<4) (ha:a<4) (hb:b<4) (hm1:1<=m) (hm2:m<=H.things.length) (hf:f<(th H.things m).fields.length) (hreg:H.regs t b = .ref m) (hacc:H.acc t b (f:Int)=0) (hno:noted (H.deals t).reads m=none) (how:(th H.things m).owner=some t) (ok:UndOk H t) (hid:(H.regs t b).id<=H.things.length) (h6:∀i,(th H.things i).fields.length<=6) (hver:∀i u,(th H.things i).owner=some u->u<4) :
    Calls Try.prog 67 #[.pointer (some ⟨B,0,none⟩),.agg #[.int .i64 5,.int .i64 (t:Int),.int .i64 (a:Int),.int .i64 (b:Int),.int .i64 (f:Int)]] w (RetRA base w B nm H (({ H with regs:=put2 H.regs t a ((th H.things m).fields.getD f (.num 0)),deals:=H.deals },told ((th H.things m).fields.getD f (.num 0))))):=by
  have HM:=Lib.hid h
  have i1:(t:Int)<4:=by omega
  have i2:(a:Int)<4:=by omega
  have i3:(b:Int)<4:=by omega
  have HTT:=Lib.hid ht;have HAA:=Lib.hid ha;have HBB:=Lib.hid hb
  have HO1:=Lib.hid hm1;have HO2:=Lib.hid hm2;have HO3:=Lib.hid hf;have H6:=Lib.hid h6
  have HAT:Hid (∀(W:World) (nm':Rn),Rmem base W B nm' H->Calls Try.prog 87 #[nm'.rv t,.int .i64 (m:Int)] W (λe w'=>e = .returned (.int .i64 (-1))/\W=w')):=λW nm' hW=>by
    have:=at_any (show Go.Proofs.Ytbeilcaadpopmab.OwnL rSeen W base (nm'.rv t) (H.deals t).reads from hW.part (.reads t) ht) m
    rwa [show atN (H.deals t).reads m=(-1) from by unfold atN;rw[hno]] at this
  obtain⟨D,hD⟩:∃D,D=H.deals:=⟨_,rfl⟩
  rw[<- hD]
  have HD:=Lib.hid hD
  have HOW:Hid (ownN (th H.things m).owner=(t:Int)):=by rw[Hid,how];rfl
  obtain⟨vg,hvg⟩:∃vg,vg=(th H.things m).fields.getD f (.num 0):=⟨_,rfl⟩
  rw[<- hvg]
  have HVG:=Lib.hid hvg
  have HACC:Hid (∀W,Rmem base W B nm H->Calls Try.prog 86 #[.pointer (some ⟨B,0,none⟩),.int .i64 (t:Int),.int .i64 (b:Int),.int .i64 (f:Int)] W (RetH base W B nm H H (.tuple #[.int .i64 (m:Int),.int .i64 0]))):=λW hW=>by
    have:=access_any base W B nm H hW t b ht hb (f:Int) ok hid h6 hver
    rw[hacc,if_pos rfl,if_neg (by decide),hreg] at this;exact this
  clear h ht ha hb hacc hreg ok hid h6 hver hm1 hm2 hf hD hno hvg how
  go_enter Try.func67,Try.ntmps67
  go_upto_region 53 with (first|(go_at_call 56;(with_reducible refine (in_kind 5 (by omega) _).mono ?_);rintro e w1 ⟨rfl,hb1⟩;obtain⟨HA,HR1,HR2,HB1,hz1⟩:=rows3 hb1;clear hb1;obtain⟨a0,a1,a2,a3,a4⟩:=HA.out.act)|(go_at_call 56;(with_reducible refine (in_reg t HTT.out _).mono ?_);rintro e _ ⟨rfl,rfl⟩)|(go_at_call 56;(with_reducible refine (in_reg a HAA.out _).mono ?_);rintro e _ ⟨rfl,rfl⟩)|(go_at_call 56;(with_reducible refine (in_reg b HBB.out _).mono ?_);rintro e _ ⟨rfl,rfl⟩))
  obtain⟨X2,hX2⟩:∃X2,X2=w.heap.size+1+1:=⟨_,rfl⟩
  rw[<- hX2] at HR2 ⊢
  obtain⟨X1,hX1⟩:∃X1,X1=w.heap.size+1:=⟨_,rfl⟩
  rw[<- hX1] at HR1 ⊢
  have hx:w.heap.size<X1/\X1<X2/\X2<w1.heap.size:=by omega
  have hx12:X1≠X2:=by omega
  have HF:=Lib.hid (AF.start HM.out HB1.out hx HA.out HR1.out HR2.out)
  have HM1:=Lib.hid HF.out.mem
  have hB1:=HM1.out.lt
  have hBX2:B≠X2:=by have:=HM.out.lt;omega
  have hBX1:B≠X1:=by have:=HM.out.lt;omega
  clear hX1 hX2 hz1 HA HR1 HR2
  go_upto_region 57 with (go_at_call 86;refine (HACC.out _ HM1.out).mono ?_;rintro e w2 ⟨rfl,nm2,hM2,hW2⟩;have HF2:=Lib.hid (HF.out.step hM2 hW2);clear hM2 hW2 a0 a1 a2 a3 a4)
  have HM2:=Lib.hid HF2.out.mem
  have hB2:=HM2.out.lt
  obtain⟨_,c9,_,_,cz⟩:=HM2.out.cD HTT.out
  have cz9:=cz 9 (by omega)
  obtain⟨ra,rc,er,hrc1,hrc2⟩:=Go.Proofs.Ytbeilcaadpopmab.OwnL.shape (show Go.Proofs.Ytbeilcaadpopmab.OwnL rSeen w2 base (nm2.rv t) (H.deals t).reads from HM2.out.part (.reads t) HTT.out)
  have HAT2:=Lib.hid (HAT.out w2 nm2 HM2.out)
  rw[er] at c9 HAT2
  have HTH:Hid (∀W,Below w2.heap.size w2 W->Calls Try.prog 83 #[.pointer (some ⟨B,0,none⟩),.int .i64 (m:Int)] W (λe w'=>e = .returned (.pointer (some ⟨nm2.tb (m - 1),0,none⟩))/\W=w')):=λW hW=>thing_any (HM2.out.below hW) HO1.out HO2.out
  obtain⟨_,t1,t2,_,_,_,_,htl2⟩:=HM2.out.cT HO1.out HO2.out
  rw[HOW.out] at t2
  have HER:=Lib.hid er
  clear cz er
  go_upto_region 60 with (first|(go_at_call 83;refine (HTH.out _ (by ((repeat first|exact bR _ _|with_reducible first|refine bN ?_|refine bD ?_|refine bA ?_ ?_|refine bS ?_ ?_);all_goals first|exact Nat.le_refl _|(simp;done)|omega|(simp;omega)))).mono ?_;rintro e _ ⟨rfl,rfl⟩)|(go_at_call 87;refine HAT2.out.mono ?_;rintro e _ ⟨rfl,rfl⟩))
  have HF3:Hid (AF base w B nm H (actL 5 (t:Int) (a:Int) (b:Int) (f:Int)) X1 X2 AnsM.nil w2 nm2 { H with deals:=D }):=by rw[Hid,HD.out];exact HF2.out
  clear c9 cz9 t1 t2 htl2 HAT2
  have HM3:=Lib.hid HF3.out.mem
  obtain⟨⟨fa,fc,hfv,hfc1,hfc2,t0,hfld⟩,_,_,_,_,_,_,htl⟩:=HM3.out.cT (n:=m) HO1.out HO2.out
  dsimp only at hfv hfc1 t0 hfld
  obtain⟨g,rfl,hg,hgB,_,d0,d1,_⟩:=hfld f HO3.out
  have hv:vg=(th H.things m).fields[f]'HO3.out:=by rw[HVG.out,List.getD_eq_getElem?_getD,List.getElem?_eq_getElem HO3.out];rfl
  rw[<- hv] at d0 d1
  obtain⟨vk,hvk⟩:∃vk,vk=vg.k:=⟨_,rfl⟩
  obtain⟨vn,hvn⟩:∃vn,vn=vg.n:=⟨_,rfl⟩
  rw[<- hvk] at d0;rw[<- hvn] at d1
  have HVK:=Lib.hid hvk;have HVN:=Lib.hid hvn
  obtain⟨fl,hfl⟩:∃fl,fl=(th H.things m).fields.length:=⟨_,rfl⟩
  rw[<- hfl] at t0 hfc1
  have hff:(f:Int)<(fl:Int):=by have:=HO3.out;omega
  obtain⟨T,hT⟩:∃T,T=nm2.tb (m - 1):=⟨_,rfl⟩
  have HTE:=Lib.hid hT
  simp only [<- hT] at t0 htl ⊢
  have hTB:T≠B:=λe=>by
    have:=HM3.out.apart (.thing (m - 1)) .box B (by show m - 1<H.things.length;have:=HO1.out;have:=HO2.out;omega) trivial (by show some (nm2.tb (m - 1))=_;rw[<- hT,e]) rfl
    cases this
  clear hfld hfv hv hvk hvn hfl hT
  obtain⟨w4,hw4⟩:∃w4,w4=w2.drew:=⟨_,rfl⟩
  have hb4:Below w2.heap.size w2 w4:=by rw[hw4];exact (Below.refl _ _).drew
  have HF4:=Lib.hid (HF3.out.below hb4)
  have t0':=(hb4.cell (p:=⟨T,0,none⟩) htl).trans t0
  have d0':=(hb4.cell (p:=⟨g,f * 2,none⟩) hg).trans d0
  have d1':=(hb4.cell (p:=⟨g,f * 2+1,none⟩) hg).trans d1
  have hgl4:g<w4.heap.size:=Nat.lt_of_lt_of_le hg hb4.size
  have htl4:T<w4.heap.size:=Nat.lt_of_lt_of_le htl hb4.size
  clear t0 d0 d1 hb4 hg htl
  obtain⟨a0,a1,a2,a3,a4⟩:=HF4.out.ra.act
  have HBX:=Lib.hid HF4.out.mem.box
  refine still_tail_at 16 (by kernel_rfl) (by kernel_rfl) hw4 ?_;simp only [List.take_succ_cons,List.take_zero,List.drop_succ_cons,List.drop_zero];clear hw4;(repeat still_step);refine wpStill_nil ?_
  have ho:2+t * 8+a * 2+(#[.int .i64 vk,.int .i64 vn]:Array Value).size<=84:=by have:=HTT.out;have:=HAA.out;simp;omega
  refine wpl_storeN rfl 36 _ _ rfl B (2+t * 8+a * 2) #[.int .i64 vk,.int .i64 vn] rfl rfl _ HBX.out ho Try.sizeVal (by simp[Value.oneCell']) ?_
  intro hbx hcg
  rw[List.toList_toArray] at hbx hcg ⊢
  have e5:=(hcg.cell htl4 hTB 0).1.trans t0'
  have e6:=(hcg.cell hgl4 hgB (f * 2)).1.trans d0'
  have e7:=(hcg.cell hgl4 hgB (f * 2+1)).1.trans d1'
  obtain⟨w5,hw5⟩:∃w5,w5=w4.setCells B (2+t * 8+a * 2) [.int .i64 vk,.int .i64 vn]:=⟨_,rfl⟩
  rw[<- hw5] at hbx hcg e5 e6 e7 ⊢
  obtain⟨q1,q2⟩:=HF4.out.mem.setReg HTT.out HAA.out vg hcg (by rw[HVK.out,HVN.out] at hbx;exact hbx)
  have HF5:=Lib.hid (HF4.out.step q1 q2)
  have htl5:T<w5.heap.size:=Nat.lt_of_lt_of_le htl4 hcg.size
  have hgl5:g<w5.heap.size:=Nat.lt_of_lt_of_le hgl4 hcg.size
  clear hbx hcg q1 q2 hw5 ho HBX a0 a1 a2 a3 a4 t0' d0' d1'
  go_frame
  go_wp2_with fail
  have hA5:=HF5.out.ra.1
  have hAX:w.heap.size≠X2:=by omega
  have hTX:T≠X2:=λe=>HF5.out.no X2 (by omega) (Nat.le_refl _) ⟨.thing (m - 1),by show m - 1<H.things.length;have:=HO1.out;have:=HO2.out;omega,by show some (nm2.tb (m - 1))=_;rw[<- HTE.out,e]⟩
  have hgX:g≠X2:=λe=>HF5.out.no X2 (by omega) (Nat.le_refl _) (by
    obtain⟨fa',fc',hfv,_⟩:=(HF5.out.mem.cT (n:=m) HO1.out HO2.out).1
    have e0:=(HF5.out.mem.thing (i:=m - 1) (by have:=HO1.out;have:=HO2.out;dsimp only;omega) 0 (by omega)).1
    rw[<- HTE.out,e5] at e0
    have e1:nm2.fv (m - 1) = .slice (some ⟨g,0,none⟩) fl fc:=(Option.some.inj e0).symm
    exact⟨.flds (m - 1),by show m - 1<H.things.length;have:=HO1.out;have:=HO2.out;omega,by show (nm2.fv (m - 1)).ownBlock=_;rw[e1,<- e];rfl⟩)
  have d4:=HF5.out.ra.act.2.2.2.2
  have HK5:Hid (∀W,Chg (λk=>k=X2) w5 W->W.cell? ⟨w.heap.size,4,none⟩=some (.int .i64 (f:Int))/\W.cell? ⟨T,0,none⟩=some (.slice (some ⟨g,0,none⟩) fl fc)/\W.cell? ⟨g,f * 2,none⟩=some (.int .i64 vk)/\W.cell? ⟨g,f * 2+1,none⟩=some (.int .i64 vn)):=λW hW=>⟨(hW.cell hA5 hAX 4).1.trans d4,(hW.cell htl5 hTX 0).1.trans e5,(hW.cell hgl5 hgX _).1.trans e6,(hW.cell hgl5 hgX _).1.trans e7⟩
  obtain⟨r,hr⟩:∃r,r=told vg:=⟨_,rfl⟩
  have HR:=Lib.hid hr
  have HTOLD:Hid (∀W,Calls Try.prog 88 #[.agg #[.int .i64 vk,.int .i64 vn]] W (λe w'=>e = .returned (.agg #[.int .i64 r.code,.bool r.is,.int .i64 r.number,.bool r.yes,.int .i64 r.words,.bool r.going,.int .i64 r.freed])/\Below W.heap.size W w')):=λW=>by rw[HVK.out,HVN.out,hr];exact told_any vg W
  clear d4 e5 e6 e7 hr
  go_region_held3 (λW=>W.cell? ⟨w.heap.size,4,none⟩=some (.int .i64 (f:Int))/\W.cell? ⟨T,0,none⟩=some (.slice (some ⟨g,0,none⟩) fl fc)/\W.cell? ⟨g,f * 2,none⟩=some (.int .i64 vk)/\W.cell? ⟨g,f * 2+1,none⟩=some (.int .i64 vn))
    (first|(refine HK6.out _ ?_;(repeat (first|with_reducible exact Chg.refl _ _|with_reducible refine Chg.trans ?_ (Chg.setB _ _ _ _)|with_reducible refine Chg.trans ?_ (Chg.drew _ _)));done)|(refine HK5.out _ ?_;(repeat (first|with_reducible exact Chg.refl _ _|with_reducible refine Chg.trans ?_ (Chg.setB _ _ _ _)|with_reducible refine Chg.trans ?_ (Chg.drew _ _)));done))
    ((go_at_call 88;refine (HTOLD.out _).mono ?_;rintro e w6 ⟨rfl,hb6⟩;have HB6:=Lib.hid (show Below w5.heap.size w5 w6 from (by ((repeat first|exact bR _ _|with_reducible first|refine bT ?_ hb6 ?_|refine bN ?_|refine bD ?_|refine bA ?_ ?_|refine bS ?_ ?_);all_goals first|exact Nat.le_refl _|(simp;done)|omega|(simp;omega)|(have z0:=Below.size hb6;omega)|(have z0:=Below.size hb6;simp at *;omega))));have HF6:=Lib.hid (HF5.out.below HB6.out);have HK6:Hid (∀W,Chg (λk=>k=X2) w6 W->W.cell? ⟨w.heap.size,4,none⟩=some (.int .i64 (f:Int))/\W.cell? ⟨T,0,none⟩=some (.slice (some ⟨g,0,none⟩) fl fc)/\W.cell? ⟨g,f * 2,none⟩=some (.int .i64 vk)/\W.cell? ⟨g,f * 2+1,none⟩=some (.int .i64 vn)):=(λW hW=>by obtain⟨s1,s2,s3,s4⟩:=HK5.out w5 (Chg.refl _ _);exact⟨(hW.cell (Nat.lt_of_lt_of_le hA5 HB6.out.size) hAX 4).1.trans ((HB6.out.cell (p:=⟨w.heap.size,4,none⟩) hA5).trans s1),(hW.cell (Nat.lt_of_lt_of_le htl5 HB6.out.size) hTX 0).1.trans ((HB6.out.cell (p:=⟨T,0,none⟩) htl5).trans s2),(hW.cell (Nat.lt_of_lt_of_le hgl5 HB6.out.size) hgX _).1.trans ((HB6.out.cell (p:=⟨g,f * 2,none⟩) hgl5).trans s3),(hW.cell (Nat.lt_of_lt_of_le hgl5 HB6.out.size) hgX _).1.trans ((HB6.out.cell (p:=⟨g,f * 2+1,none⟩) hgl5).trans s4)⟩);clear hb6;obtain⟨⟨o0,o1,o2,o3,o4,o5,o6⟩,z0,z1,z2,z3,z4,z5,z6⟩:=HF6.out.r2.ans;obtain⟨⟨p0,p1,p2,p3,p4,p5,p6⟩,y0,y1,y2,y3,y4,y5,y6⟩:=HF6.out.r1.ans))
  rename_i hHeld
  clear hHeld
  go_wp2_with fail
  have HEND:Hid (RowAt (((((((((((((((w6).setCell ⟨X2,0,none⟩ (.int .i64 r.code)).setCell ⟨X2,1,none⟩ (.bool r.is)).setCell ⟨X2,2,none⟩ (.int .i64 r.number)).setCell ⟨X2,3,none⟩ (.bool r.yes)).setCell ⟨X2,4,none⟩ (.int .i64 r.words)).setCell ⟨X2,5,none⟩ (.bool r.going)).setCell ⟨X2,6,none⟩ (.int .i64 r.freed)).setCell ⟨X1,0,none⟩ (.int .i64 r.code)).setCell ⟨X1,1,none⟩ (.bool r.is)).setCell ⟨X1,2,none⟩ (.int .i64 r.number)).setCell ⟨X1,3,none⟩ (.bool r.yes)).setCell ⟨X1,4,none⟩ (.int .i64 r.words)).setCell ⟨X1,5,none⟩ (.bool r.going)).setCell ⟨X1,6,none⟩ (.int .i64 r.freed)) X1 (ansL r)) :=
    ((((((((((((((HF6.out.r1).setFar _ _ (by simp;omega)).setFar _ _ (by simp;omega)).setFar _ _ (by simp;omega)).setFar _ _ (by simp;omega)).setFar _ _ (by simp;omega)).setFar _ _ (by simp;omega)).setFar _ _ (by simp;omega)).set 0 _).set 1 _).set 2 _).set 3 _).set 4 _).set 5 _).set 6 _
  refine bodyPost_ret (v:=ansV r) (res_acted rfl HEND.out) rfl ?_
  rw[<- HR.out]
  exact HF6.out.fin (by repeat with_reducible (first|exact Chg.refl _ _|refine chgS ?_ (by first|(simp;done)|(simp;omega))))
end Go.Proofs.Ytbeilcaadpopmab
namespace Go.Proofs.Ytbeilcaadpopmab
open Go.RowKit Go.Maps
set_option maxRecDepth 100000 in
set_option maxHeartbeats 8000000 in
theorem acted_get_app (base:Nat) (w:World) (B:Nat) (nm:Rn) (H:Hall) (h:Rmem base w B nm H) (t a b m f:Nat) (ht:t<4) (ha:a<4) (hb:b<4) (hm1:1<=m) (hm2:m<=H.things.length) (hf:f<(th H.things m).fields.length) (hreg:H.regs t b = .ref m) (hacc:H.acc t b (f:Int)=0) (hno:noted (H.deals t).reads m=none) (how:(th H.things m).owner=none) (hrl:(H.deals t).reads.length<900000) (ok:UndOk H t) (hid:(H.regs t b).id<=H.things.length) (h6:∀i,(th H.things i).fields.length<=6) (hver:∀i u,(th H.things i).owner=some u->u<4) :
    Calls Try.prog 67 #[.pointer (some ⟨B,0,none⟩),.agg #[.int .i64 5,.int .i64 (t:Int),.int .i64 (a:Int),.int .i64 (b:Int),.int .i64 (f:Int)]] w (RetRA base w B nm H (({ H with regs:=put2 H.regs t a ((th H.things m).fields.getD f (.num 0)),deals:=put1 H.deals t ((H.deals t).addR (m,(th H.things m).version)) },told ((th H.things m).fields.getD f (.num 0))))):=by
  have HM:=Lib.hid h
  have i1:(t:Int)<4:=by omega
  have i2:(a:Int)<4:=by omega
  have i3:(b:Int)<4:=by omega
  have HTT:=Lib.hid ht;have HAA:=Lib.hid ha;have HBB:=Lib.hid hb
  have HO1:=Lib.hid hm1;have HO2:=Lib.hid hm2;have HO3:=Lib.hid hf;have H6:=Lib.hid h6
  have HAT:Hid (∀(W:World) (nm':Rn),Rmem base W B nm' H->Calls Try.prog 87 #[nm'.rv t,.int .i64 (m:Int)] W (λe w'=>e = .returned (.int .i64 (-1))/\W=w')):=λW nm' hW=>by
    have:=at_any (show Go.Proofs.Ytbeilcaadpopmab.OwnL rSeen W base (nm'.rv t) (H.deals t).reads from hW.part (.reads t) ht) m
    rwa [show atN (H.deals t).reads m=(-1) from by unfold atN;rw[hno]] at this
  have HRL:=Lib.hid hrl
  have hon:(th H.things m).owner=none:=how
  obtain⟨D,hD⟩:∃D,D=put1 H.deals t ((H.deals t).addR (m,(th H.things m).version)):=⟨_,rfl⟩
  rw[<- hD]
  have HD:=Lib.hid hD
  have HOW:Hid (ownN (th H.things m).owner = -1):=by rw[Hid,how];rfl
  obtain⟨vg,hvg⟩:∃vg,vg=(th H.things m).fields.getD f (.num 0):=⟨_,rfl⟩
  rw[<- hvg]
  have HVG:=Lib.hid hvg
  have HACC:Hid (∀W,Rmem base W B nm H->Calls Try.prog 86 #[.pointer (some ⟨B,0,none⟩),.int .i64 (t:Int),.int .i64 (b:Int),.int .i64 (f:Int)] W (RetH base W B nm H H (.tuple #[.int .i64 (m:Int),.int .i64 0]))):=λW hW=>by
    have:=access_any base W B nm H hW t b ht hb (f:Int) ok hid h6 hver
    rw[hacc,if_pos rfl,if_neg (by decide),hreg] at this;exact this
  clear h ht ha hb hacc hreg ok hid h6 hver hm1 hm2 hf hD hno hvg how
  clear hrl hon
  go_enter Try.func67,Try.ntmps67
  go_upto_region 53 with (first|(go_at_call 56;(with_reducible refine (in_kind 5 (by omega) _).mono ?_);rintro e w1 ⟨rfl,hb1⟩;obtain⟨HA,HR1,HR2,HB1,hz1⟩:=rows3 hb1;clear hb1;obtain⟨a0,a1,a2,a3,a4⟩:=HA.out.act)|(go_at_call 56;(with_reducible refine (in_reg t HTT.out _).mono ?_);rintro e _ ⟨rfl,rfl⟩)|(go_at_call 56;(with_reducible refine (in_reg a HAA.out _).mono ?_);rintro e _ ⟨rfl,rfl⟩)|(go_at_call 56;(with_reducible refine (in_reg b HBB.out _).mono ?_);rintro e _ ⟨rfl,rfl⟩))
  obtain⟨X2,hX2⟩:∃X2,X2=w.heap.size+1+1:=⟨_,rfl⟩
  rw[<- hX2] at HR2 ⊢
  obtain⟨X1,hX1⟩:∃X1,X1=w.heap.size+1:=⟨_,rfl⟩
  rw[<- hX1] at HR1 ⊢
  have hx:w.heap.size<X1/\X1<X2/\X2<w1.heap.size:=by omega
  have hx12:X1≠X2:=by omega
  have HF:=Lib.hid (AF.start HM.out HB1.out hx HA.out HR1.out HR2.out)
  have HM1:=Lib.hid HF.out.mem
  have hB1:=HM1.out.lt
  have hBX2:B≠X2:=by have:=HM.out.lt;omega
  have hBX1:B≠X1:=by have:=HM.out.lt;omega
  clear hX1 hX2 hz1 HA HR1 HR2
  go_upto_region 57 with (go_at_call 86;refine (HACC.out _ HM1.out).mono ?_;rintro e w2 ⟨rfl,nm2,hM2,hW2⟩;have HF2:=Lib.hid (HF.out.step hM2 hW2);clear hM2 hW2 a0 a1 a2 a3 a4)
  have HM2:=Lib.hid HF2.out.mem
  have hB2:=HM2.out.lt
  obtain⟨_,c9,_,_,cz⟩:=HM2.out.cD HTT.out
  have cz9:=cz 9 (by omega)
  obtain⟨ra,rc,er,hrc1,hrc2⟩:=Go.Proofs.Ytbeilcaadpopmab.OwnL.shape (show Go.Proofs.Ytbeilcaadpopmab.OwnL rSeen w2 base (nm2.rv t) (H.deals t).reads from HM2.out.part (.reads t) HTT.out)
  have HAT2:=Lib.hid (HAT.out w2 nm2 HM2.out)
  rw[er] at c9 HAT2
  have HTH:Hid (∀W,Below w2.heap.size w2 W->Calls Try.prog 83 #[.pointer (some ⟨B,0,none⟩),.int .i64 (m:Int)] W (λe w'=>e = .returned (.pointer (some ⟨nm2.tb (m - 1),0,none⟩))/\W=w')):=λW hW=>thing_any (HM2.out.below hW) HO1.out HO2.out
  obtain⟨_,t1,t2,_,_,_,_,htl2⟩:=HM2.out.cT HO1.out HO2.out
  rw[HOW.out] at t2
  have HER:=Lib.hid er
  clear cz er
  go_upto_region 59 with (first|(go_at_call 83;refine (HTH.out _ (by ((repeat first|exact bR _ _|with_reducible first|refine bN ?_|refine bD ?_|refine bA ?_ ?_|refine bS ?_ ?_);all_goals first|exact Nat.le_refl _|(simp;done)|omega|(simp;omega)))).mono ?_;rintro e _ ⟨rfl,rfl⟩)|(go_at_call 87;refine HAT2.out.mono ?_;rintro e _ ⟨rfl,rfl⟩))
  obtain⟨T1,hT1⟩:∃T1,T1=nm2.tb (m - 1):=⟨_,rfl⟩
  obtain⟨ver,hver⟩:∃ver,ver=(th H.things m).version:=⟨_,rfl⟩
  obtain⟨rl,hrl⟩:∃rl,rl=(H.deals t).reads.length:=⟨_,rfl⟩
  have hTB1:T1≠B:=λe=>by
    have:=HM2.out.apart (.thing (m - 1)) .box B (by show m - 1<_;have:=HO1.out;have:=HO2.out;omega) trivial (by show some (nm2.tb (m - 1))=_;rw[<- hT1,e]) rfl
    cases this
  have hTR1:¬ (nm2.rv t).ownBlock=some T1:=λe=>by
    have:=HM2.out.apart (.thing (m - 1)) (.reads t) T1 (by show m - 1<_;have:=HO1.out;have:=HO2.out;omega) HTT.out (by show some (nm2.tb (m - 1))=_;rw[<- hT1]) e
    cases this
  have HT1:=Lib.hid hT1;have HVR:=Lib.hid hver;have HRLE:=Lib.hid hrl
  simp only [<- hT1,<- hver,<- hrl] at t1 t2 c9 hrc1 htl2 ⊢
  clear hT1 hver hrl
  have HKR:Hid (∀W,Chg (λk=>k=B\/(nm2.rv t).ownBlock=some k) w2 W->W.cell? ⟨T1,1,none⟩=some (.int .i64 (ver:Int))):=λW hW=>(hW.cell htl2 (λh=>h.elim hTB1 hTR1) 1).1.trans t1
  have HOWN:Hid (∀W,Below w2.heap.size w2 W->Go.Proofs.Ytbeilcaadpopmab.OwnL rSeen W base (.slice ra rl rc) (H.deals t).reads):=λW hW=>by rw[HRLE.out,<- HER.out];exact (HM2.out.below hW).part (.reads t) HTT.out
  have HBS:=Lib.hid HM2.out.base_le
  have HCG:Hid (∀(W W':World),Below w2.heap.size w2 W->W.grownBy W' (Value.slice ra rl rc).ownBlock->Chg (λk=>k=B\/(nm2.rv t).ownBlock=some k) w2 W'):=λW W' hW hg=>(Chg.ofBelow _ hW).trans (Chg.ofGrown _ hg (λi e=>.inr (by rw[HER.out,<- HRLE.out];exact e)))
  have HADD:Hid (∀(W W':World) (v':Value),Below w2.heap.size w2 W->Go.Proofs.Ytbeilcaadpopmab.OwnL rSeen W' base v' ((H.deals t).reads++[(m,ver)])->W.grownBy W' (Value.slice ra rl rc).ownBlock->(v'.ownBlock=(Value.slice ra rl rc).ownBlock\/∀k,v'.ownBlock=some k->W.heap.size<=k)->AF base w B nm H (actL 5 (t:Int) (a:Int) (b:Int) (f:Int)) X1 X2 AnsM.nil (W'.setCell ⟨B,34+t * 12+9,none⟩ v') (nm2.deal t v' (nm2.ov t) (nm2.cv t)) { H with deals:=D }):=λW W' v' hW hO hg hn=>by
    obtain⟨q1,q2⟩:=HM2.out.addRead HTT.out (m,ver) v' hW hO (by rw[HER.out,<- HRLE.out];exact hg) (by rw[HER.out,<- HRLE.out];exact hn)
    rw[HD.out,<- HVR.out]
    exact HF2.out.step q1 q2
  have HBC:Hid (∀(W W':World),Below w2.heap.size w2 W->W.grownBy W' (Value.slice ra rl rc).ownBlock->W'.cell? ⟨B,34+t * 12+9,none⟩=some (.slice ra rl rc)/\W'.frozen? ⟨B,34+t * 12+9,none⟩=false/\B<W'.heap.size):=λW W' hW hg=>by
    have hm:=HM2.out.below hW
    have hne:¬ some B=(Value.slice ra rl rc).ownBlock:=λe=>by
      have:=hm.apart .box (.reads t) B trivial HTT.out rfl (by show (nm2.rv t).ownBlock=_;rw[HER.out,<- HRLE.out];exact e.symm)
      cases this
    have hk:W'.heap[B]? = W.heap[B]?:=hg.block B hm.lt hne
    obtain⟨_,e9,_,_,z9⟩:=hm.cD HTT.out
    rw[HER.out,<- HRLE.out] at e9
    exact⟨(World.cell?_of_block (w:=W) (a:=⟨B,_,none⟩) hk).trans e9,(World.frozen?_of_block (w:=W) (a:=⟨B,_,none⟩) hk).trans (z9 9 (by omega)),Nat.lt_of_lt_of_le hm.lt hg.size⟩
  have HLRD:Hid ((H.deals t).reads.length<900000):=HRL.out
  clear t2
  go_region_law ((refine step_append_L rSeen rfl _ _ 120 _ 16 Try.underlying120 Try.infSeen rfl (by decide) (by decide) (by decide) rfl base (.slice ra rl rc) (H.deals t).reads rfl (HOWN.out _ (by ((repeat first|exact bR _ _|with_reducible first|refine bN ?_|refine bD ?_|refine bA ?_ ?_|refine bS ?_ ?_);all_goals first|exact Nat.le_refl _|(simp;done)|omega|(simp;omega)))) _ (m,ver) rfl (row_seen _ (m,ver)) HLRD.out (by have:=HBS.out;simp;omega) ?_;intro v7 w7 hO7 hg7 hn7;have HC7:=Lib.hid (HCG.out _ _ (by ((repeat first|exact bR _ _|with_reducible first|refine bN ?_|refine bD ?_|refine bA ?_ ?_|refine bS ?_ ?_);all_goals first|exact Nat.le_refl _|(simp;done)|omega|(simp;omega))) hg7);have HF7:=Lib.hid (HADD.out _ _ _ (by ((repeat first|exact bR _ _|with_reducible first|refine bN ?_|refine bD ?_|refine bA ?_ ?_|refine bS ?_ ?_);all_goals first|exact Nat.le_refl _|(simp;done)|omega|(simp;omega))) hO7 hg7 hn7);obtain⟨c79,z79,hB7⟩:=HBC.out _ _ (by ((repeat first|exact bR _ _|with_reducible first|refine bN ?_|refine bD ?_|refine bA ?_ ?_|refine bS ?_ ?_);all_goals first|exact Nat.le_refl _|(simp;done)|omega|(simp;omega))) hg7;obtain⟨va,vl,vc,hv7⟩:∃va vl vc,v7 = .slice va vl vc:=(by obtain⟨x,y,e,_⟩:=Go.Proofs.Ytbeilcaadpopmab.OwnL.shape hO7;exact⟨_,_,_,e⟩);subst hv7;clear hO7 hg7 hn7))
  all_goals (
    clear HKR HOWN HCG HADD HBC HC7 c79 z79 hB7 hTB1 hTR1 t1
    obtain⟨w3,hw3⟩:∃w3,w3=w7.setCell ⟨B,34+t * 12+9,none⟩ (.slice va vl vc):=⟨_,rfl⟩
    obtain⟨nm3,hn3⟩:∃nm3,nm3=nm2.deal t (.slice va vl vc) (nm2.ov t) (nm2.cv t):=⟨_,rfl⟩
    rw[<- hw3,<- hn3] at HF7
    rw[<- hw3]
    have hT3:T1=nm3.tb (m - 1):=by rw[hn3,HT1.out];rfl
    rw[hT3]
    clear hw3 hn3 hT3 htl2 c9 cz9
    go_upto_region 60 with (fail)
    have HM3:=Lib.hid HF7.out.mem
    obtain⟨⟨fa,fc,hfv,hfc1,hfc2,t0,hfld⟩,_,_,_,_,_,_,htl⟩:=HM3.out.cT (n:=m) HO1.out HO2.out
    dsimp only at hfv hfc1 t0 hfld
    obtain⟨g,rfl,hg,hgB,_,d0,d1,_⟩:=hfld f HO3.out
    have hv:vg=(th H.things m).fields[f]'HO3.out:=by rw[HVG.out,List.getD_eq_getElem?_getD,List.getElem?_eq_getElem HO3.out];rfl
    rw[<- hv] at d0 d1
    obtain⟨vk,hvk⟩:∃vk,vk=vg.k:=⟨_,rfl⟩
    obtain⟨vn,hvn⟩:∃vn,vn=vg.n:=⟨_,rfl⟩
    rw[<- hvk] at d0;rw[<- hvn] at d1
    have HVK:=Lib.hid hvk;have HVN:=Lib.hid hvn
    obtain⟨fl,hfl⟩:∃fl,fl=(th H.things m).fields.length:=⟨_,rfl⟩
    rw[<- hfl] at t0 hfc1
    have hff:(f:Int)<(fl:Int):=by have:=HO3.out;omega
    obtain⟨T,hT⟩:∃T,T=nm3.tb (m - 1):=⟨_,rfl⟩
    have HTE:=Lib.hid hT
    simp only [<- hT] at t0 htl ⊢
    have hTB:T≠B:=λe=>by
      have:=HM3.out.apart (.thing (m - 1)) .box B (by show m - 1<H.things.length;have:=HO1.out;have:=HO2.out;omega) trivial (by show some (nm3.tb (m - 1))=_;rw[<- hT,e]) rfl
      cases this
    clear hfld hfv hv hvk hvn hfl hT
    obtain⟨w4,hw4⟩:∃w4,w4=w3.drew:=⟨_,rfl⟩
    have hb4:Below w3.heap.size w3 w4:=by rw[hw4];exact (Below.refl _ _).drew
    have HF4:=Lib.hid (HF7.out.below hb4)
    have t0':=(hb4.cell (p:=⟨T,0,none⟩) htl).trans t0
    have d0':=(hb4.cell (p:=⟨g,f * 2,none⟩) hg).trans d0
    have d1':=(hb4.cell (p:=⟨g,f * 2+1,none⟩) hg).trans d1
    have hgl4:g<w4.heap.size:=Nat.lt_of_lt_of_le hg hb4.size
    have htl4:T<w4.heap.size:=Nat.lt_of_lt_of_le htl hb4.size
    clear t0 d0 d1 hb4 hg htl
    obtain⟨a0,a1,a2,a3,a4⟩:=HF4.out.ra.act
    have HBX:=Lib.hid HF4.out.mem.box
    refine still_tail_at 16 (by kernel_rfl) (by kernel_rfl) hw4 ?_;simp only [List.take_succ_cons,List.take_zero,List.drop_succ_cons,List.drop_zero];clear hw4;(repeat still_step);refine wpStill_nil ?_
    have ho:2+t * 8+a * 2+(#[.int .i64 vk,.int .i64 vn]:Array Value).size<=84:=by have:=HTT.out;have:=HAA.out;simp;omega
    refine wpl_storeN rfl 36 _ _ rfl B (2+t * 8+a * 2) #[.int .i64 vk,.int .i64 vn] rfl rfl _ HBX.out ho Try.sizeVal (by simp[Value.oneCell']) ?_
    intro hbx hcg
    rw[List.toList_toArray] at hbx hcg ⊢
    have e5:=(hcg.cell htl4 hTB 0).1.trans t0'
    have e6:=(hcg.cell hgl4 hgB (f * 2)).1.trans d0'
    have e7:=(hcg.cell hgl4 hgB (f * 2+1)).1.trans d1'
    obtain⟨w5,hw5⟩:∃w5,w5=w4.setCells B (2+t * 8+a * 2) [.int .i64 vk,.int .i64 vn]:=⟨_,rfl⟩
    rw[<- hw5] at hbx hcg e5 e6 e7 ⊢
    obtain⟨q1,q2⟩:=HF4.out.mem.setReg HTT.out HAA.out vg hcg (by rw[HVK.out,HVN.out] at hbx;exact hbx)
    have HF5:=Lib.hid (HF4.out.step q1 q2)
    have htl5:T<w5.heap.size:=Nat.lt_of_lt_of_le htl4 hcg.size
    have hgl5:g<w5.heap.size:=Nat.lt_of_lt_of_le hgl4 hcg.size
    clear hbx hcg q1 q2 hw5 ho HBX a0 a1 a2 a3 a4 t0' d0' d1'
    go_frame
    go_wp2_with fail
    have hA5:=HF5.out.ra.1
    have hAX:w.heap.size≠X2:=by omega
    have hTX:T≠X2:=λe=>HF5.out.no X2 (by omega) (Nat.le_refl _) ⟨.thing (m - 1),by show m - 1<H.things.length;have:=HO1.out;have:=HO2.out;omega,by show some (nm3.tb (m - 1))=_;rw[<- HTE.out,e]⟩
    have hgX:g≠X2:=λe=>HF5.out.no X2 (by omega) (Nat.le_refl _) (by
      obtain⟨fa',fc',hfv,_⟩:=(HF5.out.mem.cT (n:=m) HO1.out HO2.out).1
      have e0:=(HF5.out.mem.thing (i:=m - 1) (by have:=HO1.out;have:=HO2.out;dsimp only;omega) 0 (by omega)).1
      rw[<- HTE.out,e5] at e0
      have e1:nm3.fv (m - 1) = .slice (some ⟨g,0,none⟩) fl fc:=(Option.some.inj e0).symm
      exact⟨.flds (m - 1),by show m - 1<H.things.length;have:=HO1.out;have:=HO2.out;omega,by show (nm3.fv (m - 1)).ownBlock=_;rw[e1,<- e];rfl⟩)
    have d4:=HF5.out.ra.act.2.2.2.2
    have HK5:Hid (∀W,Chg (λk=>k=X2) w5 W->W.cell? ⟨w.heap.size,4,none⟩=some (.int .i64 (f:Int))/\W.cell? ⟨T,0,none⟩=some (.slice (some ⟨g,0,none⟩) fl fc)/\W.cell? ⟨g,f * 2,none⟩=some (.int .i64 vk)/\W.cell? ⟨g,f * 2+1,none⟩=some (.int .i64 vn)):=λW hW=>⟨(hW.cell hA5 hAX 4).1.trans d4,(hW.cell htl5 hTX 0).1.trans e5,(hW.cell hgl5 hgX _).1.trans e6,(hW.cell hgl5 hgX _).1.trans e7⟩
    obtain⟨r,hr⟩:∃r,r=told vg:=⟨_,rfl⟩
    have HR:=Lib.hid hr
    have HTOLD:Hid (∀W,Calls Try.prog 88 #[.agg #[.int .i64 vk,.int .i64 vn]] W (λe w'=>e = .returned (.agg #[.int .i64 r.code,.bool r.is,.int .i64 r.number,.bool r.yes,.int .i64 r.words,.bool r.going,.int .i64 r.freed])/\Below W.heap.size W w')):=λW=>by rw[HVK.out,HVN.out,hr];exact told_any vg W
    clear d4 e5 e6 e7 hr
    go_region_held3 (λW=>W.cell? ⟨w.heap.size,4,none⟩=some (.int .i64 (f:Int))/\W.cell? ⟨T,0,none⟩=some (.slice (some ⟨g,0,none⟩) fl fc)/\W.cell? ⟨g,f * 2,none⟩=some (.int .i64 vk)/\W.cell? ⟨g,f * 2+1,none⟩=some (.int .i64 vn))
      (first|(refine HK6.out _ ?_;(repeat (first|with_reducible exact Chg.refl _ _|with_reducible refine Chg.trans ?_ (Chg.setB _ _ _ _)|with_reducible refine Chg.trans ?_ (Chg.drew _ _)));done)|(refine HK5.out _ ?_;(repeat (first|with_reducible exact Chg.refl _ _|with_reducible refine Chg.trans ?_ (Chg.setB _ _ _ _)|with_reducible refine Chg.trans ?_ (Chg.drew _ _)));done))
      ((go_at_call 88;refine (HTOLD.out _).mono ?_;rintro e w6 ⟨rfl,hb6⟩;have HB6:=Lib.hid (show Below w5.heap.size w5 w6 from (by ((repeat first|exact bR _ _|with_reducible first|refine bT ?_ hb6 ?_|refine bN ?_|refine bD ?_|refine bA ?_ ?_|refine bS ?_ ?_);all_goals first|exact Nat.le_refl _|(simp;done)|omega|(simp;omega)|(have z0:=Below.size hb6;omega)|(have z0:=Below.size hb6;simp at *;omega))));have HF6:=Lib.hid (HF5.out.below HB6.out);have HK6:Hid (∀W,Chg (λk=>k=X2) w6 W->W.cell? ⟨w.heap.size,4,none⟩=some (.int .i64 (f:Int))/\W.cell? ⟨T,0,none⟩=some (.slice (some ⟨g,0,none⟩) fl fc)/\W.cell? ⟨g,f * 2,none⟩=some (.int .i64 vk)/\W.cell? ⟨g,f * 2+1,none⟩=some (.int .i64 vn)):=(λW hW=>by obtain⟨s1,s2,s3,s4⟩:=HK5.out w5 (Chg.refl _ _);exact⟨(hW.cell (Nat.lt_of_lt_of_le hA5 HB6.out.size) hAX 4).1.trans ((HB6.out.cell (p:=⟨w.heap.size,4,none⟩) hA5).trans s1),(hW.cell (Nat.lt_of_lt_of_le htl5 HB6.out.size) hTX 0).1.trans ((HB6.out.cell (p:=⟨T,0,none⟩) htl5).trans s2),(hW.cell (Nat.lt_of_lt_of_le hgl5 HB6.out.size) hgX _).1.trans ((HB6.out.cell (p:=⟨g,f * 2,none⟩) hgl5).trans s3),(hW.cell (Nat.lt_of_lt_of_le hgl5 HB6.out.size) hgX _).1.trans ((HB6.out.cell (p:=⟨g,f * 2+1,none⟩) hgl5).trans s4)⟩);clear hb6;obtain⟨⟨o0,o1,o2,o3,o4,o5,o6⟩,z0,z1,z2,z3,z4,z5,z6⟩:=HF6.out.r2.ans;obtain⟨⟨p0,p1,p2,p3,p4,p5,p6⟩,y0,y1,y2,y3,y4,y5,y6⟩:=HF6.out.r1.ans))
    rename_i hHeld
    clear hHeld
    go_wp2_with fail
    have HEND:Hid (RowAt (((((((((((((((w6).setCell ⟨X2,0,none⟩ (.int .i64 r.code)).setCell ⟨X2,1,none⟩ (.bool r.is)).setCell ⟨X2,2,none⟩ (.int .i64 r.number)).setCell ⟨X2,3,none⟩ (.bool r.yes)).setCell ⟨X2,4,none⟩ (.int .i64 r.words)).setCell ⟨X2,5,none⟩ (.bool r.going)).setCell ⟨X2,6,none⟩ (.int .i64 r.freed)).setCell ⟨X1,0,none⟩ (.int .i64 r.code)).setCell ⟨X1,1,none⟩ (.bool r.is)).setCell ⟨X1,2,none⟩ (.int .i64 r.number)).setCell ⟨X1,3,none⟩ (.bool r.yes)).setCell ⟨X1,4,none⟩ (.int .i64 r.words)).setCell ⟨X1,5,none⟩ (.bool r.going)).setCell ⟨X1,6,none⟩ (.int .i64 r.freed)) X1 (ansL r)) :=
      ((((((((((((((HF6.out.r1).setFar _ _ (by simp;omega)).setFar _ _ (by simp;omega)).setFar _ _ (by simp;omega)).setFar _ _ (by simp;omega)).setFar _ _ (by simp;omega)).setFar _ _ (by simp;omega)).setFar _ _ (by simp;omega)).set 0 _).set 1 _).set 2 _).set 3 _).set 4 _).set 5 _).set 6 _
    refine bodyPost_ret (v:=ansV r) (res_acted rfl HEND.out) rfl ?_
    rw[<- HR.out]
    exact HF6.out.fin (by repeat with_reducible (first|exact Chg.refl _ _|refine chgS ?_ (by first|(simp;done)|(simp;omega)))))
end Go.Proofs.Ytbeilcaadpopmab
