/- Texts put together: Jn, J6. -/
import Derived.Test.YtbeilcaadpopmabYf
set_option linter.unusedVariables false
set_option linter.unusedSimpArgs false
namespace Go.Proofs.Ytbeilcaadpopmab
open Go.RowKit Go.Maps
def clrT (l:List Thing) (k:Nat):List Thing:=l.mapIdx λi x=>if i<k then clearK x else x
theorem clrT_len (l:List Thing) (k:Nat):(clrT l k).length=l.length:=by simp[clrT]
theorem clrT_zero (l:List Thing):clrT l 0=l:=by
  refine List.ext_getElem (by simp[clrT]) λi h1 h2=>by simp[clrT]
theorem clrT_all (l:List Thing):clrT l l.length=l.map clearK:=by
  refine List.ext_getElem (by simp[clrT]) λi h1 h2=>?_
  have:i<l.length:=by simpa using h2
  simp[clrT,this]
theorem clrT_step (l:List Thing) (k:Nat) (hk:k<l.length):turnT (clrT l k) (k+1) clearK=clrT l (k+1):=by
  show (clrT l k).modify (k+1 - 1) clearK=_
  refine List.ext_getElem (by simp[clrT]) λi h1 h2=>?_
  have hi:i<l.length:=by simpa [clrT] using h2
  rw[List.getElem_modify]
  simp only [clrT,List.getElem_mapIdx,show k+1 - 1=k by omega]
  by_cases e:k=i
  · subst e
    simp
  · rw[if_neg e]
    by_cases e2:i<k
    · rw[if_pos e2,if_pos (by omega)]
    · rw[if_neg e2,if_neg (by omega)]
theorem thingC_clear (f:Value) (x:Thing):∀i,i<6->thingC f (clearK x) i=ins (ins (thingC f x) 4 (.bool false)) 5 (.bool false) i:=λi hi=>by
  rcases (show i=0\/i=1\/i=2\/i=3\/i=4\/i=5 by omega) with rfl|rfl|rfl|rfl|rfl|rfl <;> rfl
theorem Rmem.clear {base B:Nat} {w:World} {nm:Rn} {H:Hall} (h:Rmem base w B nm H) {n:Nat} (h1:1<=n) (hn:n<=H.things.length) :
    Rmem base ((w.setCell ⟨nm.tb (n - 1),4,none⟩ (.bool false)).setCell ⟨nm.tb (n - 1),5,none⟩ (.bool false)) B nm { H with things:=turnT H.things n clearK }/\WentR w ((w.setCell ⟨nm.tb (n - 1),4,none⟩ (.bool false)).setCell ⟨nm.tb (n - 1),5,none⟩ (.bool false)) B H.things.length H.things.length nm nm:=by
  refine h.thingTurn h1 hn clearK (λ_=>rfl) ((Chg.setB _ _ _ _).trans (Chg.setB _ _ _ _)) ?_
  have hb:=h.thing (i:=n - 1) (by omega)
  rw[show n - 1+1=n by omega] at hb
  exact ((hb.set (o:=4) (by omega) (.bool false)).set (o:=5) (by omega) (.bool false)).congr λi hi=>(thingC_clear _ _ i hi).symm
theorem range_flat {β:Type} (f:Nat->List β) (k:Nat):(List.range (k+1)).flatMap f=(List.range k).flatMap f++f k:=by
  rw[List.range_succ,List.flatMap_append]
  simp
def Hb (H:Hall) (l:List Thing):Hall:={ H with things:=l,going:=true,left:=(keptN l:Int) }
theorem clear_fields {l:List Thing} (i:Nat):(th (l.map clearK) i).fields=(th l i).fields:=by
  have q:∀i,1<=i->(th (l.map clearK) i).fields=(th l i).fields:=λi hi=>by
    by_cases e:i<=l.length
    · rw[th_map _ _ _ hi e];rfl
    · rw[th_far l i (by omega),th_far _ i (by simp;omega)]
  rcases Nat.eq_zero_or_pos i with e|e
  · rw[e];exact q 1 (by omega)
  · exact q i e
noncomputable def Hall.begun (H:Hall):Hall:={ H with things:=keptF H.things H.roots,going:=true,left:=(keptN (keptF H.things H.roots):Int) }
set_option maxRecDepth 100000 in
set_option maxHeartbeats 40000000 in
theorem begun_any (P:Nat->Prop) (base:Nat) (w:World) (B:Nat) (nm:Rn) (H:Hall) (h:Rmem base w B nm H) (hs:Shut6 P H.things) (hr:∀i ∈ H.roots,i≠0->P i) :
    Calls Try.prog 89 #[.pointer (some ⟨B,0,none⟩)] w (RetH base w B nm H H.begun (.tuple #[])):=by
  have HM:=Lib.hid h;have HS:=Lib.hid hs;have HR:=Lib.hid hr
  clear h hs hr
  obtain⟨K,hK⟩:∃K,K=H.things.length:=⟨_,rfl⟩
  have HK:=Lib.hid hK
  have hKb:K<=1000000:=by rw[hK];obtain⟨_,_,_,_,_,h6,_⟩:=HM.out.tv;exact h6
  clear hK
  go_enter Try.func89,Try.ntmps89
  go_wp2_with fail
  go_loopw [2] (λu wx=>∃k:Nat,k<=K/\u = .int .i64 (k:Int)/\Rmem base wx B nm { H with things:=clrT H.things k }/\WentR w wx B H.things.length H.things.length nm nm) (λu _=>K - (intOf u).toNat)
  case atStart=>exact⟨0,Nat.zero_le _,rfl,by rw[clrT_zero];exact HM.out,WentR.refl _ _ _ _⟩
  case round =>
    obtain⟨k,hk,rfl,hM1,hW1⟩:=hrel
    have HM1:=Lib.hid hM1;have HW1:=Lib.hid hW1
    clear hM1 hW1
    have hB1:=HM1.out.lt
    have hl:(clrT H.things k).length=K:=by rw[clrT_len];exact HK.out.symm
    obtain⟨a,c,e,hc1,hc2,_,hat⟩:=HM1.out.tv
    dsimp only at e hc1 hat
    rw[hl] at e hc1 hat
    obtain⟨c1,_⟩:=HM1.out.box 1 (by omega)
    rw[show hallC nm { H with things:=clrT H.things k } 1=nm.tv from rfl,e] at c1
    by_cases hlt:k<K
    · obtain⟨g,rfl,hg,hgB,d0,_⟩:=hat k hlt
      have HTURN:=Lib.hid (HM1.out.clear (n:=k+1) (by omega) (by dsimp only;rw[hl];omega))
      obtain⟨_,_,_,_,t4,t5,tz,htl⟩:=HM1.out.cT (n:=k+1) (by omega) (by dsimp only;rw[hl];omega)
      have tz4:=tz 4 (by omega);have tz5:=tz 5 (by omega)
      rw[show k+1 - 1=k by omega] at *
      obtain⟨T,hT⟩:∃T,T=nm.tb k:=⟨_,rfl⟩
      rw[<- hT] at HTURN d0 t4 t5 tz4 tz5 htl
      have hTB:B≠T:=λeB=>by
        have:=HM1.out.apart .box (.thing k) B trivial (by show k<(clrT H.things k).length;omega) rfl (by show some (nm.tb k)=_;rw[<- hT,eB])
        cases this
      have hgT:g≠T:=λeB=>by
        have:=HM1.out.apart .things (.thing k) g trivial (by show k<(clrT H.things k).length;omega) (by show nm.tv.ownBlock=_;rw[e];rfl) (by show some (nm.tb k)=_;rw[<- hT,eB])
        cases this
      have hkk:(k:Int)<(K:Int):=by omega
      have HLEN:=Lib.hid hl
      clear hat tz hT e hl
      go_wp2_with fail
      go_roundw
      case rel =>
        refine⟨k+1,by omega,by go_num,?_,?_⟩
        · have h5:=HTURN.out.1
          dsimp only at h5
          rw[clrT_step H.things k (by have:=HK.out;omega)] at h5
          exact h5.below (by ((repeat first|exact bR _ _|with_reducible first|refine bN ?_|refine bD ?_|refine bA ?_ ?_|refine bS ?_ ?_);all_goals first|exact Nat.le_refl _|(simp;done)|omega|(simp;omega)))
        · have h5:=HTURN.out.2
          dsimp only at h5
          rw[clrT_len] at h5
          exact (HW1.out.trans h5).then (by ((repeat first|exact bR _ _|with_reducible first|refine bN ?_|refine bD ?_|refine bA ?_ ?_|refine bS ?_ ?_);all_goals first|exact Nat.le_refl _|(simp;done)|omega|(simp;omega)))
      case measure=>simp[intOf];omega
    · have HMc:Hid (Rmem base wr B nm { H with things:=H.things.map clearK }):=by
        have:=HM1.out
        have hkK:k=H.things.length:=by have:=HK.out;omega
        rw[hkK,clrT_all] at this
        exact this
      have c82:=HM1.out.box 82 (by omega);have c83:=HM1.out.box 83 (by omega)
      obtain⟨c82,z82⟩:=c82;obtain⟨c83,z83⟩:=c83
      clear hat e hl HM1
      go_wp2_with fail
      --PRINTED by genbegun.py
      obtain⟨q1,q2⟩:=HMc.out.setGo true
      obtain⟨q3,q4⟩:=q1.setLeft 0
      have eH:({ { { H with things:=H.things.map clearK } with going:=true } with left:=0 }:Hall)=Hb H (H.things.map clearK):=by unfold Hb;rw[keptN_clear];rfl
      rw[eH] at q3
      obtain⟨wz,hwz⟩:∃wz,wz=(wr.setCell ⟨B,82,none⟩ (.bool true)).setCell ⟨B,83,none⟩ (.int .i64 0):=⟨_,rfl⟩
      rw[<- hwz] at q3 q4 ⊢
      have HMz:=Lib.hid q3
      have HWz:Hid (WentR w wz B H.things.length H.things.length nm nm):=by
        have e:(H.things.map clearK).length=H.things.length:=by simp
        have q2':=q2;have q4':=q4
        (try dsimp only at q2' q4')
        rw[e] at q2' q4'
        exact (HW1.out.trans q2').trans q4'
      have HSH:Hid (∀ {rs:List Nat} (l:List Thing),WalkR (H.things.map clearK) rs l->Shut6 P l):=λl hl=>(HS.out.of (l':=H.things.map clearK) (by simp) clear_fields).of hl.len λi=>hl.fields i
      have HLL:Hid (∀ {rs:List Nat} (l:List Thing),WalkR (H.things.map clearK) rs l->l.length=H.things.length):=λl hl=>hl.len.trans (by simp)
      have HRT:Hid (∀i ∈ H.roots,i≠0->P i):=HR.out
      clear q1 q2 q3 q4 eH hwz HMc HW1 c82 z82 c83 z83 HR HS HM HK hKb
      go_loopw [3] (λu wx=>∃(t:Nat) (l:List Thing),t<=4/\u = .int .i64 (t:Int)/\Rmem base wx B nm (Hb H l)/\WentR wz wx B H.things.length H.things.length nm nm/\WalkR (H.things.map clearK) ((List.range t).flatMap (begR H)) l) (λu _=>4 - (intOf u).toNat)
      case atStart=>exact⟨0,H.things.map clearK,Nat.zero_le _,rfl,HMz.out,WentR.refl _ _ _ _,WalkR.refl _⟩
      case round =>
        rename World=>wa
        obtain⟨t,l,ht,rfl,hM,hW,hR⟩:=hrel
        have HM1:=Lib.hid hM;have HW1:=Lib.hid hW;have HR2:=Lib.hid hR
        clear hM hW hR
        have hB1:=HM1.out.lt
        by_cases ht4:t<4
        · have i1 : (t : Int) < 4 := by omega
          have HBX:=Lib.hid HM1.out.box
          have HZ:=Lib.hid (deal_box wa)
          obtain⟨ra,rc,er,_,_⟩:=OwnL.shape (show Go.Proofs.Ytbeilcaadpopmab.OwnL rSeen wa base (nm.rv t) (H.deals t).reads from HM1.out.part (.reads t) ht4)
          obtain⟨oa,oc,eo,_,_⟩:=OwnL.shape (show Go.Proofs.Ytbeilcaadpopmab.OwnL rSeen wa base (nm.ov t) (H.deals t).owned from HM1.out.part (.owned t) ht4)
          obtain⟨ca,cc,ec,_,_⟩:=OwnL.shape (show Go.Proofs.Ytbeilcaadpopmab.OwnL rChange wa base (nm.cv t) (H.deals t).changes from HM1.out.part (.changes t) ht4)
          have HONE:Hid ((dealL nm (H.deals t) t).toArray.all (·.oneCell')=true):=dealL_one (by rw[er];rfl) (by rw[eo];rfl) (by rw[ec];rfl)
          have HDL:Hid ((dealL nm (H.deals t) t).toArray.size=12):=by simp[Hid,dealL]
          have HER:=Lib.hid er;have HEO:=Lib.hid eo;have HEC:=Lib.hid ec
          clear er eo ec
          go_upto_region 11 with (first|(refine wpl_storeN rfl _ _ _ rfl wa.heap.size 0 (dealL nm (H.deals t) t).toArray rfl rfl (λi=>(#[.bool false,.int .i64 0,.int .i64 0,.int .i64 0,.int .i64 0,.int .i64 0,.int .i64 0,.int .i64 0,.int .i64 0,.slice none 0 0,.slice none 0 0,.slice none 0 0]:Array Value).getD i undef) HZ.out (by rw[HDL.out];exact Nat.le_refl _) (Try.sizeDeal.trans (by rw[HDL.out])) HONE.out ?_;rw[List.toList_toArray];intro hbd hcd;have HBD:=Lib.hid hbd;have HCD:=Lib.hid hcd;clear hbd hcd)|refine wpl_loadN rfl _ _ rfl B (34+t * 12) rfl (hallC nm (Hb H l)) HBX.out (dealL nm (H.deals t) t) (by simp[dealL];omega) (hallC_dealL nm (Hb H l) ht4) _ Try.underlying123 rfl (Try.sizeDeal.trans (by simp[dealL])) ?_)
          have HB0:Hid (∀arr ty,Below wa.heap.size wa (wa.alloc (.cells arr ty))):=λarr ty=>(by ((repeat first|exact bR _ _|with_reducible first|refine bN ?_|refine bD ?_|refine bA ?_ ?_|refine bS ?_ ?_);all_goals first|exact Nat.le_refl _|(simp;done)|omega|(simp;omega)))
          generalize hw1:World.setCells _ _ _ _=w1 at HBD HCD ⊢
          have HD1:Hid (BoxN 12 w1 wa.heap.size (dealC nm (H.deals t) t)):=HBD.out.congr λi hi=>by
            unfold insL
            rw[if_pos ⟨by omega,by simp[dealL];omega⟩]
            simp[dealL,hi]
          clear hw1 HZ HBX HDL HONE HBD
          have HBW:Hid (Below wa.heap.size wa w1):=below_chg (HB0.out _ _) HCD.out (by simp)
          have HNX0:Hid (¬ HasR B H.things.length nm wa.heap.size):=by have:=HM1.out.not_has (Nat.le_refl _);(try dsimp only [Hb] at this);rw[HLL.out _ HR2.out] at this;exact this
          obtain⟨X,hX⟩:∃X,X=wa.heap.size:=⟨_,rfl⟩
          rw[<- hX] at HD1 HNX0 ⊢
          have HD2:=Lib.hid HD1.out
          have HNX:=Lib.hid HNX0.out
          have HM2:=Lib.hid (HM1.out.below HBW.out)
          have HW2:=Lib.hid (HW1.out.then HBW.out)
          clear HCD HB0 hX HD1 HNX0 HM1 HW1 hB1 HBW
          go_wp2_with fail
          go_loopw [5] (λu wx=>∃(i:Nat) (l:List Thing),i<=4/\u = .int .i64 (i:Int)/\Rmem base wx B nm (Hb H l)/\WentR wz wx B H.things.length H.things.length nm nm/\BoxN 12 wx X (dealC nm (H.deals t) t)/\WalkR (H.things.map clearK) ((List.range t).flatMap (begR H)++(List.range i).flatMap (begV H t)) l) (λu _=>4 - (intOf u).toNat)
          case atStart=>exact⟨0,l,Nat.zero_le _,rfl,HM2.out,HW2.out,HD2.out,by simpa using HR2.out⟩
          case round =>
            rename World=>wy
            obtain⟨i,l,hi,rfl,hM,hW,hD,hR⟩:=hrel
            have HM3:=Lib.hid hM;have HW3:=Lib.hid hW;have HD3:=Lib.hid hD;have HR3:=Lib.hid hR
            clear hM hW hD hR
            have hB3:=HM3.out.lt
            have hX3:=HD3.out.lt (by omega)
            by_cases hlt:i<4
            · have i2:(i:Int)<4:=by omega
              obtain⟨v,hv⟩:∃v,v=H.regs t i:=⟨_,rfl⟩
              obtain⟨s,hs⟩:∃s,s=(H.deals t).saved i:=⟨_,rfl⟩
              have hmem:∀x,x ∈ begV H t i->x≠0->P x:=λx hx h0=>HRT.out _ ((begR_mem H _).1 (List.mem_flatMap.2 ⟨t,List.mem_range.2 ht4,by unfold begR;simp only [List.mem_append];exact .inl (.inl (.inl (List.mem_flatMap.2 ⟨i,List.mem_range.2 hlt,hx⟩)))⟩)) h0
              have HVP:Hid (v.id≠0->P v.id):=hmem v.id (by rw[hv];simp[begV])
              have HSP:Hid (s.id≠0->P s.id):=hmem s.id (by rw[hs];simp[begV])
              have HVV:Hid (begV H t i=[v.id]++[s.id]):=by rw[Hid,hv,hs];rfl
              obtain⟨ak,hak⟩:∃ak,ak=v.k:=⟨_,rfl⟩
              obtain⟨an,han⟩:∃an,an=v.n:=⟨_,rfl⟩
              obtain⟨bk,hbk⟩:∃bk,bk=s.k:=⟨_,rfl⟩
              obtain⟨bn,hbn⟩:∃bn,bn=s.n:=⟨_,rfl⟩
              have HSG:Hid (∀(W:World) (G:Hall),Rmem base W B nm G->G.regs=H.regs->G.left=(keptN l:Int)->BoxN 12 W X (dealC nm (H.deals t) t)->W.cell? ⟨B,83,none⟩=some (.int .i64 (keptN l:Int))/\(W.cell? ⟨B,2+t * 8+i * 2,none⟩=some (.int .i64 ak)/\W.cell? ⟨B,2+t * 8+i * 2+1,none⟩=some (.int .i64 an)/\W.cell? ⟨X,1+i * 2,none⟩=some (.int .i64 bk)/\W.cell? ⟨X,1+i * 2+1,none⟩=some (.int .i64 bn))):=λW G hm hd hl hx=>by
                have e83:W.cell? ⟨B,83,none⟩=some (.int .i64 (keptN l:Int)):=by rw[(hm.box 83 (by omega)).1];show some (Value.int .i64 G.left)=_;rw[hl]
                obtain⟨r0,r1⟩:=hm.cR ht4 hlt
                rw[hd,<- hv] at r0 r1
                rw[<- hak] at r0;rw[<- han] at r1
                have x0:W.cell? ⟨X,1+i * 2,none⟩=some (.int .i64 bk):=by
                  rw[(hx (1+i * 2) (by omega)).1]
                  unfold dealC
                  rw[if_neg (by omega),if_pos (by omega),show (1+i * 2 - 1) / 2=i by omega,show (1+i * 2 - 1) % 2=0 by omega,<- hs,hbk];rfl
                have x1:W.cell? ⟨X,1+i * 2+1,none⟩=some (.int .i64 bn):=by
                  rw[(hx (1+i * 2+1) (by omega)).1]
                  unfold dealC
                  rw[if_neg (by omega),if_pos (by omega),show (1+i * 2+1 - 1) / 2=i by omega,show (1+i * 2+1 - 1) % 2=1 by omega,<- hs,hbn];rfl
                exact⟨e83,r0,r1,x0,x1⟩
              have hBX3:B≠X:=λe=>HNX.out ⟨.box,trivial,by rw[e];rfl⟩
              have hKb3:=keptN_big HM3.out
              (try dsimp only [Hb] at hKb3)
              have HWALK:Hid (∀W,Below wy.heap.size wy W->Calls Try.prog 102 #[.pointer (some ⟨B,0,none⟩),.agg #[.int .i64 ak,.int .i64 an]] W (λe w9=>∃(l9:List Thing) (c9:Nat),e = .returned (.int .i64 (c9:Int))/\w9.cell? ⟨B,83,none⟩=some (.int .i64 (keptN l:Int))/\B<w9.heap.size/\Hid (∀W,Below w9.heap.size w9 W->W.cell? ⟨B,2+t * 8+i * 2,none⟩=some (.int .i64 ak)/\W.cell? ⟨B,2+t * 8+i * 2+1,none⟩=some (.int .i64 an)/\W.cell? ⟨X,1+i * 2,none⟩=some (.int .i64 bk)/\W.cell? ⟨X,1+i * 2+1,none⟩=some (.int .i64 bn)) /\
                  Hid (Rmem base w9 B nm { Hb H l with things:=l9 }/\WentR wy w9 B H.things.length H.things.length nm nm/\BoxN 12 w9 X (dealC nm (H.deals t) t)/\WalkR (H.things.map clearK) (((List.range t).flatMap (begR H)++(List.range i).flatMap (begV H t))++[v.id]) l9/\(keptN l9:Int)=(keptN l:Int)+(c9:Int)))):=λW hW=>by
                have hc:=walk_any P _ base W B nm (Hb H l) (HM3.out.below hW) v (Nat.le_refl _) (HSH.out _ HR3.out) HVP.out
                rw[<- hak,<- han] at hc
                refine hc.mono ?_
                rintro e w9 ⟨l9,c9,rfl,hM9,hW9,hR9,hN9⟩
                have hW9':WentR wy w9 B H.things.length H.things.length nm nm:=WentR.after (by have:=hW9;(try dsimp only [Hb] at this);rw[HLL.out _ HR3.out] at this;exact this) hW λj hj=>(HM3.out.has_lt j (by (try dsimp only [Hb]);rw[HLL.out _ HR3.out];exact hj)).2
                have hD9:=hW9'.boxN HD3.out (by omega) HNX.out
                have hbig:=keptN_big hM9
                (try dsimp only at hbig)
                have hNN:(keptN l9:Int)=(keptN l:Int)+(c9:Int):=by have:=hN9;(try dsimp only [Hb] at this);omega
                exact⟨l9,c9,rfl,(HSG.out w9 _ hM9 rfl rfl hD9).1,hM9.lt,λW hW2=>(HSG.out W _ (hM9.below hW2) rfl rfl (hD9.keep (hW2.block _ (hD9.lt (by omega))))).2,hM9,hW9',hD9,HR3.out.trans hR9,hNN⟩
              have HWALK2:Hid (∀(w9 W:World) (l9:List Thing) (c9:Nat),Hid (Rmem base w9 B nm { Hb H l with things:=l9 }/\WentR wy w9 B H.things.length H.things.length nm nm/\BoxN 12 w9 X (dealC nm (H.deals t) t)/\WalkR (H.things.map clearK) (((List.range t).flatMap (begR H)++(List.range i).flatMap (begV H t))++[v.id]) l9/\(keptN l9:Int)=(keptN l:Int)+(c9:Int))->Below w9.heap.size w9 W->Calls Try.prog 102 #[.pointer (some ⟨B,0,none⟩),.agg #[.int .i64 bk,.int .i64 bn]] W (λe w7=>∃(l7:List Thing) (c7:Nat),e = .returned (.int .i64 (c7:Int))/\w7.cell? ⟨B,83,none⟩=some (.int .i64 (keptN l:Int))/\w7.frozen? ⟨B,83,none⟩=false/\B<w7.heap.size/\Hid (∀W,Chg (λk=>k=B) w7 W->W.cell? ⟨X,1+i * 2,none⟩=some (.int .i64 bk)/\W.cell? ⟨X,1+i * 2+1,none⟩=some (.int .i64 bn))/\Hid (∀W,Below w7.heap.size w7 W->W.cell? ⟨B,2+t * 8+i * 2,none⟩=some (.int .i64 ak)/\W.cell? ⟨B,2+t * 8+i * 2+1,none⟩=some (.int .i64 an)/\W.cell? ⟨X,1+i * 2,none⟩=some (.int .i64 bk)/\W.cell? ⟨X,1+i * 2+1,none⟩=some (.int .i64 bn)) /\
                  Hid (Rmem base (w7.setCell ⟨B,83,none⟩ (.int .i64 (IntKind.i64.wrap (IntKind.i64.wrap ((keptN l:Int)+(c9:Int))+(c7:Int))))) B nm (Hb H l7)/\WentR wz (w7.setCell ⟨B,83,none⟩ (.int .i64 (IntKind.i64.wrap (IntKind.i64.wrap ((keptN l:Int)+(c9:Int))+(c7:Int))))) B H.things.length H.things.length nm nm/\BoxN 12 (w7.setCell ⟨B,83,none⟩ (.int .i64 (IntKind.i64.wrap (IntKind.i64.wrap ((keptN l:Int)+(c9:Int))+(c7:Int))))) X (dealC nm (H.deals t) t)/\WalkR (H.things.map clearK) (((List.range t).flatMap (begR H)++(List.range i).flatMap (begV H t))++[v.id]++[s.id]) l7))):=λw9 W l9 c9 hf hW=>by
                obtain⟨hM9,hW9,hD9,hR9,hN9⟩:=hf.out
                have hc:=walk_any P _ base W B nm { Hb H l with things:=l9 } (hM9.below hW) s (Nat.le_refl _) (HSH.out _ hR9) HSP.out
                rw[<- hbk,<- hbn] at hc
                refine hc.mono ?_
                rintro e w7 ⟨l7,c7,rfl,hM7,hW7,hR7,hN7⟩
                have hW7':WentR w9 w7 B H.things.length H.things.length nm nm:=WentR.after (by have:=hW7;(try dsimp only [Hb] at this);rw[HLL.out _ hR9] at this;exact this) hW λj hj=>(hM9.has_lt j (by (try dsimp only [Hb]);rw[HLL.out _ hR9];exact hj)).2
                have hD7:=hW7'.boxN hD9 (by omega) HNX.out
                have hbig:=keptN_big hM7
                (try dsimp only at hbig)
                have hNN:(keptN l7:Int)=(keptN l:Int)+(c9:Int)+(c7:Int):=by have:=hN7;(try dsimp only [Hb] at this);omega
                have hR10:=hR9.trans hR7
                have hb9:=keptN_big hM9
                (try dsimp only at hb9)
                have ew:IntKind.i64.wrap ((keptN l:Int)+(c9:Int))=(keptN l:Int)+(c9:Int):=IntWalk.i64_in _ (by omega)
                have ew2:IntKind.i64.wrap ((keptN l:Int)+(c9:Int)+(c7:Int))=(keptN l:Int)+(c9:Int)+(c7:Int):=IntWalk.i64_in _ (by omega)
                refine⟨l7,c7,rfl,(HSG.out w7 _ hM7 rfl rfl hD7).1,(hM7.box 83 (by omega)).2,hM7.lt,λW hW2=>⟨(hW2.cell (hD7.lt (by omega)) (λe=>hBX3 e.symm) _).1.trans (HSG.out w7 _ hM7 rfl rfl hD7).2.2.2.1,(hW2.cell (hD7.lt (by omega)) (λe=>hBX3 e.symm) _).1.trans (HSG.out w7 _ hM7 rfl rfl hD7).2.2.2.2⟩,λW hW2=>(HSG.out W _ (hM7.below hW2) rfl rfl (hD7.keep (hW2.block _ (hD7.lt (by omega))))).2,?_⟩
                rw[ew,ew2]
                clear ew ew2
                obtain⟨q1,q2⟩:=hM7.setLeft ((keptN l:Int)+(c9:Int)+(c7:Int))
                have eH:({ { { Hb H l with things:=l9 } with things:=l7 } with left:=(keptN l:Int)+(c9:Int)+(c7:Int) }:Hall)=Hb H l7:=by unfold Hb;rw[hNN]
                rw[eH] at q1
                exact⟨q1,((HW3.out.trans hW9).trans hW7').trans (by have:=q2;(try dsimp only at this);rw[HLL.out _ hR10] at this;exact this),hD7.setFar (λe=>hBX3 e) _,hR10⟩
              obtain⟨z83c,z83⟩:=HM3.out.box 83 (by omega)
              rw[show hallC nm (Hb H l) 83 = .int .i64 (keptN l:Int) from rfl] at z83c
              have HZR:Hid (∀j,j<84->wy.frozen? ⟨B,j,none⟩=false):=λj hj=>(HM3.out.box j hj).2
              have HKP:Hid (∀W,Below wy.heap.size wy W->W.cell? ⟨B,2+t * 8+i * 2,none⟩=some (.int .i64 ak)/\W.cell? ⟨B,2+t * 8+i * 2+1,none⟩=some (.int .i64 an)/\W.cell? ⟨X,1+i * 2,none⟩=some (.int .i64 bk)/\W.cell? ⟨X,1+i * 2+1,none⟩=some (.int .i64 bn)):=λW hW=>(HSG.out W (Hb H l) (HM3.out.below hW) rfl rfl (HD3.out.keep (hW.block _ hX3))).2
              obtain⟨y0,y1,y2,y3⟩:=HKP.out wy (Below.refl _ _)
              clear hv hs hmem HSG hKb3 hak han hbk hbn
              go_wp2_with fail
              obtain⟨w8,hw8⟩:∃w8,w8=wy.drew:=⟨_,rfl⟩
              have HB8:Hid (Below wy.heap.size wy w8):=by rw[Hid,hw8];exact (Below.refl _ _).drew
              have hS8:(λW:World=>W.cell? ⟨B,83,none⟩=some (.int .i64 (keptN l:Int))/\W.cell? ⟨B,2+t * 8+i * 2,none⟩=some (.int .i64 ak)/\W.cell? ⟨B,2+t * 8+i * 2+1,none⟩=some (.int .i64 an)/\W.cell? ⟨X,1+i * 2,none⟩=some (.int .i64 bk)/\W.cell? ⟨X,1+i * 2+1,none⟩=some (.int .i64 bn)) w8:=⟨by rw[hw8];exact z83c,HKP.out w8 HB8.out⟩
              clear y0 y1 y2 y3 z83c
              refine wp_region_T 25 (λW=>W.cell? ⟨B,83,none⟩=some (.int .i64 (keptN l:Int))/\W.cell? ⟨B,2+t * 8+i * 2,none⟩=some (.int .i64 ak)/\W.cell? ⟨B,2+t * 8+i * 2+1,none⟩=some (.int .i64 an)/\W.cell? ⟨X,1+i * 2,none⟩=some (.int .i64 bk)/\W.cell? ⟨X,1+i * 2+1,none⟩=some (.int .i64 bn)) (by kernel_rfl) hw8 ?_
              clear hw8
              refine TkT.on [0,1,2,3,4,5,6,7,8,9,10,11,12,13,16,17,18,19,20] ?_
              (repeat (refine TkT.take (v:=?_) rfl (by kernel_rfl) (λ_ _ _ h=>h) hS8 (.inl ⟨by rfl,?_⟩) ?_;rotate_left;(· (intro W hW;obtain⟨k1,k2,k3,k4,k5⟩:=hW;go_simp;try with_reducible rfl));try simp only [List.getElem_toArray,List.getElem_cons_zero,List.getElem_cons_succ];try simp only [Act.put,List.setIfInBounds_toArray,List.set_cons_zero,List.set_cons_succ]))
              refine TkT.off ?_
              refine wpAnyT_one 14 rfl (by kernel_rfl) λK hK=>?_
              go_simp
              go_at_call 102
              refine (HWALK.out _ HB8.out).mono ?_
              rintro e w9 ⟨l9,c9,rfl,c93,hB9,HK9,HF9⟩
              go_wp2_with fail
              refine hK.out _ _ (λ_=>⟨c93,HK9.out w9 (Below.refl _ _)⟩) (λhS9=>?_)
              clear hK K hS8 c93
              have hS9:=hS9 (by decide)
              try simp only [Act.put,List.setIfInBounds_toArray,List.set_cons_zero,List.set_cons_succ]
              refine TkT.on [15] ?_
              (repeat (refine TkT.take (v:=?_) rfl (by kernel_rfl) (λ_ _ _ h=>h) hS9 (.inl ⟨by rfl,?_⟩) ?_;rotate_left;(· (intro W hW;obtain⟨k1,k2,k3,k4,k5⟩:=hW;go_simp;try with_reducible rfl));try simp only [List.getElem_toArray,List.getElem_cons_zero,List.getElem_cons_succ];try simp only [Act.put,List.setIfInBounds_toArray,List.set_cons_zero,List.set_cons_succ]))
              refine TkT.off ?_
              refine wpAnyT_one 21 rfl (by kernel_rfl) λK hK=>?_
              go_simp
              go_at_call 102
              refine (HWALK2.out w9 _ l9 c9 HF9 (Below.refl _ _)).mono ?_
              rintro e w7 ⟨l7,c7,rfl,c73,z73,hB7,HK7,HK7b,HFIN⟩
              go_wp2_with fail
              refine hK.out _ _ (λ_=>⟨c73,HK7b.out w7 (Below.refl _ _)⟩) (λhS7=>?_)
              clear hK K hS9 c73
              have hS7:=hS7 (by decide)
              try simp only [Act.put,List.setIfInBounds_toArray,List.set_cons_zero,List.set_cons_succ]
              refine TkT.on [22] ?_
              (repeat (refine TkT.take (v:=?_) rfl (by kernel_rfl) (λ_ _ _ h=>h) hS7 (.inl ⟨by rfl,?_⟩) ?_;rotate_left;(· (intro W hW;obtain⟨k1,k2,k3,k4,k5⟩:=hW;go_simp;try with_reducible rfl));try simp only [List.getElem_toArray,List.getElem_cons_zero,List.getElem_cons_succ];try simp only [Act.put,List.setIfInBounds_toArray,List.set_cons_zero,List.set_cons_succ]))
              refine TkT.off ?_
              refine wpAnyT_one 23 rfl (by kernel_rfl) λK hK=>?_
              go_simp
              refine hK.out _ _ (λ_=>hS7) (λ_=>?_)
              clear hK K
              try simp only [Act.put,List.setIfInBounds_toArray,List.set_cons_zero,List.set_cons_succ]
              refine wpAnyT_one 24 rfl (by kernel_rfl) λK hK=>?_
              go_simp
              refine hK.out _ _ (λ_=>hS7) (λ_=>?_)
              clear hK K
              try simp only [Act.put,List.setIfInBounds_toArray,List.set_cons_zero,List.set_cons_succ]
              obtain⟨k1,k2,k3,k4,k5⟩:=hS7
              refine wpAnyT_one 25 rfl (by kernel_rfl) λK hK=>?_
              go_simp
              refine hK.out _ _ (λh=>absurd rfl h) (λ_=>?_)
              clear hK K
              try simp only [Act.put,List.setIfInBounds_toArray,List.set_cons_zero,List.set_cons_succ]
              refine wpAnyT_done (by kernel_rfl) ?_ _
              (
                obtain⟨w10,hw10⟩:∃w10,w10=w7.setCell ⟨B,83,none⟩ (.int .i64 (IntKind.i64.wrap (IntKind.i64.wrap ((keptN l:Int)+(c9:Int))+(c7:Int)))):=⟨_,rfl⟩
                rw[<- hw10] at HFIN ⊢
                clear hw10
                go_wp2_with fail
                go_roundw
                case rel =>
                  obtain⟨f1,f2,f3,f4⟩:=HFIN.out
                  refine⟨i+1,l7,by omega,by go_num,f1.below (by ((repeat first|exact bR _ _|with_reducible first|refine bN ?_|refine bD ?_|refine bA ?_ ?_|refine bS ?_ ?_);all_goals first|exact Nat.le_refl _|(simp;done)|omega|(simp;omega))),f2.then (by ((repeat first|exact bR _ _|with_reducible first|refine bN ?_|refine bD ?_|refine bA ?_ ?_|refine bS ?_ ?_);all_goals first|exact Nat.le_refl _|(simp;done)|omega|(simp;omega))),f3.keep rfl,?_⟩
                  rw[range_flat,HVV.out,<- List.append_assoc,<- List.append_assoc]
                  exact f4
                case measure=>simp[intOf];omega)
            · have HR3x : Hid (WalkR (H.things.map clearK) ((List.range t).flatMap (begR H) ++ (List.range 4).flatMap (begV H t)) l) := by
                have:=HR3.out
                obtain rfl:i=4:=by omega
                exact this
              go_wp2_with fail
              go_loopw [6] (λu wx=>∃(i:Nat) (l:List Thing),i<=(H.deals t).changes.length/\u = .int .i64 (i:Int)/\Rmem base wx B nm (Hb H l)/\WentR wz wx B H.things.length H.things.length nm nm/\BoxN 12 wx X (dealC nm (H.deals t) t)/\WalkR (H.things.map clearK) ((List.range t).flatMap (begR H)++(List.range 4).flatMap (begV H t)++((H.deals t).changes.take i).map (λc=>c.2.2.id)) l) (λu _=>(H.deals t).changes.length - (intOf u).toNat)
              case atStart=>exact⟨0,l,Nat.zero_le _,rfl,HM3.out,HW3.out,HD3.out,by rw[List.take_zero,List.map_nil,List.append_nil];exact HR3x.out⟩
              case round =>
                rename World=>wy
                obtain⟨i,l,hi,rfl,hM,hW,hD,hR⟩:=hrel
                have HM4:=Lib.hid hM;have HW4:=Lib.hid hW;have HD4:=Lib.hid hD;have HR4:=Lib.hid hR
                clear hM hW hD hR
                have hB4:=HM4.out.lt
                have hX4:=HD4.out.lt (by omega)
                obtain⟨x0,_⟩:=HD4.out 11 (by omega)
                rw[show dealC nm (H.deals t) t 11=nm.cv t from rfl,HEC.out] at x0
                obtain⟨N,hN⟩:∃N,N=(H.deals t).changes.length:=⟨_,rfl⟩
                have hNl:N<=1000000:=by rw[hN];exact (show Go.Proofs.Ytbeilcaadpopmab.OwnL rChange wy base (nm.cv t) (H.deals t).changes from HM4.out.part (.changes t) ht4).1
                rw[<- hN] at hi x0 ⊢
                have HNN:=Lib.hid hN
                clear hN
                by_cases hlt:i<N
                · have hlt':i<(H.deals t).changes.length:=by rw[<- HNN.out];exact hlt
                  obtain⟨c,hc⟩:∃c,c=(H.deals t).changes[i]:=⟨_,rfl⟩
                  have hin:c ∈ (H.deals t).changes:=by rw[hc];exact List.getElem_mem _
                  have HVP:Hid (c.2.2.id≠0->P c.2.2.id):=λh0=>HRT.out _ ((begR_mem H _).1 (List.mem_flatMap.2 ⟨t,List.mem_range.2 ht4,by unfold begR;simp only [List.mem_append,List.mem_map];exact .inl (.inl (.inr ⟨c,hin,rfl⟩))⟩)) h0
                  have HTK:Hid ((H.deals t).changes.take (i+1)=(H.deals t).changes.take i++[c]):=by rw[Hid,List.take_add_one,List.getElem?_eq_getElem hlt',<- hc];rfl
                  have hpc:Go.Proofs.Ytbeilcaadpopmab.OwnL rChange wy base (.slice ca (H.deals t).changes.length cc) (H.deals t).changes:=by rw[<- HEC.out];exact HM4.out.part (.changes t) ht4
                  obtain⟨g,ega,_,_,hgl0,_,_⟩:=hpc.at hlt'
                  obtain⟨vk,hvk⟩:∃vk,vk=c.2.2.k:=⟨_,rfl⟩
                  obtain⟨vn,hvn⟩:∃vn,vn=c.2.2.n:=⟨_,rfl⟩
                  have HEG:=Lib.hid ega
                  have hgB:g≠B:=λeB=>by
                    have:=HM4.out.apart (.changes t) .box g ht4 trivial (by show (nm.cv t).ownBlock=_;rw[HEC.out,HEG.out];rfl) (by rw[eB];rfl)
                    cases this
                  have HSG:Hid (∀(W:World) (G:Hall),Rmem base W B nm G->G.deals=H.deals->G.left=(keptN l:Int)->BoxN 12 W X (dealC nm (H.deals t) t)->W.cell? ⟨B,83,none⟩=some (.int .i64 (keptN l:Int))/\(W.cell? ⟨X,11,none⟩=some (.slice (some ⟨g,0,none⟩) N cc)/\W.cell? ⟨g,i * 4+2,none⟩=some (.int .i64 vk)/\W.cell? ⟨g,i * 4+3,none⟩=some (.int .i64 vn))/\g<W.heap.size):=λW G hm hd hl hx=>by
                    have e83:W.cell? ⟨B,83,none⟩=some (.int .i64 (keptN l:Int)):=by rw[(hm.box 83 (by omega)).1];show some (Value.int .i64 G.left)=_;rw[hl]
                    have x:W.cell? ⟨X,11,none⟩=some (.slice (some ⟨g,0,none⟩) N cc):=by
                      rw[(hx 11 (by omega)).1,show dealC nm (H.deals t) t 11=nm.cv t from rfl,HEC.out,<- HNN.out,HEG.out]
                    have hp:Go.Proofs.Ytbeilcaadpopmab.OwnL rChange W base (.slice ca (H.deals t).changes.length cc) (H.deals t).changes:=by
                      have:=hm.part (.changes t) ht4
                      have e:(G.deals t).changes=(H.deals t).changes:=by rw[hd]
                      rw[<- HEC.out,<- e];exact this
                    obtain⟨g',ea,_,_,hgl,hcell,_⟩:=hp.at hlt'
                    have eg:g' = g:=by rw[HEG.out] at ea;simpa using ea.symm
                    rw[eg] at hcell hgl
                    rw[<- hc] at hcell
                    have e2:W.cell? ⟨g,i * 4+2,none⟩=some (.int .i64 c.2.2.k):=hcell 2 (by show 2<4;omega)
                    have e3:W.cell? ⟨g,i * 4+3,none⟩=some (.int .i64 c.2.2.n):=hcell 3 (by show 3<4;omega)
                    rw[<- hvk] at e2;rw[<- hvn] at e3
                    exact⟨e83,⟨x,e2,e3⟩,hgl⟩
                  have HCALL:Hid (∀W,Below wy.heap.size wy W->Calls Try.prog 102 #[.pointer (some ⟨B,0,none⟩),.agg #[.int .i64 vk,.int .i64 vn]] W (RetW base W B nm (Hb H l) [c.2.2.id])):=λW hW=>by
                    have:=walk_any P _ base W B nm (Hb H l) (HM4.out.below hW) c.2.2 (Nat.le_refl _) (HSH.out _ HR4.out) HVP.out
                    rw[<- hvk,<- hvn] at this;exact this
                  have hBX4:B≠X:=λe=>HNX.out ⟨.box,trivial,by rw[e];rfl⟩
                  have hii:(i:Int)<(N:Int):=by omega
                  have hcN:N<=cc:=by obtain⟨_,_,e,h1,_⟩:=hpc.shape;simp only [Value.slice.injEq] at e;have:=HNN.out;omega
                  have HWALK:Hid (∀W,Below wy.heap.size wy W->Calls Try.prog 102 #[.pointer (some ⟨B,0,none⟩),.agg #[.int .i64 vk,.int .i64 vn]] W (λe w9=>∃(l9:List Thing) (c9:Nat),e = .returned (.int .i64 (c9:Int))/\w9.cell? ⟨B,83,none⟩=some (.int .i64 (keptN l:Int))/\w9.frozen? ⟨B,83,none⟩=false/\B<w9.heap.size/\Hid (∀W,Chg (λk=>k=B) w9 W->W.cell? ⟨X,11,none⟩=some (.slice (some ⟨g,0,none⟩) N cc)/\W.cell? ⟨g,i * 4+2,none⟩=some (.int .i64 vk)/\W.cell? ⟨g,i * 4+3,none⟩=some (.int .i64 vn)) /\
                      Hid (Rmem base (w9.setCell ⟨B,83,none⟩ (.int .i64 (IntKind.i64.wrap ((keptN l:Int)+(c9:Int))))) B nm (Hb H l9)/\WentR wz (w9.setCell ⟨B,83,none⟩ (.int .i64 (IntKind.i64.wrap ((keptN l:Int)+(c9:Int))))) B H.things.length H.things.length nm nm/\BoxN 12 (w9.setCell ⟨B,83,none⟩ (.int .i64 (IntKind.i64.wrap ((keptN l:Int)+(c9:Int))))) X (dealC nm (H.deals t) t)/\WalkR (H.things.map clearK) (((List.range t).flatMap (begR H)++(List.range 4).flatMap (begV H t)++((H.deals t).changes.take i).map (λc=>c.2.2.id))++[c.2.2.id]) l9))):=λW hW=>by
                    refine (HCALL.out W hW).mono ?_
                    rintro e w9 ⟨l9,c9,rfl,hM9,hW9,hR9,hN9⟩
                    have hW9':WentR wy w9 B H.things.length H.things.length nm nm:=WentR.after (by have:=hW9;(try dsimp only [Hb] at this);rw[HLL.out _ HR4.out] at this;exact this) hW λj hj=>(HM4.out.has_lt j (by (try dsimp only [Hb]);rw[HLL.out _ HR4.out];exact hj)).2
                    have hD9:=hW9'.boxN HD4.out (by omega) HNX.out
                    have hbig:=keptN_big hM9
                    (try dsimp only at hbig)
                    have hNN:(keptN l9:Int)=(keptN l:Int)+(c9:Int):=by have:=hN9;(try dsimp only [Hb] at this);omega
                    obtain⟨s1,s2,s3⟩:=HSG.out w9 _ hM9 rfl rfl hD9
                    have hR10:=HR4.out.trans hR9
                    have ew:IntKind.i64.wrap ((keptN l:Int)+(c9:Int))=(keptN l:Int)+(c9:Int):=IntWalk.i64_in _ (by omega)
                    refine⟨l9,c9,rfl,s1,(hM9.box 83 (by omega)).2,hM9.lt,λW hW=>⟨(hW.cell (hD9.lt (by omega)) (λe=>hBX4 e.symm) _).1.trans s2.1,(hW.cell s3 hgB _).1.trans s2.2.1,(hW.cell s3 hgB _).1.trans s2.2.2⟩,?_⟩
                    rw[ew]
                    clear ew
                    obtain⟨q1,q2⟩:=hM9.setLeft ((keptN l:Int)+(c9:Int))
                    have eH:({ { Hb H l with things:=l9 } with left:=(keptN l:Int)+(c9:Int) }:Hall)=Hb H l9:=by unfold Hb;rw[hNN]
                    rw[eH] at q1
                    exact⟨q1,(HW4.out.trans hW9').trans (by have:=q2;(try dsimp only at this);rw[HLL.out _ hR10] at this;exact this),hD9.setFar (λe=>hBX4 e) _,hR10⟩
                  have HKP:Hid (∀W,Below wy.heap.size wy W->W.cell? ⟨X,11,none⟩=some (.slice (some ⟨g,0,none⟩) N cc)/\W.cell? ⟨g,i * 4+2,none⟩=some (.int .i64 vk)/\W.cell? ⟨g,i * 4+3,none⟩=some (.int .i64 vn)):=λW hW=>(HSG.out W (Hb H l) (HM4.out.below hW) rfl rfl (HD4.out.keep (hW.block _ hX4))).2.1
                  obtain⟨c83,z83⟩:=HM4.out.box 83 (by omega)
                  rw[show hallC nm (Hb H l) 83 = .int .i64 (keptN l:Int) from rfl] at c83
                  clear hpc hin hc hgl0 hNl
                  subst ega
                  clear HEG HSG HCALL hgB hvk hvn
                  go_wp2_with fail
                  clear x0
                  obtain⟨w8,hw8⟩:∃w8,w8=wy.drew:=⟨_,rfl⟩
                  have HB8:Hid (Below wy.heap.size wy w8):=by rw[Hid,hw8];exact (Below.refl _ _).drew
                  have hS8:(λW:World=>W.cell? ⟨B,83,none⟩=some (.int .i64 (keptN l:Int))/\W.cell? ⟨X,11,none⟩=some (.slice (some ⟨g,0,none⟩) N cc)/\W.cell? ⟨g,i * 4+2,none⟩=some (.int .i64 vk)/\W.cell? ⟨g,i * 4+3,none⟩=some (.int .i64 vn)) w8:=⟨by rw[hw8];exact c83,HKP.out w8 HB8.out⟩
                  clear c83
                  refine wp_region_T 16 (λW=>W.cell? ⟨B,83,none⟩=some (.int .i64 (keptN l:Int))/\W.cell? ⟨X,11,none⟩=some (.slice (some ⟨g,0,none⟩) N cc)/\W.cell? ⟨g,i * 4+2,none⟩=some (.int .i64 vk)/\W.cell? ⟨g,i * 4+3,none⟩=some (.int .i64 vn)) (by kernel_rfl) hw8 ?_
                  clear hw8
                  refine TkT.on [0,1,2,3,4,5,6,7,8,9,10,11] ?_
                  (repeat (refine TkT.take (v:=?_) rfl (by kernel_rfl) (λ_ _ _ h=>h) hS8 (.inl ⟨by rfl,?_⟩) ?_;rotate_left;(· (intro W hW;obtain⟨k1,k2,k3,k4⟩:=hW;go_simp;try with_reducible rfl));try simp only [List.getElem_toArray,List.getElem_cons_zero,List.getElem_cons_succ];try simp only [Act.put,List.setIfInBounds_toArray,List.set_cons_zero,List.set_cons_succ]))
                  refine TkT.off ?_
                  refine wpAnyT_one 12 rfl (by kernel_rfl) λK hK=>?_
                  go_simp
                  go_at_call 102
                  refine (HWALK.out _ HB8.out).mono ?_
                  rintro e w9 ⟨l9,c9,rfl,c93,z93,hB9,HK9,HFIN⟩
                  go_wp2_with fail
                  refine hK.out _ _ (λ_=>⟨c93,HK9.out w9 (Chg.refl _ _)⟩) (λhS9=>?_)
                  clear hK K hS8 c93
                  have hS9:=hS9 (by decide)
                  try simp only [Act.put,List.setIfInBounds_toArray,List.set_cons_zero,List.set_cons_succ]
                  refine TkT.on [13] ?_
                  (repeat (refine TkT.take (v:=?_) rfl (by kernel_rfl) (λ_ _ _ h=>h) hS9 (.inl ⟨by rfl,?_⟩) ?_;rotate_left;(· (intro W hW;obtain⟨k1,k2,k3,k4⟩:=hW;go_simp;try with_reducible rfl));try simp only [List.getElem_toArray,List.getElem_cons_zero,List.getElem_cons_succ];try simp only [Act.put,List.setIfInBounds_toArray,List.set_cons_zero,List.set_cons_succ]))
                  refine TkT.off ?_
                  refine wpAnyT_one 14 rfl (by kernel_rfl) λK hK=>?_
                  go_simp
                  refine hK.out _ _ (λ_=>hS9) (λ_=>?_)
                  clear hK K
                  try simp only [Act.put,List.setIfInBounds_toArray,List.set_cons_zero,List.set_cons_succ]
                  refine wpAnyT_one 15 rfl (by kernel_rfl) λK hK=>?_
                  go_simp
                  refine hK.out _ _ (λ_=>hS9) (λ_=>?_)
                  clear hK K
                  try simp only [Act.put,List.setIfInBounds_toArray,List.set_cons_zero,List.set_cons_succ]
                  obtain⟨k1,k2,k3,k4⟩:=hS9
                  refine wpAnyT_one 16 rfl (by kernel_rfl) λK hK=>?_
                  go_simp
                  refine hK.out _ _ (λh=>absurd rfl h) (λ_=>?_)
                  clear hK K
                  try simp only [Act.put,List.setIfInBounds_toArray,List.set_cons_zero,List.set_cons_succ]
                  refine wpAnyT_done (by kernel_rfl) ?_ _
                  (
                    clear HK9
                    obtain⟨w10,hw10⟩:∃w10,w10=w9.setCell ⟨B,83,none⟩ (.int .i64 (IntKind.i64.wrap ((keptN l:Int)+(c9:Int)))):=⟨_,rfl⟩
                    rw[<- hw10] at HFIN ⊢
                    clear hw10
                    go_wp2_with fail
                    go_roundw
                    case rel =>
                      obtain⟨f1,f2,f3,f4⟩:=HFIN.out
                      refine⟨i+1,l9,by omega,by go_num,f1.below (by ((repeat first|exact bR _ _|with_reducible first|refine bN ?_|refine bD ?_|refine bA ?_ ?_|refine bS ?_ ?_);all_goals first|exact Nat.le_refl _|(simp;done)|omega|(simp;omega))),f2.then (by ((repeat first|exact bR _ _|with_reducible first|refine bN ?_|refine bD ?_|refine bA ?_ ?_|refine bS ?_ ?_);all_goals first|exact Nat.le_refl _|(simp;done)|omega|(simp;omega))),f3.keep rfl,?_⟩
                      rw[HTK.out,List.map_append,<- List.append_assoc]
                      exact f4
                    case measure=>simp[intOf];omega)
                · have HR4x : Hid (WalkR (H.things.map clearK) ((List.range t).flatMap (begR H) ++ (List.range 4).flatMap (begV H t) ++ ((H.deals t).changes).map (fun c => c.2.2.id)) l) := by have := HR4.out; rwa [List.take_of_length_le (by have := HNN.out; omega)] at this
                  go_wp2_with fail
                  clear x0
                  go_loopw [7] (λu wx=>∃(i:Nat) (l:List Thing),i<=(H.deals t).reads.length/\u = .int .i64 (i:Int)/\Rmem base wx B nm (Hb H l)/\WentR wz wx B H.things.length H.things.length nm nm/\BoxN 12 wx X (dealC nm (H.deals t) t)/\WalkR (H.things.map clearK) ((List.range t).flatMap (begR H)++(List.range 4).flatMap (begV H t)++(H.deals t).changes.map (λc=>c.2.2.id)++((H.deals t).reads.take i).map (·.1)) l) (λu _=>(H.deals t).reads.length - (intOf u).toNat)
                  case atStart=>exact⟨0,l,Nat.zero_le _,rfl,HM4.out,HW4.out,HD4.out,by rw[List.take_zero,List.map_nil,List.append_nil];exact HR4x.out⟩
                  case round =>
                    rename World=>wy
                    obtain⟨i,l,hi,rfl,hM,hW,hD,hR⟩:=hrel
                    have HM5:=Lib.hid hM;have HW5:=Lib.hid hW;have HD5:=Lib.hid hD;have HR5:=Lib.hid hR
                    clear hM hW hD hR
                    have hB5:=HM5.out.lt
                    have hX5:=HD5.out.lt (by omega)
                    obtain⟨x0,_⟩:=HD5.out 9 (by omega)
                    rw[show dealC nm (H.deals t) t 9=nm.rv t from rfl,HER.out] at x0
                    obtain⟨N,hN⟩:∃N,N=(H.deals t).reads.length:=⟨_,rfl⟩
                    have hNl:N<=1000000:=by rw[hN];exact (show Go.Proofs.Ytbeilcaadpopmab.OwnL rSeen wy base (nm.rv t) (H.deals t).reads from HM5.out.part (.reads t) ht4).1
                    rw[<- hN] at hi x0 ⊢
                    have HNN:=Lib.hid hN
                    clear hN
                    by_cases hlt:i<N
                    · have hlt':i<(H.deals t).reads.length:=by rw[<- HNN.out];exact hlt
                      obtain⟨c,hc⟩:∃c,c=(H.deals t).reads[i]:=⟨_,rfl⟩
                      have hin:c ∈ (H.deals t).reads:=by rw[hc];exact List.getElem_mem _
                      have HVP:Hid ((V.ref c.1).id≠0->P (V.ref c.1).id):=λh0=>HRT.out _ ((begR_mem H _).1 (List.mem_flatMap.2 ⟨t,List.mem_range.2 ht4,by unfold begR;simp only [List.mem_append,List.mem_map];exact .inl (.inr ⟨c,hin,rfl⟩)⟩)) h0
                      have HTK:Hid ((H.deals t).reads.take (i+1)=(H.deals t).reads.take i++[c]):=by rw[Hid,List.take_add_one,List.getElem?_eq_getElem hlt',<- hc];rfl
                      have hpc:Go.Proofs.Ytbeilcaadpopmab.OwnL rSeen wy base (.slice ra (H.deals t).reads.length rc) (H.deals t).reads:=by rw[<- HER.out];exact HM5.out.part (.reads t) ht4
                      obtain⟨g,ega,_,_,hgl0,_,_⟩:=hpc.at hlt'
                      have HEG:=Lib.hid ega
                      have hgB:g≠B:=λeB=>by
                        have:=HM5.out.apart (.reads t) .box g ht4 trivial (by show (nm.rv t).ownBlock=_;rw[HER.out,HEG.out];rfl) (by rw[eB];rfl)
                        cases this
                      have HSG:Hid (∀(W:World) (G:Hall),Rmem base W B nm G->G.deals=H.deals->G.left=(keptN l:Int)->BoxN 12 W X (dealC nm (H.deals t) t)->W.cell? ⟨B,83,none⟩=some (.int .i64 (keptN l:Int))/\(W.cell? ⟨X,9,none⟩=some (.slice (some ⟨g,0,none⟩) N rc)/\W.cell? ⟨g,i * 2,none⟩=some (.int .i64 (c.1:Int)))/\g<W.heap.size):=λW G hm hd hl hx=>by
                        have e83:W.cell? ⟨B,83,none⟩=some (.int .i64 (keptN l:Int)):=by rw[(hm.box 83 (by omega)).1];show some (Value.int .i64 G.left)=_;rw[hl]
                        have x:W.cell? ⟨X,9,none⟩=some (.slice (some ⟨g,0,none⟩) N rc):=by
                          rw[(hx 9 (by omega)).1,show dealC nm (H.deals t) t 9=nm.rv t from rfl,HER.out,<- HNN.out,HEG.out]
                        have hp:Go.Proofs.Ytbeilcaadpopmab.OwnL rSeen W base (.slice ra (H.deals t).reads.length rc) (H.deals t).reads:=by
                          have:=hm.part (.reads t) ht4
                          have e:(G.deals t).reads=(H.deals t).reads:=by rw[hd]
                          rw[<- HER.out,<- e];exact this
                        obtain⟨g',ea,_,_,hgl,hcell,_⟩:=hp.at hlt'
                        have eg:g' = g:=by rw[HEG.out] at ea;simpa using ea.symm
                        rw[eg] at hcell hgl
                        rw[<- hc] at hcell
                        have e2:W.cell? ⟨g,i * 2,none⟩=some (.int .i64 (c.1:Int)):=hcell 0 (by show 0<2;omega)
                        exact⟨e83,⟨x,e2⟩,hgl⟩
                      have HCALL:Hid (∀W,Below wy.heap.size wy W->Calls Try.prog 102 #[.pointer (some ⟨B,0,none⟩),.agg #[.int .i64 1,.int .i64 (c.1:Int)]] W (RetW base W B nm (Hb H l) [(V.ref c.1).id])):=λW hW=>by
                        have:=walk_any P _ base W B nm (Hb H l) (HM5.out.below hW) (V.ref c.1) (Nat.le_refl _) (HSH.out _ HR5.out) HVP.out
                        exact this
                      have hBX5:B≠X:=λe=>HNX.out ⟨.box,trivial,by rw[e];rfl⟩
                      have hii:(i:Int)<(N:Int):=by omega
                      have hcN:N<=rc:=by obtain⟨_,_,e,h1,_⟩:=hpc.shape;simp only [Value.slice.injEq] at e;have:=HNN.out;omega
                      have HWALK:Hid (∀W,Below wy.heap.size wy W->Calls Try.prog 102 #[.pointer (some ⟨B,0,none⟩),.agg #[.int .i64 1,.int .i64 (c.1:Int)]] W (λe w9=>∃(l9:List Thing) (c9:Nat),e = .returned (.int .i64 (c9:Int))/\w9.cell? ⟨B,83,none⟩=some (.int .i64 (keptN l:Int))/\w9.frozen? ⟨B,83,none⟩=false/\B<w9.heap.size/\Hid (∀W,Chg (λk=>k=B) w9 W->W.cell? ⟨X,9,none⟩=some (.slice (some ⟨g,0,none⟩) N rc)/\W.cell? ⟨g,i * 2,none⟩=some (.int .i64 (c.1:Int))) /\
                          Hid (Rmem base (w9.setCell ⟨B,83,none⟩ (.int .i64 (IntKind.i64.wrap ((keptN l:Int)+(c9:Int))))) B nm (Hb H l9)/\WentR wz (w9.setCell ⟨B,83,none⟩ (.int .i64 (IntKind.i64.wrap ((keptN l:Int)+(c9:Int))))) B H.things.length H.things.length nm nm/\BoxN 12 (w9.setCell ⟨B,83,none⟩ (.int .i64 (IntKind.i64.wrap ((keptN l:Int)+(c9:Int))))) X (dealC nm (H.deals t) t)/\WalkR (H.things.map clearK) (((List.range t).flatMap (begR H)++(List.range 4).flatMap (begV H t)++(H.deals t).changes.map (λc=>c.2.2.id)++((H.deals t).reads.take i).map (·.1))++[c.1]) l9))):=λW hW=>by
                        refine (HCALL.out W hW).mono ?_
                        rintro e w9 ⟨l9,c9,rfl,hM9,hW9,hR9,hN9⟩
                        have hW9':WentR wy w9 B H.things.length H.things.length nm nm:=WentR.after (by have:=hW9;(try dsimp only [Hb] at this);rw[HLL.out _ HR5.out] at this;exact this) hW λj hj=>(HM5.out.has_lt j (by (try dsimp only [Hb]);rw[HLL.out _ HR5.out];exact hj)).2
                        have hD9:=hW9'.boxN HD5.out (by omega) HNX.out
                        have hbig:=keptN_big hM9
                        (try dsimp only at hbig)
                        have hNN:(keptN l9:Int)=(keptN l:Int)+(c9:Int):=by have:=hN9;(try dsimp only [Hb] at this);omega
                        obtain⟨s1,s2,s3⟩:=HSG.out w9 _ hM9 rfl rfl hD9
                        have hR10:=HR5.out.trans hR9
                        have ew:IntKind.i64.wrap ((keptN l:Int)+(c9:Int))=(keptN l:Int)+(c9:Int):=IntWalk.i64_in _ (by omega)
                        refine⟨l9,c9,rfl,s1,(hM9.box 83 (by omega)).2,hM9.lt,λW hW=>⟨(hW.cell (hD9.lt (by omega)) (λe=>hBX5 e.symm) _).1.trans s2.1,(hW.cell s3 hgB _).1.trans s2.2⟩,?_⟩
                        rw[ew]
                        clear ew
                        obtain⟨q1,q2⟩:=hM9.setLeft ((keptN l:Int)+(c9:Int))
                        have eH:({ { Hb H l with things:=l9 } with left:=(keptN l:Int)+(c9:Int) }:Hall)=Hb H l9:=by unfold Hb;rw[hNN]
                        rw[eH] at q1
                        exact⟨q1,(HW5.out.trans hW9').trans (by have:=q2;(try dsimp only at this);rw[HLL.out _ hR10] at this;exact this),hD9.setFar (λe=>hBX5 e) _,hR10⟩
                      have HKP:Hid (∀W,Below wy.heap.size wy W->W.cell? ⟨X,9,none⟩=some (.slice (some ⟨g,0,none⟩) N rc)/\W.cell? ⟨g,i * 2,none⟩=some (.int .i64 (c.1:Int))):=λW hW=>(HSG.out W (Hb H l) (HM5.out.below hW) rfl rfl (HD5.out.keep (hW.block _ hX5))).2.1
                      obtain⟨c83,z83⟩:=HM5.out.box 83 (by omega)
                      rw[show hallC nm (Hb H l) 83 = .int .i64 (keptN l:Int) from rfl] at c83
                      clear hpc hin hc hgl0 hNl
                      subst ega
                      clear HEG HSG HCALL hgB
                      go_wp2_with fail
                      clear x0
                      obtain⟨w8,hw8⟩:∃w8,w8=wy.drew:=⟨_,rfl⟩
                      have HB8:Hid (Below wy.heap.size wy w8):=by rw[Hid,hw8];exact (Below.refl _ _).drew
                      have hS8:(λW:World=>W.cell? ⟨B,83,none⟩=some (.int .i64 (keptN l:Int))/\W.cell? ⟨X,9,none⟩=some (.slice (some ⟨g,0,none⟩) N rc)/\W.cell? ⟨g,i * 2,none⟩=some (.int .i64 (c.1:Int))) w8:=⟨by rw[hw8];exact c83,HKP.out w8 HB8.out⟩
                      clear c83
                      refine wp_region_T 17 (λW=>W.cell? ⟨B,83,none⟩=some (.int .i64 (keptN l:Int))/\W.cell? ⟨X,9,none⟩=some (.slice (some ⟨g,0,none⟩) N rc)/\W.cell? ⟨g,i * 2,none⟩=some (.int .i64 (c.1:Int))) (by kernel_rfl) hw8 ?_
                      clear hw8
                      refine TkT.on [0,1,2,3,4,5,6,7,8,9,10,11,12] ?_
                      (repeat (refine TkT.take (v:=?_) rfl (by kernel_rfl) (λ_ _ _ h=>h) hS8 (.inl ⟨by rfl,?_⟩) ?_;rotate_left;(· (intro W hW;obtain⟨k1,k2,k3⟩:=hW;go_simp;try with_reducible rfl));try simp only [List.getElem_toArray,List.getElem_cons_zero,List.getElem_cons_succ];try simp only [Act.put,List.setIfInBounds_toArray,List.set_cons_zero,List.set_cons_succ]))
                      refine TkT.off ?_
                      refine wpAnyT_one 13 rfl (by kernel_rfl) λK hK=>?_
                      go_simp
                      go_at_call 102
                      refine (HWALK.out _ HB8.out).mono ?_
                      rintro e w9 ⟨l9,c9,rfl,c93,z93,hB9,HK9,HFIN⟩
                      go_wp2_with fail
                      refine hK.out _ _ (λ_=>⟨c93,HK9.out w9 (Chg.refl _ _)⟩) (λhS9=>?_)
                      clear hK K hS8 c93
                      have hS9:=hS9 (by decide)
                      try simp only [Act.put,List.setIfInBounds_toArray,List.set_cons_zero,List.set_cons_succ]
                      refine TkT.on [14] ?_
                      (repeat (refine TkT.take (v:=?_) rfl (by kernel_rfl) (λ_ _ _ h=>h) hS9 (.inl ⟨by rfl,?_⟩) ?_;rotate_left;(· (intro W hW;obtain⟨k1,k2,k3⟩:=hW;go_simp;try with_reducible rfl));try simp only [List.getElem_toArray,List.getElem_cons_zero,List.getElem_cons_succ];try simp only [Act.put,List.setIfInBounds_toArray,List.set_cons_zero,List.set_cons_succ]))
                      refine TkT.off ?_
                      refine wpAnyT_one 15 rfl (by kernel_rfl) λK hK=>?_
                      go_simp
                      refine hK.out _ _ (λ_=>hS9) (λ_=>?_)
                      clear hK K
                      try simp only [Act.put,List.setIfInBounds_toArray,List.set_cons_zero,List.set_cons_succ]
                      refine wpAnyT_one 16 rfl (by kernel_rfl) λK hK=>?_
                      go_simp
                      refine hK.out _ _ (λ_=>hS9) (λ_=>?_)
                      clear hK K
                      try simp only [Act.put,List.setIfInBounds_toArray,List.set_cons_zero,List.set_cons_succ]
                      obtain⟨k1,k2,k3⟩:=hS9
                      refine wpAnyT_one 17 rfl (by kernel_rfl) λK hK=>?_
                      go_simp
                      refine hK.out _ _ (λh=>absurd rfl h) (λ_=>?_)
                      clear hK K
                      try simp only [Act.put,List.setIfInBounds_toArray,List.set_cons_zero,List.set_cons_succ]
                      refine wpAnyT_done (by kernel_rfl) ?_ _
                      (
                        clear HK9
                        obtain⟨w10,hw10⟩:∃w10,w10=w9.setCell ⟨B,83,none⟩ (.int .i64 (IntKind.i64.wrap ((keptN l:Int)+(c9:Int)))):=⟨_,rfl⟩
                        rw[<- hw10] at HFIN ⊢
                        clear hw10
                        go_wp2_with fail
                        go_roundw
                        case rel =>
                          obtain⟨f1,f2,f3,f4⟩:=HFIN.out
                          refine⟨i+1,l9,by omega,by go_num,f1.below (by ((repeat first|exact bR _ _|with_reducible first|refine bN ?_|refine bD ?_|refine bA ?_ ?_|refine bS ?_ ?_);all_goals first|exact Nat.le_refl _|(simp;done)|omega|(simp;omega))),f2.then (by ((repeat first|exact bR _ _|with_reducible first|refine bN ?_|refine bD ?_|refine bA ?_ ?_|refine bS ?_ ?_);all_goals first|exact Nat.le_refl _|(simp;done)|omega|(simp;omega))),f3.keep rfl,?_⟩
                          rw[HTK.out,List.map_append,<- List.append_assoc]
                          exact f4
                        case measure=>simp[intOf];omega)
                    · have HR5x:Hid (WalkR (H.things.map clearK) ((List.range t).flatMap (begR H)++(List.range 4).flatMap (begV H t)++(H.deals t).changes.map (λc=>c.2.2.id)++((H.deals t).reads).map (·.1)) l):=by have:=HR5.out;rwa [List.take_of_length_le (by have:=HNN.out;omega)] at this
                      go_wp2_with fail
                      clear x0
                      go_loopw [8] (λu wx=>∃(i:Nat) (l:List Thing),i<=(H.deals t).owned.length/\u = .int .i64 (i:Int)/\Rmem base wx B nm (Hb H l)/\WentR wz wx B H.things.length H.things.length nm nm/\BoxN 12 wx X (dealC nm (H.deals t) t)/\WalkR (H.things.map clearK) ((List.range t).flatMap (begR H)++(List.range 4).flatMap (begV H t)++(H.deals t).changes.map (λc=>c.2.2.id)++(H.deals t).reads.map (·.1)++((H.deals t).owned.take i).map (·.1)) l) (λu _=>(H.deals t).owned.length - (intOf u).toNat)
                      case atStart=>exact⟨0,l,Nat.zero_le _,rfl,HM5.out,HW5.out,HD5.out,by rw[List.take_zero,List.map_nil,List.append_nil];exact HR5x.out⟩
                      case round =>
                        rename World=>wy
                        obtain⟨i,l,hi,rfl,hM,hW,hD,hR⟩:=hrel
                        have HM6:=Lib.hid hM;have HW6:=Lib.hid hW;have HD6:=Lib.hid hD;have HR6:=Lib.hid hR
                        clear hM hW hD hR
                        have hB6:=HM6.out.lt
                        have hX6:=HD6.out.lt (by omega)
                        obtain⟨x0,_⟩:=HD6.out 10 (by omega)
                        rw[show dealC nm (H.deals t) t 10=nm.ov t from rfl,HEO.out] at x0
                        obtain⟨N,hN⟩:∃N,N=(H.deals t).owned.length:=⟨_,rfl⟩
                        have hNl:N<=1000000:=by rw[hN];exact (show Go.Proofs.Ytbeilcaadpopmab.OwnL rSeen wy base (nm.ov t) (H.deals t).owned from HM6.out.part (.owned t) ht4).1
                        rw[<- hN] at hi x0 ⊢
                        have HNN:=Lib.hid hN
                        clear hN
                        by_cases hlt:i<N
                        · have hlt':i<(H.deals t).owned.length:=by rw[<- HNN.out];exact hlt
                          obtain⟨c,hc⟩:∃c,c=(H.deals t).owned[i]:=⟨_,rfl⟩
                          have hin:c ∈ (H.deals t).owned:=by rw[hc];exact List.getElem_mem _
                          have HVP:Hid ((V.ref c.1).id≠0->P (V.ref c.1).id):=λh0=>HRT.out _ ((begR_mem H _).1 (List.mem_flatMap.2 ⟨t,List.mem_range.2 ht4,by unfold begR;simp only [List.mem_append,List.mem_map];exact .inr ⟨c,hin,rfl⟩⟩)) h0
                          have HTK:Hid ((H.deals t).owned.take (i+1)=(H.deals t).owned.take i++[c]):=by rw[Hid,List.take_add_one,List.getElem?_eq_getElem hlt',<- hc];rfl
                          have hpc:Go.Proofs.Ytbeilcaadpopmab.OwnL rSeen wy base (.slice oa (H.deals t).owned.length oc) (H.deals t).owned:=by rw[<- HEO.out];exact HM6.out.part (.owned t) ht4
                          obtain⟨g,ega,_,_,hgl0,_,_⟩:=hpc.at hlt'
                          have HEG:=Lib.hid ega
                          have hgB:g≠B:=λeB=>by
                            have:=HM6.out.apart (.owned t) .box g ht4 trivial (by show (nm.ov t).ownBlock=_;rw[HEO.out,HEG.out];rfl) (by rw[eB];rfl)
                            cases this
                          have HSG:Hid (∀(W:World) (G:Hall),Rmem base W B nm G->G.deals=H.deals->G.left=(keptN l:Int)->BoxN 12 W X (dealC nm (H.deals t) t)->W.cell? ⟨B,83,none⟩=some (.int .i64 (keptN l:Int))/\(W.cell? ⟨X,10,none⟩=some (.slice (some ⟨g,0,none⟩) N oc)/\W.cell? ⟨g,i * 2,none⟩=some (.int .i64 (c.1:Int)))/\g<W.heap.size):=λW G hm hd hl hx=>by
                            have e83:W.cell? ⟨B,83,none⟩=some (.int .i64 (keptN l:Int)):=by rw[(hm.box 83 (by omega)).1];show some (Value.int .i64 G.left)=_;rw[hl]
                            have x:W.cell? ⟨X,10,none⟩=some (.slice (some ⟨g,0,none⟩) N oc):=by
                              rw[(hx 10 (by omega)).1,show dealC nm (H.deals t) t 10=nm.ov t from rfl,HEO.out,<- HNN.out,HEG.out]
                            have hp:Go.Proofs.Ytbeilcaadpopmab.OwnL rSeen W base (.slice oa (H.deals t).owned.length oc) (H.deals t).owned:=by
                              have:=hm.part (.owned t) ht4
                              have e:(G.deals t).owned=(H.deals t).owned:=by rw[hd]
                              rw[<- HEO.out,<- e];exact this
                            obtain⟨g',ea,_,_,hgl,hcell,_⟩:=hp.at hlt'
                            have eg:g' = g:=by rw[HEG.out] at ea;simpa using ea.symm
                            rw[eg] at hcell hgl
                            rw[<- hc] at hcell
                            have e2:W.cell? ⟨g,i * 2,none⟩=some (.int .i64 (c.1:Int)):=hcell 0 (by show 0<2;omega)
                            exact⟨e83,⟨x,e2⟩,hgl⟩
                          have HCALL:Hid (∀W,Below wy.heap.size wy W->Calls Try.prog 102 #[.pointer (some ⟨B,0,none⟩),.agg #[.int .i64 1,.int .i64 (c.1:Int)]] W (RetW base W B nm (Hb H l) [(V.ref c.1).id])):=λW hW=>by
                            have:=walk_any P _ base W B nm (Hb H l) (HM6.out.below hW) (V.ref c.1) (Nat.le_refl _) (HSH.out _ HR6.out) HVP.out
                            exact this
                          have hBX6:B≠X:=λe=>HNX.out ⟨.box,trivial,by rw[e];rfl⟩
                          have hii:(i:Int)<(N:Int):=by omega
                          have hcN:N<=oc:=by obtain⟨_,_,e,h1,_⟩:=hpc.shape;simp only [Value.slice.injEq] at e;have:=HNN.out;omega
                          have HWALK:Hid (∀W,Below wy.heap.size wy W->Calls Try.prog 102 #[.pointer (some ⟨B,0,none⟩),.agg #[.int .i64 1,.int .i64 (c.1:Int)]] W (λe w9=>∃(l9:List Thing) (c9:Nat),e = .returned (.int .i64 (c9:Int))/\w9.cell? ⟨B,83,none⟩=some (.int .i64 (keptN l:Int))/\w9.frozen? ⟨B,83,none⟩=false/\B<w9.heap.size/\Hid (∀W,Chg (λk=>k=B) w9 W->W.cell? ⟨X,10,none⟩=some (.slice (some ⟨g,0,none⟩) N oc)/\W.cell? ⟨g,i * 2,none⟩=some (.int .i64 (c.1:Int))) /\
                              Hid (Rmem base (w9.setCell ⟨B,83,none⟩ (.int .i64 (IntKind.i64.wrap ((keptN l:Int)+(c9:Int))))) B nm (Hb H l9)/\WentR wz (w9.setCell ⟨B,83,none⟩ (.int .i64 (IntKind.i64.wrap ((keptN l:Int)+(c9:Int))))) B H.things.length H.things.length nm nm/\BoxN 12 (w9.setCell ⟨B,83,none⟩ (.int .i64 (IntKind.i64.wrap ((keptN l:Int)+(c9:Int))))) X (dealC nm (H.deals t) t)/\WalkR (H.things.map clearK) (((List.range t).flatMap (begR H)++(List.range 4).flatMap (begV H t)++(H.deals t).changes.map (λc=>c.2.2.id)++(H.deals t).reads.map (·.1)++((H.deals t).owned.take i).map (·.1))++[c.1]) l9))):=λW hW=>by
                            refine (HCALL.out W hW).mono ?_
                            rintro e w9 ⟨l9,c9,rfl,hM9,hW9,hR9,hN9⟩
                            have hW9':WentR wy w9 B H.things.length H.things.length nm nm:=WentR.after (by have:=hW9;(try dsimp only [Hb] at this);rw[HLL.out _ HR6.out] at this;exact this) hW λj hj=>(HM6.out.has_lt j (by (try dsimp only [Hb]);rw[HLL.out _ HR6.out];exact hj)).2
                            have hD9:=hW9'.boxN HD6.out (by omega) HNX.out
                            have hbig:=keptN_big hM9
                            (try dsimp only at hbig)
                            have hNN:(keptN l9:Int)=(keptN l:Int)+(c9:Int):=by have:=hN9;(try dsimp only [Hb] at this);omega
                            obtain⟨s1,s2,s3⟩:=HSG.out w9 _ hM9 rfl rfl hD9
                            have hR10:=HR6.out.trans hR9
                            have ew:IntKind.i64.wrap ((keptN l:Int)+(c9:Int))=(keptN l:Int)+(c9:Int):=IntWalk.i64_in _ (by omega)
                            refine⟨l9,c9,rfl,s1,(hM9.box 83 (by omega)).2,hM9.lt,λW hW=>⟨(hW.cell (hD9.lt (by omega)) (λe=>hBX6 e.symm) _).1.trans s2.1,(hW.cell s3 hgB _).1.trans s2.2⟩,?_⟩
                            rw[ew]
                            clear ew
                            obtain⟨q1,q2⟩:=hM9.setLeft ((keptN l:Int)+(c9:Int))
                            have eH:({ { Hb H l with things:=l9 } with left:=(keptN l:Int)+(c9:Int) }:Hall)=Hb H l9:=by unfold Hb;rw[hNN]
                            rw[eH] at q1
                            exact⟨q1,(HW6.out.trans hW9').trans (by have:=q2;(try dsimp only at this);rw[HLL.out _ hR10] at this;exact this),hD9.setFar (λe=>hBX6 e) _,hR10⟩
                          have HKP:Hid (∀W,Below wy.heap.size wy W->W.cell? ⟨X,10,none⟩=some (.slice (some ⟨g,0,none⟩) N oc)/\W.cell? ⟨g,i * 2,none⟩=some (.int .i64 (c.1:Int))):=λW hW=>(HSG.out W (Hb H l) (HM6.out.below hW) rfl rfl (HD6.out.keep (hW.block _ hX6))).2.1
                          obtain⟨c83,z83⟩:=HM6.out.box 83 (by omega)
                          rw[show hallC nm (Hb H l) 83 = .int .i64 (keptN l:Int) from rfl] at c83
                          clear hpc hin hc hgl0 hNl
                          subst ega
                          clear HEG HSG HCALL hgB
                          go_wp2_with fail
                          clear x0
                          obtain⟨w8,hw8⟩:∃w8,w8=wy.drew:=⟨_,rfl⟩
                          have HB8:Hid (Below wy.heap.size wy w8):=by rw[Hid,hw8];exact (Below.refl _ _).drew
                          have hS8:(λW:World=>W.cell? ⟨B,83,none⟩=some (.int .i64 (keptN l:Int))/\W.cell? ⟨X,10,none⟩=some (.slice (some ⟨g,0,none⟩) N oc)/\W.cell? ⟨g,i * 2,none⟩=some (.int .i64 (c.1:Int))) w8:=⟨by rw[hw8];exact c83,HKP.out w8 HB8.out⟩
                          clear c83
                          refine wp_region_T 17 (λW=>W.cell? ⟨B,83,none⟩=some (.int .i64 (keptN l:Int))/\W.cell? ⟨X,10,none⟩=some (.slice (some ⟨g,0,none⟩) N oc)/\W.cell? ⟨g,i * 2,none⟩=some (.int .i64 (c.1:Int))) (by kernel_rfl) hw8 ?_
                          clear hw8
                          refine TkT.on [0,1,2,3,4,5,6,7,8,9,10,11,12] ?_
                          (repeat (refine TkT.take (v:=?_) rfl (by kernel_rfl) (λ_ _ _ h=>h) hS8 (.inl ⟨by rfl,?_⟩) ?_;rotate_left;(· (intro W hW;obtain⟨k1,k2,k3⟩:=hW;go_simp;try with_reducible rfl));try simp only [List.getElem_toArray,List.getElem_cons_zero,List.getElem_cons_succ];try simp only [Act.put,List.setIfInBounds_toArray,List.set_cons_zero,List.set_cons_succ]))
                          refine TkT.off ?_
                          refine wpAnyT_one 13 rfl (by kernel_rfl) λK hK=>?_
                          go_simp
                          go_at_call 102
                          refine (HWALK.out _ HB8.out).mono ?_
                          rintro e w9 ⟨l9,c9,rfl,c93,z93,hB9,HK9,HFIN⟩
                          go_wp2_with fail
                          refine hK.out _ _ (λ_=>⟨c93,HK9.out w9 (Chg.refl _ _)⟩) (λhS9=>?_)
                          clear hK K hS8 c93
                          have hS9:=hS9 (by decide)
                          try simp only [Act.put,List.setIfInBounds_toArray,List.set_cons_zero,List.set_cons_succ]
                          refine TkT.on [14] ?_
                          (repeat (refine TkT.take (v:=?_) rfl (by kernel_rfl) (λ_ _ _ h=>h) hS9 (.inl ⟨by rfl,?_⟩) ?_;rotate_left;(· (intro W hW;obtain⟨k1,k2,k3⟩:=hW;go_simp;try with_reducible rfl));try simp only [List.getElem_toArray,List.getElem_cons_zero,List.getElem_cons_succ];try simp only [Act.put,List.setIfInBounds_toArray,List.set_cons_zero,List.set_cons_succ]))
                          refine TkT.off ?_
                          refine wpAnyT_one 15 rfl (by kernel_rfl) λK hK=>?_
                          go_simp
                          refine hK.out _ _ (λ_=>hS9) (λ_=>?_)
                          clear hK K
                          try simp only [Act.put,List.setIfInBounds_toArray,List.set_cons_zero,List.set_cons_succ]
                          refine wpAnyT_one 16 rfl (by kernel_rfl) λK hK=>?_
                          go_simp
                          refine hK.out _ _ (λ_=>hS9) (λ_=>?_)
                          clear hK K
                          try simp only [Act.put,List.setIfInBounds_toArray,List.set_cons_zero,List.set_cons_succ]
                          obtain⟨k1,k2,k3⟩:=hS9
                          refine wpAnyT_one 17 rfl (by kernel_rfl) λK hK=>?_
                          go_simp
                          refine hK.out _ _ (λh=>absurd rfl h) (λ_=>?_)
                          clear hK K
                          try simp only [Act.put,List.setIfInBounds_toArray,List.set_cons_zero,List.set_cons_succ]
                          refine wpAnyT_done (by kernel_rfl) ?_ _
                          (
                            clear HK9
                            obtain⟨w10,hw10⟩:∃w10,w10=w9.setCell ⟨B,83,none⟩ (.int .i64 (IntKind.i64.wrap ((keptN l:Int)+(c9:Int)))):=⟨_,rfl⟩
                            rw[<- hw10] at HFIN ⊢
                            clear hw10
                            go_wp2_with fail
                            go_roundw
                            case rel =>
                              obtain⟨f1,f2,f3,f4⟩:=HFIN.out
                              refine⟨i+1,l9,by omega,by go_num,f1.below (by ((repeat first|exact bR _ _|with_reducible first|refine bN ?_|refine bD ?_|refine bA ?_ ?_|refine bS ?_ ?_);all_goals first|exact Nat.le_refl _|(simp;done)|omega|(simp;omega))),f2.then (by ((repeat first|exact bR _ _|with_reducible first|refine bN ?_|refine bD ?_|refine bA ?_ ?_|refine bS ?_ ?_);all_goals first|exact Nat.le_refl _|(simp;done)|omega|(simp;omega))),f3.keep rfl,?_⟩
                              rw[HTK.out,List.map_append,<- List.append_assoc]
                              exact f4
                            case measure=>simp[intOf];omega)
                        · have HR6x:Hid (WalkR (H.things.map clearK) ((List.range t).flatMap (begR H)++(List.range 4).flatMap (begV H t)++(H.deals t).changes.map (λc=>c.2.2.id)++(H.deals t).reads.map (·.1)++((H.deals t).owned).map (·.1)) l):=by have:=HR6.out;rwa [List.take_of_length_le (by have:=HNN.out;omega)] at this
                          go_wp2_with fail
                          go_roundw
                          case rel =>
                            refine⟨t+1,l,by omega,by go_num,HM6.out.below (by ((repeat first|exact bR _ _|with_reducible first|refine bN ?_|refine bD ?_|refine bA ?_ ?_|refine bS ?_ ?_);all_goals first|exact Nat.le_refl _|(simp;done)|omega|(simp;omega))),HW6.out.then (by ((repeat first|exact bR _ _|with_reducible first|refine bN ?_|refine bD ?_|refine bA ?_ ?_|refine bS ?_ ?_);all_goals first|exact Nat.le_refl _|(simp;done)|omega|(simp;omega))),?_⟩
                            rw[range_flat,show begR H t=(List.range 4).flatMap (begV H t)++(H.deals t).changes.map (λc=>c.2.2.id)++(H.deals t).reads.map (·.1)++(H.deals t).owned.map (·.1) from rfl]
                            have:=HR6x.out
                            simpa only [List.append_assoc] using this
                          case measure=>simp[intOf];omega
        · obtain rfl:t=4:=by omega
          go_wp2_with fail
          refine bodyPost_end (results_none rfl _ _ _) rfl ?_
          have hk:=walked_roots HR2.out
          refine⟨rfl,nm,?_,?_⟩
          · have h1:=HM1.out
            rw[hk] at h1
            exact h1.below (by ((repeat first|exact bR _ _|with_reducible first|refine bN ?_|refine bD ?_|refine bA ?_ ?_|refine bS ?_ ?_);all_goals first|exact Nat.le_refl _|(simp;done)|omega|(simp;omega)))
          · have e:H.begun.things.length=H.things.length:=by unfold Hall.begun keptF;simp
            rw[e]
            exact (HWz.out.trans HW1.out).then (by ((repeat first|exact bR _ _|with_reducible first|refine bN ?_|refine bD ?_|refine bA ?_ ?_|refine bS ?_ ?_);all_goals first|exact Nat.le_refl _|(simp;done)|omega|(simp;omega)))
end Go.Proofs.Ytbeilcaadpopmab
namespace Go.Proofs.Ytbeilcaadpopmab
open Go.RowKit Go.Maps
set_option maxRecDepth 100000 in
set_option maxHeartbeats 2000000 in
theorem acted_collect (base:Nat) (w:World) (B:Nat) (nm:Rn) (H:Hall) (h:Rmem base w B nm H) (P:Nat->Prop) (hs:Shut6 P H.things) (hr:∀i ∈ H.roots,i≠0->P i) (t a b n:Int) :
    Calls Try.prog 67 #[.pointer (some ⟨B,0,none⟩),.agg #[.int .i64 10,.int .i64 t,.int .i64 a,.int .i64 b,.int .i64 n]] w (RetRA base w B nm H (H.collect)):=by
  have HM:=Lib.hid h
  have HSS:=Lib.hid hs;have HRT:=Lib.hid hr
  clear h hs hr
  cases hg:H.going with
  | true =>
    have HP:Hid (H.collect=(H,.err 5)):=by unfold Hid Hall.collect;rw[if_pos hg]
    rw[HP.out]
    have HG:=Lib.hid hg
    clear hg HP
    go_enter Try.func67,Try.ntmps67
    go_upto_region 85 with (first|(go_at_call 56;(with_reducible refine (in_kind 10 (by omega) _).mono ?_);rintro e w1 ⟨rfl,hb1⟩;obtain⟨HA,HR1,HR2,HB1,hz1⟩:=rows3 hb1;clear hb1;obtain⟨a0,a1,a2,a3,a4⟩:=HA.out.act))
    obtain⟨X2,hX2⟩:∃X2,X2=w.heap.size+1+1:=⟨_,rfl⟩
    rw[<- hX2] at HR2 ⊢
    obtain⟨X1,hX1⟩:∃X1,X1=w.heap.size+1:=⟨_,rfl⟩
    rw[<- hX1] at HR1 ⊢
    have hx:w.heap.size<X1/\X1<X2/\X2<w1.heap.size:=by omega
    have hx12:X1≠X2:=by omega
    have HF:=Lib.hid (AF.start HM.out HB1.out hx HA.out HR1.out HR2.out)
    have HM1:=Lib.hid HF.out.mem
    have hB1:=HM1.out.lt
    have hBX2:B≠X2:=by have:=HM.out.lt;omega
    have hBX1:B≠X1:=by have:=HM.out.lt;omega
    clear hX1 hX2 hz1 HA HR1 HR2
    have c82:=(HM1.out.box 82 (by omega)).1
    rw[show hallC nm H 82 = .bool H.going from rfl,HG.out] at c82
    obtain⟨⟨o0,o1,o2,o3,o4,o5,o6⟩,z0,z1,z2,z3,z4,z5,z6⟩:=HF.out.r2.ans
    obtain⟨⟨p0,p1,p2,p3,p4,p5,p6⟩,y0,y1,y2,y3,y4,y5,y6⟩:=HF.out.r1.ans
    go_wp2_with fail
    have HEND:Hid (RowAt (((((((((w1).setCell ⟨X2,0,none⟩ (.int .i64 5)).setCell ⟨X1,0,none⟩ (.int .i64 5)).setCell ⟨X1,1,none⟩ (.bool AnsM.nil.is)).setCell ⟨X1,2,none⟩ (.int .i64 AnsM.nil.number)).setCell ⟨X1,3,none⟩ (.bool AnsM.nil.yes)).setCell ⟨X1,4,none⟩ (.int .i64 AnsM.nil.words)).setCell ⟨X1,5,none⟩ (.bool AnsM.nil.going)).setCell ⟨X1,6,none⟩ (.int .i64 AnsM.nil.freed)) X1 (ansL (.err 5))) :=
      ((((((((HF.out.r1).setFar _ _ (by simp;omega)).set 0 _).set 1 _).set 2 _).set 3 _).set 4 _).set 5 _).set 6 _
    refine bodyPost_ret (v:=ansV (.err 5)) (res_acted rfl HEND.out) rfl ?_
    exact HF.out.fin (by repeat with_reducible (first|exact Chg.refl _ _|refine chgS ?_ (by first|(simp;done)|(simp;omega))))
  | false =>
    have HP:Hid (H.collect=(H.begun,.nil)):=by unfold Hid Hall.collect;rw[if_neg (by rw[hg];simp)];rfl
    rw[HP.out]
    have HG:=Lib.hid hg
    clear hg HP
    go_enter Try.func67,Try.ntmps67
    go_upto_region 85 with (first|(go_at_call 56;(with_reducible refine (in_kind 10 (by omega) _).mono ?_);rintro e w1 ⟨rfl,hb1⟩;obtain⟨HA,HR1,HR2,HB1,hz1⟩:=rows3 hb1;clear hb1;obtain⟨a0,a1,a2,a3,a4⟩:=HA.out.act))
    obtain⟨X2,hX2⟩:∃X2,X2=w.heap.size+1+1:=⟨_,rfl⟩
    rw[<- hX2] at HR2 ⊢
    obtain⟨X1,hX1⟩:∃X1,X1=w.heap.size+1:=⟨_,rfl⟩
    rw[<- hX1] at HR1 ⊢
    have hx:w.heap.size<X1/\X1<X2/\X2<w1.heap.size:=by omega
    have hx12:X1≠X2:=by omega
    have HF:=Lib.hid (AF.start HM.out HB1.out hx HA.out HR1.out HR2.out)
    have HM1:=Lib.hid HF.out.mem
    have hB1:=HM1.out.lt
    have hBX2:B≠X2:=by have:=HM.out.lt;omega
    have hBX1:B≠X1:=by have:=HM.out.lt;omega
    clear hX1 hX2 hz1 HA HR1 HR2
    have c82:=(HM1.out.box 82 (by omega)).1
    rw[show hallC nm H 82 = .bool H.going from rfl,HG.out] at c82
    go_wp2_with (go_at_call 89;refine (begun_any P base _ B nm H HM1.out HSS.out HRT.out).mono ?_;rintro e w2 ⟨rfl,nm2,hM2,hW2⟩;have HF2:=Lib.hid (HF.out.step hM2 hW2);obtain⟨⟨o0,o1,o2,o3,o4,o5,o6⟩,z0,z1,z2,z3,z4,z5,z6⟩:=HF2.out.r2.ans;obtain⟨⟨p0,p1,p2,p3,p4,p5,p6⟩,y0,y1,y2,y3,y4,y5,y6⟩:=HF2.out.r1.ans;clear hM2 hW2 a0 a1 a2 a3 a4)
    have HEND:Hid (RowAt ((((((((w2).setCell ⟨X1,0,none⟩ (.int .i64 AnsM.nil.code)).setCell ⟨X1,1,none⟩ (.bool AnsM.nil.is)).setCell ⟨X1,2,none⟩ (.int .i64 AnsM.nil.number)).setCell ⟨X1,3,none⟩ (.bool AnsM.nil.yes)).setCell ⟨X1,4,none⟩ (.int .i64 AnsM.nil.words)).setCell ⟨X1,5,none⟩ (.bool AnsM.nil.going)).setCell ⟨X1,6,none⟩ (.int .i64 AnsM.nil.freed)) X1 (ansL AnsM.nil)) :=
      (((((((HF2.out.r1).set 0 _).set 1 _).set 2 _).set 3 _).set 4 _).set 5 _).set 6 _
    refine bodyPost_ret (v:=ansV AnsM.nil) (res_acted rfl HEND.out) rfl ?_
    exact HF2.out.fin (by repeat with_reducible (first|exact Chg.refl _ _|refine chgS ?_ (by first|(simp;done)|(simp;omega))))
end Go.Proofs.Ytbeilcaadpopmab
