/- Texts put together: Aj. -/
import Derived.Test.YtbeilcaadpopmabY8
import Derived.Deep.RegionHeld3
set_option linter.unusedVariables false
set_option linter.unusedSimpArgs false
namespace Go.Proofs.Ytbeilcaadpopmab
open Go.RowKit Go.Maps
set_option maxRecDepth 100000 in
set_option maxHeartbeats 8000000 in
theorem act_begin (base:Nat) (w:World) (B:Nat) (nm:Nm) (M:CM) (h:Mach base w B nm M) (t:Nat) (ht:t<4) (a b n:Int) :
    Calls Try.prog 66 #[.pointer (some ⟨B,0,none⟩),.agg #[.int .i64 1,.int .i64 (t:Int),.int .i64 a,.int .i64 b,.int .i64 n]] w
      (RetA 0 base w B nm (λr M'=>((M.txs t).op=true/\r = .err 5/\M' = M)\/((M.txs t).op=false/\r = .nil/\M' = M.setTx t ⟨true,M.regs t,λ_=>none,λ_=>none,[]⟩))):=by
  have HM:=Lib.hid h
  obtain⟨PA,hPA⟩:∃PA:AnsM->CM->Prop,PA=(λr M'=>((M.txs t).op=true/\r = .err 5/\M' = M)\/((M.txs t).op=false/\r = .nil/\M' = M.setTx t ⟨true,M.regs t,λ_=>none,λ_=>none,[]⟩)):=⟨_,rfl⟩
  rw[<- hPA]
  have HPA:=Lib.hid hPA
  clear hPA
  have i1:(t:Int)<4:=by omega
  have HR:Hid (∀W,Calls Try.prog 74 #[.agg #[.int .i64 1,.int .i64 t,.int .i64 a,.int .i64 b,.int .i64 n]] W (λe w'=>e = .returned (.bool true)/\Below W.heap.size W w')):=λW=>by
    have:=registers_any 1 t a b n W (by omega)
    rw[show regsOk 1 a b n=true from by simp[regsOk]] at this
    exact this
  have HTT:=Lib.hid ht
  clear h
  cases ho:(M.txs t).op with
  | true =>
    have HO:=Lib.hid ho
    clear ho
    go_enter Try.func66,Try.ntmps66
    go_upto_region 12 with (go_at_call 74;refine (HR.out _).mono ?_;rintro e w1 ⟨rfl,hb1⟩;obtain⟨HA,HR1,HR2,HB1,hz1⟩:=rows3 hb1;clear hb1;obtain⟨a0,a1,a2,a3,a4⟩:=HA.out.act)
    obtain⟨X2,hX2⟩:∃X2,X2=w.heap.size+1+1:=⟨_,rfl⟩
    rw[<- hX2] at HR2 ⊢
    obtain⟨X1,hX1⟩:∃X1,X1=w.heap.size+1:=⟨_,rfl⟩
    rw[<- hX1] at HR1 ⊢
    have hx:w.heap.size<X1/\X1<X2/\X2<w1.heap.size:=by omega
    clear hX1 hX2 hz1
    have HM1:=Lib.hid (HM.out.below HB1.out)
    have c0:=(HM1.out.cTx HTT.out).1
    rw[HO.out] at c0
    obtain⟨⟨o0,o1,o2,o3,o4,o5,o6⟩,z0,z1,z2,z3,z4,z5,z6⟩:=HR2.out.ans
    obtain⟨⟨p0,p1,p2,p3,p4,p5,p6⟩,y0,y1,y2,y3,y4,y5,y6⟩:=HR1.out.ans
    have hx12:X1≠X2:=by omega
    go_wp2_with fail
    have HF:Hid (RowAt ((((((((w1.setCell ⟨X2,0,none⟩ (.int .i64 5)).setCell ⟨X1,0,none⟩ (.int .i64 5)).setCell ⟨X1,1,none⟩ (.bool AnsM.nil.is)).setCell ⟨X1,2,none⟩ (.int .i64 AnsM.nil.number)).setCell ⟨X1,3,none⟩ (.bool AnsM.nil.yes)).setCell ⟨X1,4,none⟩ (.int .i64 AnsM.nil.words)).setCell ⟨X1,5,none⟩ (.bool AnsM.nil.going)).setCell ⟨X1,6,none⟩ (.int .i64 AnsM.nil.freed)) X1 (ansL (.err 5))) :=
      ((((((((HR1.out.setFar _ _ (by simp;omega)).set 0 _).set 1 _).set 2 _).set 3 _).set 4 _).set 5 _).set 6 _)
    refine bodyPost_ret (v:=ansV (.err 5)) (res_act rfl HF.out) rfl ?_
    refine retA (.err 5) ?_ HM.out HB1.out HM1.out (Went.refl w1 B nm) (by repeat with_reducible (first|exact Chg.refl _ _|refine chgS ?_ (by first|(simp;done)|(simp;omega))))
    rw[HPA.out]
    exact .inl ⟨HO.out,rfl,rfl⟩
  | false =>
    have HO:=Lib.hid ho
    clear ho
    go_enter Try.func66,Try.ntmps66
    go_upto_region 12 with (go_at_call 74;refine (HR.out _).mono ?_;rintro e w1 ⟨rfl,hb1⟩;obtain⟨HA,HR1,HR2,HB1,hz1⟩:=rows3 hb1;clear hb1;obtain⟨a0,a1,a2,a3,a4⟩:=HA.out.act)
    obtain⟨X2,hX2⟩:∃X2,X2=w.heap.size+1+1:=⟨_,rfl⟩
    rw[<- hX2] at HR2 ⊢
    obtain⟨X1,hX1⟩:∃X1,X1=w.heap.size+1:=⟨_,rfl⟩
    rw[<- hX1] at HR1 ⊢
    have hx:w.heap.size<X1/\X1<X2/\X2<w1.heap.size:=by omega
    clear hX1 hX2 hz1
    have HM1:=Lib.hid (HM.out.below HB1.out)
    have c0:=(HM1.out.cTx HTT.out).1
    rw[HO.out] at c0
    have hmm:=@run_makeMap Try.prog
    go_upto_region 14 with fail
    clear c0 a0 a1 a2 a3 a4
    obtain⟨s,hs⟩:∃s,s=M.regs t:=⟨_,rfl⟩
    have HHK:Hid (∀W,Below w1.heap.size w1 W->W.rangeAt B (2+t * 8) (savedL s)):=λW hW=>(HM1.out.below hW).box.range _ _ (by simp[savedL];omega) (λj hj=>by
      have hj8:j<8:=by simpa [savedL] using hj
      rw[cellOf_regs nm M HTT.out j hj8]
      have hj':j<(savedL (M.regs t)).length:=by simpa [savedL] using hj
      rw[List.getD_eq_getElem?_getD,List.getElem?_eq_getElem hj']
      simp only [hs]
      rfl)
    have HS:=Lib.hid hs
    clear hs
    refine wp_region_held_drew (S:=λW=>W.rangeAt B (2+t * 8) (savedL s)) (by kernel_rfl) (HHK.out _ (Below.refl _ _).drew) (λhS8=>?_)
    obtain⟨w8,hw8⟩:∃w8,w8=w1.drew:=⟨_,rfl⟩
    have HB8:Hid (Below w1.heap.size w1 w8):=by rw[Hid,hw8];exact (Below.refl _ _).drew
    rw[<- hw8] at hS8 ⊢
    have HM8:=Lib.hid (HM1.out.below HB8.out)
    have HW8:=Lib.hid ((Went.refl w1 B nm).below HB8.out HM1.out.has_lt)
    have HS1:=Lib.hid (HR1.out.below HB8.out)
    have HS2:=Lib.hid (HR2.out.below HB8.out)
    clear hw8
    refine wpAnyH_take (v:=?_) (i:=0) rfl (by kernel_rfl) (by kernel_rfl) (by kernel_rfl) (λ_ _ _ h=>h) (.inl ⟨by rfl,?_⟩) hS8 ?_
    rotate_left
    · (intro W hW;go_simp;try with_reducible rfl)
    try simp only [Act.put,List.setIfInBounds_toArray,List.set_cons_zero,List.set_cons_succ]
    refine wpAnyH_take (v:=?_) (i:=1) rfl (by kernel_rfl) (by kernel_rfl) (by kernel_rfl) (λ_ _ _ h=>h) (.inl ⟨by rfl,?_⟩) hS8 ?_
    rotate_left
    · (intro W hW;go_simp;try with_reducible rfl)
    try simp only [Act.put,List.setIfInBounds_toArray,List.set_cons_zero,List.set_cons_succ]
    refine wpAnyH_take (v:=?_) (i:=2) rfl (by kernel_rfl) (by kernel_rfl) (by kernel_rfl) (λ_ _ _ h=>h) (.inl ⟨by rfl,?_⟩) hS8 ?_
    rotate_left
    · (intro W hW;go_simp;try with_reducible rfl)
    try simp only [Act.put,List.setIfInBounds_toArray,List.set_cons_zero,List.set_cons_succ]
    refine wpAnyH_take (v:=?_) (i:=3) rfl (by kernel_rfl) (by kernel_rfl) (by kernel_rfl) (λ_ _ _ h=>h) (.inl ⟨by rfl,?_⟩) hS8 ?_
    rotate_left
    · (intro W hW;go_simp;try with_reducible rfl)
    try simp only [Act.put,List.setIfInBounds_toArray,List.set_cons_zero,List.set_cons_succ]
    refine wpAnyH_take (v:=?_) (i:=4) rfl (by kernel_rfl) (by kernel_rfl) (by kernel_rfl) (λ_ _ _ h=>h) (.inl ⟨by rfl,?_⟩) hS8 ?_
    rotate_left
    · (intro W hW;go_simp;try with_reducible rfl)
    try simp only [Act.put,List.setIfInBounds_toArray,List.set_cons_zero,List.set_cons_succ]
    refine wpAnyH_take (v:=?_) (i:=5) rfl (by kernel_rfl) (by kernel_rfl) (by kernel_rfl) (λ_ _ _ h=>h) (.inl ⟨by rfl,?_⟩) hS8 ?_
    rotate_left
    · (intro W hW;go_simp;try with_reducible rfl)
    try simp only [Act.put,List.setIfInBounds_toArray,List.set_cons_zero,List.set_cons_succ]
    refine wpAnyH_take (v:=?_) (i:=6) rfl (by kernel_rfl) (by kernel_rfl) (by kernel_rfl) (λ_ _ _ h=>h) (.inl ⟨by rfl,?_⟩) hS8 ?_
    rotate_left
    · (intro W hW;go_simp;try with_reducible rfl)
    try simp only [Act.put,List.setIfInBounds_toArray,List.set_cons_zero,List.set_cons_succ]
    refine wpAnyH_take (i:=7) rfl (by kernel_rfl) (by kernel_rfl) (by kernel_rfl) (λ_ _ _ h=>h) (yieldsIf_load_mid (by rfl) _ _ rfl B (2+t * 8) rfl [.int .i64 (s 0).1,.int .i64 (s 0).2,.int .i64 (s 1).1,.int .i64 (s 1).2,.int .i64 (s 2).1,.int .i64 (s 2).2,.int .i64 (s 3).1,.int .i64 (s 3).2] _ (λ_ h=>h) undRegs rfl Try.sizeRegs) hS8 ?_
    try simp only [Act.put,List.setIfInBounds_toArray,List.set_cons_zero,List.set_cons_succ]
    refine wpAnyH_take (v:=?_) (i:=11) rfl (by kernel_rfl) (by kernel_rfl) (by kernel_rfl) (λ_ _ _ h=>h) (.inl ⟨by rfl,?_⟩) hS8 ?_
    rotate_left
    · (intro W hW;go_simp;try with_reducible rfl)
    try simp only [Act.put,List.setIfInBounds_toArray,List.set_cons_zero,List.set_cons_succ]
    refine wpAnyH_take (v:=?_) (i:=12) rfl (by kernel_rfl) (by kernel_rfl) (by kernel_rfl) (λ_ _ _ h=>h) (.inl ⟨by rfl,?_⟩) hS8 ?_
    rotate_left
    · (intro W hW;go_simp;try with_reducible rfl)
    try simp only [Act.put,List.setIfInBounds_toArray,List.set_cons_zero,List.set_cons_succ]
    refine wpAnyH_ready (rs:=[8,9]) (by kernel_rfl) (by simp) ?_
    obtain⟨n8,hn8⟩:∃n8,n8=w8.heap.size:=⟨_,rfl⟩
    have HN8:=Lib.hid hn8
    have HBA:=Lib.hid (show Below w8.heap.size w8 (w8.alloc (.map #[] 0)) from (by ((repeat first|exact bR _ _|with_reducible first|refine bN ?_|refine bD ?_|refine bA ?_ ?_|refine bS ?_ ?_);all_goals first|exact Nat.le_refl _|(simp;done)|omega|(simp;omega))))
    have HBB:=Lib.hid (show Below w8.heap.size w8 ((w8.alloc (.map #[] 0)).alloc (.map #[] 0)) from (by ((repeat first|exact bR _ _|with_reducible first|refine bN ?_|refine bD ?_|refine bA ?_ ?_|refine bS ?_ ?_);all_goals first|exact Nat.le_refl _|(simp;done)|omega|(simp;omega))))
    refine AllReadyH.cons rfl (λK hK=>?_) (AllReadyH.cons rfl (λK hK=>?_) AllReadyH.nil)
    · simp only [List.getElem_toArray,List.getElem_cons_succ,List.getElem_cons_zero]
      go_simp
      refine hK.out _ _ (HHK.out _ (HB8.out.trans (HBA.out.mono HB8.out.size))) (λhS9=>?_)
      clear hK K
      try simp only [Act.put,List.setIfInBounds_toArray,List.set_cons_zero,List.set_cons_succ]
      refine wpAnyH_ready (rs:=[9]) (by kernel_rfl) (by simp) ?_
      refine AllReadyH.cons rfl (λK hK=>?_) AllReadyH.nil
      simp only [List.getElem_toArray,List.getElem_cons_succ,List.getElem_cons_zero]
      go_simp
      refine hK.out _ _ (HHK.out _ (HB8.out.trans (HBB.out.mono HB8.out.size))) (λhS10=>?_)
      clear hK K
      try simp only [Act.put,List.setIfInBounds_toArray,List.set_cons_zero,List.set_cons_succ]
      obtain⟨w10,hw10⟩:∃w10,w10=(w8.alloc (.map #[] 0)).alloc (.map #[] 0):=⟨_,rfl⟩
      have HF1:Hid (FunMap w10 n8 0 (λ_=>none)):=by
        rw[Hid,hw10,hn8]
        exact (funMap_made w8).keep (Below.heap_alloc _ _ _ (by simp))
      have HF2:Hid (FunMap w10 (n8+1) 0 (λ_=>none)):=by
        have:=funMap_made (w8.alloc (.map #[] 0))
        rw[World.size_alloc] at this
        rw[Hid,hw10,hn8]
        exact this
      have HBC:Hid (Below w8.heap.size w8 w10):=by rw[Hid,hw10];exact HBB.out
      have HZ10:Hid (w10.heap.size=n8+2):=by rw[Hid,hw10,hn8];simp
      rw[<- hw10] at hS10 ⊢
      rw[<- hn8]
      clear hw10 hn8
      refine wpAnyH_take (v:=?_) (i:=10) rfl (by kernel_rfl) (by kernel_rfl) (by kernel_rfl) (λ_ _ _ h=>h) (.inl ⟨by rfl,?_⟩) hS10 ?_
      rotate_left
      · (intro W hW;go_simp;try with_reducible rfl)
      try simp only [Act.put,List.setIfInBounds_toArray,List.set_cons_zero,List.set_cons_succ]
      refine wpAnyH_take (v:=?_) (i:=13) rfl (by kernel_rfl) (by kernel_rfl) (by kernel_rfl) (λ_ _ _ h=>h) (.inl ⟨by rfl,?_⟩) hS10 ?_
      rotate_left
      · (intro W hW;go_simp;try with_reducible rfl)
      try simp only [Act.put,List.setIfInBounds_toArray,List.set_cons_zero,List.set_cons_succ]
      refine wpAnyH_ready (rs:=[14]) (by kernel_rfl) (by simp) ?_
      refine AllReadyH.cons rfl (λK hK=>?_) AllReadyH.nil
      have HBX10:=Lib.hid (HM8.out.below HBC.out).box
      have hB8:=HM8.out.lt
      have hB10:B≠X1/\B≠X2:=by have:=HM.out.lt;omega
      simp only [List.getElem_toArray,List.getElem_cons_succ,List.getElem_cons_zero]
      rw[if_pos (by rfl)]
      refine wp_store_mid 113 _ _ rfl B (34+t * 12) _ rfl rfl (HBX10.out.there (by simp;omega)) (by kernel_rfl) (by simp[Value.oneCell']) ?_
      change K _ (w10.setCells B (34+t * 12) (txL ⟨true,s,λ_=>none,λ_=>none,[]⟩ (some n8) (some (n8+1)) (.slice none 0 0)))
      rw[HS.out]
      obtain⟨w11,hw11⟩:∃w11,w11=w10.setCells B (34+t * 12) (txL ⟨true,M.regs t,λ_=>none,λ_=>none,[]⟩ (some n8) (some (n8+1)) (.slice none 0 0)):=⟨_,rfl⟩
      have hch:Chg (λk=>k=B) w10 w11:=by rw[hw11];exact setCells_chg B _ _ _
      have hbx:Box w11 B (insL (cellOf nm M) (34+t * 12) (txL ⟨true,M.regs t,λ_=>none,λ_=>none,[]⟩ (some n8) (some (n8+1)) (.slice none 0 0))):=by rw[hw11];exact HBX10.out.setL _ (by simp[txL,savedL];omega)
      have hz:=hch.size
      have hz10:=HZ10.out
      have hn:=HN8.out
      obtain⟨q1,q2⟩:=HM8.out.storeTx HTT.out ⟨true,M.regs t,λ_=>none,λ_=>none,[]⟩ (some n8) (some (n8+1)) (.slice none 0 0) (((Chg.ofBelow _ HBC.out).trans (hch.mono λ_ _ e=>.inl e))) hbx
        ⟨0,Nat.zero_le _,HF1.out.keep (hch.block _ (by omega) (by omega))⟩ ⟨0,Nat.zero_le _,HF2.out.keep (hch.block _ (by omega) (by omega))⟩ (OwnU.nil _ _)
        (.inr λk e=>by cases e;omega) (.inr λk e=>by cases e;omega) (.inr λk e=>(by cases e)) (λk _ e e2=>by have h1:=Option.some.inj e;have h2:=Option.some.inj e2;omega) (λk _ e e2=>(by cases e2)) (λk _ e e2=>(by cases e2)) (λ_=>⟨rfl,rfl⟩)
      have HM11:=Lib.hid q1;have HW11:=Lib.hid (HW8.out.trans q2)
      have HT1:=Lib.hid ((HS1.out.below HBC.out).chg hch (λe=>hB10.1 e.symm));have HT2:=Lib.hid ((HS2.out.below HBC.out).chg hch (λe=>hB10.2 e.symm))
      have hS11:w11.rangeAt B (2+t * 8) (savedL s):=HM11.out.box.range _ _ (by simp[savedL];omega) (λj hj=>by
        have hj8:j<8:=by simpa [savedL] using hj
        rw[cellOf_regs _ _ HTT.out j hj8]
        have hj':j<(savedL (M.regs t)).length:=by simpa [savedL] using hj
        show (savedL (M.regs t)).getD j undef=_
        rw[List.getD_eq_getElem?_getD,List.getElem?_eq_getElem hj']
        simp only [HS.out]
        rfl)
      rw[<- hw11]
      refine hK.out _ w11 hS11 (λ_=>?_)
      clear hK K hch hbx q1 q2 hw11 hz hz10 hn
      try simp only [Act.put,List.setIfInBounds_toArray,List.set_cons_zero,List.set_cons_succ]
      refine wpAnyH_done (by kernel_rfl) ?_ _
      obtain⟨⟨o0,o1,o2,o3,o4,o5,o6⟩,z0,z1,z2,z3,z4,z5,z6⟩:=HT2.out.ans
      obtain⟨⟨p0,p1,p2,p3,p4,p5,p6⟩,y0,y1,y2,y3,y4,y5,y6⟩:=HT1.out.ans
      have hx12:X1≠X2:=by omega
      go_wp2_with fail
      have HF:Hid (RowAt ((((((((w11).setCell ⟨X1,0,none⟩ (.int .i64 AnsM.nil.code)).setCell ⟨X1,1,none⟩ (.bool AnsM.nil.is)).setCell ⟨X1,2,none⟩ (.int .i64 AnsM.nil.number)).setCell ⟨X1,3,none⟩ (.bool AnsM.nil.yes)).setCell ⟨X1,4,none⟩ (.int .i64 AnsM.nil.words)).setCell ⟨X1,5,none⟩ (.bool AnsM.nil.going)).setCell ⟨X1,6,none⟩ (.int .i64 AnsM.nil.freed)) X1 (ansL AnsM.nil)) :=
        (((((((HT1.out.set 0 _).set 1 _).set 2 _).set 3 _).set 4 _).set 5 _).set 6 _)
      refine bodyPost_ret (v:=ansV AnsM.nil) (res_act rfl HF.out) rfl ?_
      refine retA AnsM.nil ?_ HM.out HB1.out HM11.out HW11.out (by repeat with_reducible (first|exact Chg.refl _ _|refine chgS ?_ (by first|(simp;done)|(simp;omega))))
      rw[HPA.out]
      exact .inr ⟨HO.out,rfl,rfl⟩
    · simp only [List.getElem_toArray,List.getElem_cons_succ,List.getElem_cons_zero]
      go_simp
      refine hK.out _ _ (HHK.out _ (HB8.out.trans (HBA.out.mono HB8.out.size))) (λhS9=>?_)
      clear hK K
      try simp only [Act.put,List.setIfInBounds_toArray,List.set_cons_zero,List.set_cons_succ]
      refine wpAnyH_ready (rs:=[8]) (by kernel_rfl) (by simp) ?_
      refine AllReadyH.cons rfl (λK hK=>?_) AllReadyH.nil
      simp only [List.getElem_toArray,List.getElem_cons_succ,List.getElem_cons_zero]
      go_simp
      refine hK.out _ _ (HHK.out _ (HB8.out.trans (HBB.out.mono HB8.out.size))) (λhS10=>?_)
      clear hK K
      try simp only [Act.put,List.setIfInBounds_toArray,List.set_cons_zero,List.set_cons_succ]
      obtain⟨w10,hw10⟩:∃w10,w10=(w8.alloc (.map #[] 0)).alloc (.map #[] 0):=⟨_,rfl⟩
      have HF1:Hid (FunMap w10 n8 0 (λ_=>none)):=by
        rw[Hid,hw10,hn8]
        exact (funMap_made w8).keep (Below.heap_alloc _ _ _ (by simp))
      have HF2:Hid (FunMap w10 (n8+1) 0 (λ_=>none)):=by
        have:=funMap_made (w8.alloc (.map #[] 0))
        rw[World.size_alloc] at this
        rw[Hid,hw10,hn8]
        exact this
      have HBC:Hid (Below w8.heap.size w8 w10):=by rw[Hid,hw10];exact HBB.out
      have HZ10:Hid (w10.heap.size=n8+2):=by rw[Hid,hw10,hn8];simp
      rw[<- hw10] at hS10 ⊢
      rw[<- hn8]
      clear hw10 hn8
      refine wpAnyH_take (v:=?_) (i:=10) rfl (by kernel_rfl) (by kernel_rfl) (by kernel_rfl) (λ_ _ _ h=>h) (.inl ⟨by rfl,?_⟩) hS10 ?_
      rotate_left
      · (intro W hW;go_simp;try with_reducible rfl)
      try simp only [Act.put,List.setIfInBounds_toArray,List.set_cons_zero,List.set_cons_succ]
      refine wpAnyH_take (v:=?_) (i:=13) rfl (by kernel_rfl) (by kernel_rfl) (by kernel_rfl) (λ_ _ _ h=>h) (.inl ⟨by rfl,?_⟩) hS10 ?_
      rotate_left
      · (intro W hW;go_simp;try with_reducible rfl)
      try simp only [Act.put,List.setIfInBounds_toArray,List.set_cons_zero,List.set_cons_succ]
      refine wpAnyH_ready (rs:=[14]) (by kernel_rfl) (by simp) ?_
      refine AllReadyH.cons rfl (λK hK=>?_) AllReadyH.nil
      have HBX10:=Lib.hid (HM8.out.below HBC.out).box
      have hB8:=HM8.out.lt
      have hB10:B≠X1/\B≠X2:=by have:=HM.out.lt;omega
      simp only [List.getElem_toArray,List.getElem_cons_succ,List.getElem_cons_zero]
      rw[if_pos (by rfl)]
      refine wp_store_mid 113 _ _ rfl B (34+t * 12) _ rfl rfl (HBX10.out.there (by simp;omega)) (by kernel_rfl) (by simp[Value.oneCell']) ?_
      change K _ (w10.setCells B (34+t * 12) (txL ⟨true,s,λ_=>none,λ_=>none,[]⟩ (some (n8+1)) (some n8) (.slice none 0 0)))
      rw[HS.out]
      obtain⟨w11,hw11⟩:∃w11,w11=w10.setCells B (34+t * 12) (txL ⟨true,M.regs t,λ_=>none,λ_=>none,[]⟩ (some (n8+1)) (some n8) (.slice none 0 0)):=⟨_,rfl⟩
      have hch:Chg (λk=>k=B) w10 w11:=by rw[hw11];exact setCells_chg B _ _ _
      have hbx:Box w11 B (insL (cellOf nm M) (34+t * 12) (txL ⟨true,M.regs t,λ_=>none,λ_=>none,[]⟩ (some (n8+1)) (some n8) (.slice none 0 0))):=by rw[hw11];exact HBX10.out.setL _ (by simp[txL,savedL];omega)
      have hz:=hch.size
      have hz10:=HZ10.out
      have hn:=HN8.out
      obtain⟨q1,q2⟩:=HM8.out.storeTx HTT.out ⟨true,M.regs t,λ_=>none,λ_=>none,[]⟩ (some (n8+1)) (some n8) (.slice none 0 0) (((Chg.ofBelow _ HBC.out).trans (hch.mono λ_ _ e=>.inl e))) hbx
        ⟨0,Nat.zero_le _,HF2.out.keep (hch.block _ (by omega) (by omega))⟩ ⟨0,Nat.zero_le _,HF1.out.keep (hch.block _ (by omega) (by omega))⟩ (OwnU.nil _ _)
        (.inr λk e=>by cases e;omega) (.inr λk e=>by cases e;omega) (.inr λk e=>(by cases e)) (λk _ e e2=>by have h1:=Option.some.inj e;have h2:=Option.some.inj e2;omega) (λk _ e e2=>(by cases e2)) (λk _ e e2=>(by cases e2)) (λ_=>⟨rfl,rfl⟩)
      have HM11:=Lib.hid q1;have HW11:=Lib.hid (HW8.out.trans q2)
      have HT1:=Lib.hid ((HS1.out.below HBC.out).chg hch (λe=>hB10.1 e.symm));have HT2:=Lib.hid ((HS2.out.below HBC.out).chg hch (λe=>hB10.2 e.symm))
      have hS11:w11.rangeAt B (2+t * 8) (savedL s):=HM11.out.box.range _ _ (by simp[savedL];omega) (λj hj=>by
        have hj8:j<8:=by simpa [savedL] using hj
        rw[cellOf_regs _ _ HTT.out j hj8]
        have hj':j<(savedL (M.regs t)).length:=by simpa [savedL] using hj
        show (savedL (M.regs t)).getD j undef=_
        rw[List.getD_eq_getElem?_getD,List.getElem?_eq_getElem hj']
        simp only [HS.out]
        rfl)
      rw[<- hw11]
      refine hK.out _ w11 hS11 (λ_=>?_)
      clear hK K hch hbx q1 q2 hw11 hz hz10 hn
      try simp only [Act.put,List.setIfInBounds_toArray,List.set_cons_zero,List.set_cons_succ]
      refine wpAnyH_done (by kernel_rfl) ?_ _
      obtain⟨⟨o0,o1,o2,o3,o4,o5,o6⟩,z0,z1,z2,z3,z4,z5,z6⟩:=HT2.out.ans
      obtain⟨⟨p0,p1,p2,p3,p4,p5,p6⟩,y0,y1,y2,y3,y4,y5,y6⟩:=HT1.out.ans
      have hx12:X1≠X2:=by omega
      go_wp2_with fail
      have HF:Hid (RowAt ((((((((w11).setCell ⟨X1,0,none⟩ (.int .i64 AnsM.nil.code)).setCell ⟨X1,1,none⟩ (.bool AnsM.nil.is)).setCell ⟨X1,2,none⟩ (.int .i64 AnsM.nil.number)).setCell ⟨X1,3,none⟩ (.bool AnsM.nil.yes)).setCell ⟨X1,4,none⟩ (.int .i64 AnsM.nil.words)).setCell ⟨X1,5,none⟩ (.bool AnsM.nil.going)).setCell ⟨X1,6,none⟩ (.int .i64 AnsM.nil.freed)) X1 (ansL AnsM.nil)) :=
        (((((((HT1.out.set 0 _).set 1 _).set 2 _).set 3 _).set 4 _).set 5 _).set 6 _)
      refine bodyPost_ret (v:=ansV AnsM.nil) (res_act rfl HF.out) rfl ?_
      refine retA AnsM.nil ?_ HM.out HB1.out HM11.out HW11.out (by repeat with_reducible (first|exact Chg.refl _ _|refine chgS ?_ (by first|(simp;done)|(simp;omega))))
      rw[HPA.out]
      exact .inr ⟨HO.out,rfl,rfl⟩
end Go.Proofs.Ytbeilcaadpopmab
