/- Texts put together: Ae, Af, Ag, Ah, Ai. -/
import Derived.Test.YtbeilcaadpopmabY8
set_option linter.unusedVariables false
set_option linter.unusedSimpArgs false
namespace Go.Proofs.Ytbeilcaadpopmab
open Go.RowKit Go.Maps
set_option maxRecDepth 100000 in
set_option maxHeartbeats 2000000 in
theorem act_get (base:Nat) (w:World) (B:Nat) (nm:Nm) (M:CM) (h:Mach base w B nm M) (t:Nat) (ht:t<4) (a b:Nat) (ha:a<4) (hb:b<4) (n:Int) (hn:I64 n) (ok:FieldOk M t b n) (hN:nm.N<900000) :
    Calls Try.prog 66 #[.pointer (some ⟨B,0,none⟩),.agg #[.int .i64 5,.int .i64 (t:Int),.int .i64 (a:Int),.int .i64 (b:Int),.int .i64 n]] w
      (RetA 1 base w B nm (λr M'=>(M.object t b n=0/\r=toldC (M.word ((M.regs t b).2.toNat+2+n.toNat))/\M' = M.get t a (M.regs t b).2.toNat n)\/(M.object t b n≠0/\r = .err (M.object t b n)/\M' = M.failed t (M.object t b n)))):=by
  have HM:=Lib.hid h
  have i1:(t:Int)<4:=by omega
  obtain⟨PA,hPA⟩:∃PA:AnsM->CM->Prop,PA=(λr M'=>(M.object t b n=0/\r=toldC (M.word ((M.regs t b).2.toNat+2+n.toNat))/\M' = M.get t a (M.regs t b).2.toNat n)\/(M.object t b n≠0/\r = .err (M.object t b n)/\M' = M.failed t (M.object t b n))):=⟨_,rfl⟩
  rw[<- hPA]
  have HPA:=Lib.hid hPA
  clear hPA
  have HR:Hid (∀W,Calls Try.prog 74 #[.agg #[.int .i64 5,.int .i64 (t:Int),.int .i64 (a:Int),.int .i64 (b:Int),.int .i64 n]] W (λe w'=>e = .returned (.bool true)/\Below W.heap.size W w')):=λW=>by
    have:=registers_any 5 t (a:Int) (b:Int) n W (by omega)
    rw[show regsOk 5 (a:Int) (b:Int) n=true from by unfold regsOk in3;simp;omega] at this
    exact this
  have HC:Hid (∀W,Below w.heap.size w W->Calls Try.prog 78 #[.pointer (some ⟨B,0,none⟩),.int .i64 (t:Int),.agg #[.int .i64 5,.int .i64 (t:Int),.int .i64 (a:Int),.int .i64 (b:Int),.int .i64 n]] W
      (if M.object t b n=0 then RetM 1 base W B nm (M.get t a (M.regs t b).2.toNat n) (.tuple #[.agg #[.int .i64 (M.word ((M.regs t b).2.toNat+2+n.toNat)).1,.int .i64 (M.word ((M.regs t b).2.toNat+2+n.toNat)).2],.int .i64 0])
        else RetM 1 base W B nm (M.failed t (M.object t b n)) (.tuple #[.agg #[.int .i64 0,.int .i64 0],.int .i64 (M.object t b n)]))):=λW hW =>
    get_any base W B nm M (h.below hW) t a b ht ha hb 5 t n hn ok hN
  clear h ok ht ha hb hn hN
  by_cases hE:M.object t b n=0
  · simp only [if_pos hE] at HC
    have HE:=Lib.hid hE
    clear hE
    obtain⟨v,hv⟩:∃v,v=M.word ((M.regs t b).2.toNat+2+n.toNat):=⟨_,rfl⟩
    obtain⟨M2,hM2⟩:∃M2,M2=M.get t a (M.regs t b).2.toNat n:=⟨_,rfl⟩
    simp only [<- hv,<- hM2] at HC
    have HV:=Lib.hid hv;have HMM:=Lib.hid hM2
    clear hv hM2
    obtain⟨r,hr⟩:∃r,r=toldC v:=⟨_,rfl⟩
    obtain⟨vk,vn⟩:=v
    have HNUM:Hid (∀W,Calls Try.prog 79 #[.agg #[.int .i64 vk,.int .i64 vn]] W (λe w'=>e = .returned (.agg #[.int .i64 r.code,.bool r.is,.int .i64 r.number,.bool r.yes,.int .i64 r.words,.bool r.going,.int .i64 r.freed])/\Below W.heap.size W w')):=λW=>by rw[hr];exact number_any (vk,vn) W
    have HRR:=Lib.hid hr
    clear hr
    dsimp only at HC
    go_enter Try.func66,Try.ntmps66
    go_upto_region 24 with (go_at_call 74;refine (HR.out _).mono ?_;rintro e w1 ⟨rfl,hb1⟩;obtain⟨HA,HR1,HR2,HB1,hz1⟩:=rows3 hb1;clear hb1;obtain⟨a0,a1,a2,a3,a4⟩:=HA.out.act)
    obtain⟨X2,hX2⟩:∃X2,X2=w.heap.size+1+1:=⟨_,rfl⟩
    rw[<- hX2] at HR2 ⊢
    obtain⟨X1,hX1⟩:∃X1,X1=w.heap.size+1:=⟨_,rfl⟩
    rw[<- hX1] at HR1 ⊢
    have hx:w.heap.size<X1/\X1<X2/\X2<w1.heap.size:=by omega
    clear hX1 hX2 hz1
    go_upto_region 25 with (go_at_call 78;refine (HC.out _ HB1.out).mono ?_;rintro e w2 ⟨rfl,nm2,hM2,hW2⟩;have HM2:=Lib.hid hM2;have HW2:=Lib.hid hW2;have HO1:=Lib.hid (HR1.out.went hW2 (HM.out.not_has (by omega)));have HO2:=Lib.hid (HR2.out.went hW2 (HM.out.not_has (by omega)));clear hM2 hW2 a0 a1 a2 a3 a4)
    have HB3:=Lib.hid (show Below w2.heap.size w2 (w2.alloc (.cells #[.int .i64 vk,.int .i64 vn] 36)) from (by ((repeat first|exact bR _ _|with_reducible first|refine bN ?_|refine bD ?_|refine bA ?_ ?_|refine bS ?_ ?_);all_goals first|exact Nat.le_refl _|(simp;done)|omega|(simp;omega))))
    obtain⟨w3,hw3⟩:∃w3,w3=w2.alloc (.cells #[.int .i64 vk,.int .i64 vn] 36):=⟨_,rfl⟩
    obtain⟨X7,hX7⟩:∃X7,X7=w2.heap.size:=⟨_,rfl⟩
    have g0:w3.cell? ⟨X7,0,none⟩=some (.int .i64 vk):=by rw[hw3,hX7];simp
    have g1:w3.cell? ⟨X7,1,none⟩=some (.int .i64 vn):=by rw[hw3,hX7];simp
    rw[<- hw3] at HB3 ⊢
    rw[<- hX7]
    clear hw3 hX7
    go_upto_region 27 with (go_at_call 79;refine (HNUM.out _).mono ?_;rintro e w4 ⟨rfl,hb4⟩;have HB4:=Lib.hid (Below.trans HB3.out (hb4.mono HB3.out.size));have HQ1:=Lib.hid (HO1.out.below HB4.out);have HQ2:=Lib.hid (HO2.out.below HB4.out);clear hb4 g0 g1;obtain⟨⟨o0,o1,o2,o3,o4,o5,o6⟩,z0,z1,z2,z3,z4,z5,z6⟩:=HQ2.out.ans;obtain⟨⟨p0,p1,p2,p3,p4,p5,p6⟩,y0,y1,y2,y3,y4,y5,y6⟩:=HQ1.out.ans;have hx12:X1≠X2:=(by omega))
    go_wp2_with fail
    have HM4:=Lib.hid (HM2.out.below HB4.out)
    have HW4:=Lib.hid (HW2.out.below HB4.out HM2.out.has_lt)
    have hcode:r.code=0:=by rw[HRR.out];unfold toldC AnsM.nil;split <;> rfl
    obtain⟨rc,ris,rnum,ryes,rwords,rgoing,rfreed⟩:=r
    dsimp only at hcode
    subst hcode
    have HF:Hid (RowAt ((((((((((((((((w4).setCell ⟨X2,0,none⟩ (.int .i64 0)).setCell ⟨X2,1,none⟩ (.bool ris)).setCell ⟨X2,2,none⟩ (.int .i64 rnum)).setCell ⟨X2,3,none⟩ (.bool ryes)).setCell ⟨X2,4,none⟩ (.int .i64 rwords)).setCell ⟨X2,5,none⟩ (.bool rgoing)).setCell ⟨X2,6,none⟩ (.int .i64 rfreed)).setCell ⟨X2,0,none⟩ (.int .i64 0)).setCell ⟨X1,0,none⟩ (.int .i64 0)).setCell ⟨X1,1,none⟩ (.bool ris)).setCell ⟨X1,2,none⟩ (.int .i64 rnum)).setCell ⟨X1,3,none⟩ (.bool ryes)).setCell ⟨X1,4,none⟩ (.int .i64 rwords)).setCell ⟨X1,5,none⟩ (.bool rgoing)).setCell ⟨X1,6,none⟩ (.int .i64 rfreed)) X1 (ansL ⟨0,ris,rnum,ryes,rwords,rgoing,rfreed⟩)) :=
      (((((((((((((((HQ1.out.setFar _ _ (by simp;omega)).setFar _ _ (by simp;omega)).setFar _ _ (by simp;omega)).setFar _ _ (by simp;omega)).setFar _ _ (by simp;omega)).setFar _ _ (by simp;omega)).setFar _ _ (by simp;omega)).setFar _ _ (by simp;omega)).set 0 _).set 1 _).set 2 _).set 3 _).set 4 _).set 5 _).set 6 _)
    refine bodyPost_ret (v:=ansV ⟨0,ris,rnum,ryes,rwords,rgoing,rfreed⟩) (res_act rfl HF.out) rfl ?_
    refine retA ⟨0,ris,rnum,ryes,rwords,rgoing,rfreed⟩ ?_ HM.out HB1.out HM4.out HW4.out (by repeat with_reducible (first|exact Chg.refl _ _|refine chgS ?_ (by first|(simp;done)|(simp;omega))))
    rw[HPA.out]
    exact .inl ⟨HE.out,by rw[HRR.out,HV.out],HMM.out⟩
  · simp only [if_neg hE] at HC
    have HE:=Lib.hid hE
    obtain⟨c,hc⟩:∃c,c=M.object t b n:=⟨_,rfl⟩
    obtain⟨M2,hM2⟩:∃M2,M2=M.failed t (M.object t b n):=⟨_,rfl⟩
    simp only [<- hM2] at HC
    simp only [<- hc] at HC
    have hc0:(c == 0)=false:=by rw[hc];simpa using hE
    have HCC:=Lib.hid hc;have HMM:=Lib.hid hM2
    clear hc hM2 hE
    go_enter Try.func66,Try.ntmps66
    go_upto_region 24 with (go_at_call 74;refine (HR.out _).mono ?_;rintro e w1 ⟨rfl,hb1⟩;obtain⟨HA,HR1,HR2,HB1,hz1⟩:=rows3 hb1;clear hb1;obtain⟨a0,a1,a2,a3,a4⟩:=HA.out.act)
    obtain⟨X2,hX2⟩:∃X2,X2=w.heap.size+1+1:=⟨_,rfl⟩
    rw[<- hX2] at HR2 ⊢
    obtain⟨X1,hX1⟩:∃X1,X1=w.heap.size+1:=⟨_,rfl⟩
    rw[<- hX1] at HR1 ⊢
    have hx:w.heap.size<X1/\X1<X2/\X2<w1.heap.size:=by omega
    clear hX1 hX2 hz1
    go_upto_region 25 with (go_at_call 78;refine (HC.out _ HB1.out).mono ?_;rintro e w2 ⟨rfl,nm2,hM2,hW2⟩;have HM2:=Lib.hid hM2;have HW2:=Lib.hid hW2;have HO1:=Lib.hid (HR1.out.went hW2 (HM.out.not_has (by omega)));have HO2:=Lib.hid (HR2.out.went hW2 (HM.out.not_has (by omega)));clear hM2 hW2 a0 a1 a2 a3 a4)
    have HB4:=Lib.hid (show Below w2.heap.size w2 (w2.alloc (.cells #[.int .i64 0,.int .i64 0] 36)) from (by ((repeat first|exact bR _ _|with_reducible first|refine bN ?_|refine bD ?_|refine bA ?_ ?_|refine bS ?_ ?_);all_goals first|exact Nat.le_refl _|(simp;done)|omega|(simp;omega))))
    obtain⟨w4,hw4⟩:∃w4,w4=w2.alloc (.cells #[.int .i64 0,.int .i64 0] 36):=⟨_,rfl⟩
    rw[<- hw4] at HB4 ⊢
    clear hw4
    have HQ1:=Lib.hid (HO1.out.below HB4.out);have HQ2:=Lib.hid (HO2.out.below HB4.out)
    obtain⟨⟨o0,o1,o2,o3,o4,o5,o6⟩,z0,z1,z2,z3,z4,z5,z6⟩:=HQ2.out.ans
    obtain⟨⟨p0,p1,p2,p3,p4,p5,p6⟩,y0,y1,y2,y3,y4,y5,y6⟩:=HQ1.out.ans
    have hx12:X1≠X2:=(by omega)
    go_wp2_with fail
    have HM4:=Lib.hid (HM2.out.below HB4.out)
    have HW4:=Lib.hid (HW2.out.below HB4.out HM2.out.has_lt)
    have HF:Hid (RowAt ((((((((w4.setCell ⟨X2,0,none⟩ (.int .i64 c)).setCell ⟨X1,0,none⟩ (.int .i64 c)).setCell ⟨X1,1,none⟩ (.bool AnsM.nil.is)).setCell ⟨X1,2,none⟩ (.int .i64 AnsM.nil.number)).setCell ⟨X1,3,none⟩ (.bool AnsM.nil.yes)).setCell ⟨X1,4,none⟩ (.int .i64 AnsM.nil.words)).setCell ⟨X1,5,none⟩ (.bool AnsM.nil.going)).setCell ⟨X1,6,none⟩ (.int .i64 AnsM.nil.freed)) X1 (ansL (.err c))) :=
      ((((((((HQ1.out.setFar _ _ (by simp;omega)).set 0 _).set 1 _).set 2 _).set 3 _).set 4 _).set 5 _).set 6 _)
    refine bodyPost_ret (v:=ansV (.err c)) (res_act rfl HF.out) rfl ?_
    refine retA (.err c) ?_ HM.out HB1.out HM4.out HW4.out (by repeat with_reducible (first|exact Chg.refl _ _|refine chgS ?_ (by first|(simp;done)|(simp;omega))))
    rw[HPA.out]
    exact .inr ⟨HE.out,by rw[HCC.out],HMM.out⟩
end Go.Proofs.Ytbeilcaadpopmab
namespace Go.Proofs.Ytbeilcaadpopmab
open Go.RowKit Go.Maps
set_option maxRecDepth 100000 in
set_option maxHeartbeats 2000000 in
theorem act_abort (base:Nat) (w:World) (B:Nat) (nm:Nm) (M:CM) (h:Mach base w B nm M) (t:Nat) (ht:t<4) (a b n:Int) (ok:(M.txs t).op=true->AbortOk M t) :
    Calls Try.prog 66 #[.pointer (some ⟨B,0,none⟩),.agg #[.int .i64 3,.int .i64 (t:Int),.int .i64 a,.int .i64 b,.int .i64 n]] w
      (RetA 0 base w B nm (λr M'=>((M.txs t).op=false/\r = .err 5/\M' = M)\/((M.txs t).op=true/\r = .err 0/\M' = M.abort t))):=by
  have HM:=Lib.hid h
  obtain⟨PA,hPA⟩:∃PA:AnsM->CM->Prop,PA=(λr M'=>((M.txs t).op=false/\r = .err 5/\M' = M)\/((M.txs t).op=true/\r = .err 0/\M' = M.abort t)):=⟨_,rfl⟩
  rw[<- hPA]
  have HPA:=Lib.hid hPA
  clear hPA
  have i1:(t:Int)<4:=by omega
  have HR:Hid (∀W,Calls Try.prog 74 #[.agg #[.int .i64 3,.int .i64 t,.int .i64 a,.int .i64 b,.int .i64 n]] W (λe w'=>e = .returned (.bool true)/\Below W.heap.size W w')):=λW=>by
    have:=registers_any 3 t a b n W (by omega)
    rw[show regsOk 3 a b n=true from by simp[regsOk]] at this
    exact this
  have HOK:=Lib.hid ok
  have HTT:=Lib.hid ht
  clear h ok ht
  go_enter Try.func66,Try.ntmps66
  go_upto_region 18 with (go_at_call 74;refine (HR.out _).mono ?_;rintro e w1 ⟨rfl,hb1⟩;obtain⟨HA,HR1,HR2,HB1,hz1⟩:=rows3 hb1;clear hb1;obtain⟨a0,a1,a2,a3,a4⟩:=HA.out.act)
  obtain⟨X2,hX2⟩:∃X2,X2=w.heap.size+1+1:=⟨_,rfl⟩
  rw[<- hX2] at HR2 ⊢
  obtain⟨X1,hX1⟩:∃X1,X1=w.heap.size+1:=⟨_,rfl⟩
  rw[<- hX1] at HR1 ⊢
  have hx:w.heap.size<X1/\X1<X2/\X2<w1.heap.size:=by omega
  clear hX1 hX2 hz1
  have HM1:=Lib.hid (HM.out.below HB1.out)
  have c0:=(HM1.out.cTx HTT.out).1
  have hB1:=HM1.out.lt
  cases ho:(M.txs t).op with
  | false =>
    have HO:=Lib.hid ho
    rw[ho] at c0
    clear ho
    obtain⟨⟨o0,o1,o2,o3,o4,o5,o6⟩,z0,z1,z2,z3,z4,z5,z6⟩:=HR2.out.ans
    obtain⟨⟨p0,p1,p2,p3,p4,p5,p6⟩,y0,y1,y2,y3,y4,y5,y6⟩:=HR1.out.ans
    have hx12:X1≠X2:=by omega
    go_wp2_with fail
    have HF:Hid (RowAt ((((((((w1.setCell ⟨X2,0,none⟩ (.int .i64 5)).setCell ⟨X1,0,none⟩ (.int .i64 5)).setCell ⟨X1,1,none⟩ (.bool AnsM.nil.is)).setCell ⟨X1,2,none⟩ (.int .i64 AnsM.nil.number)).setCell ⟨X1,3,none⟩ (.bool AnsM.nil.yes)).setCell ⟨X1,4,none⟩ (.int .i64 AnsM.nil.words)).setCell ⟨X1,5,none⟩ (.bool AnsM.nil.going)).setCell ⟨X1,6,none⟩ (.int .i64 AnsM.nil.freed)) X1 (ansL (.err 5))) :=
      ((((((((HR1.out.setFar _ _ (by simp;omega)).set 0 _).set 1 _).set 2 _).set 3 _).set 4 _).set 5 _).set 6 _)
    refine bodyPost_ret (v:=ansV (.err 5)) (res_act rfl HF.out) rfl ?_
    refine retA (.err 5) ?_ HM.out HB1.out HM1.out (Went.refl w1 B nm) (by repeat with_reducible (first|exact Chg.refl _ _|refine chgS ?_ (by first|(simp;done)|(simp;omega))))
    rw[HPA.out]
    exact .inl ⟨HO.out,rfl,rfl⟩
  | true =>
    have HO:=Lib.hid ho
    rw[ho] at c0
    clear ho
    go_wp2_with (go_at_call 76;refine (abort_any base _ B nm M HM1.out t HTT.out (HOK.out HO.out)).mono ?_;rintro e w2 ⟨rfl,nm2,hM2,hW2⟩;have HM2:=Lib.hid hM2;have HW2:=Lib.hid hW2;have HO1:=Lib.hid (HR1.out.went hW2 (HM.out.not_has (by omega)));have HO2:=Lib.hid (HR2.out.went hW2 (HM.out.not_has (by omega)));obtain⟨⟨o0,o1,o2,o3,o4,o5,o6⟩,z0,z1,z2,z3,z4,z5,z6⟩:=HO2.out.ans;obtain⟨⟨p0,p1,p2,p3,p4,p5,p6⟩,y0,y1,y2,y3,y4,y5,y6⟩:=HO1.out.ans;have hx12:X1≠X2:=(by omega);clear hM2 hW2 a0 a1 a2 a3 a4)
    have HF:Hid (RowAt ((((((((w2).setCell ⟨X1,0,none⟩ (.int .i64 AnsM.nil.code)).setCell ⟨X1,1,none⟩ (.bool AnsM.nil.is)).setCell ⟨X1,2,none⟩ (.int .i64 AnsM.nil.number)).setCell ⟨X1,3,none⟩ (.bool AnsM.nil.yes)).setCell ⟨X1,4,none⟩ (.int .i64 AnsM.nil.words)).setCell ⟨X1,5,none⟩ (.bool AnsM.nil.going)).setCell ⟨X1,6,none⟩ (.int .i64 AnsM.nil.freed)) X1 (ansL AnsM.nil)) :=
      (((((((HO1.out.set 0 _).set 1 _).set 2 _).set 3 _).set 4 _).set 5 _).set 6 _)
    refine bodyPost_ret (v:=ansV AnsM.nil) (res_act rfl HF.out) rfl ?_
    refine retA AnsM.nil ?_ HM.out HB1.out HM2.out HW2.out (by repeat with_reducible (first|exact Chg.refl _ _|refine chgS ?_ (by first|(simp;done)|(simp;omega))))
    rw[HPA.out]
    exact .inr ⟨HO.out,rfl,rfl⟩
set_option maxRecDepth 100000 in
set_option maxHeartbeats 2000000 in
theorem act_stat (base:Nat) (w:World) (B:Nat) (nm:Nm) (M:CM) (h:Mach base w B nm M) (t a b n:Int) (htop:1<=M.top/\M.top<=400) :
    Calls Try.prog 66 #[.pointer (some ⟨B,0,none⟩),.agg #[.int .i64 12,.int .i64 t,.int .i64 a,.int .i64 b,.int .i64 n]] w
      (RetA 0 base w B nm (λr M'=>r=⟨0,false,0,false,(M.top:Int) - 1,M.going,0⟩/\M' = M)):=by
  have HM:=Lib.hid h
  obtain⟨PA,hPA⟩:∃PA:AnsM->CM->Prop,PA=(λr M'=>r=⟨0,false,0,false,(M.top:Int) - 1,M.going,0⟩/\M' = M):=⟨_,rfl⟩
  rw[<- hPA]
  have HPA:=Lib.hid hPA
  clear hPA
  have HR:Hid (∀W,Calls Try.prog 74 #[.agg #[.int .i64 12,.int .i64 t,.int .i64 a,.int .i64 b,.int .i64 n]] W (λe w'=>e = .returned (.bool true)/\Below W.heap.size W w')):=λW=>by
    have:=registers_any 12 t a b n W (by omega)
    rw[show regsOk 12 a b n=true from by simp[regsOk]] at this
    exact this
  obtain⟨i1,i2⟩:=htop
  clear h
  go_enter Try.func66,Try.ntmps66
  go_upto_region 10 with (go_at_call 74;refine (HR.out _).mono ?_;rintro e w1 ⟨rfl,hb1⟩;obtain⟨HA,HR1,HR2,HB1,hz1⟩:=rows3 hb1;clear hb1;obtain⟨a0,a1,a2,a3,a4⟩:=HA.out.act)
  obtain⟨X2,hX2⟩:∃X2,X2=w.heap.size+1+1:=⟨_,rfl⟩
  rw[<- hX2] at HR2 ⊢
  obtain⟨X1,hX1⟩:∃X1,X1=w.heap.size+1:=⟨_,rfl⟩
  rw[<- hX1] at HR1 ⊢
  have hx:w.heap.size<X1/\X1<X2/\X2<w1.heap.size:=by omega
  clear hX1 hX2 hz1
  have HM1:=Lib.hid (HM.out.below HB1.out)
  have c1:=HM1.out.c1
  have c82:=HM1.out.c82
  have hB1:=HM1.out.lt
  have hBX:B≠X2:=λe=>by have:=HM.out.lt;omega
  have wt:IntKind.i64.wrap ((M.top:Int) - 1)=(M.top:Int) - 1:=IntWalk.i64_in _ (by omega)
  have HKEEP:Hid (∀W,Chg (λk=>k=X2) w1 W->W.cell? ⟨B,1,none⟩=some (.int .i64 (M.top:Int))/\W.cell? ⟨B,82,none⟩=some (.bool M.going)/\Chg (λk=>k=X2) w1 W):=λW hW=>⟨(hW.cell hB1 hBX 1).1.trans c1,(hW.cell hB1 hBX 82).1.trans c82,hW⟩
  obtain⟨⟨o0,o1,o2,o3,o4,o5,o6⟩,z0,z1,z2,z3,z4,z5,z6⟩:=HR2.out.ans
  obtain⟨⟨p0,p1,p2,p3,p4,p5,p6⟩,y0,y1,y2,y3,y4,y5,y6⟩:=HR1.out.ans
  have hx12:X1≠X2:=by omega
  clear c1 c82 a0 a1 a2 a3 a4
  go_region_held3 (λW=>W.cell? ⟨B,1,none⟩=some (.int .i64 (M.top:Int))/\W.cell? ⟨B,82,none⟩=some (.bool M.going)/\Chg (λk=>k=X2) w1 W)
    (first|with_reducible exact HKEEP.out _ (Chg.drew _ _)|with_reducible exact HKEEP.out _ ((Chg.drew _ _).trans (Chg.setB _ _ _ _))|with_reducible exact HKEEP.out _ (((Chg.drew _ _).trans (Chg.setB _ _ _ _)).trans (Chg.setB _ _ _ _))|with_reducible exact HKEEP.out _ ((Chg.setB _ _ _ _).trans (Chg.drew _ _))|with_reducible exact HKEEP.out _ (((Chg.setB _ _ _ _).trans (Chg.setB _ _ _ _)).trans (Chg.drew _ _)))
    (fail)
  rename_i hHeld
  clear hHeld HKEEP o0 o1 o2 o3 o4 o5 o6 z0 z1 z2 z3 z4 z5 z6 p0 p1 p2 p3 p4 p5 p6 y0 y1 y2 y3 y4 y5 y6
  obtain⟨w3,hw3⟩:∃w3,w3=((w1.setCell ⟨X2,4,none⟩ (.int .i64 ((M.top:Int) - 1))).setCell ⟨X2,5,none⟩ (.bool M.going)).drew:=⟨_,rfl⟩
  have HC3:Hid (Chg (λk=>k=X2) w1 w3):=by rw[Hid,hw3];exact ((Chg.setB _ _ _ _).trans (Chg.setB _ _ _ _)).trans (Chg.drew _ _)
  have HQ2:Hid (RowAt w3 X2 (ansL ⟨0,false,0,false,(M.top:Int) - 1,M.going,0⟩)):=by rw[Hid,hw3];exact ((HR2.out.set 4 _).set 5 _).below (Below.refl _ _).drew
  have HQ1:Hid (RowAt w3 X1 (ansL AnsM.nil)):=HR1.out.chg HC3.out (by omega)
  rw[<- hw3]
  clear hw3
  obtain⟨⟨o0,o1,o2,o3,o4,o5,o6⟩,z0,z1,z2,z3,z4,z5,z6⟩:=HQ2.out.ans
  obtain⟨⟨p0,p1,p2,p3,p4,p5,p6⟩,y0,y1,y2,y3,y4,y5,y6⟩:=HQ1.out.ans
  have hx12:X1≠X2:=by omega
  go_wp2_with fail
  have HF:Hid (RowAt ((((((((w3).setCell ⟨X1,0,none⟩ (.int .i64 0)).setCell ⟨X1,1,none⟩ (.bool false)).setCell ⟨X1,2,none⟩ (.int .i64 0)).setCell ⟨X1,3,none⟩ (.bool false)).setCell ⟨X1,4,none⟩ (.int .i64 ((M.top:Int) - 1))).setCell ⟨X1,5,none⟩ (.bool M.going)).setCell ⟨X1,6,none⟩ (.int .i64 0)) X1 (ansL ⟨0,false,0,false,(M.top:Int) - 1,M.going,0⟩)) :=
    (((((((HQ1.out.set 0 _).set 1 _).set 2 _).set 3 _).set 4 _).set 5 _).set 6 _)
  refine bodyPost_ret (v:=ansV ⟨0,false,0,false,(M.top:Int) - 1,M.going,0⟩) (res_act rfl HF.out) rfl ?_
  refine retA ⟨0,false,0,false,(M.top:Int) - 1,M.going,0⟩ ?_ HM.out HB1.out HM1.out (Went.refl w1 B nm) ((HC3.out.mono λk _ e=>⟨by omega,by omega⟩).trans (by repeat with_reducible (first|exact Chg.refl _ _|refine chgS ?_ (by first|(simp;done)|(simp;omega)))))
  rw[HPA.out]
  exact⟨rfl,rfl⟩
end Go.Proofs.Ytbeilcaadpopmab
namespace Go.Proofs.Ytbeilcaadpopmab
open Go.RowKit Go.Maps
set_option maxRecDepth 100000 in
set_option maxHeartbeats 2000000 in
theorem act_set (base:Nat) (w:World) (B:Nat) (nm:Nm) (M:CM) (h:Mach base w B nm M) (t a:Nat) (ht:t<4) (ha:a<4) (b n:Int) (hn:I64 n) :
    Calls Try.prog 66 #[.pointer (some ⟨B,0,none⟩),.agg #[.int .i64 7,.int .i64 (t:Int),.int .i64 (a:Int),.int .i64 b,.int .i64 n]] w
      (RetA 0 base w B nm (λr M'=>(¬ (-1099511627776<=n/\n<=1099511627776)/\r = .err 2/\M' = M)\/((-1099511627776<=n/\n<=1099511627776)/\r=⟨0,true,n,false,0,false,0⟩/\M' = M.setReg t a (0,n)))):=by
  have HM:=Lib.hid h
  obtain⟨PA,hPA⟩:∃PA:AnsM->CM->Prop,PA=(λr M'=>(¬ (-1099511627776<=n/\n<=1099511627776)/\r = .err 2/\M' = M)\/((-1099511627776<=n/\n<=1099511627776)/\r=⟨0,true,n,false,0,false,0⟩/\M' = M.setReg t a (0,n))):=⟨_,rfl⟩
  rw[<- hPA]
  have HPA:=Lib.hid hPA
  clear hPA
  have i1:(t:Int)<4:=by omega
  have i2:(a:Int)<4:=by omega
  have HR:Hid (∀W,Calls Try.prog 74 #[.agg #[.int .i64 7,.int .i64 t,.int .i64 (a:Int),.int .i64 b,.int .i64 n]] W (λe w'=>e = .returned (.bool true)/\Below W.heap.size W w')):=λW=>by
    have:=registers_any 7 t (a:Int) b n W (by omega)
    rw[show regsOk 7 (a:Int) b n=true from by unfold regsOk in3;simp;omega] at this
    exact this
  have HTT:=Lib.hid ht;have HAA:=Lib.hid ha
  clear h
  by_cases h1:n < -1099511627776
  · have hgd:(decide (n < -1099511627776))=true:=by simpa using h1
    go_enter Try.func66,Try.ntmps66
    go_upto_region 32 with (go_at_call 74;refine (HR.out _).mono ?_;rintro e w1 ⟨rfl,hb1⟩;obtain⟨HA,HR1,HR2,HB1,hz1⟩:=rows3 hb1;clear hb1;obtain⟨a0,a1,a2,a3,a4⟩:=HA.out.act)
    obtain⟨X2,hX2⟩:∃X2,X2=w.heap.size+1+1:=⟨_,rfl⟩
    rw[<- hX2] at HR2 ⊢
    obtain⟨X1,hX1⟩:∃X1,X1=w.heap.size+1:=⟨_,rfl⟩
    rw[<- hX1] at HR1 ⊢
    have hx:w.heap.size<X1/\X1<X2/\X2<w1.heap.size:=by omega
    clear hX1 hX2 hz1
    obtain⟨⟨o0,o1,o2,o3,o4,o5,o6⟩,z0,z1,z2,z3,z4,z5,z6⟩:=HR2.out.ans
    obtain⟨⟨p0,p1,p2,p3,p4,p5,p6⟩,y0,y1,y2,y3,y4,y5,y6⟩:=HR1.out.ans
    have hx12:X1≠X2:=by omega
    go_wp2_with fail
    have HF:Hid (RowAt ((((((((w1.setCell ⟨X2,0,none⟩ (.int .i64 2)).setCell ⟨X1,0,none⟩ (.int .i64 2)).setCell ⟨X1,1,none⟩ (.bool AnsM.nil.is)).setCell ⟨X1,2,none⟩ (.int .i64 AnsM.nil.number)).setCell ⟨X1,3,none⟩ (.bool AnsM.nil.yes)).setCell ⟨X1,4,none⟩ (.int .i64 AnsM.nil.words)).setCell ⟨X1,5,none⟩ (.bool AnsM.nil.going)).setCell ⟨X1,6,none⟩ (.int .i64 AnsM.nil.freed)) X1 (ansL (.err 2))) :=
      ((((((((HR1.out.setFar _ _ (by simp;omega)).set 0 _).set 1 _).set 2 _).set 3 _).set 4 _).set 5 _).set 6 _)
    refine bodyPost_ret (v:=ansV (.err 2)) (res_act rfl HF.out) rfl ?_
    refine retA (.err 2) ?_ HM.out HB1.out (HM.out.below HB1.out) (Went.refl w1 B nm) (by repeat with_reducible (first|exact Chg.refl _ _|refine chgS ?_ (by first|(simp;done)|(simp;omega))))
    rw[HPA.out]
    exact .inl ⟨by omega,rfl,rfl⟩
  · by_cases h2:1099511627776<n
    · have hn0:=hn.2
      go_enter Try.func66,Try.ntmps66
      go_upto_region 32 with (go_at_call 74;refine (HR.out _).mono ?_;rintro e w1 ⟨rfl,hb1⟩;obtain⟨HA,HR1,HR2,HB1,hz1⟩:=rows3 hb1;clear hb1;obtain⟨a0,a1,a2,a3,a4⟩:=HA.out.act)
      obtain⟨X2,hX2⟩:∃X2,X2=w.heap.size+1+1:=⟨_,rfl⟩
      rw[<- hX2] at HR2 ⊢
      obtain⟨X1,hX1⟩:∃X1,X1=w.heap.size+1:=⟨_,rfl⟩
      rw[<- hX1] at HR1 ⊢
      have hx:w.heap.size<X1/\X1<X2/\X2<w1.heap.size:=by omega
      clear hX1 hX2 hz1
      obtain⟨⟨o0,o1,o2,o3,o4,o5,o6⟩,z0,z1,z2,z3,z4,z5,z6⟩:=HR2.out.ans
      obtain⟨⟨p0,p1,p2,p3,p4,p5,p6⟩,y0,y1,y2,y3,y4,y5,y6⟩:=HR1.out.ans
      have hx12:X1≠X2:=by omega
      go_wp2_with fail
      have HF:Hid (RowAt ((((((((w1.setCell ⟨X2,0,none⟩ (.int .i64 2)).setCell ⟨X1,0,none⟩ (.int .i64 2)).setCell ⟨X1,1,none⟩ (.bool AnsM.nil.is)).setCell ⟨X1,2,none⟩ (.int .i64 AnsM.nil.number)).setCell ⟨X1,3,none⟩ (.bool AnsM.nil.yes)).setCell ⟨X1,4,none⟩ (.int .i64 AnsM.nil.words)).setCell ⟨X1,5,none⟩ (.bool AnsM.nil.going)).setCell ⟨X1,6,none⟩ (.int .i64 AnsM.nil.freed)) X1 (ansL (.err 2))) :=
        ((((((((HR1.out.setFar _ _ (by simp;omega)).set 0 _).set 1 _).set 2 _).set 3 _).set 4 _).set 5 _).set 6 _)
      refine bodyPost_ret (v:=ansV (.err 2)) (res_act rfl HF.out) rfl ?_
      refine retA (.err 2) ?_ HM.out HB1.out (HM.out.below HB1.out) (Went.refl w1 B nm) (by repeat with_reducible (first|exact Chg.refl _ _|refine chgS ?_ (by first|(simp;done)|(simp;omega))))
      rw[HPA.out]
      exact .inl ⟨by omega,rfl,rfl⟩
    · have hn0:=hn.2
      go_enter Try.func66,Try.ntmps66
      go_upto_region 33 with (go_at_call 74;refine (HR.out _).mono ?_;rintro e w1 ⟨rfl,hb1⟩;obtain⟨HA,HR1,HR2,HB1,hz1⟩:=rows3 hb1;clear hb1;obtain⟨a0,a1,a2,a3,a4⟩:=HA.out.act)
      obtain⟨X2,hX2⟩:∃X2,X2=w.heap.size+1+1:=⟨_,rfl⟩
      rw[<- hX2] at HR2 ⊢
      obtain⟨X1,hX1⟩:∃X1,X1=w.heap.size+1:=⟨_,rfl⟩
      rw[<- hX1] at HR1 ⊢
      have hx:w.heap.size<X1/\X1<X2/\X2<w1.heap.size:=by omega
      clear hX1 hX2 hz1
      have HM1:=Lib.hid (HM.out.below HB1.out)
      have HNUM:Hid (∀W,Calls Try.prog 79 #[.agg #[.int .i64 0,.int .i64 n]] W (λe w'=>e = .returned (.agg #[.int .i64 0,.bool true,.int .i64 n,.bool false,.int .i64 0,.bool false,.int .i64 0])/\Below W.heap.size W w')):=λW=>number_any (0,n) W
      obtain⟨w2,hw2⟩:∃w2,w2=w1.drew:=⟨_,rfl⟩
      have HB2:Hid (Below w1.heap.size w1 w2):=by rw[Hid,hw2];exact (Below.refl _ _).drew
      have HM2:=Lib.hid (HM1.out.below HB2.out)
      have HBX:=Lib.hid HM2.out.box
      have HA2:=Lib.hid (HA.out.below HB2.out)
      have HS1:=Lib.hid (HR1.out.below HB2.out)
      have HS2:=Lib.hid (HR2.out.below HB2.out)
      clear a0 a1 a2 a3 a4
      obtain⟨a0,a1,a2,a3,a4⟩:=HA2.out.act
      refine still_tail_at 11 (by kernel_rfl) (by kernel_rfl) hw2 ?_;simp only [List.take_succ_cons,List.take_zero,List.drop_succ_cons,List.drop_zero];clear hw2;(repeat still_step);refine wpStill_nil ?_
      have ho:2+t * 8+a * 2+(#[Value.int .i64 0,Value.int .i64 n]:Array Value).size<=85:=by simp;omega
      refine wpl_storeBox rfl 36 _ _ rfl B (2+t * 8+a * 2) #[.int .i64 0,.int .i64 n] rfl rfl (cellOf nm M) HBX.out ho Try.sizeVal (by simp[Value.oneCell']) ?_
      intro hbx hcg
      rw[List.toList_toArray] at hbx hcg ⊢
      obtain⟨w3,hw3⟩:∃w3,w3=w2.setCells B (2+t * 8+a * 2) [.int .i64 0,.int .i64 n]:=⟨_,rfl⟩
      rw[<- hw3] at hbx hcg ⊢
      obtain⟨q1,q2⟩:=HM2.out.storeReg HTT.out HAA.out (0,n) hcg hbx
      have HM3:=Lib.hid q1;have HW3:=Lib.hid q2
      have hBlt:=HM.out.lt
      have HA3:=Lib.hid (HA2.out.chg hcg (by omega));have HT1:=Lib.hid (HS1.out.chg hcg (by omega));have HT2:=Lib.hid (HS2.out.chg hcg (by omega))
      clear hbx hcg q1 q2 hw3 ho HBX a0 a1 a2 a3 a4
      go_frame
      go_wp2_with fail
      obtain⟨w4,hw4⟩:∃w4,w4=w3.drew:=⟨_,rfl⟩
      have HB4:Hid (Below w3.heap.size w3 w4):=by rw[Hid,hw4];exact (Below.refl _ _).drew
      have HM4:=Lib.hid (HM3.out.below HB4.out)
      have HA4:=Lib.hid (HA3.out.below HB4.out)
      obtain⟨a0,a1,a2,a3,a4⟩:=HA4.out.act
      have HL:Hid (w4.rangeAt B (2+t * 8+a * 2) [.int .i64 0,.int .i64 n]):=HM4.out.box.range _ _ (by simp;omega) (λj hj=>by
        obtain⟨e1,e2⟩:=cellOf_reg nm (M.setReg t a (0,n)) HTT.out HAA.out
        have hv:(M.setReg t a (0,n)).regs t a=(0,n):=by simp[CM.setReg,pt2]
        rw[hv] at e1 e2
        have hj2:j=0\/j=1:=by simp at hj;omega
        rcases hj2 with rfl|rfl
        · exact e1
        · exact e2)
      refine still_tail_at 9 (by kernel_rfl) (by kernel_rfl) hw4 ?_;simp only [List.take_succ_cons,List.take_zero,List.drop_succ_cons,List.drop_zero];clear hw4;(repeat (first|(refine still_loadBox rfl _ _ rfl B (2+t * 8+a * 2) rfl _ HL.out _ Try.underlying36 rfl Try.sizeVal ?_)|still_step));refine wpStill_nil ?_
      have HU1:=Lib.hid (HT1.out.below HB4.out);have HU2:=Lib.hid (HT2.out.below HB4.out)
      clear a0 a1 a2 a3 a4
      go_wp2_with (go_at_call 79;refine (HNUM.out _).mono ?_;rintro e w5 ⟨rfl,hb5⟩;have HB5:=Lib.hid hb5;have HV1:=Lib.hid (HU1.out.below hb5);have HV2:=Lib.hid (HU2.out.below hb5);clear hb5;obtain⟨⟨o0,o1,o2,o3,o4,o5,o6⟩,z0,z1,z2,z3,z4,z5,z6⟩:=HV2.out.ans;obtain⟨⟨p0,p1,p2,p3,p4,p5,p6⟩,y0,y1,y2,y3,y4,y5,y6⟩:=HV1.out.ans;have hx12:X1≠X2:=(by omega))
      have HM5:=Lib.hid (HM4.out.below HB5.out)
      have HW5:=Lib.hid ((((Went.refl w1 B nm).below HB2.out HM1.out.has_lt).trans HW3.out).below (HB4.out.trans (HB5.out.mono HB4.out.size)) HM3.out.has_lt)
      have HF:Hid (RowAt (((((((((((((((w5).setCell ⟨X2,0,none⟩ (.int .i64 0)).setCell ⟨X2,1,none⟩ (.bool true)).setCell ⟨X2,2,none⟩ (.int .i64 n)).setCell ⟨X2,3,none⟩ (.bool false)).setCell ⟨X2,4,none⟩ (.int .i64 0)).setCell ⟨X2,5,none⟩ (.bool false)).setCell ⟨X2,6,none⟩ (.int .i64 0)).setCell ⟨X1,0,none⟩ (.int .i64 0)).setCell ⟨X1,1,none⟩ (.bool true)).setCell ⟨X1,2,none⟩ (.int .i64 n)).setCell ⟨X1,3,none⟩ (.bool false)).setCell ⟨X1,4,none⟩ (.int .i64 0)).setCell ⟨X1,5,none⟩ (.bool false)).setCell ⟨X1,6,none⟩ (.int .i64 0)) X1 (ansL ⟨0,true,n,false,0,false,0⟩)) :=
        ((((((((((((((HV1.out.setFar _ _ (by simp;omega)).setFar _ _ (by simp;omega)).setFar _ _ (by simp;omega)).setFar _ _ (by simp;omega)).setFar _ _ (by simp;omega)).setFar _ _ (by simp;omega)).setFar _ _ (by simp;omega)).set 0 _).set 1 _).set 2 _).set 3 _).set 4 _).set 5 _).set 6 _)
      refine bodyPost_ret (v:=ansV ⟨0,true,n,false,0,false,0⟩) (res_act rfl HF.out) rfl ?_
      refine retA ⟨0,true,n,false,0,false,0⟩ ?_ HM.out HB1.out HM5.out HW5.out (by repeat with_reducible (first|exact Chg.refl _ _|refine chgS ?_ (by first|(simp;done)|(simp;omega))))
      rw[HPA.out]
      exact .inr ⟨by omega,rfl,rfl⟩
end Go.Proofs.Ytbeilcaadpopmab
namespace Go.Proofs.Ytbeilcaadpopmab
open Go.RowKit Go.Maps
set_option maxRecDepth 100000 in
set_option maxHeartbeats 2000000 in
theorem act_copy (base:Nat) (w:World) (B:Nat) (nm:Nm) (M:CM) (h:Mach base w B nm M) (t a b u:Nat) (ht:t<4) (ha:a<4) (hb:b<4) (hu:u<4) :
    Calls Try.prog 66 #[.pointer (some ⟨B,0,none⟩),.agg #[.int .i64 8,.int .i64 (t:Int),.int .i64 (a:Int),.int .i64 (b:Int),.int .i64 (u:Int)]] w
      (RetA 0 base w B nm (λr M'=>((u≠t/\((M.txs t).op=true\/(M.txs u).op=true))/\r = .err 5/\M' = M)\/(¬ (u≠t/\((M.txs t).op=true\/(M.txs u).op=true))/\r = .nil/\M' = M.setReg t a (M.regs u b)))):=by
  have HM:=Lib.hid h
  obtain⟨PA,hPA⟩:∃PA:AnsM->CM->Prop,PA=(λr M'=>((u≠t/\((M.txs t).op=true\/(M.txs u).op=true))/\r = .err 5/\M' = M)\/(¬ (u≠t/\((M.txs t).op=true\/(M.txs u).op=true))/\r = .nil/\M' = M.setReg t a (M.regs u b))):=⟨_,rfl⟩
  rw[<- hPA]
  have HPA:=Lib.hid hPA
  clear hPA
  have i1:(t:Int)<4:=by omega
  have i2:(a:Int)<4:=by omega
  have i3:(b:Int)<4:=by omega
  have i4:(u:Int)<4:=by omega
  have HR:Hid (∀W,Calls Try.prog 74 #[.agg #[.int .i64 8,.int .i64 t,.int .i64 (a:Int),.int .i64 (b:Int),.int .i64 (u:Int)]] W (λe w'=>e = .returned (.bool true)/\Below W.heap.size W w')):=λW=>by
    have:=registers_any 8 t (a:Int) (b:Int) (u:Int) W (by omega)
    rw[show regsOk 8 (a:Int) (b:Int) (u:Int)=true from by unfold regsOk in3;simp;omega] at this
    exact this
  have HTT:=Lib.hid ht;have HAA:=Lib.hid ha;have HBB:=Lib.hid hb;have HUU:=Lib.hid hu
  clear h
  by_cases hut:u=t
  · have hne:((u:Int) != (t:Int))=false:=by simp;omega
    have HCC:Hid (¬ (u≠t/\((M.txs t).op=true\/(M.txs u).op=true))):=λh=>h.1 hut
    clear hut
    go_enter Try.func66,Try.ntmps66
    go_upto_region 36 with (go_at_call 74;refine (HR.out _).mono ?_;rintro e w1 ⟨rfl,hb1⟩;obtain⟨HA,HR1,HR2,HB1,hz1⟩:=rows3 hb1;clear hb1;obtain⟨a0,a1,a2,a3,a4⟩:=HA.out.act)
    obtain⟨X2,hX2⟩:∃X2,X2=w.heap.size+1+1:=⟨_,rfl⟩
    rw[<- hX2] at HR2 ⊢
    obtain⟨X1,hX1⟩:∃X1,X1=w.heap.size+1:=⟨_,rfl⟩
    rw[<- hX1] at HR1 ⊢
    have hx:w.heap.size<X1/\X1<X2/\X2<w1.heap.size:=by omega
    clear hX1 hX2 hz1
    have HM1:=Lib.hid (HM.out.below HB1.out)
    have c0:=(HM1.out.cTx HTT.out).1
    have d0:=(HM1.out.cTx HUU.out).1
    go_quiet (fail)
    go_wp2_with fail
    obtain⟨w2,hw2⟩:∃w2,w2=(w1.drewN nq).drew:=⟨_,rfl⟩
    have HB2:Hid (Below w1.heap.size w1 w2):=by rw[Hid,hw2];exact below_drewN (Below.refl _ _) (nq+1)
    have HM2:=Lib.hid (HM1.out.below HB2.out)
    have HBX:=Lib.hid HM2.out.box
    have HA2:=Lib.hid (HA.out.below HB2.out)
    have HS1:=Lib.hid (HR1.out.below HB2.out)
    have HS2:=Lib.hid (HR2.out.below HB2.out)
    clear a0 a1 a2 a3 a4 c0 d0
    obtain⟨a0,a1,a2,a3,a4⟩:=HA2.out.act
    have HL:Hid (w2.rangeAt B (2+u * 8+b * 2) [.int .i64 (M.regs u b).1,.int .i64 (M.regs u b).2]):=HBX.out.range _ _ (by simp;omega) (λj hj=>by
      obtain⟨e1,e2⟩:=cellOf_reg nm M HUU.out HBB.out
      have hj2:j=0\/j=1:=by simp at hj;omega
      rcases hj2 with rfl|rfl
      · exact e1
      · exact e2)
    refine still_tail_at 18 (by kernel_rfl) (by kernel_rfl) hw2 ?_;simp only [List.take_succ_cons,List.take_zero,List.drop_succ_cons,List.drop_zero];clear hw2;(repeat (first|(refine still_loadBox rfl _ _ rfl B (2+u * 8+b * 2) rfl _ HL.out _ Try.underlying36 rfl Try.sizeVal ?_)|still_step));refine wpStill_nil ?_
    have ho:2+t * 8+a * 2+(#[Value.int .i64 (M.regs u b).1,Value.int .i64 (M.regs u b).2]:Array Value).size<=85:=by simp;omega
    refine wpl_storeBox rfl 36 _ _ rfl B (2+t * 8+a * 2) #[.int .i64 (M.regs u b).1,.int .i64 (M.regs u b).2] rfl rfl (cellOf nm M) HBX.out ho Try.sizeVal (by simp[Value.oneCell']) ?_
    intro hbx hcg
    rw[List.toList_toArray] at hbx hcg ⊢
    obtain⟨w3,hw3⟩:∃w3,w3=w2.setCells B (2+t * 8+a * 2) [.int .i64 (M.regs u b).1,.int .i64 (M.regs u b).2]:=⟨_,rfl⟩
    rw[<- hw3] at hbx hcg ⊢
    obtain⟨q1,q2⟩:=HM2.out.storeReg HTT.out HAA.out (M.regs u b) hcg hbx
    have hBlt:=HM.out.lt
    have HM3:=Lib.hid q1;have HW3:=Lib.hid (((Went.refl w1 B nm).below HB2.out HM1.out.has_lt).trans q2)
    have HT1:=Lib.hid (HS1.out.chg hcg (by omega));have HT2:=Lib.hid (HS2.out.chg hcg (by omega))
    clear hbx hcg q1 q2 hw3 ho HBX a0 a1 a2 a3 a4
    obtain⟨⟨o0,o1,o2,o3,o4,o5,o6⟩,z0,z1,z2,z3,z4,z5,z6⟩:=HT2.out.ans
    obtain⟨⟨p0,p1,p2,p3,p4,p5,p6⟩,y0,y1,y2,y3,y4,y5,y6⟩:=HT1.out.ans
    have hx12:X1≠X2:=by omega
    go_frame
    go_wp2_with fail
    have HF:Hid (RowAt ((((((((w3).setCell ⟨X1,0,none⟩ (.int .i64 AnsM.nil.code)).setCell ⟨X1,1,none⟩ (.bool AnsM.nil.is)).setCell ⟨X1,2,none⟩ (.int .i64 AnsM.nil.number)).setCell ⟨X1,3,none⟩ (.bool AnsM.nil.yes)).setCell ⟨X1,4,none⟩ (.int .i64 AnsM.nil.words)).setCell ⟨X1,5,none⟩ (.bool AnsM.nil.going)).setCell ⟨X1,6,none⟩ (.int .i64 AnsM.nil.freed)) X1 (ansL AnsM.nil)) :=
      (((((((HT1.out.set 0 _).set 1 _).set 2 _).set 3 _).set 4 _).set 5 _).set 6 _)
    refine bodyPost_ret (v:=ansV AnsM.nil) (res_act rfl HF.out) rfl ?_
    refine retA AnsM.nil ?_ HM.out HB1.out HM3.out HW3.out (by repeat with_reducible (first|exact Chg.refl _ _|refine chgS ?_ (by first|(simp;done)|(simp;omega))))
    rw[HPA.out]
    exact .inr ⟨HCC.out,rfl,rfl⟩
  · have hne:((u:Int) != (t:Int))=true:=by simp;omega
    cases hot:(M.txs t).op with
    | true =>
      have HCC:Hid (u≠t/\((M.txs t).op=true\/(M.txs u).op=true)):=⟨hut,.inl hot⟩
      have HOT:=Lib.hid hot
      clear hot hut
      go_enter Try.func66,Try.ntmps66
      go_upto_region 36 with (go_at_call 74;refine (HR.out _).mono ?_;rintro e w1 ⟨rfl,hb1⟩;obtain⟨HA,HR1,HR2,HB1,hz1⟩:=rows3 hb1;clear hb1;obtain⟨a0,a1,a2,a3,a4⟩:=HA.out.act)
      obtain⟨X2,hX2⟩:∃X2,X2=w.heap.size+1+1:=⟨_,rfl⟩
      rw[<- hX2] at HR2 ⊢
      obtain⟨X1,hX1⟩:∃X1,X1=w.heap.size+1:=⟨_,rfl⟩
      rw[<- hX1] at HR1 ⊢
      have hx:w.heap.size<X1/\X1<X2/\X2<w1.heap.size:=by omega
      clear hX1 hX2 hz1
      have HM1:=Lib.hid (HM.out.below HB1.out)
      have c0:=(HM1.out.cTx HTT.out).1
      have d0:=(HM1.out.cTx HUU.out).1
      rw[HOT.out] at c0
      go_quiet (fail)
      have hxq:RowAt (w1.drewN nq) X1 (ansL AnsM.nil)/\RowAt (w1.drewN nq) X2 (ansL AnsM.nil):=⟨HR1.out.below (below_drewN (Below.refl _ _) nq),HR2.out.below (below_drewN (Below.refl _ _) nq)⟩
      obtain⟨w2,hw2⟩:∃w2,w2=w1.drewN nq:=⟨_,rfl⟩
      have HM2:Hid (Mach base w2 B nm M):=by rw[Hid,hw2];exact HM1.out.below (below_drewN (Below.refl _ _) nq)
      have HW2:Hid (Went 0 w1 w2 B nm nm):=by rw[Hid,hw2];exact (Went.refl w1 B nm).below (below_drewN (Below.refl _ _) nq) HM1.out.has_lt
      rw[<- hw2] at hxq ⊢
      have HS1:=Lib.hid hxq.1
      have HS2:=Lib.hid hxq.2
      clear hw2 hxq
      obtain⟨⟨o0,o1,o2,o3,o4,o5,o6⟩,z0,z1,z2,z3,z4,z5,z6⟩:=HS2.out.ans
      obtain⟨⟨p0,p1,p2,p3,p4,p5,p6⟩,y0,y1,y2,y3,y4,y5,y6⟩:=HS1.out.ans
      have hx12:X1≠X2:=by omega
      go_wp2_with fail
      have HF:Hid (RowAt ((((((((w2.setCell ⟨X2,0,none⟩ (.int .i64 5)).setCell ⟨X1,0,none⟩ (.int .i64 5)).setCell ⟨X1,1,none⟩ (.bool AnsM.nil.is)).setCell ⟨X1,2,none⟩ (.int .i64 AnsM.nil.number)).setCell ⟨X1,3,none⟩ (.bool AnsM.nil.yes)).setCell ⟨X1,4,none⟩ (.int .i64 AnsM.nil.words)).setCell ⟨X1,5,none⟩ (.bool AnsM.nil.going)).setCell ⟨X1,6,none⟩ (.int .i64 AnsM.nil.freed)) X1 (ansL (.err 5))) :=
        ((((((((HS1.out.setFar _ _ (by simp;omega)).set 0 _).set 1 _).set 2 _).set 3 _).set 4 _).set 5 _).set 6 _)
      refine bodyPost_ret (v:=ansV (.err 5)) (res_act rfl HF.out) rfl ?_
      refine retA (.err 5) ?_ HM.out HB1.out HM2.out HW2.out (by repeat with_reducible (first|exact Chg.refl _ _|refine chgS ?_ (by first|(simp;done)|(simp;omega))))
      rw[HPA.out]
      exact .inl ⟨HCC.out,rfl,rfl⟩
    | false =>
      cases hou:(M.txs u).op with
      | true =>
        have HCC:Hid (u≠t/\((M.txs t).op=true\/(M.txs u).op=true)):=⟨hut,.inr hou⟩
        have HOT:=Lib.hid hot
        have HOU:=Lib.hid hou
        clear hot hut hou
        go_enter Try.func66,Try.ntmps66
        go_upto_region 36 with (go_at_call 74;refine (HR.out _).mono ?_;rintro e w1 ⟨rfl,hb1⟩;obtain⟨HA,HR1,HR2,HB1,hz1⟩:=rows3 hb1;clear hb1;obtain⟨a0,a1,a2,a3,a4⟩:=HA.out.act)
        obtain⟨X2,hX2⟩:∃X2,X2=w.heap.size+1+1:=⟨_,rfl⟩
        rw[<- hX2] at HR2 ⊢
        obtain⟨X1,hX1⟩:∃X1,X1=w.heap.size+1:=⟨_,rfl⟩
        rw[<- hX1] at HR1 ⊢
        have hx:w.heap.size<X1/\X1<X2/\X2<w1.heap.size:=by omega
        clear hX1 hX2 hz1
        have HM1:=Lib.hid (HM.out.below HB1.out)
        have c0:=(HM1.out.cTx HTT.out).1
        have d0:=(HM1.out.cTx HUU.out).1
        rw[HOT.out] at c0
        rw[HOU.out] at d0
        go_quiet (fail)
        have hxq:RowAt (w1.drewN nq) X1 (ansL AnsM.nil)/\RowAt (w1.drewN nq) X2 (ansL AnsM.nil):=⟨HR1.out.below (below_drewN (Below.refl _ _) nq),HR2.out.below (below_drewN (Below.refl _ _) nq)⟩
        obtain⟨w2,hw2⟩:∃w2,w2=w1.drewN nq:=⟨_,rfl⟩
        have HM2:Hid (Mach base w2 B nm M):=by rw[Hid,hw2];exact HM1.out.below (below_drewN (Below.refl _ _) nq)
        have HW2:Hid (Went 0 w1 w2 B nm nm):=by rw[Hid,hw2];exact (Went.refl w1 B nm).below (below_drewN (Below.refl _ _) nq) HM1.out.has_lt
        rw[<- hw2] at hxq ⊢
        have HS1:=Lib.hid hxq.1
        have HS2:=Lib.hid hxq.2
        clear hw2 hxq
        obtain⟨⟨o0,o1,o2,o3,o4,o5,o6⟩,z0,z1,z2,z3,z4,z5,z6⟩:=HS2.out.ans
        obtain⟨⟨p0,p1,p2,p3,p4,p5,p6⟩,y0,y1,y2,y3,y4,y5,y6⟩:=HS1.out.ans
        have hx12:X1≠X2:=by omega
        go_wp2_with fail
        have HF:Hid (RowAt ((((((((w2.setCell ⟨X2,0,none⟩ (.int .i64 5)).setCell ⟨X1,0,none⟩ (.int .i64 5)).setCell ⟨X1,1,none⟩ (.bool AnsM.nil.is)).setCell ⟨X1,2,none⟩ (.int .i64 AnsM.nil.number)).setCell ⟨X1,3,none⟩ (.bool AnsM.nil.yes)).setCell ⟨X1,4,none⟩ (.int .i64 AnsM.nil.words)).setCell ⟨X1,5,none⟩ (.bool AnsM.nil.going)).setCell ⟨X1,6,none⟩ (.int .i64 AnsM.nil.freed)) X1 (ansL (.err 5))) :=
          ((((((((HS1.out.setFar _ _ (by simp;omega)).set 0 _).set 1 _).set 2 _).set 3 _).set 4 _).set 5 _).set 6 _)
        refine bodyPost_ret (v:=ansV (.err 5)) (res_act rfl HF.out) rfl ?_
        refine retA (.err 5) ?_ HM.out HB1.out HM2.out HW2.out (by repeat with_reducible (first|exact Chg.refl _ _|refine chgS ?_ (by first|(simp;done)|(simp;omega))))
        rw[HPA.out]
        exact .inl ⟨HCC.out,rfl,rfl⟩
      | false =>
        have HCC:Hid (¬ (u≠t/\((M.txs t).op=true\/(M.txs u).op=true))):=λh=>by rcases h.2 with e|e <;> simp_all
        have HOT:=Lib.hid hot
        have HOU:=Lib.hid hou
        clear hot hut hou
        go_enter Try.func66,Try.ntmps66
        go_upto_region 36 with (go_at_call 74;refine (HR.out _).mono ?_;rintro e w1 ⟨rfl,hb1⟩;obtain⟨HA,HR1,HR2,HB1,hz1⟩:=rows3 hb1;clear hb1;obtain⟨a0,a1,a2,a3,a4⟩:=HA.out.act)
        obtain⟨X2,hX2⟩:∃X2,X2=w.heap.size+1+1:=⟨_,rfl⟩
        rw[<- hX2] at HR2 ⊢
        obtain⟨X1,hX1⟩:∃X1,X1=w.heap.size+1:=⟨_,rfl⟩
        rw[<- hX1] at HR1 ⊢
        have hx:w.heap.size<X1/\X1<X2/\X2<w1.heap.size:=by omega
        clear hX1 hX2 hz1
        have HM1:=Lib.hid (HM.out.below HB1.out)
        have c0:=(HM1.out.cTx HTT.out).1
        have d0:=(HM1.out.cTx HUU.out).1
        rw[HOT.out] at c0
        rw[HOU.out] at d0
        go_quiet (fail)
        go_wp2_with fail
        obtain⟨w2,hw2⟩:∃w2,w2=(w1.drewN nq).drew:=⟨_,rfl⟩
        have HB2:Hid (Below w1.heap.size w1 w2):=by rw[Hid,hw2];exact below_drewN (Below.refl _ _) (nq+1)
        have HM2:=Lib.hid (HM1.out.below HB2.out)
        have HBX:=Lib.hid HM2.out.box
        have HA2:=Lib.hid (HA.out.below HB2.out)
        have HS1:=Lib.hid (HR1.out.below HB2.out)
        have HS2:=Lib.hid (HR2.out.below HB2.out)
        clear a0 a1 a2 a3 a4 c0 d0
        obtain⟨a0,a1,a2,a3,a4⟩:=HA2.out.act
        have HL:Hid (w2.rangeAt B (2+u * 8+b * 2) [.int .i64 (M.regs u b).1,.int .i64 (M.regs u b).2]):=HBX.out.range _ _ (by simp;omega) (λj hj=>by
          obtain⟨e1,e2⟩:=cellOf_reg nm M HUU.out HBB.out
          have hj2:j=0\/j=1:=by simp at hj;omega
          rcases hj2 with rfl|rfl
          · exact e1
          · exact e2)
        refine still_tail_at 18 (by kernel_rfl) (by kernel_rfl) hw2 ?_;simp only [List.take_succ_cons,List.take_zero,List.drop_succ_cons,List.drop_zero];clear hw2;(repeat (first|(refine still_loadBox rfl _ _ rfl B (2+u * 8+b * 2) rfl _ HL.out _ Try.underlying36 rfl Try.sizeVal ?_)|still_step));refine wpStill_nil ?_
        have ho:2+t * 8+a * 2+(#[Value.int .i64 (M.regs u b).1,Value.int .i64 (M.regs u b).2]:Array Value).size<=85:=by simp;omega
        refine wpl_storeBox rfl 36 _ _ rfl B (2+t * 8+a * 2) #[.int .i64 (M.regs u b).1,.int .i64 (M.regs u b).2] rfl rfl (cellOf nm M) HBX.out ho Try.sizeVal (by simp[Value.oneCell']) ?_
        intro hbx hcg
        rw[List.toList_toArray] at hbx hcg ⊢
        obtain⟨w3,hw3⟩:∃w3,w3=w2.setCells B (2+t * 8+a * 2) [.int .i64 (M.regs u b).1,.int .i64 (M.regs u b).2]:=⟨_,rfl⟩
        rw[<- hw3] at hbx hcg ⊢
        obtain⟨q1,q2⟩:=HM2.out.storeReg HTT.out HAA.out (M.regs u b) hcg hbx
        have hBlt:=HM.out.lt
        have HM3:=Lib.hid q1;have HW3:=Lib.hid (((Went.refl w1 B nm).below HB2.out HM1.out.has_lt).trans q2)
        have HT1:=Lib.hid (HS1.out.chg hcg (by omega));have HT2:=Lib.hid (HS2.out.chg hcg (by omega))
        clear hbx hcg q1 q2 hw3 ho HBX a0 a1 a2 a3 a4
        obtain⟨⟨o0,o1,o2,o3,o4,o5,o6⟩,z0,z1,z2,z3,z4,z5,z6⟩:=HT2.out.ans
        obtain⟨⟨p0,p1,p2,p3,p4,p5,p6⟩,y0,y1,y2,y3,y4,y5,y6⟩:=HT1.out.ans
        have hx12:X1≠X2:=by omega
        go_frame
        go_wp2_with fail
        have HF:Hid (RowAt ((((((((w3).setCell ⟨X1,0,none⟩ (.int .i64 AnsM.nil.code)).setCell ⟨X1,1,none⟩ (.bool AnsM.nil.is)).setCell ⟨X1,2,none⟩ (.int .i64 AnsM.nil.number)).setCell ⟨X1,3,none⟩ (.bool AnsM.nil.yes)).setCell ⟨X1,4,none⟩ (.int .i64 AnsM.nil.words)).setCell ⟨X1,5,none⟩ (.bool AnsM.nil.going)).setCell ⟨X1,6,none⟩ (.int .i64 AnsM.nil.freed)) X1 (ansL AnsM.nil)) :=
          (((((((HT1.out.set 0 _).set 1 _).set 2 _).set 3 _).set 4 _).set 5 _).set 6 _)
        refine bodyPost_ret (v:=ansV AnsM.nil) (res_act rfl HF.out) rfl ?_
        refine retA AnsM.nil ?_ HM.out HB1.out HM3.out HW3.out (by repeat with_reducible (first|exact Chg.refl _ _|refine chgS ?_ (by first|(simp;done)|(simp;omega))))
        rw[HPA.out]
        exact .inr ⟨HCC.out,rfl,rfl⟩
end Go.Proofs.Ytbeilcaadpopmab
namespace Go.Proofs.Ytbeilcaadpopmab
open Go.RowKit Go.Maps
set_option maxRecDepth 100000 in
set_option maxHeartbeats 2000000 in
theorem act_same (base:Nat) (w:World) (B:Nat) (nm:Nm) (M:CM) (h:Mach base w B nm M) (t a b:Nat) (ht:t<4) (ha:a<4) (hb:b<4) (n:Int) :
    Calls Try.prog 66 #[.pointer (some ⟨B,0,none⟩),.agg #[.int .i64 9,.int .i64 (t:Int),.int .i64 (a:Int),.int .i64 (b:Int),.int .i64 n]] w
      (RetA 0 base w B nm (λr M'=>r=⟨0,false,0,decide (M.regs t a=M.regs t b),0,false,0⟩/\M' = M)):=by
  have HM:=Lib.hid h
  obtain⟨PA,hPA⟩:∃PA:AnsM->CM->Prop,PA=(λr M'=>r=⟨0,false,0,decide (M.regs t a=M.regs t b),0,false,0⟩/\M' = M):=⟨_,rfl⟩
  rw[<- hPA]
  have HPA:=Lib.hid hPA
  clear hPA
  have i1:(t:Int)<4:=by omega
  have i2:(a:Int)<4:=by omega
  have i3:(b:Int)<4:=by omega
  have HR:Hid (∀W,Calls Try.prog 74 #[.agg #[.int .i64 9,.int .i64 t,.int .i64 (a:Int),.int .i64 (b:Int),.int .i64 n]] W (λe w'=>e = .returned (.bool true)/\Below W.heap.size W w')):=λW=>by
    have:=registers_any 9 t (a:Int) (b:Int) n W (by omega)
    rw[show regsOk 9 (a:Int) (b:Int) n=true from by unfold regsOk in3;simp;omega] at this
    exact this
  have HTT:=Lib.hid ht;have HAA:=Lib.hid ha;have HBB:=Lib.hid hb
  clear h
  go_enter Try.func66,Try.ntmps66
  go_upto_region 40 with (go_at_call 74;refine (HR.out _).mono ?_;rintro e w1 ⟨rfl,hb1⟩;obtain⟨HA,HR1,HR2,HB1,hz1⟩:=rows3 hb1;clear hb1;obtain⟨a0,a1,a2,a3,a4⟩:=HA.out.act)
  obtain⟨X2,hX2⟩:∃X2,X2=w.heap.size+1+1:=⟨_,rfl⟩
  rw[<- hX2] at HR2 ⊢
  obtain⟨X1,hX1⟩:∃X1,X1=w.heap.size+1:=⟨_,rfl⟩
  rw[<- hX1] at HR1 ⊢
  have hx:w.heap.size<X1/\X1<X2/\X2<w1.heap.size:=by omega
  clear hX1 hX2 hz1
  have HM1:=Lib.hid (HM.out.below HB1.out)
  obtain⟨w2,hw2⟩:∃w2,w2=w1.drew:=⟨_,rfl⟩
  have HB2:Hid (Below w1.heap.size w1 w2):=by rw[Hid,hw2];exact (Below.refl _ _).drew
  have HM2:=Lib.hid (HM1.out.below HB2.out)
  have HA2:=Lib.hid (HA.out.below HB2.out)
  have HS1:=Lib.hid (HR1.out.below HB2.out)
  have HS2:=Lib.hid (HR2.out.below HB2.out)
  clear a0 a1 a2 a3 a4
  obtain⟨a0,a1,a2,a3,a4⟩:=HA2.out.act
  obtain⟨v1,hv1⟩:∃v1,v1=M.regs t a:=⟨_,rfl⟩
  obtain⟨v2,hv2⟩:∃v2,v2=M.regs t b:=⟨_,rfl⟩
  have HL1:Hid (w2.rangeAt B (2+t * 8+a * 2) [.int .i64 v1.1,.int .i64 v1.2]):=HM2.out.box.range _ _ (by simp;omega) (λj hj=>by
    obtain⟨e1,e2⟩:=cellOf_reg nm M HTT.out HAA.out
    rw[<- hv1] at e1 e2
    have hj2:j=0\/j=1:=by simp at hj;omega
    rcases hj2 with rfl|rfl
    · exact e1
    · exact e2)
  have HL2:Hid (w2.rangeAt B (2+t * 8+b * 2) [.int .i64 v2.1,.int .i64 v2.2]):=HM2.out.box.range _ _ (by simp;omega) (λj hj=>by
    obtain⟨e1,e2⟩:=cellOf_reg nm M HTT.out HBB.out
    rw[<- hv2] at e1 e2
    have hj2:j=0\/j=1:=by simp at hj;omega
    rcases hj2 with rfl|rfl
    · exact e1
    · exact e2)
  have HV1:=Lib.hid hv1;have HV2:=Lib.hid hv2
  clear hv1 hv2
  obtain⟨x1,y1⟩:=v1
  obtain⟨x2,y2⟩:=v2
  dsimp only at HL1 HL2
  refine still_tail_at 20 (by kernel_rfl) (by kernel_rfl) hw2 ?_;simp only [List.take_succ_cons,List.take_zero,List.drop_succ_cons,List.drop_zero];clear hw2;(repeat (first|(refine still_loadBox rfl _ _ rfl B (2+t * 8+a * 2) rfl _ HL1.out _ Try.underlying36 rfl Try.sizeVal ?_)|(refine still_loadBox rfl _ _ rfl B (2+t * 8+b * 2) rfl _ HL2.out _ Try.underlying36 rfl Try.sizeVal ?_)|still_step))
  try simp only [Act.put,List.setIfInBounds_toArray,List.set_cons_zero,List.set_cons_succ]
  unfold wpStill
  rw[if_pos (by rfl)]
  unfold Oper.still
  go_simp
  have hq:∀(α:Type) (f:Bool->α),(if x1=x2 then (if y1=y2 then f true else f false) else f false)=f (decide ((x1,y1)=(x2,y2))):=λα f=>by
    by_cases e1:x1=x2
    · by_cases e2:y1=y2
      · simp[e1,e2]
      · simp[e1,e2]
    · simp[e1]
  have hq':=hq _ (λq=>Result.ok (Next.value (Value.bool q)) w2)
  rw[hq']
  clear hq hq'
  obtain⟨q,hqq⟩:∃q,q=decide ((x1,y1)=(x2,y2)):=⟨_,rfl⟩
  rw[<- hqq]
  have HQ:=Lib.hid hqq
  clear hqq
  refine⟨rfl,?_⟩
  (repeat still_step);refine wpStill_nil ?_
  obtain⟨⟨o0,o1,o2,o3,o4,o5,o6⟩,z0,z1,z2,z3,z4,z5,z6⟩:=HS2.out.ans
  obtain⟨⟨p0,p1,p2,p3,p4,p5,p6⟩,y0,y1,y2,y3,y4,y5,y6⟩:=HS1.out.ans
  have hx12:X1≠X2:=by omega
  go_wp2_with fail
  have HF:Hid (RowAt ((((((((w2.setCell ⟨X2,3,none⟩ (.bool q)).setCell ⟨X1,0,none⟩ (.int .i64 0)).setCell ⟨X1,1,none⟩ (.bool false)).setCell ⟨X1,2,none⟩ (.int .i64 0)).setCell ⟨X1,3,none⟩ (.bool q)).setCell ⟨X1,4,none⟩ (.int .i64 0)).setCell ⟨X1,5,none⟩ (.bool false)).setCell ⟨X1,6,none⟩ (.int .i64 0)) X1 (ansL ⟨0,false,0,q,0,false,0⟩)) :=
    ((((((((HS1.out.setFar _ _ (by simp;omega)).set 0 _).set 1 _).set 2 _).set 3 _).set 4 _).set 5 _).set 6 _)
  refine bodyPost_ret (v:=ansV ⟨0,false,0,q,0,false,0⟩) (res_act rfl HF.out) rfl ?_
  refine retA ⟨0,false,0,q,0,false,0⟩ ?_ HM.out HB1.out (HM1.out.below HB2.out) ((Went.refl w1 B nm).below HB2.out HM1.out.has_lt) (by repeat with_reducible (first|exact Chg.refl _ _|refine chgS ?_ (by first|(simp;done)|(simp;omega))))
  rw[HPA.out]
  exact⟨by rw[HQ.out,<- HV1.out,<- HV2.out],rfl⟩
end Go.Proofs.Ytbeilcaadpopmab
