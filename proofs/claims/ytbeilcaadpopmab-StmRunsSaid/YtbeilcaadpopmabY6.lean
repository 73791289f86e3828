/- Texts put together: Mg, Ml, Rv, Mi, Mt, Mz, Mx. -/
import Derived.Test.YtbeilcaadpopmabY5
import Derived.OrdersHeld
import Derived.StillTail
import Derived.Deep.RegionHeld3
import Derived.Test.YtbeilcaadpopmabY1
set_option linter.unusedVariables false
set_option linter.unusedSimpArgs false
namespace Go.Proofs.Ytbeilcaadpopmab
open Go.RowKit Go.Maps
structure FieldOk (M:CM) (t r:Nat) (f:Int):Prop where
  acc:AccOk M t r
  at0:M.object t r f=0->∃p k:Nat,(M.regs t r).2=p/\f=k/\p+2+k<M.xs.length/\0<=M.xs.getD p 0
theorem ret_more {d base B:Nat} {w W w1 w2:World} {nm nm1:Nm} {M M1:CM} (r:Value) (h:Mach base w B nm M) (hb:Below w.heap.size w W) (h1:Mach base w1 B nm1 M1) (hw:Went d W w1 B nm nm1)
    (hc:Chg (λk=>w.heap.size<=k/\k<W.heap.size) w1 w2):RetM d base w B nm M1 r (.returned r) w2:=by
  refine⟨rfl,nm1,h1.other (hc.mono λk _ hk=>hw.not_has hk.2 (h.not_has hk.1)),(hw.after hb).newer (hc.mono λk _ hk=>hk.1)⟩
theorem CM.noteRead_rest (M:CM) (t p:Nat):(M.noteRead t p).xs=M.xs/\(M.noteRead t p).regs=M.regs:=by
  unfold CM.noteRead CM.setTx
  split <;> exact⟨rfl,rfl⟩
theorem cellOf_setReg (nm:Nm) (M:CM) (t r:Nat) (ht:t<4) (hr:r<4) (v:Int × Int) (i:Nat):insL (cellOf nm M) (2+t * 8+r * 2) [.int .i64 v.1,.int .i64 v.2] i=cellOf nm (M.setReg t r v) i:=by
  unfold insL
  have hl:([Value.int .i64 v.1,Value.int .i64 v.2]).length=2:=rfl
  rw[hl]
  have hv:(M.setReg t r v).regs t r=v:=by simp[CM.setReg,pt2]
  split
  · rename_i h
    obtain⟨e1,e2⟩:=cellOf_reg nm (M.setReg t r v) ht hr
    rw[hv] at e1 e2
    have:i=2+t * 8+r * 2\/i=2+t * 8+r * 2+1:=by omega
    rcases this with rfl|rfl
    · rw[e1,Nat.sub_self];rfl
    · rw[e2,show 2+t * 8+r * 2+1 - (2+t * 8+r * 2)=1 by omega];rfl
  · rename_i h
    unfold cellOf
    by_cases h0:i=0
    · simp[h0]
    by_cases h1:i=1
    · simp[h1];rfl
    by_cases h2:i<34
    · have hne:¬ ((i - 2) / 8=t/\(i - 2) % 8 / 2=r):=by omega
      have:(M.setReg t r v).regs ((i - 2) / 8) ((i - 2) % 8 / 2)=M.regs ((i - 2) / 8) ((i - 2) % 8 / 2):=by
        simp only [CM.setReg,pt2,if_neg hne]
      simp only [h0,h1,h2,if_false,if_true,this]
    · simp[h0,h1,h2];rfl
theorem Mach.storeReg {base B:Nat} {w w':World} {nm:Nm} {M:CM} (h:Mach base w B nm M) {t r:Nat} (ht:t<4) (hr:r<4) (v:Int × Int) (hc:Chg (λk=>k=B) w w') (hb:Box w' B (insL (cellOf nm M) (2+t * 8+r * 2) [.int .i64 v.1,.int .i64 v.2])) :
    Mach base w' B nm (M.setReg t r v)/\Went 0 w w' B nm nm :=
  h.boxOnly hc (hb.congr λi _=>cellOf_setReg nm M t r ht hr v i) rfl (λ_=>⟨rfl,rfl,rfl⟩) rfl rfl id (λ_ _=>id)
theorem RetM.le {d e base B:Nat} {w w':World} {nm:Nm} {M:CM} {r:Value} {x:Ending} (h:RetM d base w B nm M r x w') (k:d<=e):RetM e base w B nm M r x w':=by
  obtain⟨h1,nm',h2,h3⟩:=h
  exact⟨h1,nm',h2,h3.le k⟩
set_option maxRecDepth 100000 in
set_option maxHeartbeats 1000000 in
theorem get_any (base:Nat) (w:World) (B:Nat) (nm:Nm) (M:CM) (h:Mach base w B nm M) (t a b:Nat) (ht:t<4) (ha:a<4) (hb:b<4) (k t' f:Int) (hf:I64 f) (ok:FieldOk M t b f) (hN:nm.N<900000) :
    Calls Try.prog 78 #[.pointer (some ⟨B,0,none⟩),.int .i64 (t:Int),.agg #[.int .i64 k,.int .i64 t',.int .i64 a,.int .i64 b,.int .i64 f]] w
      (if M.object t b f=0 then RetM 1 base w B nm (M.get t a (M.regs t b).2.toNat f) (.tuple #[.agg #[.int .i64 (M.word ((M.regs t b).2.toNat+2+f.toNat)).1,.int .i64 (M.word ((M.regs t b).2.toNat+2+f.toNat)).2],.int .i64 0])
        else RetM 1 base w B nm (M.failed t (M.object t b f)) (.tuple #[.agg #[.int .i64 0,.int .i64 0],.int .i64 (M.object t b f)])):=by
  have HM:=Lib.hid h
  have hB:=h.lt
  have i1:(t:Int)<4:=by omega
  have HOBJ:Hid (∀W,Below w.heap.size w W->Calls Try.prog 94 #[.pointer (some ⟨B,0,none⟩),.int .i64 (t:Int),.int .i64 (b:Int),.int .i64 f] W (RetM 0 base W B nm (M.failed t (M.object t b f)) (.tuple #[.int .i64 (if M.object t b f=0 then (M.regs t b).2 else 0),.int .i64 (M.object t b f)]))) :=
    λW hW=>object_any base W B nm M (h.below hW) t b ht hb f hf ok.acc
  have HOK:=Lib.hid ok
  have HTT:=Lib.hid ht;have HAA:=Lib.hid ha;have HBB:=Lib.hid hb
  obtain⟨E,hE⟩:∃E,E=M.object t b f:=⟨_,rfl⟩
  rw[<- hE] at HOBJ ⊢
  have HE:=Lib.hid hE
  clear h ok hE ha hb hf
  by_cases hE0:E=0
  · subst hE0
    rw[if_pos rfl]
    rw[if_pos rfl] at HOBJ
    obtain⟨p,kf,hp,hf0,hpl,hs0⟩:=HOK.out.at0 HE.out.symm
    have HP:=Lib.hid hp
    have HF:Hid (M.failed t 0=M):=by simp[Hid,CM.failed]
    rw[HF.out,hp] at HOBJ
    subst hf0
    rw[hp,Int.toNat_natCast,Int.toNat_natCast]
    clear hp HF
    go_enter Try.func78,Try.ntmps78
    go_upto_region 4 with (go_at_call 94;refine (HOBJ.out _ (by ((repeat first|exact bR _ _|with_reducible first|refine bN ?_|refine bD ?_|refine bA ?_ ?_|refine bS ?_ ?_);all_goals first|exact Nat.le_refl _|(simp;done)|omega|(simp;omega)))).mono ?_;rintro e w1 ⟨rfl,nm1,hM1,hW1⟩;have HM1:=Lib.hid hM1;have HW1:=Lib.hid hW1;clear hM1 hW1)
    have hs1:=HW1.out.chg.size
    rw[World.size_alloc,World.size_alloc] at hs1
    have HOP:Hid ((M.txs t).op=true):=by
      have:=HE.out.symm
      unfold CM.object at this
      cases ho:(M.txs t).op with
      | true=>rfl
      | false=>rw[if_pos ho] at this;cases this
    obtain⟨rb,hrb⟩:∃rb,nm1.rb t=some rb:=Option.isSome_iff_exists.1 (HM1.out.opn t HTT.out HOP.out).1
    obtain⟨n,hn,hfm⟩:∃n,n<=nm1.N/\FunMap w1 rb n (M.txs t).reads:=by
      have:=HM1.out.part (.reads t) HTT.out
      simp only [Part,hrb] at this
      exact this
    obtain⟨_,c9,_,_,_⟩:=HM1.out.cTx HTT.out
    rw[hrb] at c9
    have f2:=(HW1.out.cell (k:=w.heap.size) (by simp;omega) (HM.out.not_has (by omega)) 2).1
    have f4:=(HW1.out.cell (k:=w.heap.size) (by simp;omega) (HM.out.not_has (by omega)) 4).1
    have v0:=(HW1.out.cell (k:=w.heap.size+1) (by simp) (HM.out.not_has (by omega)) 0).1
    have v1:=(HW1.out.cell (k:=w.heap.size+1) (by simp) (HM.out.not_has (by omega)) 1).1
    have z0:=(HW1.out.cell (k:=w.heap.size+1) (by simp) (HM.out.not_has (by omega)) 0).2
    have z1:=(HW1.out.cell (k:=w.heap.size+1) (by simp) (HM.out.not_has (by omega)) 1).2
    simp[go_sem] at f2 f4 v0 v1 z0 z1
    have HFM:=Lib.hid hfm;have HRB:=Lib.hid hrb;have HN1:=Lib.hid hn
    have HF2:=Lib.hid f2;have HF4:=Lib.hid f4;have HV0:=Lib.hid v0;have HV1:=Lib.hid v1;have HZ0:=Lib.hid z0;have HZ1:=Lib.hid z1
    have HPI:Hid (I64 (p:Int)):=by
      have:=(HM.out.part .words trivial:OwnInts w base nm.hv M.xs).1.2
      unfold Hid I64;omega
    clear hfm hrb hn f2 f4 v0 v1 z0 z1
    obtain⟨s,hs⟩:∃s,s=M.xs.getD p 0:=⟨_,rfl⟩
    obtain⟨g,c,e,hc1,hc2,hg,hgB,hcell,hfz⟩:=HM1.out.spot (by omega)
    have d0:=HM1.out.c0
    rw[e] at d0
    have hx0:=hcell p (by omega)
    rw[<- hs] at hx0 hs0
    have hle:=(HM1.out.part .words trivial:OwnInts w1 base nm1.hv M.xs).1.2
    have hsr:=(HM1.out.part .words trivial:OwnInts w1 base nm1.hv M.xs).ints.range p
    rw[<- hs] at hsr
    have hsr2:=hsr.2
    have hpc0:p<=c:=by omega
    have q0:(p:Int)<(M.xs.length:Int):=by omega
    have HSS:=Lib.hid hs;have HEE:=Lib.hid e;have HPL:=Lib.hid hpl
    clear hcell hfz e hs hpl hsr
    have HMINE:Hid (∀W,Calls Try.prog 95 #[.int .i64 (t:Int)] W (λe w'=>e = .returned (.int .i64 (2 * (t:Int)+1))/\W=w')):=λW=>(mine_any t W HTT.out).mono λe w' ⟨h1,h2⟩=>⟨h1,h2.symm⟩
    have HCASE:Hid ((∃v,(M.txs t).reads p=some v)\/((M.txs t).reads p=none/\s=2 * t+1)\/((M.txs t).reads p=none/\s≠2 * t+1)):=by
      cases hrd:(M.txs t).reads p with
      | some v=>exact .inl ⟨v,rfl⟩
      | none => by_cases e : s = 2 * t + 1
                · exact .inr (.inl ⟨rfl,e⟩)
                · exact .inr (.inr ⟨rfl,e⟩)
    refine Or.elim HCASE.out ?way1 (λh=>Or.elim h ?way2 ?way3)
    case' way3=>(
      rintro ⟨hrd,hst⟩
      have hst2:(s != 2 * (t:Int)+1)=true:=by simpa using hst
      have HRD:=Lib.hid hrd;have HST:=Lib.hid hst
      clear hst
      go_wp2_with (at_lookup;refine wpl_funLookOk rfl _ _ rfl rb n _ rfl HFM.out p rfl HPI.out ?_;rw[hrd])
      go_quiet ((go_at_call 95;exact quiet_left (HMINE.out _)))
      go_wp2_with fail
      obtain⟨w2,hw2⟩:∃w2,w2=(w1.drewN nq).drew:=⟨_,rfl⟩
      have e0:w2.cell? ⟨B,0,none⟩=some (.slice (some ⟨g,0,none⟩) M.xs.length c):=by rw[hw2];exact d0
      have e9:w2.cell? ⟨B,34+t * 12+9,none⟩=some (.map (some rb)):=by rw[hw2];exact c9
      have ex:w2.cell? ⟨g,p,none⟩=some (.int .i64 s):=by rw[hw2];exact hx0
      have HM2:Hid (Mach base w2 B nm1 M):=by rw[Hid,hw2];exact HM1.out.below (below_drewN (Below.refl _ _) (nq+1))
      have HB2:Hid (Below w1.heap.size w1 w2):=by rw[Hid,hw2];exact below_drewN (Below.refl _ _) (nq+1)
      have HFM2:Hid (FunMap w2 rb n (M.txs t).reads):=by rw[Hid,hw2];exact HFM.out
      have HSD:Hid (s.tdiv 2=s / 2):=Int.tdiv_eq_ediv_of_nonneg hs0
      have hsd:=HSD.out
      have HSW:Hid (IntKind.i64.wrap (s / 2)=s / 2):=IntWalk.i64_in _ (by omega)
      refine still_tail_at 17 (by kernel_rfl) (by kernel_rfl) hw2 ?_;simp only [List.take_succ_cons,List.take_zero,List.drop_succ_cons,List.drop_zero];clear hw2;(repeat still_step);refine wpStill_nil ?_
      simp only [HSW.out]
      go_wp2_with (at_mapUpdate;refine wpl_funPut rfl _ _ _ rfl rb n _ rfl HFM2.out (by have:=HN1.out;have:=HW1.out.few;omega) p (s / 2) rfl HPI.out rfl (by unfold I64;omega) ?_;intro w3 hf3 hg3;have HF3:=Lib.hid hf3;have HG3:=Lib.hid hg3;clear hf3 hg3)
      obtain⟨hM3,hW3⟩:=HM2.out.noteRead HTT.out HRB.out HN1.out HF3.out HG3.out
      have hnr:M.noteRead t p=M.setTx t ((M.txs t).read p (s / 2)):=by
        unfold CM.noteRead
        rw[<- HSS.out,if_pos ⟨HRD.out,HST.out⟩]
      rw[<- hnr] at hM3
      obtain⟨wt,hwt⟩:∃wt,wt=w3:=⟨_,rfl⟩
      obtain⟨nmT,hnmT⟩:∃nmT:Nm,nmT={ nm1 with N:=nm1.N+1 }:=⟨_,rfl⟩
      have HWT:Hid (Went 1 ((w.alloc (.cells #[.int .i64 k,.int .i64 t',.int .i64 a,.int .i64 b,.int .i64 kf] 46)).alloc (.cells #[.int .i64 0,.int .i64 0] 36)) wt B nm nmT):=by rw[Hid,hwt,hnmT];exact ((HW1.out.below HB2.out HM1.out.has_lt).trans hW3).le (by omega)
      have HMT:Hid (Mach base wt B nmT (M.noteRead t p)):=by rw[Hid,hwt,hnmT];exact hM3
      rw[<- hwt]
      clear hM3 hW3 hnr hwt hnmT HM2 HB2 HFM2 HSD hsd HSW HF3 HG3 e0 e9 ex hst2)
    case' way2=>(
      rintro ⟨hrd,hst⟩
      have hst2:(s != 2 * (t:Int)+1)=false:=by simpa using hst
      have HRD:=Lib.hid hrd;have HST:=Lib.hid hst
      clear hst
      go_wp2_with (at_lookup;refine wpl_funLookOk rfl _ _ rfl rb n _ rfl HFM.out p rfl HPI.out ?_;rw[hrd])
      go_quiet ((go_at_call 95;exact quiet_left (HMINE.out _)))
      go_wp2_with fail
      obtain⟨wt,hwt⟩:∃wt,wt=w1.drewN nq:=⟨_,rfl⟩
      obtain⟨nmT,hnmT⟩:∃nmT:Nm,nmT=nm1:=⟨_,rfl⟩
      have HWT:Hid (Went 1 ((w.alloc (.cells #[.int .i64 k,.int .i64 t',.int .i64 a,.int .i64 b,.int .i64 kf] 46)).alloc (.cells #[.int .i64 0,.int .i64 0] 36)) wt B nm nmT):=by rw[Hid,hwt,hnmT];exact (HW1.out.below (below_drewN (Below.refl _ _) nq) HM1.out.has_lt).le (by omega)
      have HMT:Hid (Mach base wt B nmT (M.noteRead t p)):=by
        rw[Hid,hwt,hnmT,show M.noteRead t p=M from by unfold CM.noteRead;rw[<- HSS.out,if_neg (by intro h;exact h.2 HST.out)]]
        exact HM1.out.below (below_drewN (Below.refl _ _) nq)
      rw[<- hwt]
      clear hwt hnmT hst2)
    case' way1=>(
      rintro ⟨v,hrd⟩
      have HRD:=Lib.hid hrd
      go_wp2_with (at_lookup;refine wpl_funLookOk rfl _ _ rfl rb n _ rfl HFM.out p rfl HPI.out ?_;rw[hrd])
      go_quiet (fail)
      go_wp2_with fail
      obtain⟨wt,hwt⟩:∃wt,wt=w1.drewN nq:=⟨_,rfl⟩
      obtain⟨nmT,hnmT⟩:∃nmT:Nm,nmT=nm1:=⟨_,rfl⟩
      have HWT:Hid (Went 1 ((w.alloc (.cells #[.int .i64 k,.int .i64 t',.int .i64 a,.int .i64 b,.int .i64 kf] 46)).alloc (.cells #[.int .i64 0,.int .i64 0] 36)) wt B nm nmT):=by rw[Hid,hwt,hnmT];exact (HW1.out.below (below_drewN (Below.refl _ _) nq) HM1.out.has_lt).le (by omega)
      have HMT:Hid (Mach base wt B nmT (M.noteRead t p)):=by
        rw[Hid,hwt,hnmT,show M.noteRead t p=M from by unfold CM.noteRead;rw[<- HSS.out,if_neg (by intro h;rw[HRD.out] at h;cases h.1)]]
        exact HM1.out.below (below_drewN (Below.refl _ _) nq)
      rw[<- hwt]
      clear hwt hnmT)
    all_goals (
      clear c9 d0 hx0 q0 hpc0 hc1 hc2 hg hgB hsr2 hs0 hN HOBJ HCASE HSS HEE HRD HFM HRB HN1 HM1 HW1 HF2 HF4 HV0 HV1 HZ0 HZ1 hs1
      obtain⟨i,hi⟩:∃i,i=p+2+kf:=⟨_,rfl⟩
      obtain⟨p2,hp2⟩:∃p2,p2=p+2:=⟨_,rfl⟩
      have hpl:=HPL.out
      have wa:IntKind.i64.wrap ((p:Int)+2)=(p2:Int):=by rw[IntWalk.i64_in _ (by omega)];omega
      have wb:IntKind.i64.wrap ((p2:Int)+kf)=(i:Int):=by rw[IntWalk.i64_in _ (by omega)];omega
      have hil:i<M.xs.length:=by omega
      rw[<- hi]
      have HII:Hid (p+2+kf=i):=hi.symm
      clear hi hp2 hpl
      have HMX:Hid ((M.noteRead t p).xs=M.xs):=(CM.noteRead_rest M t p).1
      obtain⟨g,c,e,hc1,hc2,hg,hgB,hcell,hfz⟩:=HMT.out.spot (by rw[HMX.out];omega)
      rw[HMX.out] at e hc1 hcell
      have d0:=HMT.out.c0
      rw[e] at d0
      have hx:=hcell i hil
      have hxr:=(HMT.out.part .words trivial:OwnInts wt base nmT.hv (M.noteRead t p).xs).ints.range i
      rw[HMX.out] at hxr
      obtain⟨x,hxe⟩:∃x,x=M.xs.getD i 0:=⟨_,rfl⟩
      rw[<- hxe] at hx hxr
      obtain⟨hx1,hx2⟩:=hxr
      have HXE:=Lib.hid hxe
      have hB2:=HMT.out.lt
      have hsz:=HWT.out.chg.size
      rw[World.size_alloc,World.size_alloc] at hsz
      have f2:=(HWT.out.cell (k:=w.heap.size) (by simp;omega) (HM.out.not_has (by omega)) 2).1
      have f4:=(HWT.out.cell (k:=w.heap.size) (by simp;omega) (HM.out.not_has (by omega)) 4).1
      have v0:=(HWT.out.cell (k:=w.heap.size+1) (by simp) (HM.out.not_has (by omega)) 0).1
      have v1:=(HWT.out.cell (k:=w.heap.size+1) (by simp) (HM.out.not_has (by omega)) 1).1
      have z0:=(HWT.out.cell (k:=w.heap.size+1) (by simp) (HM.out.not_has (by omega)) 0).2
      have z1:=(HWT.out.cell (k:=w.heap.size+1) (by simp) (HM.out.not_has (by omega)) 1).2
      simp[go_sem] at f2 f4 v0 v1 z0 z1
      have hic:i<=c:=by omega
      have qi:(i:Int)<(M.xs.length:Int):=by omega
      have hA:w.heap.size<wt.heap.size:=by omega
      have hA1:w.heap.size+1<wt.heap.size:=by omega
      have HKEEP:Hid (∀W,Below wt.heap.size wt W->W.cell? ⟨B,0,none⟩=some (.slice (some ⟨g,0,none⟩) M.xs.length c)/\W.cell? ⟨w.heap.size,4,none⟩=some (.int .i64 (kf:Int))/\W.cell? ⟨g,i,none⟩=some (.int .i64 x)/\Below wt.heap.size wt W) :=
        λW hW=>⟨(hW.cell (p:=⟨B,0,none⟩) hB2).trans d0,(hW.cell (p:=⟨w.heap.size,4,none⟩) hA).trans f4,(hW.cell (p:=⟨g,i,none⟩) hg).trans hx,hW⟩
      have HF2:=Lib.hid f2;have HV0:=Lib.hid v0;have HV1:=Lib.hid v1;have HZ0:=Lib.hid z0;have HZ1:=Lib.hid z1
      clear hcell hfz e hxe d0 f4 hx f2 v0 v1 z0 z1
      go_region_held3 (λW=>W.cell? ⟨B,0,none⟩=some (.slice (some ⟨g,0,none⟩) M.xs.length c)/\W.cell? ⟨w.heap.size,4,none⟩=some (.int .i64 (kf:Int))/\W.cell? ⟨g,i,none⟩=some (.int .i64 x)/\Below wt.heap.size wt W)
        (first|exact HKEEP.out _ (by ((repeat first|exact bR _ _|with_reducible first|refine bT ?_ hb6 ?_|refine bN ?_|refine bD ?_|refine bA ?_ ?_|refine bS ?_ ?_);all_goals first|exact Nat.le_refl _|(simp;done)|omega|(simp;omega)|(have z0:=Below.size hb6;omega)|(have z0:=Below.size hb6;simp at *;omega)))|exact HKEEP.out _ (by ((repeat first|exact bR _ _|with_reducible first|refine bN ?_|refine bD ?_|refine bA ?_ ?_|refine bS ?_ ?_);all_goals first|exact Nat.le_refl _|(simp;done)|omega|(simp;omega))))
        ((go_at_call 37;refine (of_any x _ hx1 hx2).mono ?_;rintro e w6 ⟨rfl,hb6⟩;(try have zc1:=Nat.lt_of_lt_of_le (show wt.heap.size<_ from (by first|(simp;done)|omega|(simp;omega))) (Below.size hb6);have fc1_0:=Below.cell hb6 (p:=⟨wt.heap.size,0,none⟩) (by first|(simp;done)|omega|(simp;omega));have gc1_0:=Below.frozen hb6 (p:=⟨wt.heap.size,0,none⟩) (by first|(simp;done)|omega|(simp;omega));have fc1_1:=Below.cell hb6 (p:=⟨wt.heap.size,1,none⟩) (by first|(simp;done)|omega|(simp;omega));have gc1_1:=Below.frozen hb6 (p:=⟨wt.heap.size,1,none⟩) (by first|(simp;done)|omega|(simp;omega));(try simp at fc1_0 gc1_0 fc1_1 gc1_1))))
      all_goals (
        rename_i hHeld
        have HB7:=Lib.hid hHeld.2.2.2
        clear hHeld
        first
          | (obtain⟨X,hX⟩:∃X,X=w6.heap.size:=⟨_,rfl⟩
             obtain⟨w7,hw7⟩:∃w7,w7=w6.alloc (.cells #[.int .i64 (ofK x),.int .i64 (ofN x)] 36):=⟨_,rfl⟩
             have hv:w7.cell? ⟨X,0,none⟩=some (.int .i64 (ofK x))/\w7.cell? ⟨X,1,none⟩=some (.int .i64 (ofN x))/\wt.heap.size<=X/\X<w7.heap.size:=by
               rw[hw7,hX]
               have:=hb6.size
               exact⟨by simp,by simp,by simpa using this,by simp⟩
             rw[<- hw7] at HB7 ⊢
             rw[<- hX]
             clear hw7 hX hb6)
          | (obtain⟨X,hX⟩:∃X,X=wt.heap.size:=⟨_,rfl⟩
             obtain⟨w7,hw7⟩:∃w7,w7=(w6.setCell ⟨wt.heap.size,0,none⟩ (.int .i64 (ofK x))).setCell ⟨wt.heap.size,1,none⟩ (.int .i64 (ofN x)):=⟨_,rfl⟩
             have hv:w7.cell? ⟨X,0,none⟩=some (.int .i64 (ofK x))/\w7.cell? ⟨X,1,none⟩=some (.int .i64 (ofN x))/\wt.heap.size<=X/\X<w7.heap.size:=by
               have:=hb6.size
               simp at this
               have c0:=hb6.cell (p:=⟨wt.heap.size,0,none⟩) (by simp)
               have c1:=hb6.cell (p:=⟨wt.heap.size,1,none⟩) (by simp)
               simp at c0 c1
               rw[hw7,hX]
               refine⟨?_,?_,Nat.le_refl _,?_⟩
               · rw[World.cell?_setCell_other _ _ _ _ (by simp),World.cell?_setCell_same _ _ _ c0]
               · rw[World.cell?_setCell_same _ _ _ (by rw[World.cell?_setCell_other _ _ _ _ (by simp)];exact c1)]
               · simp[World.setCell];omega
             rw[<- hw7] at HB7 ⊢
             simp only [<- hX]
             clear hw7 hX hb6)
        obtain⟨g0,g1,hX1,hX2⟩:=hv
        go_wp2_with fail
        obtain⟨w8,hw8⟩:∃w8,w8=w7.drew:=⟨_,rfl⟩
        have y0:w8.cell? ⟨X,0,none⟩=some (.int .i64 (ofK x)):=by rw[hw8];exact g0
        have y1:w8.cell? ⟨X,1,none⟩=some (.int .i64 (ofN x)):=by rw[hw8];exact g1
        have HB8:Hid (Below wt.heap.size wt w8):=by rw[Hid,hw8];exact HB7.out.drew
        have hX8:X<w8.heap.size:=by rw[hw8];exact hX2
        have y2:w8.cell? ⟨w.heap.size,2,none⟩=some (.int .i64 (a:Int)):=(HB8.out.cell (p:=⟨w.heap.size,2,none⟩) hA).trans HF2.out
        have HBX:=Lib.hid (HMT.out.below HB8.out).box
        have ia:(a:Int)<4:=by have:=HAA.out;omega
        clear g0 g1 hX2
        refine still_tail_at 9 (by kernel_rfl) (by kernel_rfl) hw8 ?_;simp only [List.take_succ_cons,List.take_zero,List.drop_succ_cons,List.drop_zero];clear hw8;(repeat still_step);refine wpStill_nil ?_
        have ho:2+t * 8+a * 2+(#[Value.int .i64 (ofK x),Value.int .i64 (ofN x)]:Array Value).size<=85:=by have:=HTT.out;have:=HAA.out;simp;omega
        refine wpl_storeBox rfl 36 _ _ rfl B (2+t * 8+a * 2) #[.int .i64 (ofK x),.int .i64 (ofN x)] rfl rfl (cellOf nmT (M.noteRead t p)) HBX.out ho Try.sizeVal (by simp[Value.oneCell']) ?_
        intro hbx hcg
        rw[List.toList_toArray] at hbx hcg ⊢
        obtain⟨w9,hw9⟩:∃w9,w9=w8.setCells B (2+t * 8+a * 2) [.int .i64 (ofK x),.int .i64 (ofN x)]:=⟨_,rfl⟩
        rw[<- hw9] at hbx hcg ⊢
        obtain⟨q1,q2⟩:=(HMT.out.below HB8.out).storeReg HTT.out HAA.out (ofK x,ofN x) hcg hbx
        have HM9:=Lib.hid q1
        have HW9:=Lib.hid ((HWT.out.below HB8.out HMT.out.has_lt).trans q2)
        have hXB:X≠B:=by omega
        have y3:=(hcg.cell hX8 hXB 0).1.trans y0
        have y4:=(hcg.cell hX8 hXB 1).1.trans y1
        have hAB:w.heap.size+1≠B:=by omega
        have hA8:w.heap.size+1<w8.heap.size:=by have:=HB8.out.size;omega
        have v0:=(hcg.cell hA8 hAB 0).1.trans ((HB8.out.cell (p:=⟨w.heap.size+1,0,none⟩) hA1).trans HV0.out)
        have v1:=(hcg.cell hA8 hAB 1).1.trans ((HB8.out.cell (p:=⟨w.heap.size+1,1,none⟩) hA1).trans HV1.out)
        have z0:=(hcg.cell hA8 hAB 0).2.trans ((HB8.out.frozen (p:=⟨w.heap.size+1,0,none⟩) hA1).trans HZ0.out)
        have z1:=(hcg.cell hA8 hAB 1).2.trans ((HB8.out.frozen (p:=⟨w.heap.size+1,1,none⟩) hA1).trans HZ1.out)
        have h9s:=hcg.size
        clear hbx hcg q1 q2 hw9 y0 y1 y2 ho HBX
        go_frame
        go_wp2
        have HEND:Hid (M.get t a p (kf:Int)=(M.noteRead t p).setReg t a (ofK x,ofN x)/\(M.word i)=(ofK x,ofN x)):=by
          rw[Hid]
          simp only [CM.get,CM.word,Int.toNat_natCast,HII.out]
          rw[<- HXE.out]
          exact⟨rfl,rfl⟩
        rw[HEND.out.1,HII.out,HEND.out.2]
        refine bodyPost_ret (v:=.tuple #[.agg #[.int .i64 (ofK x),.int .i64 (ofN x)],.int .i64 0]) (by simp[results,Try.results78,go_sem, *]) rfl ?_
        refine ret_more _ HM.out (show Below w.heap.size w ((w.alloc (.cells #[.int .i64 k,.int .i64 t',.int .i64 a,.int .i64 b,.int .i64 kf] 46)).alloc (.cells #[.int .i64 0,.int .i64 0] 36)) from (by ((repeat first|exact bR _ _|with_reducible first|refine bN ?_|refine bD ?_|refine bA ?_ ?_|refine bS ?_ ?_);all_goals first|exact Nat.le_refl _|(simp;done)|omega|(simp;omega)))) HM9.out HW9.out ?_
        exact (Chg.set _ _ _ _ (by simp)).trans (Chg.set _ _ _ _ (by simp))))
  · rw[if_neg hE0]
    rw[if_neg hE0] at HOBJ
    have hE2:(E != 0)=true:=by simpa using hE0
    clear hE0
    go_enter Try.func78,Try.ntmps78
    go_upto_region 2 with (go_at_call 94;refine (HOBJ.out _ (by ((repeat first|exact bR _ _|with_reducible first|refine bN ?_|refine bD ?_|refine bA ?_ ?_|refine bS ?_ ?_);all_goals first|exact Nat.le_refl _|(simp;done)|omega|(simp;omega)))).mono ?_;rintro e w1 ⟨rfl,nm1,hM1,hW1⟩;have HM1:=Lib.hid hM1;have HW1:=Lib.hid hW1;clear hM1 hW1)
    have v0:=(HW1.out.cell (k:=w.heap.size+1) (by simp) (HM.out.not_has (by omega)) 0).1
    have v1:=(HW1.out.cell (k:=w.heap.size+1) (by simp) (HM.out.not_has (by omega)) 1).1
    have z0:=(HW1.out.cell (k:=w.heap.size+1) (by simp) (HM.out.not_has (by omega)) 0).2
    have z1:=(HW1.out.cell (k:=w.heap.size+1) (by simp) (HM.out.not_has (by omega)) 1).2
    simp[go_sem] at v0 v1 z0 z1
    go_wp2
    refine bodyPost_ret (v:=.tuple #[.agg #[.int .i64 0,.int .i64 0],.int .i64 E]) (by simp[results,Try.results78,go_sem, *]) rfl ?_
    refine (ret_more _ HM.out (show Below w.heap.size w _ from (by ((repeat first|exact bR _ _|with_reducible first|refine bN ?_|refine bD ?_|refine bA ?_ ?_|refine bS ?_ ?_);all_goals first|exact Nat.le_refl _|(simp;done)|omega|(simp;omega)))) HM1.out HW1.out ?_).le (by omega)
    exact (Chg.set _ _ _ _ (by simp)).trans (Chg.set _ _ _ _ (by simp))
end Go.Proofs.Ytbeilcaadpopmab
namespace Go.Proofs.Ytbeilcaadpopmab
open Go.RowKit Go.Maps
theorem pt_self {α:Type} (f:Nat->α) (t:Nat):pt f t (f t)=f:=by
  funext k
  unfold pt
  split
  · rename_i e;rw[e]
  · rfl
theorem Mach.logged {base B:Nat} {w w1:World} {nm:Nm} {M:CM} (h:Mach base w B nm M) {t:Nat} (ht:t<4) {v':Value} {u:CU}
    (hO:OwnU w1 base v' ((M.txs t).undo++[u])) (hg:Chg (λk=>(nm.uv t).ownBlock=some k) w w1) (hn:v'.ownBlock=(nm.uv t).ownBlock\/∀k,v'.ownBlock=some k->w.heap.size<=k) :
    Mach base (w1.setCell ⟨B,34+t * 12+11,none⟩ v') B { nm with uv:=pt nm.uv t v' } (M.setTx t ((M.txs t).log u))/\Went 0 w (w1.setCell ⟨B,34+t * 12+11,none⟩ v') B nm { nm with uv:=pt nm.uv t v' }:=by
  have hB:=(h.lo .box B trivial rfl).2
  have hBu:(nm.uv t).ownBlock≠some B:=λe=>by
    have:=h.apart .box (.undo t) B trivial ht rfl e
    cases this
  have hbx:Box w1 B (cellOf nm M):=h.box.keep (hg.block B hB hBu)
  have hset:=hbx.set (o:=34+t * 12+11) (by omega) v'
  have hB1:B<w1.heap.size:=Nat.lt_of_lt_of_le hB hg.size
  have hvB:∀k,v'.ownBlock=some k->k≠B:=λk hk e=>by
    subst e
    rcases hn with hn|hn
    · exact hBu (hn ▸ hk)
    · have:=hn k hk;omega
  have hkeep:∀k,k≠B->(w1.setCell ⟨B,34+t * 12+11,none⟩ v').heap[k]? = w1.heap[k]?:=λk hk=>Below.heap_setCell _ _ _ _ hk
  have hmap:∀b N f,MapAt w b N f->(∀k,b=some k->k<w.heap.size/\k≠B/\(nm.uv t).ownBlock≠some k)->MapAt (w1.setCell ⟨B,34+t * 12+11,none⟩ v') b N f:=λb N f hm hk=>hm.keep λi hi=>(hkeep i (hk i hi).2.1).trans (hg.block i (hk i hi).1 (hk i hi).2.2)
  have q := h.newTx ht ((M.txs t).log u) (nm.rb t) (nm.ob t) v' (w' := w1.setCell ⟨B, 34 + t * 12 + 11, none⟩ v')
    ((hg.mono λk _ e=>.inr (.inr (.inr e))).trans (Chg.set _ _ _ _ (.inl rfl)))
    (fun i hi => by
      refine⟨?_,(hset i hi).2⟩
      rw[(hset i hi).1]
      congr 1
      unfold ins
      by_cases e:i=34+t * 12+11
      · subst e
        rw[if_pos rfl,if_pos (by omega),show 34+t * 12+11 - 34 - t * 12=11 by omega]
        simp[txC,pt_same]
      · rw[if_neg e]
        split
        · rename_i hr
          have:=cellOf_tx nm M ht (q:=i - 34 - t * 12) (by omega)
          rw[show 34+t * 12+(i - 34 - t * 12)=i by omega] at this
          rw[this]
          unfold txC
          simp only [pt_same]
          have:i - 34 - t * 12<11:=by omega
          by_cases e0:i - 34 - t * 12=0
          · simp[e0,CTx.log]
          · by_cases e9:i - 34 - t * 12<9
            · simp[e0,e9,CTx.log]
            · by_cases e10:i - 34 - t * 12=9
              · simp[e10]
              · have:i - 34 - t * 12=10:=by omega
                simp[this]
        · rfl)
    (hmap _ _ _ (h.part (.reads t) ht) (λk hk=>⟨(h.lo (.reads t) k ht hk).2,λe=>(by
      subst e
      have:=h.apart .box (.reads t) k trivial ht rfl hk
      cases this),λe=>(by
      have:=h.apart (.undo t) (.reads t) k ht ht e hk
      cases this)⟩))
    (hmap _ _ _ (h.part (.owned t) ht) (λk hk=>⟨(h.lo (.owned t) k ht hk).2,λe=>(by
      subst e
      have:=h.apart .box (.owned t) k trivial ht rfl hk
      cases this),λe=>(by
      have:=h.apart (.undo t) (.owned t) k ht ht e hk
      cases this)⟩))
    (hO.keep λb hb=>hkeep b (hvB b hb))
    (.inl rfl) (.inl rfl)
    (by
      rcases hn with hn|hn
      · exact .inl hn
      · exact .inr λk hk=>⟨hn k hk,by simpa using (hO.lt hk).2⟩)
    (λk hk e=>(by have:=(h.lo (.reads t) k ht e).2;omega)) (λk hk e=>(by have:=(h.lo (.reads t) k ht e).2;omega)) (λk hk e=>(by have:=(h.lo (.owned t) k ht e).2;omega))
    (h.opn t ht)
  rw[pt_self,pt_self] at q
  exact q
theorem wp_append_undo {ops:Array Oper} {o:Oper} {a:Act} {Q:Exit->Act->World->Prop} {K:Act->World->Prop} {w:World} (hg:o.guard=none) (s x:Operand)
    (ho:o.op = .call { callee:=.builtin .append,args:=#[s,x],argTypes:=#[111,111] }) (base:Nat) (v:Value) (us:List CU) (hs:a.eval s=v) (hown:OwnU w base v us)
    (sv:Value) (u:CU) (hx:a.eval x=sv) (hy:Row w sv 1 4 (cellsU [u])) (hlen:us.length<900000) (hbase:base<=w.heap.size)
    (h:∀v' w',OwnU w' base v' (us++[u])->w.grownBy w' v.ownBlock->(v'.ownBlock=v.ownBlock\/∀k,v'.ownBlock=some k->w.heap.size<=k)->K (a.put o.dst v') w') :
    (if Region.wanted o (yielded ops a.tmps) then o.wp Try.prog a w K Q else K (a.put o.dst undef) w):=by
  rw[if_pos (by simp[Region.wanted,hg])]
  obtain⟨i,hi,hz,h4,h5⟩:=info_parts Try.infoUndo
  obtain⟨v',w',hrun,h1,h2,h3,h6⟩:=run_append_row (P:=Try.prog) w base 111 o.type 151 i (.agg #[.int .i64 0,.int .i64 0,.int .i64 0,.int .i64 0]) 4 32 Try.underlying111 hi hz h4 h5 rfl (by decide) v us.length _ hown.2 sv 1 _ hy (by
      intro u' hu
      simp only [cellsU,List.flatMap_cons,List.flatMap_nil,List.append_nil,List.mem_cons,List.not_mem_nil,or_false] at hu
      rcases hu with rfl|rfl|rfl|rfl <;> rfl) (by omega) (by decide) hbase
  unfold Oper.wp
  simp[execOp,ho,resolve,invoke,builtin,hs,hx,hrun,Result.andThen]
  refine h v' w' ⟨by simp;omega,?_⟩ h2 ?_
  · rw[cellsU_append]
    simpa using h1
  · rcases h6 with h6|⟨h6,_⟩
    · exact .inl h6
    · exact .inr λk hk=>(h6.lt k hk).1
end Go.Proofs.Ytbeilcaadpopmab
namespace Go.Proofs.Ytbeilcaadpopmab
section
variable {P:Program} {ops:Array Oper} {Q:Exit->Act->World->Prop} {md:Region.Mode} {S:World->Prop} {n:Nat}
def wpAnyT (P:Program) (md:Region.Mode) (ops:Array Oper) (Q:Exit->Act->World->Prop) (S:World->Prop) (n:Nat):Nat->Array Bool->Act->World->Prop
  | 0,listed,a,w=>Region.ready md ops listed=[]/\Q .normal a w
  | fuel+1,listed,a,w =>
    (Region.ready md ops listed=[]->Q .normal a w) /\
    ∀i ∈ Region.ready md ops listed,wpOp P ops Q i (λa' w'=>(i≠n->S w')/\wpAnyT P md ops Q S n fuel (listed.setIfInBounds i true) a' w') a w
theorem wpAny_of_T:∀(fuel:Nat) (listed:Array Bool) (a:Act) (w:World),wpAnyT P md ops Q S n fuel listed a w->wpAny P md ops Q fuel listed a w
  | 0,_,_,_,h=>h
  | fuel+1,_,_,_,h=>⟨h.1,λi hi=>wpOp_mono (λa' w' h'=>wpAny_of_T fuel _ a' w' h'.2) (h.2 i hi)⟩
theorem wpAnyT_first {i:Nat} {oi:Oper} {v:Value} (hi:ops[i]? = some oi) (hsel:∀(j:Nat) (o:Oper) cs b,ops[j]? = some o->o.op≠.select cs b)
    (hQ:∀c a w,Q (.panic c) (a.put oi.dst v) w->Q (.panic c) a w) (hlast:Region.waitsFor md ops n i=true) :
    ∀ (fuel : Nat) (listed : Array Bool) (a : Act) (w : World),
      (∀j oj,ops[j]? = some oj->j≠i->listed.getD j true=false->(∀e ∈ oj.after,Region.binds md e=true->e.on≠i)->oi.apart ops oj=true) ->
      i ∈ Region.ready md ops listed->YieldsIf P ops S oi v a->S w ->
      wpAnyT P md ops Q S n fuel (listed.setIfInBounds i true) (a.put oi.dst v) w->wpAnyT P md ops Q S n (fuel+1) listed a w:=by
  intro fuel
  induction fuel with
  | zero =>
    intro listed a w _ hr hy hS H
    refine⟨λh=>(by rw[h] at hr;cases hr),λj hj=>?_⟩
    by_cases hji:j=i
    · subst hji;exact hy.wpOp hi hS ⟨λ_=>hS,H⟩
    · have:=ready_mono hj hji
      rw[H.1] at this
      cases this
  | succ fuel ih =>
    intro listed a w hfree hr hy hS H
    refine⟨λh=>(by rw[h] at hr;cases hr),λj hj=>?_⟩
    by_cases hji:j=i
    · subst hji;exact hy.wpOp hi hS ⟨λ_=>hS,H⟩
    · have h1:=H.2 j (ready_mono hj hji)
      obtain⟨hjun,oj,hoj,hall⟩:=mem_ready.1 hj
      have hnot:∀e ∈ oj.after,Region.binds md e=true->e.on≠i:=λe he hb heq=>by
        have h1:=hall e he hb
        have h0:=(mem_ready.1 hr).1
        rw[heq] at h1
        rcases Nat.lt_or_ge i listed.size with h'|h'
        · simp[h'] at h0 h1;rw[h0] at h1;cases h1
        · simp[Array.getElem?_eq_none h'] at h1
      have hjn:j≠n:=λe=>by
        subst e
        obtain⟨on,hon,e',he',hb,hei⟩:=Region.waitsFor_spec hlast
        have:on=oj:=Option.some.inj (hon.symm.trans hoj)
        subst this
        exact hnot e' he' hb hei
      have h2:=wpOp_putIf hoj (hfree j oj hoj hji hjun hnot) (λcs b=>hsel i oi cs b hi) (λcs b=>hsel j oj cs b hoj) hQ hy h1
      have hfree':∀k ok,ops[k]? = some ok->k≠i->(listed.setIfInBounds j true).getD k true=false ->
          (∀e ∈ ok.after,Region.binds md e=true->e.on≠i)->oi.apart ops ok=true:=λk ok hk hki hun hno=>by
        refine hfree k ok hk hki ?_ hno
        by_cases hjk:j=k
        · subst hjk;exact hjun
        · rw[getD_set_ne true hjk] at hun;exact hun
      refine wpOp_mono (λa' w' h3=>⟨h3.2.1,ih (listed.setIfInBounds j true) a' w' hfree' (ready_mono hr (Ne.symm hji)) h3.1 (h3.2.1 hjn) ?_⟩) h2
      rw[Array.setIfInBounds_comm _ _ hji]
      exact h3.2.2
theorem wpAnyT_take (i:Nat) {oi:Oper} {v:Value} {fuel:Nat} {listed:Array Bool} {a:Act} {w:World} (hi:ops[i]? = some oi)
    (hs:Region.noSelect ops=true) (hf:Region.free md ops listed i=true) (hr:(Region.ready md ops listed).contains i=true) (hlast:Region.waitsFor md ops n i=true)
    (hQ:∀c a w,Q (.panic c) (a.put oi.dst v) w->Q (.panic c) a w) (hS:S w) (hy:YieldsIf P ops S oi v a)
    (h:wpAnyT P md ops Q S n fuel (listed.setIfInBounds i true) (a.put oi.dst v) w):wpAnyT P md ops Q S n (fuel+1) listed a w :=
  wpAnyT_first hi (Region.noSelect_spec hs) hQ hlast fuel listed a w (Region.free_spec hi hf) (by simpa using hr) hy hS h
theorem wpAnyT_one (i:Nat) {o:Oper} {fuel:Nat} {listed:Array Bool} {a:Act} {w:World} (hi:ops[i]? = some o) (hr:Region.ready md ops listed=[i])
    (h:∀K:Act->World->Prop,Shut (∀a' w',(i≠n->S w')->((i≠n->S w')->wpAnyT P md ops Q S n fuel (listed.setIfInBounds i true) a' w')->K a' w') ->
      (if Region.wanted o (yielded ops a.tmps) then o.wp P a w K Q else K (a.put o.dst undef) w)):wpAnyT P md ops Q S n (fuel+1) listed a w:=by
  refine⟨λh0=>(by rw[hr] at h0;cases h0),λj hj=>?_⟩
  rw[hr,List.mem_singleton] at hj
  subst hj
  have h2:=h (λa' w'=>(j≠n->S w')/\wpAnyT P md ops Q S n fuel (listed.setIfInBounds j true) a' w') (λa' w' h1 h3=>⟨h1,h3 h1⟩)
  unfold wpOp
  rw[hi]
  simp only
  split
  · rename_i hw;rw[if_pos hw] at h2;exact .inl h2
  · rename_i hw;rw[if_neg hw] at h2;exact h2
theorem wpAnyT_done {listed:Array Bool} {a:Act} {w:World} (hr:Region.ready md ops listed=[]) (h:Q .normal a w) :
    ∀fuel,wpAnyT P md ops Q S n fuel listed a w
  | 0=>⟨hr,h⟩
  | _+1=>⟨λ_=>h,by rw[hr];simp⟩
theorem wp_region_T {id:Nat} {a:Act} {w w2:World} (n:Nat) (S:World->Prop) (hm:P.follows .mixedOrders=true) (hw:w2=w.drew)
    (h:wpAnyT P .any ops Q S n ops.size (Array.replicate ops.size false) a w2):(Code.region id ops true).wp P Q a w:=by
  subst hw
  exact wp_region_any hm (wpAny_of_T _ _ _ _ h)
end
end Go.Proofs.Ytbeilcaadpopmab
namespace Go.Proofs.Ytbeilcaadpopmab
open Go.RowKit Go.Maps
structure PutOk (M:CM) (t a b:Nat) (f:Int):Prop where
  fld:FieldOk M t a f
  val:I64 (M.regs t b).1 /\ -4611686018427387904<=(M.regs t b).2/\(M.regs t b).2<4611686018427387904
  few:M.going=true->M.S.length<900000/\M.gray.length<900000
  und:(M.txs t).undo.length<900000
theorem CM.takeOwn_rest (M:CM) (t p:Nat):(M.takeOwn t p).regs=M.regs/\(M.takeOwn t p).going=M.going/\(M.takeOwn t p).S=M.S/\(M.takeOwn t p).gray=M.gray/\((M.takeOwn t p).txs t).undo=(M.txs t).undo/\(M.takeOwn t p).xs.length=M.xs.length:=by
  unfold CM.takeOwn CM.setTx
  split
  · refine⟨rfl,rfl,rfl,rfl,?_,by simp⟩
    dsimp only
    rw[pt_same]
    rfl
  · exact⟨rfl,rfl,rfl,rfl,rfl,rfl⟩
set_option maxRecDepth 100000 in
set_option maxHeartbeats 2000000 in
theorem put_any (base:Nat) (w:World) (B:Nat) (nm:Nm) (M:CM) (h:Mach base w B nm M) (t a b:Nat) (ht:t<4) (ha:a<4) (hb:b<4) (k t' f:Int) (hf:I64 f) (ok:PutOk M t a b f) (hN:nm.N<900000) :
    Calls Try.prog 80 #[.pointer (some ⟨B,0,none⟩),.int .i64 (t:Int),.agg #[.int .i64 k,.int .i64 t',.int .i64 a,.int .i64 b,.int .i64 f]] w
      (if M.object t a f=0 then RetM 1 base w B nm (M.put t (M.regs t a).2.toNat f.toNat (M.regs t b)) (.int .i64 0) else RetM 1 base w B nm (M.failed t (M.object t a f)) (.int .i64 (M.object t a f))):=by
  have HM:=Lib.hid h
  have hB:=h.lt
  have i1:(t:Int)<4:=by omega
  have HOBJ:Hid (∀W,Below w.heap.size w W->Calls Try.prog 94 #[.pointer (some ⟨B,0,none⟩),.int .i64 (t:Int),.int .i64 (a:Int),.int .i64 f] W (RetM 0 base W B nm (M.failed t (M.object t a f)) (.tuple #[.int .i64 (if M.object t a f=0 then (M.regs t a).2 else 0),.int .i64 (M.object t a f)]))) :=
    λW hW=>object_any base W B nm M (h.below hW) t a ht ha f hf ok.fld.acc
  have HOK:=Lib.hid ok
  have HTT:=Lib.hid ht;have HAA:=Lib.hid ha;have HBB:=Lib.hid hb
  obtain⟨E,hE⟩:∃E,E=M.object t a f:=⟨_,rfl⟩
  rw[<- hE] at HOBJ ⊢
  have HE:=Lib.hid hE
  clear h ok hE ha hb hf
  by_cases hE0:E=0
  · subst hE0
    rw[if_pos rfl]
    rw[if_pos rfl] at HOBJ
    obtain⟨p,kf,hp,hf0,hpl,hs0⟩:=HOK.out.fld.at0 HE.out.symm
    have HP:=Lib.hid hp
    have HF:Hid (M.failed t 0=M):=by simp[Hid,CM.failed]
    rw[HF.out,hp] at HOBJ
    subst hf0
    rw[hp,Int.toNat_natCast,Int.toNat_natCast]
    clear hp HF
    go_enter Try.func80,Try.ntmps80
    go_upto_region 5 with (go_at_call 94;refine (HOBJ.out _ (by ((repeat first|exact bR _ _|with_reducible first|refine bN ?_|refine bD ?_|refine bA ?_ ?_|refine bS ?_ ?_);all_goals first|exact Nat.le_refl _|(simp;done)|omega|(simp;omega)))).mono ?_;rintro e w1 ⟨rfl,nm1,hM1,hW1⟩;have HM1:=Lib.hid hM1;have HW1:=Lib.hid hW1;clear hM1 hW1)
    have hs1:=HW1.out.chg.size
    rw[World.size_alloc] at hs1
    have HOP:Hid ((M.txs t).op=true):=by
      have:=HE.out.symm
      unfold CM.object at this
      cases ho:(M.txs t).op with
      | true=>rfl
      | false=>rw[if_pos ho] at this;cases this
    obtain⟨ob,hob⟩:∃ob,nm1.ob t=some ob:=Option.isSome_iff_exists.1 (HM1.out.opn t HTT.out HOP.out).2
    obtain⟨n,hn,hfm⟩:∃n,n<=nm1.N/\FunMap w1 ob n (M.txs t).owned:=by
      have:=HM1.out.part (.owned t) HTT.out
      simp only [Part,hob] at this
      exact this
    obtain⟨_,_,c10,_,_⟩:=HM1.out.cTx HTT.out
    rw[hob] at c10
    have HFM:=Lib.hid hfm;have HOB:=Lib.hid hob;have HN1:=Lib.hid hn
    have HPI:Hid (I64 (p:Int)):=by
      have:=(HM.out.part .words trivial:OwnInts w base nm.hv M.xs).1.2
      unfold Hid I64;omega
    clear hfm hob hn
    obtain⟨s,hs⟩:∃s,s=M.xs.getD p 0:=⟨_,rfl⟩
    obtain⟨g,c,e,hc1,hc2,hg,hgB,hcell,hfz⟩:=HM1.out.spot (by omega)
    have d0:=HM1.out.c0
    rw[e] at d0
    have hx0:=hcell p (by omega)
    have hz0:=hfz p
    rw[<- hs] at hx0 hs0
    have hle:=(HM1.out.part .words trivial:OwnInts w1 base nm1.hv M.xs).1.2
    have hsr:=(HM1.out.part .words trivial:OwnInts w1 base nm1.hv M.xs).ints.range p
    rw[<- hs] at hsr
    have hsr2:=hsr.2
    have hpc0:p<=c:=by omega
    have q0:(p:Int)<(M.xs.length:Int):=by omega
    have HSS:=Lib.hid hs;have HEE:=Lib.hid e;have HPL:=Lib.hid hpl
    clear hcell hfz e hs hpl hsr
    have HMINE:Hid (∀W,Calls Try.prog 95 #[.int .i64 (t:Int)] W (λe w'=>e = .returned (.int .i64 (2 * (t:Int)+1))/\W=w')):=λW=>(mine_any t W HTT.out).mono λe w' ⟨h1,h2⟩=>⟨h1,h2.symm⟩
    have HMINE2:Hid (∀W,Calls Try.prog 95 #[.int .i64 (t:Int)] W (λe w'=>e = .returned (.int .i64 (2 * (t:Int)+1))/\w' = W)):=λW=>mine_any t W HTT.out
    refine Or.elim (Classical.em (s=2 * t+1)) ?way2 ?way1
    case' way1=>(
      intro hst
      have hst2:(s != 2 * (t:Int)+1)=true:=by simpa using hst
      have HST:=Lib.hid hst
      clear hst
      go_quiet ((go_at_call 95;exact quiet_left (HMINE.out _)))
      go_wp2_with fail
      obtain⟨w2,hw2⟩:∃w2,w2=(w1.drewN nq).drew:=⟨_,rfl⟩
      have e0:w2.cell? ⟨B,0,none⟩=some (.slice (some ⟨g,0,none⟩) M.xs.length c):=by rw[hw2];exact d0
      have e10:w2.cell? ⟨B,34+t * 12+10,none⟩=some (.map (some ob)):=by rw[hw2];exact c10
      have ex:w2.cell? ⟨g,p,none⟩=some (.int .i64 s):=by rw[hw2];exact hx0
      have HM2:Hid (Mach base w2 B nm1 M):=by rw[Hid,hw2];exact HM1.out.below (below_drewN (Below.refl _ _) (nq+1))
      have HB2:Hid (Below w1.heap.size w1 w2):=by rw[Hid,hw2];exact below_drewN (Below.refl _ _) (nq+1)
      have HFM2:Hid (FunMap w2 ob n (M.txs t).owned):=by rw[Hid,hw2];exact HFM.out
      have HSD:Hid (s.tdiv 2=s / 2):=Int.tdiv_eq_ediv_of_nonneg hs0
      have hsd:=HSD.out
      have HSW:Hid (IntKind.i64.wrap (s / 2)=s / 2):=IntWalk.i64_in _ (by omega)
      refine still_tail_at 14 (by kernel_rfl) (by kernel_rfl) hw2 ?_;simp only [List.take_succ_cons,List.take_zero,List.drop_succ_cons,List.drop_zero];clear hw2;(repeat still_step);refine wpStill_nil ?_
      simp only [HSW.out]
      go_wp2_with (at_mapUpdate;refine wpl_funPut rfl _ _ _ rfl ob n _ rfl HFM2.out (by have:=HN1.out;have:=HW1.out.few;omega) p (s / 2) rfl HPI.out rfl (by unfold I64;omega) ?_;intro w3 hf3 hg3;have HF3:=Lib.hid hf3;have HG3:=Lib.hid hg3;clear hf3 hg3)
      obtain⟨hM3,hW3⟩:=HM2.out.noteOwn HTT.out HOB.out HN1.out HF3.out HG3.out
      have HM3:=Lib.hid hM3;have HW3:=Lib.hid hW3
      clear hM3 hW3 e0 e10 ex
      obtain⟨w4,hw4⟩:∃w4,w4=w3.drew:=⟨_,rfl⟩
      have HM4:Hid (Mach base w4 B { nm1 with N:=nm1.N+1 } (M.setTx t ((M.txs t).own p (s / 2)))):=by rw[Hid,hw4];exact HM3.out.below (below_drewN (Below.refl _ _) 1)
      have HW4:Hid (Went 1 w2 w4 B nm1 { nm1 with N:=nm1.N+1 }):=by rw[Hid,hw4];exact HW3.out.below (below_drewN (Below.refl _ _) 1) HM3.out.has_lt
      have e0:w4.cell? ⟨B,0,none⟩=some (.slice (some ⟨g,0,none⟩) M.xs.length c):=by have:=HM4.out.c0;rw[show ({ nm1 with N:=nm1.N+1 }:Nm).hv=nm1.hv from rfl,HEE.out] at this;exact this
      obtain⟨e4,ez4⟩:w4.cell? ⟨g,p,none⟩=some (.int .i64 s)/\w4.frozen? ⟨g,p,none⟩=false:=by
        obtain⟨g',c',e',_,_,_,_,k1,k2⟩:=HM4.out.spot (by show 0<M.xs.length;have:=HPL.out;omega)
        rw[show ({ nm1 with N:=nm1.N+1 }:Nm).hv=nm1.hv from rfl,HEE.out] at e'
        have eg:g=g':=by injection e' with e1;injection e1 with e1;injection e1
        subst eg
        refine⟨?_,k2 p⟩
        rw[HSS.out]
        exact k1 p (by show p<M.xs.length;have:=HPL.out;omega)
      refine still_tail_at 9 (by kernel_rfl) (by kernel_rfl) hw4 ?_;simp only [List.take_succ_cons,List.take_zero,List.drop_succ_cons,List.drop_zero];clear hw4;(repeat still_step)
      refine still_call (.int .i64 (2 * (t:Int)+1)) rfl ?hrun (HMINE2.out _) ?_
      case hrun=>go_simp
      (repeat still_step);refine wpStill_nil ?_
      go_wp2_with fail
      obtain⟨hM5,hW5⟩:=HM4.out.setWord (g:=g) (n:=M.xs.length) (c:=c) (i:=p) (x:=2 * t+1) HEE.out (by show p<M.xs.length;have:=HPL.out;omega) (by unfold I64;have:=HTT.out;omega)
      have hto:M.takeOwn t p={ M.setTx t ((M.txs t).own p (s / 2)) with xs:=M.xs.set p (2 * t+1) }:=by
        unfold CM.takeOwn
        rw[<- HSS.out,if_pos HST.out]
      have hM5':Mach base (w4.setCell ⟨g,p,none⟩ (.int .i64 (2 * t+1))) B { nm1 with N:=nm1.N+1 } (M.takeOwn t p):=by rw[hto];exact hM5
      obtain⟨wt,hwt⟩:∃wt,wt=w4.setCell ⟨g,p,none⟩ (.int .i64 (2 * t+1)):=⟨_,rfl⟩
      obtain⟨nmT,hnmT⟩:∃nmT:Nm,nmT={ nm1 with N:=nm1.N+1 }:=⟨_,rfl⟩
      have HWT:Hid (Went 1 (w.alloc (.cells #[.int .i64 k,.int .i64 t',.int .i64 a,.int .i64 b,.int .i64 kf] 46)) wt B nm nmT):=by rw[Hid,hwt,hnmT];exact (((HW1.out.below HB2.out HM1.out.has_lt).trans HW4.out).trans hW5).le (by omega)
      have HMT:Hid (Mach base wt B nmT (M.takeOwn t p)):=by rw[Hid,hwt,hnmT];exact hM5'
      rw[<- hwt]
      clear hM5 hM5' hW5 hto hwt hnmT HM2 HB2 HFM2 HSD hsd HSW HF3 HG3 HM3 HW3 HM4 HW4 e0 e4 ez4 hst2)
    case' way2=>(
      intro hst
      have hst2:(s != 2 * (t:Int)+1)=false:=by simpa using hst
      have HST:=Lib.hid hst
      clear hst
      go_quiet ((go_at_call 95;exact quiet_left (HMINE.out _)))
      go_wp2_with fail
      obtain⟨wt,hwt⟩:∃wt,wt=w1.drewN nq:=⟨_,rfl⟩
      obtain⟨nmT,hnmT⟩:∃nmT:Nm,nmT=nm1:=⟨_,rfl⟩
      have HWT:Hid (Went 1 (w.alloc (.cells #[.int .i64 k,.int .i64 t',.int .i64 a,.int .i64 b,.int .i64 kf] 46)) wt B nm nmT):=by rw[Hid,hwt,hnmT];exact (HW1.out.below (below_drewN (Below.refl _ _) nq) HM1.out.has_lt).le (by omega)
      have HMT:Hid (Mach base wt B nmT (M.takeOwn t p)):=by
        rw[Hid,hwt,hnmT,show M.takeOwn t p=M from by unfold CM.takeOwn;rw[<- HSS.out,if_neg (by intro h;exact h HST.out)]]
        exact HM1.out.below (below_drewN (Below.refl _ _) nq)
      rw[<- hwt]
      clear hwt hnmT hst2)
    all_goals (
      clear c10 d0 hx0 hz0 q0 hpc0 hc1 hc2 hg hgB hsr2 hs0 hN HOBJ HSS HEE HST HFM HOB HN1 HM1 HW1 hs1
      obtain⟨i,hi⟩:∃i,i=p+2+kf:=⟨_,rfl⟩
      obtain⟨p2,hp2⟩:∃p2,p2=p+2:=⟨_,rfl⟩
      have hpl:=HPL.out
      have wa:IntKind.i64.wrap ((p:Int)+2)=(p2:Int):=by rw[IntWalk.i64_in _ (by omega)];omega
      have wb:IntKind.i64.wrap ((p2:Int)+kf)=(i:Int):=by rw[IntWalk.i64_in _ (by omega)];omega
      obtain⟨T,hT⟩:∃T,T=M.takeOwn t p:=⟨_,rfl⟩
      obtain⟨r1,r2,r3,r4,r5,r6⟩:=CM.takeOwn_rest M t p
      rw[<- hT] at r1 r2 r3 r4 r5 r6 HMT
      have HII:Hid (p+2+kf=i):=hi.symm
      have HR1:=Lib.hid r1;have HR2:=Lib.hid r2;have HR3:=Lib.hid r3;have HR4:=Lib.hid r4;have HT:=Lib.hid hT
      have hil:i<T.xs.length:=by omega
      clear hi hp2 hpl r1 r2 r3 r4 hT
      obtain⟨g,c,e,hc1,hc2,hg,hgB,hcell,hfz⟩:=HMT.out.spot (by omega)
      have d0:=HMT.out.c0
      rw[e] at d0
      have hx:=hcell i hil
      have hxr:=(HMT.out.part .words trivial:OwnInts wt base nmT.hv T.xs).ints.range i
      obtain⟨x,hxe⟩:∃x,x=T.xs.getD i 0:=⟨_,rfl⟩
      rw[<- hxe] at hx hxr
      obtain⟨hx1,hx2⟩:=hxr
      have HXE:=Lib.hid hxe
      obtain⟨us,hus⟩:∃us,us=(T.txs t).undo:=⟨_,rfl⟩
      have hOU:OwnU wt base (nmT.uv t) us:=by rw[hus];exact HMT.out.part (.undo t) HTT.out
      obtain⟨ua,uc,huv,hc3,hc4⟩:=hOU.shape
      obtain⟨_,_,_,c11,z11⟩:=HMT.out.cTx HTT.out
      rw[huv] at c11
      have HUS:=Lib.hid hus;have HUV:=Lib.hid huv;have HOU:=Lib.hid hOU
      have HUL:Hid (us.length<900000):=by rw[Hid,hus,r5];exact HOK.out.und
      have hB2:=HMT.out.lt
      have hsz:=HWT.out.chg.size
      rw[World.size_alloc] at hsz
      have f3:=(HWT.out.cell (k:=w.heap.size) (by simp) (HM.out.not_has (by omega)) 3).1
      have f4:=(HWT.out.cell (k:=w.heap.size) (by simp) (HM.out.not_has (by omega)) 4).1
      simp[go_sem] at f3 f4
      have hic:i<=c:=by omega
      have qi:(i:Int)<(T.xs.length:Int):=by omega
      have hA:w.heap.size<wt.heap.size:=by omega
      clear r5 r6 hcell hfz e hus huv hOU hxe
      obtain⟨w8,hw8⟩:∃w8,w8=wt.drew:=⟨_,rfl⟩
      have HB8:Hid (Below wt.heap.size wt w8):=by rw[Hid,hw8];exact (Below.refl _ _).drew
      have HHK:Hid (∀W,Chg (λj=>(nmT.uv t).ownBlock=some j) wt W->W.cell? ⟨B,34+t * 12+11,none⟩=some (.slice ua us.length uc)/\W.frozen? ⟨B,34+t * 12+11,none⟩=false/\W.cell? ⟨w.heap.size,4,none⟩=some (.int .i64 (kf:Int))/\W.cell? ⟨B,0,none⟩=some (.slice (some ⟨g,0,none⟩) T.xs.length c)/\W.cell? ⟨g,i,none⟩=some (.int .i64 x)):=λW hW=>by
        have n1:¬ (nmT.uv t).ownBlock=some B:=λe=>by have:=HMT.out.apart .box (.undo t) B trivial HTT.out rfl e;cases this
        have n2:¬ (nmT.uv t).ownBlock=some w.heap.size:=λe=>HWT.out.not_has (by simp) (HM.out.not_has (Nat.le_refl _)) ⟨.undo t,HTT.out,e⟩
        have n3:¬ (nmT.uv t).ownBlock=some g:=λe=>by
          obtain⟨g',c',e',_,_,_,_,_,_⟩:=HMT.out.spot (by omega)
          have e0:=HMT.out.c0
          rw[d0] at e0
          have e1:nmT.hv = .slice (some ⟨g,0,none⟩) T.xs.length c:=(Option.some.inj e0).symm
          have:=HMT.out.apart .words (.undo t) g trivial HTT.out (by show nmT.hv.ownBlock=_;rw[e1];rfl) e
          cases this
        exact⟨(hW.cell hB2 n1 _).1.trans c11,(hW.cell hB2 n1 _).2.trans z11,(hW.cell hA n2 4).1.trans f4,(hW.cell hB2 n1 0).1.trans d0,(hW.cell hg n3 i).1.trans hx⟩
      have HF3:=Lib.hid f3
      have HF4:=Lib.hid f4
      clear c11 z11 f3 f4 d0 hx
      have hS8:(λW:World=>W.cell? ⟨B,34+t * 12+11,none⟩=some (.slice ua us.length uc)/\W.frozen? ⟨B,34+t * 12+11,none⟩=false/\W.cell? ⟨w.heap.size,4,none⟩=some (.int .i64 (kf:Int))/\W.cell? ⟨B,0,none⟩=some (.slice (some ⟨g,0,none⟩) T.xs.length c)/\W.cell? ⟨g,i,none⟩=some (.int .i64 x)) w8:=HHK.out _ (.ofBelow _ HB8.out)
      refine wp_region_T 26 (λW=>W.cell? ⟨B,34+t * 12+11,none⟩=some (.slice ua us.length uc)/\W.frozen? ⟨B,34+t * 12+11,none⟩=false/\W.cell? ⟨w.heap.size,4,none⟩=some (.int .i64 (kf:Int))/\W.cell? ⟨B,0,none⟩=some (.slice (some ⟨g,0,none⟩) T.xs.length c)/\W.cell? ⟨g,i,none⟩=some (.int .i64 x)) (by kernel_rfl) hw8 ?_
      clear hw8
      refine wpAnyT_take (v:=?_) 0 rfl (by kernel_rfl) (by kernel_rfl) (by kernel_rfl) (by kernel_rfl) (λ_ _ _ h=>h) hS8 (.inl ⟨by rfl,?_⟩) ?_
      rotate_left
      · (intro W hW;obtain⟨k1,k2,k3,k4,k5⟩:=hW;go_simp;try with_reducible rfl)
      try simp only [Act.put,List.setIfInBounds_toArray,List.set_cons_zero,List.set_cons_succ]
      refine wpAnyT_take (v:=?_) 1 rfl (by kernel_rfl) (by kernel_rfl) (by kernel_rfl) (by kernel_rfl) (λ_ _ _ h=>h) hS8 (.inl ⟨by rfl,?_⟩) ?_
      rotate_left
      · (intro W hW;obtain⟨k1,k2,k3,k4,k5⟩:=hW;go_simp;try with_reducible rfl)
      try simp only [Act.put,List.setIfInBounds_toArray,List.set_cons_zero,List.set_cons_succ]
      refine wpAnyT_take (v:=?_) 2 rfl (by kernel_rfl) (by kernel_rfl) (by kernel_rfl) (by kernel_rfl) (λ_ _ _ h=>h) hS8 (.inl ⟨by rfl,?_⟩) ?_
      rotate_left
      · (intro W hW;obtain⟨k1,k2,k3,k4,k5⟩:=hW;go_simp;try with_reducible rfl)
      try simp only [Act.put,List.setIfInBounds_toArray,List.set_cons_zero,List.set_cons_succ]
      refine wpAnyT_take (v:=?_) 3 rfl (by kernel_rfl) (by kernel_rfl) (by kernel_rfl) (by kernel_rfl) (λ_ _ _ h=>h) hS8 (.inl ⟨by rfl,?_⟩) ?_
      rotate_left
      · (intro W hW;obtain⟨k1,k2,k3,k4,k5⟩:=hW;go_simp;try with_reducible rfl)
      try simp only [Act.put,List.setIfInBounds_toArray,List.set_cons_zero,List.set_cons_succ]
      refine wpAnyT_take (v:=?_) 4 rfl (by kernel_rfl) (by kernel_rfl) (by kernel_rfl) (by kernel_rfl) (λ_ _ _ h=>h) hS8 (.inl ⟨by rfl,?_⟩) ?_
      rotate_left
      · (intro W hW;obtain⟨k1,k2,k3,k4,k5⟩:=hW;go_simp;try with_reducible rfl)
      try simp only [Act.put,List.setIfInBounds_toArray,List.set_cons_zero,List.set_cons_succ]
      refine wpAnyT_take (v:=?_) 5 rfl (by kernel_rfl) (by kernel_rfl) (by kernel_rfl) (by kernel_rfl) (λ_ _ _ h=>h) hS8 (.inl ⟨by rfl,?_⟩) ?_
      rotate_left
      · (intro W hW;obtain⟨k1,k2,k3,k4,k5⟩:=hW;go_simp;try with_reducible rfl)
      try simp only [Act.put,List.setIfInBounds_toArray,List.set_cons_zero,List.set_cons_succ]
      refine wpAnyT_take (v:=?_) 6 rfl (by kernel_rfl) (by kernel_rfl) (by kernel_rfl) (by kernel_rfl) (λ_ _ _ h=>h) hS8 (.inl ⟨by rfl,?_⟩) ?_
      rotate_left
      · (intro W hW;obtain⟨k1,k2,k3,k4,k5⟩:=hW;go_simp;try with_reducible rfl)
      try simp only [Act.put,List.setIfInBounds_toArray,List.set_cons_zero,List.set_cons_succ]
      refine wpAnyT_take (v:=?_) 7 rfl (by kernel_rfl) (by kernel_rfl) (by kernel_rfl) (by kernel_rfl) (λ_ _ _ h=>h) hS8 (.inl ⟨by rfl,?_⟩) ?_
      rotate_left
      · (intro W hW;obtain⟨k1,k2,k3,k4,k5⟩:=hW;go_simp;try with_reducible rfl)
      try simp only [Act.put,List.setIfInBounds_toArray,List.set_cons_zero,List.set_cons_succ]
      refine wpAnyT_take (v:=?_) 8 rfl (by kernel_rfl) (by kernel_rfl) (by kernel_rfl) (by kernel_rfl) (λ_ _ _ h=>h) hS8 (.inl ⟨by rfl,?_⟩) ?_
      rotate_left
      · (intro W hW;obtain⟨k1,k2,k3,k4,k5⟩:=hW;go_simp;try with_reducible rfl)
      try simp only [Act.put,List.setIfInBounds_toArray,List.set_cons_zero,List.set_cons_succ]
      refine wpAnyT_take (v:=?_) 9 rfl (by kernel_rfl) (by kernel_rfl) (by kernel_rfl) (by kernel_rfl) (λ_ _ _ h=>h) hS8 (.inl ⟨by rfl,?_⟩) ?_
      rotate_left
      · (intro W hW;obtain⟨k1,k2,k3,k4,k5⟩:=hW;go_simp;try with_reducible rfl)
      try simp only [Act.put,List.setIfInBounds_toArray,List.set_cons_zero,List.set_cons_succ]
      refine wpAnyT_take (v:=?_) 10 rfl (by kernel_rfl) (by kernel_rfl) (by kernel_rfl) (by kernel_rfl) (λ_ _ _ h=>h) hS8 (.inl ⟨by rfl,?_⟩) ?_
      rotate_left
      · (intro W hW;obtain⟨k1,k2,k3,k4,k5⟩:=hW;go_simp;try with_reducible rfl)
      try simp only [Act.put,List.setIfInBounds_toArray,List.set_cons_zero,List.set_cons_succ]
      refine wpAnyT_take (v:=?_) 11 rfl (by kernel_rfl) (by kernel_rfl) (by kernel_rfl) (by kernel_rfl) (λ_ _ _ h=>h) hS8 (.inl ⟨by rfl,?_⟩) ?_
      rotate_left
      · (intro W hW;obtain⟨k1,k2,k3,k4,k5⟩:=hW;go_simp;try with_reducible rfl)
      try simp only [Act.put,List.setIfInBounds_toArray,List.set_cons_zero,List.set_cons_succ]
      refine wpAnyT_take (v:=?_) 12 rfl (by kernel_rfl) (by kernel_rfl) (by kernel_rfl) (by kernel_rfl) (λ_ _ _ h=>h) hS8 (.inl ⟨by rfl,?_⟩) ?_
      rotate_left
      · (intro W hW;obtain⟨k1,k2,k3,k4,k5⟩:=hW;go_simp;try with_reducible rfl)
      try simp only [Act.put,List.setIfInBounds_toArray,List.set_cons_zero,List.set_cons_succ]
      refine wpAnyT_take (v:=?_) 13 rfl (by kernel_rfl) (by kernel_rfl) (by kernel_rfl) (by kernel_rfl) (λ_ _ _ h=>h) hS8 (.inl ⟨by rfl,?_⟩) ?_
      rotate_left
      · (intro W hW;obtain⟨k1,k2,k3,k4,k5⟩:=hW;go_simp;try with_reducible rfl)
      try simp only [Act.put,List.setIfInBounds_toArray,List.set_cons_zero,List.set_cons_succ]
      refine wpAnyT_take (v:=?_) 14 rfl (by kernel_rfl) (by kernel_rfl) (by kernel_rfl) (by kernel_rfl) (λ_ _ _ h=>h) hS8 (.inl ⟨by rfl,?_⟩) ?_
      rotate_left
      · (intro W hW;obtain⟨k1,k2,k3,k4,k5⟩:=hW;go_simp;try with_reducible rfl)
      try simp only [Act.put,List.setIfInBounds_toArray,List.set_cons_zero,List.set_cons_succ]
      refine wpAnyT_take (v:=?_) 15 rfl (by kernel_rfl) (by kernel_rfl) (by kernel_rfl) (by kernel_rfl) (λ_ _ _ h=>h) hS8 (.inl ⟨by rfl,?_⟩) ?_
      rotate_left
      · (intro W hW;obtain⟨k1,k2,k3,k4,k5⟩:=hW;go_simp;try with_reducible rfl)
      try simp only [Act.put,List.setIfInBounds_toArray,List.set_cons_zero,List.set_cons_succ]
      refine wpAnyT_take (v:=?_) 16 rfl (by kernel_rfl) (by kernel_rfl) (by kernel_rfl) (by kernel_rfl) (λ_ _ _ h=>h) hS8 (.inl ⟨by rfl,?_⟩) ?_
      rotate_left
      · (intro W hW;obtain⟨k1,k2,k3,k4,k5⟩:=hW;go_simp;try with_reducible rfl)
      try simp only [Act.put,List.setIfInBounds_toArray,List.set_cons_zero,List.set_cons_succ]
      refine wpAnyT_take (v:=?_) 17 rfl (by kernel_rfl) (by kernel_rfl) (by kernel_rfl) (by kernel_rfl) (λ_ _ _ h=>h) hS8 (.inl ⟨by rfl,?_⟩) ?_
      rotate_left
      · (intro W hW;obtain⟨k1,k2,k3,k4,k5⟩:=hW;go_simp;try with_reducible rfl)
      try simp only [Act.put,List.setIfInBounds_toArray,List.set_cons_zero,List.set_cons_succ]
      refine wpAnyT_take (v:=?_) 18 rfl (by kernel_rfl) (by kernel_rfl) (by kernel_rfl) (by kernel_rfl) (λ_ _ _ h=>h) hS8 (.inl ⟨by rfl,?_⟩) ?_
      rotate_left
      · (intro W hW;obtain⟨k1,k2,k3,k4,k5⟩:=hW;go_simp;try with_reducible rfl)
      try simp only [Act.put,List.setIfInBounds_toArray,List.set_cons_zero,List.set_cons_succ]
      refine wpAnyT_take (v:=?_) 19 rfl (by kernel_rfl) (by kernel_rfl) (by kernel_rfl) (by kernel_rfl) (λ_ _ _ h=>h) hS8 (.inl ⟨by rfl,?_⟩) ?_
      rotate_left
      · (intro W hW;obtain⟨k1,k2,k3,k4,k5⟩:=hW;go_simp;try with_reducible rfl)
      try simp only [Act.put,List.setIfInBounds_toArray,List.set_cons_zero,List.set_cons_succ]
      refine wpAnyT_one 20 rfl (by kernel_rfl) λK hK=>?_
      go_simp
      go_at_call 37
      refine (of_any x _ hx1 hx2).mono ?_
      rintro e w9 ⟨rfl,hb9⟩
      have HB9:Hid (Below wt.heap.size wt w9):=HB8.out.trans (hb9.mono HB8.out.size)
      go_wp2_with fail
      refine hK.out _ _ (λ_=>HHK.out _ (.ofBelow _ HB9.out)) (λhS9=>?_)
      clear hK K
      have hS9:=hS9 (by decide)
      try simp only [Act.put,List.setIfInBounds_toArray,List.set_cons_zero,List.set_cons_succ]
      refine wpAnyT_take (v:=?_) 21 rfl (by kernel_rfl) (by kernel_rfl) (by kernel_rfl) (by kernel_rfl) (λ_ _ _ h=>h) hS9 (.inl ⟨by rfl,?_⟩) ?_
      rotate_left
      · (intro W hW;go_simp;try with_reducible rfl)
      try simp only [Act.put,List.setIfInBounds_toArray,List.set_cons_zero,List.set_cons_succ]
      refine wpAnyT_one 22 rfl (by kernel_rfl) λK hK=>?_
      go_simp
      have hz9:=hb9.size
      have HB10:Hid (Below wt.heap.size wt (w9.alloc (.cells #[.int .i64 (p:Int),.int .i64 (kf:Int),.int .i64 (ofK x),.int .i64 (ofN x)] 151))):=HB9.out.alloc HB9.out.size _
      obtain⟨n9,hn9⟩:∃n9,n9=w9.heap.size:=⟨_,rfl⟩
      have hrow:=row_undo w9 ⟨p,kf,(ofK x,ofN x)⟩ hn9
      obtain⟨w10,hw10⟩:∃w10,w10=w9.alloc (.cells #[.int .i64 (p:Int),.int .i64 (kf:Int),.int .i64 (ofK x),.int .i64 (ofN x)] 151):=⟨_,rfl⟩
      have hrow':Row w10 (.slice (some ⟨n9,0,none⟩) 1 1) 1 4 (cellsU [⟨p,kf,(ofK x,ofN x)⟩]):=by rw[hw10];exact hrow
      have HRW:=Lib.hid hrow'
      rw[<- hw10] at HB10 ⊢
      clear hrow hrow' hw10
      refine hK.out _ _ (λ_=>HHK.out _ (.ofBelow _ HB10.out)) (λhS10=>?_)
      clear hK K
      have hS10:=hS10 (by decide)
      try simp only [Act.put,List.setIfInBounds_toArray,List.set_cons_zero,List.set_cons_succ]
      rw[<- hn9]
      have HM10:Hid (Mach base w10 B nmT T):=HMT.out.below HB10.out
      refine wpAnyT_one 23 rfl (by kernel_rfl) λK hK=>?_
      refine wp_append_undo rfl _ _ rfl base (.slice ua us.length uc) us rfl (by have:=HOU.out.keep (w':=w10) (λb hb=>HB10.out.block b (HMT.out.lo (.undo t) b HTT.out hb).2);rw[HUV.out] at this;exact this) _ ⟨p,kf,(ofK x,ofN x)⟩ rfl HRW.out HUL.out HM10.out.base_le ?_
      intro v' w11 hO hg11 hn11
      have HC11:Hid (Chg (λj=>(nmT.uv t).ownBlock=some j) w10 w11):=Chg.ofGrown _ hg11 λj e=>by rw[HUV.out];exact e.symm ▸ rfl
      refine hK.out _ _ (λ_=>HHK.out _ ((Chg.ofBelow _ HB10.out).trans HC11.out)) (λhS11=>?_)
      clear hK K
      have hS11:=hS11 (by decide)
      try simp only [Act.put,List.setIfInBounds_toArray,List.set_cons_zero,List.set_cons_succ]
      refine wpAnyT_one 24 rfl (by kernel_rfl) λK hK=>?_
      go_simp
      refine hK.out _ _ (λ_=>hS11) (λ_=>?_)
      clear hK K
      try simp only [Act.put,List.setIfInBounds_toArray,List.set_cons_zero,List.set_cons_succ]
      refine wpAnyT_one 25 rfl (by kernel_rfl) λK hK=>?_
      go_simp
      refine hK.out _ _ (λ_=>hS11) (λ_=>?_)
      clear hK K
      try simp only [Act.put,List.setIfInBounds_toArray,List.set_cons_zero,List.set_cons_succ]
      have HO11:=Lib.hid hO;have HN11:=Lib.hid hn11
      obtain⟨k1,k2,_,_,_⟩:=hS11
      obtain⟨va,vc,hv',_,_⟩:=hO.shape
      subst hv'
      clear hO hn11 hg11
      refine wpAnyT_one 26 rfl (by kernel_rfl) λK hK=>?_
      go_simp
      refine hK.out _ _ (λh=>absurd rfl h) (λ_=>?_)
      clear hK K
      try simp only [Act.put,List.setIfInBounds_toArray,List.set_cons_zero,List.set_cons_succ]
      refine wpAnyT_done (by kernel_rfl) ?_ _
      have HLG:Hid (T.setTx t ((T.txs t).log ⟨p,kf,(ofK x,ofN x)⟩)=(M.takeOwn t p).log t p kf):=by
        rw[Hid,<- HT.out]
        unfold CM.log CM.word
        rw[HII.out,<- HXE.out]
      obtain⟨q1,q2⟩:=HM10.out.logged HTT.out (v':=.slice va (us.length+1) vc) (u:=⟨p,kf,(ofK x,ofN x)⟩) (by rw[<- HUS.out];have:=HO11.out;rw[List.length_append] at this;exact this) HC11.out (by rw[HUV.out];have:=HN11.out;simp only [List.length_append] at this;exact this)
      rw[HLG.out] at q1
      obtain⟨nmL,hnmL⟩:∃nmL:Nm,nmL={ nmT with uv:=pt nmT.uv t (.slice va (us.length+1) vc) }:=⟨_,rfl⟩
      rw[<- hnmL] at q1 q2
      obtain⟨w12,hw12⟩:∃w12,w12=w11.setCell ⟨B,34+t * 12+11,none⟩ (.slice va (us.length+1) vc):=⟨_,rfl⟩
      rw[<- hw12] at q1 q2 ⊢
      have HM12:=Lib.hid q1
      have HW12:=Lib.hid ((HWT.out.below HB10.out HMT.out.has_lt).trans q2)
      clear q1 q2 hnmL hw12 HLG HO11 HN11 HC11 k1 k2 HRW hz9 hb9 HB9 hS9 hS10 hS8 hx1 hx2 hic qi hc1 hc2 hc3 hc4
      go_wp2_with fail
      obtain⟨w13,hw13⟩:∃w13,w13=w12.drew:=⟨_,rfl⟩
      have HM13:Hid (Mach base w13 B nmL ((M.takeOwn t p).log t p kf)):=by rw[Hid,hw13];exact HM12.out.below (Below.refl _ _).drew
      have HW13:=Lib.hid (HW12.out.below (w'':=w13) (by rw[hw13];exact (Below.refl _ _).drew) HM12.out.has_lt)
      have f3:=(HW13.out.cell (k:=w.heap.size) (by simp) (HM.out.not_has (by omega)) 3).1
      have f4:=(HW13.out.cell (k:=w.heap.size) (by simp) (HM.out.not_has (by omega)) 4).1
      simp[go_sem] at f3 f4
      have ib:(b:Int)<4:=by have:=HBB.out;omega
      have hrg:((M.takeOwn t p).log t p kf).regs=M.regs:=(show ((M.takeOwn t p).log t p kf).regs=(M.takeOwn t p).regs from rfl).trans (HT.out ▸ HR1.out)
      have HL:Hid (w13.rangeAt B (2+t * 8+b * 2) [.int .i64 (M.regs t b).1,.int .i64 (M.regs t b).2]):=HM13.out.box.range _ _ (by have:=HTT.out;have:=HBB.out;simp;omega) (λj hj=>by
        obtain⟨e1,e2⟩:=cellOf_reg nmL ((M.takeOwn t p).log t p kf) HTT.out HBB.out
        rw[hrg] at e1 e2
        have hj2:j=0\/j=1:=by simp at hj;omega
        rcases hj2 with rfl|rfl
        · exact e1
        · exact e2)
      clear hrg
      refine still_tail_at 13 (by kernel_rfl) (by kernel_rfl) hw13 ?_;simp only [List.take_succ_cons,List.take_zero,List.drop_succ_cons,List.drop_zero];clear hw13;(repeat (first|(refine still_loadBox rfl _ _ rfl B (2+t * 8+b * 2) rfl _ HL.out _ Try.underlying36 rfl Try.sizeVal ?_)|still_step));refine wpStill_nil ?_
      have HST:Hid (Calls Try.prog 93 #[.pointer (some ⟨B,0,none⟩),.int .i64 (p:Int),.int .i64 (kf:Int),.agg #[.int .i64 (M.regs t b).1,.int .i64 (M.regs t b).2]] w13 (RetM 0 base w13 B nmL (M.put t p kf (M.regs t b)) (.tuple #[]))) :=
        store_any base w13 B nmL ((M.takeOwn t p).log t p kf) HM13.out p kf (M.regs t b) (by rw[HII.out];show i<(M.takeOwn t p).xs.length;rw[<- HT.out];exact hil) HOK.out.val.1 HOK.out.val.2.1 HOK.out.val.2.2 (λhgo=>by
          have hgo':(M.takeOwn t p).going=true:=hgo
          have h2:=HOK.out.few (by rw[<- HR2.out,HT.out];exact hgo')
          show (M.takeOwn t p).S.length<900000/\(M.takeOwn t p).gray.length<900000
          rw[<- HT.out,HR3.out,HR4.out]
          exact h2)
      go_wp2_with (go_at_call 93;refine HST.out.mono ?_;rintro e w14 ⟨rfl,nm14,hM14,hW14⟩;have HM14:=Lib.hid hM14;have HW14:=Lib.hid hW14;clear hM14 hW14)
      refine bodyPost_ret (v:=.int .i64 0) (by simp[results,Try.results80,go_sem, *]) rfl ?_
      exact (show RetM (1+0+0) base w B nm _ _ _ _ from ⟨rfl,nm14,HM14.out,(HW13.out.trans HW14.out).after (show Below w.heap.size w _ from (by ((repeat first|exact bR _ _|with_reducible first|refine bN ?_|refine bD ?_|refine bA ?_ ?_|refine bS ?_ ?_);all_goals first|exact Nat.le_refl _|(simp;done)|omega|(simp;omega))))⟩).le (by omega))
  · rw[if_neg hE0]
    rw[if_neg hE0] at HOBJ
    have hE2:(E != 0)=true:=by simpa using hE0
    clear hE0
    go_enter Try.func80,Try.ntmps80
    go_wp2_with (go_at_call 94;refine (HOBJ.out _ (by ((repeat first|exact bR _ _|with_reducible first|refine bN ?_|refine bD ?_|refine bA ?_ ?_|refine bS ?_ ?_);all_goals first|exact Nat.le_refl _|(simp;done)|omega|(simp;omega)))).mono ?_;rintro e w1 ⟨rfl,nm1,hM1,hW1⟩;have HM1:=Lib.hid hM1;have HW1:=Lib.hid hW1;clear hM1 hW1)
    refine bodyPost_ret (v:=.int .i64 E) (by simp[results,Try.results80,go_sem, *]) rfl ?_
    exact (show RetM 0 base w B nm _ _ _ _ from ⟨rfl,nm1,HM1.out,HW1.out.after (by ((repeat first|exact bR _ _|with_reducible first|refine bN ?_|refine bD ?_|refine bA ?_ ?_|refine bS ?_ ?_);all_goals first|exact Nat.le_refl _|(simp;done)|omega|(simp;omega)))⟩).le (by omega)
end Go.Proofs.Ytbeilcaadpopmab
namespace Go.Proofs.Ytbeilcaadpopmab
open Go.RowKit Go.Maps
structure CommitOk (M:CM) (t:Nat):Prop where
  ab:(M.txs t).op=true->AbortOk M t
  reads:∀p v,(M.txs t).reads p=some v->0<=p/\p<M.xs.length/\0<=M.xs.getD p.toNat 0
def RetCommit (base:Nat) (w:World) (B:Nat) (nm:Nm) (M:CM) (t:Nat) (e:Ending) (w':World):Prop :=
  ((M.txs t).op=false/\RetM 0 base w B nm M (.int .i64 5) e w')\/((M.txs t).op=true/\M.Fits t/\RetM 0 base w B nm (M.done t) (.int .i64 0) e w')\/((M.txs t).op=true/\¬ M.Fits t/\RetM 0 base w B nm (M.abort t) (.int .i64 6) e w')
set_option maxRecDepth 100000 in
set_option maxHeartbeats 2000000 in
theorem commit_any (base:Nat) (w:World) (B:Nat) (nm:Nm) (M:CM) (h:Mach base w B nm M) (t:Nat) (ht:t<4) (ok:CommitOk M t) :
    Calls Try.prog 75 #[.pointer (some ⟨B,0,none⟩),.int .i64 (t:Int)] w (RetCommit base w B nm M t):=by
  obtain⟨c0,c9,c10,c11,z11⟩:=h.cTx ht
  have HM:=Lib.hid h;have HOK:=Lib.hid ok
  have hB:=h.lt
  have i1:(t:Int)<4:=by omega
  have HTT:=Lib.hid ht
  cases ho:(M.txs t).op with
  | false =>
    have HO:=Lib.hid ho
    rw[ho] at c0
    clear h ok ht ho c9 c10 c11 z11
    go_enter Try.func75,Try.ntmps75
    go_wp2
    refine bodyPost_ret (v:=.int .i64 5) (by simp[results,Try.results75,go_sem, *]) rfl (.inl ⟨HO.out,?_⟩)
    exact HM.out.after (by ((repeat first|exact bR _ _|with_reducible first|refine bN ?_|refine bD ?_|refine bA ?_ ?_|refine bS ?_ ?_);all_goals first|exact Nat.le_refl _|(simp;done)|omega|(simp;omega))) _
  | true =>
    have HO:=Lib.hid ho
    rw[ho] at c0
    obtain⟨rb,hrb⟩:∃rb,nm.rb t=some rb:=Option.isSome_iff_exists.1 (h.opn t ht ho).1
    obtain⟨ob,hob⟩:∃ob,nm.ob t=some ob:=Option.isSome_iff_exists.1 (h.opn t ht ho).2
    obtain⟨f,hf⟩:∃f,f=(M.txs t).reads:=⟨_,rfl⟩
    obtain⟨fo,hfo⟩:∃fo,fo=(M.txs t).owned:=⟨_,rfl⟩
    obtain⟨n,hn,hfm⟩:∃n,n<=nm.N/\FunMap w rb n f:=by
      have:=h.part (.reads t) ht
      simp only [Part,hrb] at this
      rw[hf];exact this
    obtain⟨n2,hn2,hfm2⟩:∃n,n<=nm.N/\FunMap w ob n fo:=by
      have:=h.part (.owned t) ht
      simp only [Part,hob] at this
      rw[hfo];exact this
    rw[hrb] at c9
    rw[hob] at c10
    have HF:=Lib.hid hf;have HFO:=Lib.hid hfo;have HFM:=Lib.hid hfm;have HFM2:=Lib.hid hfm2;have HRB:=Lib.hid hrb;have HOB:=Lib.hid hob
    have HRP:Hid (∀(p v:Int),f p=some v->0<=p/\p<M.xs.length/\0<=M.xs.getD p.toNat 0):=by rw[Hid,hf];exact ok.reads
    have HAB:=Lib.hid (ok.ab ho)
    clear h ok ht ho c11 z11 hf hfo hfm hfm2 hrb hob hn hn2
    go_enter Try.func75,Try.ntmps75
    go_wp2_with (at_range;refine wpl_rangeFun rfl _ rfl rb n f rfl HFM.out ?_;intro w2 cnt hrg hg2 hs2)
    go_frame
    obtain⟨r,hr⟩:∃r,r=w.heap.size:=⟨_,rfl⟩
    rw[<- hr] at hrg hs2 ⊢
    have HR:=Lib.hid hr
    have HW2:Hid (Below w.heap.size w w2):=below_of_grown hg2
    have hM2:Mach base w2 B nm M:=HM.out.below HW2.out
    have hW2:Went 0 w w2 B nm nm:=(Went.refl w B nm).below HW2.out HM.out.has_lt
    have hrg2:=hrg
    clear hr hg2 hrg c0 c9
    go_loopw [6] (λu6 wx=>∃(todo:Int->Bool) (cnt':Nat),FunRange wx rb r n f todo cnt'/\Mach base wx B nm M/\Went 0 w wx B nm nm/\r<wx.heap.size/\(∀x v,f x=some v->todo x=false->M.nowOf t x=v)) (λ_ wx=>wx.rangeLeft rb r)
    case atStart=>exact⟨_,cnt,hrg2,hM2,hW2,by omega,λx v hx ht2=>by rw[hx] at ht2;cases ht2⟩
    case round =>
      obtain⟨todo,cnt',hrg3,hM3,hW3,hr3,hfit⟩:=hrel
      have HRG3:=Lib.hid hrg3;have HM3:=Lib.hid hM3;have HW3:=Lib.hid hW3;have HFIT:=Lib.hid hfit
      clear hrg3 hM3 hW3 hM2 hW2 hrg2 hfit c10
      have hB3:=HM3.out.lt
      go_wp2_with (at_next;refine wpl_nextFun rfl _ rfl rb r n cnt' f todo rfl HRG3.out ?_ ?_)
      · intro hdone
        have HFITS:Hid (M.Fits t):=λp v hp=>HFIT.out p v (by rw[HF.out];exact hp) (hdone p)
        clear hdone HRG3 HFIT
        obtain⟨_,_,d10,_,_⟩:=HM3.out.cTx HTT.out
        rw[HOB.out] at d10
        obtain⟨n3,hn3,hfm3⟩:∃n,n<=nm.N/\FunMap wr ob n fo:=by
          have:=HM3.out.part (.owned t) HTT.out
          simp only [Part,HOB.out] at this
          rw[HFO.out];exact this
        have HFM3:=Lib.hid hfm3
        clear hfm3 hn3
        go_wp2_with (at_range;refine wpl_rangeFun rfl _ rfl ob n3 fo rfl HFM3.out ?_;intro w5 cnt5 hrg5 hg5 hs5)
        go_frame
        obtain⟨r2,hr2⟩:∃r2,r2=wr.heap.size:=⟨_,rfl⟩
        rw[<- hr2] at hrg5 hs5 ⊢
        have HR2:=Lib.hid hr2
        have HW5:Hid (Below wr.heap.size wr w5):=below_of_grown hg5
        obtain⟨ff,hff⟩:∃ff:Int->Option Int,ff=λp=>(fo p).map (λv=>2 * (v+1)):=⟨_,rfl⟩
        have HFF:=Lib.hid hff
        have hMw5:Mach base w5 B nm { M with xs:=redoP M.xs ff (λx=>(fo x).isSome) }:=by
          rw[redoP_start _ _ _ (λx=>by rw[hff];simp)]
          exact HM3.out.below HW5.out
        have hWw5:Went 0 w w5 B nm nm:=HW3.out.below HW5.out HM3.out.has_lt
        have hrg5':=hrg5
        have hs35:=HW3.out.chg.size
        clear hff hr2 hg5 hrg5
        go_loopw [11] (λu7 wx=>∃(todo:Int->Bool) (cnt':Nat),FunRange wx ob r2 n3 fo todo cnt'/\Mach base wx B nm { M with xs:=redoP M.xs ff todo }/\Went 0 w wx B nm nm/\r2<wx.heap.size) (λ_ wx=>wx.rangeLeft ob r2)
        case atStart=>exact⟨_,cnt5,hrg5',hMw5,hWw5,by omega⟩
        case round =>
          obtain⟨todo6,cnt6,hrg6,hM6,hW6,hr6⟩:=hrel
          have HRG6:=Lib.hid hrg6;have HM6:=Lib.hid hM6;have HW6:=Lib.hid hW6
          clear hrg6 hM6 hW6 hMw5 hWw5 hrg5'
          go_wp2_with (at_next;refine wpl_nextFun rfl _ rfl ob r2 n3 cnt6 fo todo6 rfl HRG6.out ?_ ?_)
          · intro hdone
            have HMd:Hid (Mach base wr B nm { M with xs:=redo M.xs ff }):=by have:=HM6.out;rwa [redoP_end _ _ _ hdone] at this
            clear hdone HRG6 HM6
            go_wp2_with (go_at_call 92;refine (end_any base _ B nm _ HMd.out t HTT.out).mono ?_;rintro e w7 ⟨rfl,nm7,hM7,hW7⟩;have HM7:=Lib.hid hM7;have HW7:=Lib.hid hW7;clear hM7 hW7)
            have e7:({ M with xs:=redo M.xs ff }:CM).shut t=M.done t:=by
              unfold CM.done CM.shut
              rw[HFF.out,HFO.out]
            have h7:=HM7.out
            rw[e7] at h7
            exact bodyPost_ret (v:=.int .i64 0) (by simp[results,Try.results75,go_sem, *]) rfl (.inr (.inl ⟨HO.out,HFITS.out,rfl,_,h7,HW6.out.trans HW7.out⟩))
          · intro x y w4 cnt4 hxI hyI htodo hfx hrg4 hlt hg4 hs4 hen
            obtain⟨o1,o2,o3,o4⟩:=HAB.out.owned x y (by rw[<- HFO.out];exact hfx)
            obtain⟨p,rfl⟩:∃p:Nat,x=(p:Int):=⟨x.toNat,by omega⟩
            have hpl:p<(redoP M.xs ff todo6).length:=by rw[redoP_len];omega
            have hM4:Mach base w4 B nm { M with xs:=redoP M.xs ff todo6 }:=HM6.out.other (.ofGrown _ hg4 λi e=>by
              cases e
              intro hn
              have:=HM3.out.has_lt _ hn
              have:=HR2.out
              omega)
            obtain⟨g,c4,e4,hc41,hc42,hg4s,hgB,hcell4,hfz4⟩:=hM4.spot (Nat.lt_of_le_of_lt (Nat.zero_le p) hpl)
            dsimp only at e4 hc41 hcell4
            have d0:=hM4.c0
            have dx:=hcell4 p hpl
            have dz:=hfz4 p
            have b4:p<=c4:=by omega
            rw[e4] at d0
            have q5:(p:Int)<((redoP M.xs ff todo6).length:Int):=by omega
            have hgr:g≠r2:=λe=>by
              have:=HM3.out.has_lt g ⟨.words,trivial,by show nm.hv.ownBlock=_;rw[e4];rfl⟩
              have:=HR2.out
              omega
            have hgb:g≠ob:=λe=>by
              have:=HM3.out.apart .words (.owned t) g trivial HTT.out (by show nm.hv.ownBlock=_;rw[e4];rfl) (by rw[e];exact HOB.out)
              cases this
            have wy1:IntKind.i64.wrap (y+1)=y+1:=IntWalk.i64_in _ (by omega)
            have wy:IntKind.i64.wrap (2 * (y+1))=2 * (y+1):=IntWalk.i64_in _ (by omega)
            have HM4:=Lib.hid hM4;have HRG4:=Lib.hid hrg4;have HFX:=Lib.hid hfx;have HE4:=Lib.hid e4;have HG4:=Lib.hid hg4
            clear hM4 hrg4 hfx e4 hg4 hcell4 hfz4 hxI hyI htodo
            go_wp2_with fail
            go_roundw
            case rel =>
              obtain⟨q1,q2⟩:=HM4.out.setWord (x:=2 * (y+1)) HE4.out hpl (by unfold I64;omega)
              refine⟨_,cnt4,HRG4.out.keep (Below.heap_setCell _ _ _ _ (λe:ob=g=>hgb e.symm)) (Below.heap_setCell _ _ _ _ (λe:r2=g=>hgr e.symm)),?_,?_,by simp[World.setCell];omega⟩
              · have e5:(redoP M.xs ff todo6).set p (2 * (y+1))=redoP M.xs ff (strike todo6 (p:Int)):=redoP_step _ _ _ _ _ (by rw[<- redoP_len M.xs ff todo6];exact hpl) (by rw[HFF.out];show Option.map _ (fo (p:Int))=_;rw[HFX.out];rfl)
                dsimp only at q1
                rw[e5] at q1
                exact q1
              · have hrr:=HR2.out
                exact (HW6.out.newer (.ofGrown _ HG4.out λi e=>by cases e;omega)).trans q2
            case measure =>
              rw[(HRG4.out.keep (w':=w4.setCell ⟨g,p,none⟩ (.int .i64 (2 * (y+1)))) (Below.heap_setCell _ _ _ _ (λe:ob=g=>hgb e.symm)) (Below.heap_setCell _ _ _ _ (λe:r2=g=>hgr e.symm))).left_eq,HRG6.out.left_eq]
              exact hlt
      · intro x y w4 cnt4 hxI hyI htodo hfx hrg4 hlt hg4 hs4 hen
        obtain⟨o1,o2,o3⟩:=HRP.out x y hfx
        obtain⟨p,rfl⟩:∃p:Nat,x=(p:Int):=⟨x.toNat,by omega⟩
        rw[Int.toNat_natCast] at o3
        have hpl:p<M.xs.length:=by omega
        have hM4:Mach base w4 B nm M:=HM3.out.other (.ofGrown _ hg4 λi e=>by
          cases e
          intro hn
          have:=HM.out.has_lt _ hn
          have:=HR.out
          omega)
        have hW4:Went 0 w w4 B nm nm:=HW3.out.newer (.ofGrown _ hg4 λi e=>by
          cases e
          have:=HR.out
          omega)
        obtain⟨g,c4,e4,hc41,hc42,hg4s,hgB,hcell4,hfz4⟩:=hM4.spot (Nat.lt_of_le_of_lt (Nat.zero_le p) hpl)
        have d0:=hM4.c0
        have dx:=hcell4 p hpl
        rw[e4] at d0
        have b4:p<=c4:=by omega
        have q5:(p:Int)<(M.xs.length:Int):=by omega
        have hle:=(hM4.part .words trivial:OwnInts w4 base nm.hv M.xs).1.2
        obtain⟨s,hs⟩:∃s,s=M.xs.getD p 0:=⟨_,rfl⟩
        have hsr:=(hM4.part .words trivial:OwnInts w4 base nm.hv M.xs).ints.range p
        rw[<- hs] at dx o3 hsr
        have hsr2:=hsr.2
        obtain⟨_,_,d10,_,_⟩:=hM4.cTx HTT.out
        rw[HOB.out] at d10
        obtain⟨n3,hn3,hfm3⟩:∃n,n<=nm.N/\FunMap w4 ob n fo:=by
          have:=hM4.part (.owned t) HTT.out
          simp only [Part,HOB.out] at this
          rw[HFO.out];exact this
        have HFM3:=Lib.hid hfm3
        have HPI:Hid (I64 (p:Int)):=by unfold Hid I64;omega
        have hsd:s.tdiv 2=s / 2:=Int.tdiv_eq_ediv_of_nonneg o3
        have hsw:IntKind.i64.wrap (s / 2)=s / 2:=IntWalk.i64_in _ (by omega)
        obtain⟨now,hnow⟩:∃now,now=M.nowOf t p:=⟨_,rfl⟩
        have HNOW:Hid ((∃was,fo p=some was/\now=was)\/(fo p=none/\bits BinOp.and IntKind.i64 s 1=1/\now = -1)\/(fo p=none/\bits BinOp.and IntKind.i64 s 1=0/\now=s / 2)):=by
          rw[Hid,hnow,and_one_i64]
          unfold CM.nowOf
          rw[<- HFO.out,Int.toNat_natCast,<- hs]
          cases fo p with
          | some was=>exact .inl ⟨was,rfl,rfl⟩
          | none =>
            by_cases e:s % 2=1
            · exact .inr (.inl ⟨rfl,e,by simp[e]⟩)
            · exact .inr (.inr ⟨rfl,by omega,by simp[e]⟩)
        have HM4:=Lib.hid hM4;have HRG4:=Lib.hid hrg4;have HFX:=Lib.hid hfx;have HW4:=Lib.hid hW4;have HNW:=Lib.hid hnow
        have hB4:=hM4.lt
        clear hM4 hrg4 hfx e4 hg4 hcell4 hfz4 hxI hyI htodo hW4 hnow hs hfm3 hn3 hsr o1 o2 hc41 hc42
        by_cases hv:now=y
        · have hv2:(now != y)=false:=by simpa using hv
          have HV:=Lib.hid hv
          clear hv
          refine Or.elim HNOW.out ?w1 (λh=>Or.elim h ?w2 ?w3)
          case' w1=>(
            rintro ⟨was,hox,rfl⟩
            go_wp2_with (at_lookup;refine wpl_funLookOk rfl _ _ rfl ob n3 _ rfl HFM3.out p rfl HPI.out ?_;rw[hox]))
          case' w2=>(
            rintro ⟨hox,hb1,rfl⟩
            go_wp2_with (at_lookup;refine wpl_funLookOk rfl _ _ rfl ob n3 _ rfl HFM3.out p rfl HPI.out ?_;rw[hox]))
          case' w3=>(
            rintro ⟨hox,hb1,rfl⟩
            go_wp2_with (at_lookup;refine wpl_funLookOk rfl _ _ rfl ob n3 _ rfl HFM3.out p rfl HPI.out ?_;rw[hox]))
          all_goals (
            go_roundw
            case rel =>
              refine⟨_,cnt4,HRG4.out,HM4.out,HW4.out,by omega,λx v hx ht2=>?_⟩
              by_cases e:x=(p:Int)
              · subst e
                have:=HFX.out
                rw[hx] at this
                rw[<- HNW.out,HV.out]
                exact (Option.some.inj this).symm
              · refine HFIT.out x v hx ?_
                have h9:(todo x && !decide (x=(p:Int)))=false:=ht2
                simpa [e] using h9
            case measure =>
              rw[HRG4.out.left_eq,HRG3.out.left_eq]
              exact hlt)
        · have hv2:(now != y)=true:=by simpa using hv
          have HV:=Lib.hid hv
          clear hv
          have HNF:Hid (¬ M.Fits t):=λhh=>HV.out (HNW.out.trans (hh p y (by rw[<- HF.out];exact HFX.out)))
          refine Or.elim HNOW.out ?x1 (λh=>Or.elim h ?x2 ?x3)
          case' x1=>(
            rintro ⟨was,hox,rfl⟩
            go_wp2_with (first|(at_lookup;refine wpl_funLookOk rfl _ _ rfl ob n3 _ rfl HFM3.out p rfl HPI.out ?_;rw[hox])|(go_at_call 76;refine (abort_any base _ B nm M HM4.out t HTT.out HAB.out).mono ?_;rintro e w6 ⟨rfl,nm6,hM6,hW6⟩;have HM6:=Lib.hid hM6;have HW6:=Lib.hid hW6;clear hM6 hW6)))
          case' x2=>(
            rintro ⟨hox,hb1,rfl⟩
            go_wp2_with (first|(at_lookup;refine wpl_funLookOk rfl _ _ rfl ob n3 _ rfl HFM3.out p rfl HPI.out ?_;rw[hox])|(go_at_call 76;refine (abort_any base _ B nm M HM4.out t HTT.out HAB.out).mono ?_;rintro e w6 ⟨rfl,nm6,hM6,hW6⟩;have HM6:=Lib.hid hM6;have HW6:=Lib.hid hW6;clear hM6 hW6)))
          case' x3=>(
            rintro ⟨hox,hb1,rfl⟩
            go_wp2_with (first|(at_lookup;refine wpl_funLookOk rfl _ _ rfl ob n3 _ rfl HFM3.out p rfl HPI.out ?_;rw[hox])|(go_at_call 76;refine (abort_any base _ B nm M HM4.out t HTT.out HAB.out).mono ?_;rintro e w6 ⟨rfl,nm6,hM6,hW6⟩;have HM6:=Lib.hid hM6;have HW6:=Lib.hid hW6;clear hM6 hW6)))
          all_goals exact bodyPost_ret (v:=.int .i64 6) (by simp[results,Try.results75,go_sem, *]) rfl (.inr (.inr ⟨HO.out,HNF.out,rfl,nm6,HM6.out,HW4.out.trans HW6.out⟩))
end Go.Proofs.Ytbeilcaadpopmab
namespace Go.Proofs.Ytbeilcaadpopmab
open Go.RowKit Go.Maps
theorem Mach.newHeap {base B:Nat} {w w1:World} {nm:Nm} {M:CM} (h:Mach base w B nm M) (hb:Below w.heap.size w w1) {v':Value} {xs':List Int} {top':Nat} (hO:OwnInts w1 w.heap.size v' xs') :
    Mach base ((w1.setCell ⟨B,0,none⟩ v').setCell ⟨B,1,none⟩ (.int .i64 (top':Int))) B { nm with hv:=v' } { M with xs:=xs',top:=top' }/\Went 0 w ((w1.setCell ⟨B,0,none⟩ v').setCell ⟨B,1,none⟩ (.int .i64 (top':Int))) B nm { nm with hv:=v' }:=by
  have hB:=(h.lo .box B trivial rfl).2
  have hbs:=h.base_le
  have hvB:∀k,v'.ownBlock=some k->w.heap.size<=k/\k<w1.heap.size:=λk hk=>hO.2.lt k hk
  have hkeep:∀k,k≠B->((w1.setCell ⟨B,0,none⟩ v').setCell ⟨B,1,none⟩ (.int .i64 (top':Int))).heap[k]? = w1.heap[k]?:=λk hk=>(Below.heap_setCell _ _ _ _ hk).trans (Below.heap_setCell _ _ _ _ hk)
  refine h.upd (λi=>i = .box\/i = .words) 0 (Nat.le_refl _) (((Chg.ofBelow _ hb).trans (Chg.set _ _ _ _ ⟨.box,trivial,.inl rfl,rfl⟩)).trans (Chg.set _ _ _ _ ⟨.box,trivial,.inl rfl,rfl⟩)) ?_ ?_ ?_ h.opn
  · intro i hi hx
    rw[not_or] at hx
    refine⟨?_,λp=>?_⟩
    · cases i <;> first|rfl|exact absurd rfl hx.2
    · cases i with
      | box=>exact absurd rfl hx.1
      | words=>exact absurd rfl hx.2
      | reads t=>exact p
      | owned t=>exact p
      | undo t=>exact p
      | gray=>exact p
      | mark=>exact p
  · rintro i hi (rfl|rfl)
    · refine⟨?_,.inl rfl⟩
      have hbx:Box w1 B (cellOf nm M):=h.box.keep (hb.block B hB)
      have h2:=(hbx.set (o:=0) (by omega) v').set (o:=1) (by omega) (.int .i64 (top':Int))
      refine Box.congr h2 λi hi=>?_
      unfold ins cellOf
      by_cases e1:i=1
      · subst e1;simp
      · by_cases e0:i=0
        · subst e0;simp
        · simp only [e0,e1,if_false]
          rfl
    · refine⟨?_,.inr λk hk=>⟨(hvB k hk).1,by simpa [World.setCell] using (hvB k hk).2⟩⟩
      show OwnInts _ base v' xs'
      have hO':OwnInts w1 base v' xs':=hO.mono hbs
      exact hO'.keep λk hk=>hkeep k (by have:=(hvB k hk).1;omega)
  · rintro i j k hi hj (rfl|rfl) (rfl|rfl) h1 h2 hk
    · rfl
    · have:=(h.lo .box k trivial h1).2;omega
    · have:=(h.lo .box k trivial h2).2;omega
    · rfl
theorem Mach.marked {base B b:Nat} {w w':World} {nm:Nm} {M:CM} (h:Mach base w B nm M) (e:nm.mb=some b) {X:Int} (hS:SetMap w' b (M.S.length+1) (X :: M.S)) (hg:w.grownBy w' (some b)) :
    Mach base w' B nm { M with S:=X :: M.S }/\Went 0 w w' B nm nm:=by
  refine h.upd (λi=>i = .mark) 0 (Nat.le_refl _) (Chg.ofGrown _ hg λi e2=>⟨.mark,trivial,rfl,by cases e2;exact e⟩) ?_ ?_ ?_ h.opn
  · intro i hi hx
    refine⟨rfl,λp=>?_⟩
    cases i with
    | mark=>exact absurd rfl hx
    | box=>exact p
    | words=>exact p
    | reads t=>exact p
    | owned t=>exact p
    | undo t=>exact p
    | gray=>exact p
  · rintro i hi rfl
    exact⟨λ_=>⟨b,e,hS⟩,.inl rfl⟩
  · rintro i j k hi hj rfl rfl _ _ _
    rfl
end Go.Proofs.Ytbeilcaadpopmab
namespace Go.Proofs.Ytbeilcaadpopmab
open Go.RowKit Go.Maps
def CM.newObj (M:CM) (t r k:Nat):CM :=
  ({ M with xs:=M.xs.set (M.top+1) (k:Int),top:=M.top+2+k,S:=if M.going=true then (M.top:Int) :: M.S else M.S }:CM).setReg t r (1,(M.top:Int))
def CM.allocE (M:CM) (t:Nat) (f:Int):Int :=
  if (M.txs t).op=false then 5 else if ¬ (0<=f/\f<=6) then 2 else if (M.xs.length:Int)<M.top+2+f then 1 else 0
set_option maxRecDepth 100000 in
set_option maxHeartbeats 2000000 in
theorem allocM_any (base:Nat) (w:World) (B:Nat) (nm:Nm) (M:CM) (h:Mach base w B nm M) (t a:Nat) (ht:t<4) (ha:a<4) (k t' b f:Int) (hf:I64 f) (ok:HeapOk M.xs (M.top:Int)) (hS:M.going=true->M.S.length<900000) :
    Calls Try.prog 77 #[.pointer (some ⟨B,0,none⟩),.int .i64 (t:Int),.agg #[.int .i64 k,.int .i64 t',.int .i64 a,.int .i64 b,.int .i64 f]] w
      (if M.allocE t f=0 then RetM 0 base w B nm (M.newObj t a f.toNat) (.int .i64 0) else RetM 0 base w B nm M (.int .i64 (M.allocE t f))):=by
  obtain⟨c0,_,_,_,_⟩:=h.cTx ht
  have d0:=h.c0
  have d1:=h.c1
  have HM:=Lib.hid h;have HOK:=Lib.hid ok;have HSM:=Lib.hid hS
  have hB:=h.lt
  have i1:(t:Int)<4:=by omega
  have HTT:=Lib.hid ht;have HAA:=Lib.hid ha
  obtain⟨E,hE⟩:∃E,E=M.allocE t f:=⟨_,rfl⟩
  rw[<- hE]
  have HE:=Lib.hid hE
  have HU:Hid (E=if (M.txs t).op=false then 5 else if ¬ (0<=f/\f<=6) then 2 else if (M.xs.length:Int)<M.top+2+f then 1 else 0):=hE
  clear h ok hE ht ha hS
  cases ho:(M.txs t).op with
  | false =>
    have HE5:Hid (E=5):=by rw[Hid,HU.out,if_pos ho]
    rw[ho] at c0
    clear ho HU
    rw[if_neg (by rw[HE5.out];decide)]
    go_enter Try.func77,Try.ntmps77
    go_wp2
    refine bodyPost_ret (v:=.int .i64 5) (by simp[results,Try.results77,go_sem, *]) rfl ?_
    rw[HE5.out]
    exact HM.out.after (by ((repeat first|exact bR _ _|with_reducible first|refine bN ?_|refine bD ?_|refine bA ?_ ?_|refine bS ?_ ?_);all_goals first|exact Nat.le_refl _|(simp;done)|omega|(simp;omega))) _
  | true =>
    have HO:=Lib.hid ho
    rw[ho] at c0
    have HU2:Hid (E=if ¬ (0<=f/\f<=6) then 2 else if (M.xs.length:Int)<M.top+2+f then 1 else 0):=by rw[Hid,HU.out,if_neg (by rw[ho];decide)]
    clear ho HU
    obtain⟨hv,hhv⟩:∃hv,hv=nm.hv:=⟨_,rfl⟩
    have HXS:Hid (∀W,Below w.heap.size w W->Ints W hv M.xs):=λW hW=>by
      have:=((HM.out.below hW).part .words trivial:OwnInts W base nm.hv M.xs).ints
      rw[hhv];exact this
    obtain⟨xa,xc,hsh,hc1,hc2,_⟩:=(HXS.out w (Below.refl _ _)).len
    rw[hsh] at HXS
    rw[<- hhv,hsh] at d0
    have HHV:Hid (nm.hv = .slice xa M.xs.length xc):=by rw[Hid,<- hhv,hsh]
    clear hhv hsh
    have HKEEP:Hid (∀W,Below (w.heap.size+1) (w.alloc (.cells #[.int .i64 k,.int .i64 t',.int .i64 a,.int .i64 b,.int .i64 f] 46)) W->W.cell? ⟨B,0,none⟩=some (.slice xa M.xs.length xc)/\W.cell? ⟨B,1,none⟩=some (.int .i64 (M.top:Int))/\W.cell? ⟨w.heap.size,4,none⟩=some (.int .i64 f)/\Below (w.heap.size+1) (w.alloc (.cells #[.int .i64 k,.int .i64 t',.int .i64 a,.int .i64 b,.int .i64 f] 46)) W):=λW hW =>
      ⟨(hW.cell (p:=⟨B,0,none⟩) (by simp;omega)).trans ((Below.cell (Below.alloc (Below.refl w.heap.size w) (Nat.le_refl _) (.cells #[.int .i64 k,.int .i64 t',.int .i64 a,.int .i64 b,.int .i64 f] 46)) (p:=⟨B,0,none⟩) hB).trans d0),
       (hW.cell (p:=⟨B,1,none⟩) (by simp;omega)).trans ((Below.cell (Below.alloc (Below.refl w.heap.size w) (Nat.le_refl _) (.cells #[.int .i64 k,.int .i64 t',.int .i64 a,.int .i64 b,.int .i64 f] 46)) (p:=⟨B,1,none⟩) hB).trans d1),
       (hW.cell (p:=⟨w.heap.size,4,none⟩) (by simp)).trans (by simp),hW⟩
    by_cases hE0:E=0
    · subst hE0
      rw[if_pos rfl]
      have h2:=HU2.out
      have hf06:0<=f/\f<=6:=by
        by_cases e:0<=f/\f<=6
        · exact e
        · rw[if_pos e] at h2;cases h2
      have hfit:¬ (M.xs.length:Int)<M.top+2+f:=by
        intro e
        rw[if_neg (by simp only [Classical.not_not];exact hf06),if_pos e] at h2
        cases h2
      obtain⟨kf,rfl⟩:∃kf:Nat,f=(kf:Int):=⟨f.toNat,by omega⟩
      rw[Int.toNat_natCast]
      obtain⟨tp,htp⟩:∃tp,tp=M.top+2+kf:=⟨_,rfl⟩
      have HAL:Hid (∀W,Below w.heap.size w W->Calls Try.prog 17 #[.agg #[.slice xa M.xs.length xc,.int .i64 (M.top:Int)],.int .i64 (kf:Int)] W (λe w'=>∃(a':Option Addr) (c':Nat),e = .returned (.tuple #[.agg #[.slice a' M.xs.length c',.int .i64 (tp:Int)],.int .i64 (M.top:Int),.int .i64 0])/\Below W.heap.size W w'/\OwnInts w' W.heap.size (.slice a' M.xs.length c') (M.xs.set (M.top+1) (kf:Int)))):=λW hW=>by
        refine (alloc_any _ M.xs (M.top:Int) kf W (HXS.out W hW)).mono ?_
        rintro e w' ⟨hb,⟨er,hae,rfl⟩|⟨tt,kk,a',c',e1,e2,_,e3,e4,rfl,e5⟩⟩
        · exfalso
          rcases hae with ⟨h3,_⟩|⟨_,h3,rfl⟩|⟨_,h3,h4,h5,rfl⟩
          · exact absurd HOK.out h3
          · exact h3 hf06
          · exact hfit h5
        · have e6:tt=M.top:=by omega
          have e7:kk=kf:=by omega
          subst e6 e7
          rw[htp]
          exact⟨a',c',rfl,hb,e5⟩
      have HTOP:Hid (I64 (M.top:Int)):=by
        have:=(HM.out.part .words trivial:OwnInts w base nm.hv M.xs).1.2
        unfold Hid I64;omega
      have HTP:=Lib.hid htp
      clear d0 d1 HU2 h2 hfit hf06 hf htp
      go_enter Try.func77,Try.ntmps77
      go_wp2_with fail
      go_region_held3 (λW=>W.cell? ⟨B,0,none⟩=some (.slice xa M.xs.length xc)/\W.cell? ⟨B,1,none⟩=some (.int .i64 (M.top:Int))/\W.cell? ⟨w.heap.size,4,none⟩=some (.int .i64 (kf:Int))/\Below (w.heap.size+1) (w.alloc (.cells #[.int .i64 k,.int .i64 t',.int .i64 a,.int .i64 b,.int .i64 (kf:Int)] 46)) W)
        (first|exact HKEEP.out _ (by ((repeat first|exact bR _ _|with_reducible first|refine bT ?_ hb6 ?_|refine bN ?_|refine bD ?_|refine bA ?_ ?_|refine bS ?_ ?_);all_goals first|exact Nat.le_refl _|(simp;done)|omega|(simp;omega)|(have z0:=Below.size hb6;omega)|(have z0:=Below.size hb6;simp at *;omega)))|exact HKEEP.out _ (by ((repeat first|exact bR _ _|with_reducible first|refine bN ?_|refine bD ?_|refine bA ?_ ?_|refine bS ?_ ?_);all_goals first|exact Nat.le_refl _|(simp;done)|omega|(simp;omega))))
        ((go_at_call 17;refine (HAL.out _ (by ((repeat first|exact bR _ _|with_reducible first|refine bN ?_|refine bD ?_|refine bA ?_ ?_|refine bS ?_ ?_);all_goals first|exact Nat.le_refl _|(simp;done)|omega|(simp;omega)))).mono ?_;rintro e w6 ⟨a6,c6,rfl,hb6,hO6⟩;(try have zc1:=Nat.lt_of_lt_of_le (show w.heap.size+1<_ from (by first|(simp;done)|omega|(simp;omega))) (Below.size hb6);have fc1_0:=Below.cell hb6 (p:=⟨w.heap.size+1,0,none⟩) (by first|(simp;done)|omega|(simp;omega));have gc1_0:=Below.frozen hb6 (p:=⟨w.heap.size+1,0,none⟩) (by first|(simp;done)|omega|(simp;omega));have fc1_1:=Below.cell hb6 (p:=⟨w.heap.size+1,1,none⟩) (by first|(simp;done)|omega|(simp;omega));have gc1_1:=Below.frozen hb6 (p:=⟨w.heap.size+1,1,none⟩) (by first|(simp;done)|omega|(simp;omega));(try simp at fc1_0 gc1_0 fc1_1 gc1_1))))
      all_goals (
        rename_i hHeld
        have HB7:=Lib.hid hHeld.2.2.2
        clear hHeld
        first
          | (obtain⟨X,hX⟩:∃X,X=w6.heap.size:=⟨_,rfl⟩
             obtain⟨w7,hw7⟩:∃w7,w7=w6.alloc (.cells #[.slice a6 M.xs.length c6,.int .i64 (tp:Int)] 25):=⟨_,rfl⟩
             have hv:w7.cell? ⟨X,0,none⟩=some (.slice a6 M.xs.length c6)/\w7.cell? ⟨X,1,none⟩=some (.int .i64 (tp:Int))/\w.heap.size<X/\OwnInts w7 w.heap.size (.slice a6 M.xs.length c6) (M.xs.set (M.top+1) (kf:Int)):=by
               have:=hb6.size
               simp at this
               rw[hw7,hX]
               exact⟨by simp,by simp,by omega,(hO6.below ((Below.refl _ _).alloc (Nat.le_refl _) _)).mono (by first|exact Nat.le_refl _|(simp;done)|omega|(simp;omega))⟩
             rw[<- hw7] at HB7 ⊢
             rw[<- hX]
             clear hw7 hX hb6 hO6)
          | (obtain⟨X,hX⟩:∃X,X=w.heap.size+1:=⟨_,rfl⟩
             obtain⟨w7,hw7⟩:∃w7,w7=(w6.setCell ⟨w.heap.size+1,0,none⟩ (.slice a6 M.xs.length c6)).setCell ⟨w.heap.size+1,1,none⟩ (.int .i64 (tp:Int)):=⟨_,rfl⟩
             have hv:w7.cell? ⟨X,0,none⟩=some (.slice a6 M.xs.length c6)/\w7.cell? ⟨X,1,none⟩=some (.int .i64 (tp:Int))/\w.heap.size<X/\OwnInts w7 w.heap.size (.slice a6 M.xs.length c6) (M.xs.set (M.top+1) (kf:Int)):=by
               have:=hb6.size
               simp at this
               have c0:=hb6.cell (p:=⟨w.heap.size+1,0,none⟩) (by simp)
               have c1:=hb6.cell (p:=⟨w.heap.size+1,1,none⟩) (by simp)
               simp at c0 c1
               rw[hw7,hX]
               refine⟨?_,?_,by omega,?_⟩
               · rw[World.cell?_setCell_other _ _ _ _ (by simp),World.cell?_setCell_same _ _ _ c0]
               · rw[World.cell?_setCell_same _ _ _ (by rw[World.cell?_setCell_other _ _ _ _ (by simp)];exact c1)]
               · exact ((hO6.setBelow (by simp) _).setBelow (by simp) _).mono (by first|exact Nat.le_refl _|(simp;done)|omega|(simp;omega))
             rw[<- hw7] at HB7 ⊢
             simp only [<- hX]
             clear hw7 hX hb6 hO6)
        obtain⟨g0,g1,hX1,hO7⟩:=hv
        have HB7':=Lib.hid (show Below w.heap.size w w7 from (by ((repeat first|exact bR _ _|with_reducible first|refine bT ?_ HB7.out ?_|refine bN ?_|refine bD ?_|refine bA ?_ ?_|refine bS ?_ ?_);all_goals first|exact Nat.le_refl _|(simp;done)|omega|(simp;omega)|(have z0:=Below.size HB7.out;omega)|(have z0:=Below.size HB7.out;simp at *;omega))))
        obtain⟨q1,q2⟩:=HM.out.newHeap HB7'.out (top':=tp) hO7
        have hbx7:=(HM.out.below HB7'.out).box
        have z0:=(hbx7 0 (by omega)).2
        have z1:=(hbx7 1 (by omega)).2
        have y0:=(hbx7 0 (by omega)).1
        have y1:=(hbx7 1 (by omega)).1
        have hXB:X≠B:=by omega
        have f7:w7.cell? ⟨w.heap.size,2,none⟩=some (.int .i64 (a:Int)):=(HB7.out.cell (p:=⟨w.heap.size,2,none⟩) (by simp)).trans (by simp)
        have hA7:w.heap.size<w7.heap.size:=by have:=HB7.out.size;simp at this;omega
        have HF7:=Lib.hid f7
        clear f7
        clear hbx7 hO7 HAL HKEEP c0
        go_upto_region 7 with fail
        obtain⟨w8,hw8⟩:∃w8,w8=(w7.setCell ⟨B,0,none⟩ (.slice a6 M.xs.length c6)).setCell ⟨B,1,none⟩ (.int .i64 (tp:Int)):=⟨_,rfl⟩
        have f8:w8.cell? ⟨w.heap.size,2,none⟩=some (.int .i64 (a:Int)):=by
          rw[hw8,World.cell?_setCell_other _ _ _ _ (by simp),World.cell?_setCell_other _ _ _ _ (by first|(simp;done)|(simp;omega))]
          exact HF7.out
        have hA8:w.heap.size<w8.heap.size:=by rw[hw8];simpa [World.setCell] using hA7
        have HF8:=Lib.hid f8
        rw[<- hw8] at q1 q2 ⊢
        have HM8:=Lib.hid q1;have HW8:=Lib.hid q2
        clear f8
        clear q1 q2 z0 z1 y0 y1 g0 g1 hw8 hXB
        obtain⟨nm8,hnm8⟩:∃nm8:Nm,nm8={ nm with hv:=.slice a6 M.xs.length c6 }:=⟨_,rfl⟩
        rw[<- hnm8] at HM8 HW8
        have HMB:Hid (nm8.mb=nm.mb):=by rw[Hid,hnm8]
        obtain⟨M9,hM9⟩:∃M9:CM,M9={ M with xs:=M.xs.set (M.top+1) (kf:Int),top:=tp,S:=if M.going=true then (M.top:Int) :: M.S else M.S }:=⟨_,rfl⟩
        have HM9E:=Lib.hid hM9
        have hB8:=HM8.out.lt
        have c82:w8.cell? ⟨B,82,none⟩=some (.bool M.going):=HM8.out.c82
        obtain⟨go,hgo⟩:∃go,go=M.going:=⟨_,rfl⟩
        rw[<- hgo] at c82
        have HGO:=Lib.hid hgo
        clear hgo hM9 hnm8
        rcases (show go=false\/go=true by cases go <;> simp) with hg2|hg2
        all_goals (
          first
            | (have hg3:go=false:=hg2
               subst hg3
               clear hg2
               go_wp2_with fail
               obtain⟨wt,hwt⟩:∃wt,wt=w8:=⟨_,rfl⟩
               have HMT:Hid (Mach base wt B nm8 M9):=by rw[Hid,hwt,HM9E.out,show (if M.going=true then (M.top:Int) :: M.S else M.S)=M.S from by rw[<- HGO.out];rfl];exact HM8.out
               have HWT:Hid (Went 0 w wt B nm nm8):=by rw[Hid,hwt];exact HW8.out
               have HFT:Hid (wt.cell? ⟨w.heap.size,2,none⟩=some (.int .i64 (a:Int))/\w.heap.size<wt.heap.size):=by rw[Hid,hwt];exact⟨HF8.out,hA8⟩
               rw[<- hwt]
               clear hwt)
            | (have hg3:go=true:=hg2
               subst hg3
               clear hg2
               obtain⟨mb,hmb,hsm⟩:=(HM8.out.part .mark trivial:M.going=true->∃b,nm8.mb=some b/\SetMap w8 b M.S.length M.S) HGO.out.symm
               have c84:w8.cell? ⟨B,84,none⟩=some (.map (some mb)):=by
                 have:=(HM8.out.box 84 (by omega)).1
                 rw[this,<- hmb]
                 rfl
               have HSMM:=Lib.hid hsm;have HMB2:=Lib.hid hmb
               clear hsm hmb
               go_wp2_with (at_mapUpdate;refine wpl_setAdd rfl _ _ _ rfl mb M.S.length M.S rfl HSMM.out (by have:=HSM.out HGO.out.symm;omega) (M.top:Int) rfl HTOP.out rfl ?_;intro w9 hs9 hg9;have HS9:=Lib.hid hs9;have HG9:=Lib.hid hg9;clear hs9 hg9)
               obtain⟨q1,q2⟩:=HM8.out.marked HMB2.out HS9.out HG9.out
               obtain⟨wt,hwt⟩:∃wt,wt=w9:=⟨_,rfl⟩
               have HMT:Hid (Mach base wt B nm8 M9):=by rw[Hid,hwt,HM9E.out,show (if M.going=true then (M.top:Int) :: M.S else M.S)=(M.top:Int) :: M.S from by rw[<- HGO.out];rfl];exact q1
               have HWT:Hid (Went 0 w wt B nm nm8):=by rw[Hid,hwt];exact HW8.out.trans q2
               have HFT:Hid (wt.cell? ⟨w.heap.size,2,none⟩=some (.int .i64 (a:Int))/\w.heap.size<wt.heap.size):=by
                 have hlt:=(HM.out.lo .mark mb trivial (show nm.mb=some mb from HMB.out ▸ HMB2.out)).2
                 rw[Hid,hwt]
                 refine⟨(World.cell?_of_block (w:=w8) (a:=⟨w.heap.size,2,none⟩) (HG9.out.block _ hA8 (λe=>by have e2:=Option.some.inj e;simp only at e2;omega))).trans HF8.out,Nat.lt_of_lt_of_le hA8 HG9.out.size⟩
               rw[<- hwt]
               clear hwt q1 q2 HS9 HG9 HSMM HMB2 c84))
        all_goals (
          clear HM8 HW8 c82 hB8
          obtain⟨w10,hw10⟩:∃w10,w10=wt.drew:=⟨_,rfl⟩
          have HM10:Hid (Mach base w10 B nm8 M9):=by rw[Hid,hw10];exact HMT.out.below (Below.refl _ _).drew
          have HW10:Hid (Went 0 w w10 B nm nm8):=by rw[Hid,hw10];exact HWT.out.below (Below.refl _ _).drew HMT.out.has_lt
          have y2:w10.cell? ⟨w.heap.size,2,none⟩=some (.int .i64 (a:Int)):=by rw[hw10];exact HFT.out.1
          have HBX:=Lib.hid HM10.out.box
          have ia:(a:Int)<4:=by have:=HAA.out;omega
          clear hA8 hA7
          refine still_tail_at 10 (by kernel_rfl) (by kernel_rfl) hw10 ?_;simp only [List.take_succ_cons,List.take_zero,List.drop_succ_cons,List.drop_zero];clear hw10;(repeat still_step);refine wpStill_nil ?_
          have ho:2+t * 8+a * 2+(#[Value.int .i64 1,Value.int .i64 (M.top:Int)]:Array Value).size<=85:=by have:=HTT.out;have:=HAA.out;simp;omega
          refine wpl_storeBox rfl 36 _ _ rfl B (2+t * 8+a * 2) #[.int .i64 1,.int .i64 (M.top:Int)] rfl rfl (cellOf nm8 M9) HBX.out ho Try.sizeVal (by simp[Value.oneCell']) ?_
          intro hbx hcg
          rw[List.toList_toArray] at hbx hcg ⊢
          obtain⟨w11,hw11⟩:∃w11,w11=w10.setCells B (2+t * 8+a * 2) [.int .i64 1,.int .i64 (M.top:Int)]:=⟨_,rfl⟩
          rw[<- hw11] at hbx hcg ⊢
          obtain⟨q1,q2⟩:=HM10.out.storeReg HTT.out HAA.out (1,(M.top:Int)) hcg hbx
          have HM11:=Lib.hid q1
          have HW11:=Lib.hid (HW10.out.trans q2)
          clear hbx hcg q1 q2 hw11 ho HBX y2
          go_frame
          go_wp2
          have HEND:Hid (M.newObj t a kf=M9.setReg t a (1,(M.top:Int))):=by
            rw[Hid,HM9E.out,HTP.out]
            rfl
          rw[HEND.out]
          exact bodyPost_ret (v:=.int .i64 0) (by simp[results,Try.results77,go_sem, *]) rfl ⟨rfl,nm8,HM11.out,HW11.out⟩))
    · rw[if_neg hE0]
      have HAL:Hid (∀W,Below w.heap.size w W->Calls Try.prog 17 #[.agg #[.slice xa M.xs.length xc,.int .i64 (M.top:Int)],.int .i64 f] W (λe w'=>e = .returned (.tuple #[.agg #[.slice none 0 0,.int .i64 0],.int .i64 0,.int .i64 E])/\Below W.heap.size W w')):=λW hW=>by
        refine (alloc_any _ M.xs (M.top:Int) f W (HXS.out W hW)).mono ?_
        have h2:=HU2.out
        rintro e w' ⟨hb,⟨er,hae,rfl⟩|⟨tt,kk,a',c',e1,e2,_,e3,e4,rfl,_⟩⟩
        · refine⟨?_,hb⟩
          rcases hae with ⟨h3,_⟩|⟨_,h3,rfl⟩|⟨_,h3,h4,h5,rfl⟩
          · exact absurd HOK.out h3
          · rw[h2,if_pos h3]
          · rw[h2,if_neg (by simp only [Classical.not_not];exact⟨h3,h4⟩),if_pos h5]
        · exfalso
          refine hE0 (h2.trans ?_)
          rw[if_neg (by simp only [Classical.not_not];omega),if_neg (by omega)]
      have hE2:(E != 0)=true:=by simpa using hE0
      clear hE0 d0 d1 HU2
      go_enter Try.func77,Try.ntmps77
      go_wp2_with fail
      go_region_held3 (λW=>W.cell? ⟨B,0,none⟩=some (.slice xa M.xs.length xc)/\W.cell? ⟨B,1,none⟩=some (.int .i64 (M.top:Int))/\W.cell? ⟨w.heap.size,4,none⟩=some (.int .i64 f)/\Below (w.heap.size+1) (w.alloc (.cells #[.int .i64 k,.int .i64 t',.int .i64 a,.int .i64 b,.int .i64 f] 46)) W)
        (first|exact HKEEP.out _ (by ((repeat first|exact bR _ _|with_reducible first|refine bT ?_ hb6 ?_|refine bN ?_|refine bD ?_|refine bA ?_ ?_|refine bS ?_ ?_);all_goals first|exact Nat.le_refl _|(simp;done)|omega|(simp;omega)|(have z0:=Below.size hb6;omega)|(have z0:=Below.size hb6;simp at *;omega)))|exact HKEEP.out _ (by ((repeat first|exact bR _ _|with_reducible first|refine bN ?_|refine bD ?_|refine bA ?_ ?_|refine bS ?_ ?_);all_goals first|exact Nat.le_refl _|(simp;done)|omega|(simp;omega))))
        ((go_at_call 17;refine (HAL.out _ (by ((repeat first|exact bR _ _|with_reducible first|refine bN ?_|refine bD ?_|refine bA ?_ ?_|refine bS ?_ ?_);all_goals first|exact Nat.le_refl _|(simp;done)|omega|(simp;omega)))).mono ?_;rintro e w6 ⟨rfl,hb6⟩;(try have zc2:=Nat.lt_of_lt_of_le (show w.heap.size+1<_ from (by first|(simp;done)|omega|(simp;omega))) (Below.size hb6);have fc2_0:=Below.cell hb6 (p:=⟨w.heap.size+1,0,none⟩) (by first|(simp;done)|omega|(simp;omega));have gc2_0:=Below.frozen hb6 (p:=⟨w.heap.size+1,0,none⟩) (by first|(simp;done)|omega|(simp;omega));have fc2_1:=Below.cell hb6 (p:=⟨w.heap.size+1,1,none⟩) (by first|(simp;done)|omega|(simp;omega));have gc2_1:=Below.frozen hb6 (p:=⟨w.heap.size+1,1,none⟩) (by first|(simp;done)|omega|(simp;omega));(try simp at fc2_0 gc2_0 fc2_1 gc2_1))))
      all_goals (
        rename_i hHeld
        have HB7:=Lib.hid hHeld.2.2.2
        clear hHeld
        go_wp2_with fail
        refine bodyPost_ret (v:=.int .i64 E) (by simp[results,Try.results77,go_sem, *]) rfl ?_
        exact HM.out.after (by ((repeat first|exact bR _ _|with_reducible first|refine bT ?_ HB7.out ?_|refine bN ?_|refine bD ?_|refine bA ?_ ?_|refine bS ?_ ?_);all_goals first|exact Nat.le_refl _|(simp;done)|omega|(simp;omega)|(have z0:=Below.size HB7.out;omega)|(have z0:=Below.size HB7.out;simp at *;omega))) _)
end Go.Proofs.Ytbeilcaadpopmab
