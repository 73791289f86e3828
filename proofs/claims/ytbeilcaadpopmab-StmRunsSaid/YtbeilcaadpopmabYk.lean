/- Texts put together: Jp, Jr, Js, Ju, Jv. -/
import Derived.Test.YtbeilcaadpopmabYf
import Derived.Test.YtbeilcaadpopmabYc
set_option linter.unusedVariables false
set_option linter.unusedSimpArgs false
namespace Go.Proofs.Ytbeilcaadpopmab
open Go.RowKit Go.Maps
set_option maxRecDepth 100000 in
set_option maxHeartbeats 16000000 in
theorem acted_put_own (base:Nat) (w:World) (B:Nat) (nm:Rn) (H:Hall) (h:Rmem base w B nm H) (t a b m f:Nat) (ht:t<4) (ha:a<4) (hb:b<4) (hm1:1<=m) (hm2:m<=H.things.length) (hf:f<(th H.things m).fields.length) (hreg:H.regs t a = .ref m) (hacc:H.acc t a (f:Int)=0) (hcl:(H.deals t).changes.length<900000) (how:(th H.things m).owner=some t) (ok:UndOk H t) (hid:(H.regs t a).id<=H.things.length) (h6:∀i,(th H.things i).fields.length<=6) (hver:∀i u,(th H.things i).owner=some u->u<4) :
    Calls Try.prog 67 #[.pointer (some ⟨B,0,none⟩),.agg #[.int .i64 6,.int .i64 (t:Int),.int .i64 (a:Int),.int .i64 (b:Int),.int .i64 (f:Int)]] w (RetRA base w B nm H (((H.own t m).write t m f (H.regs t b),.nil))):=by
  have HM:=Lib.hid h
  have i1:(t:Int)<4:=by omega
  have i2:(a:Int)<4:=by omega
  have i3:(b:Int)<4:=by omega
  have HTT:=Lib.hid ht;have HAA:=Lib.hid ha;have HBB:=Lib.hid hb
  have HO1:=Lib.hid hm1;have HO2:=Lib.hid hm2;have HOF:=Lib.hid hf
  have HCHL:=Lib.hid hcl
  obtain⟨G,hG⟩:∃G,G=H.own t m:=⟨_,rfl⟩
  rw[<- hG]
  obtain⟨P1,hP1⟩:∃P1,P1=G.write t m f (H.regs t b):=⟨_,rfl⟩
  rw[<- hP1]
  have HP1:=Lib.hid hP1
  have HGE:Hid (G=H):=by rw[Hid,hG];unfold Hall.own;rw[if_pos (show (H.thing m).owner=some t from how)]
  have HOW:Hid (ownN (th H.things m).owner=(t:Int)):=by rw[Hid,how];rfl
  have HGF:Hid ((th G.things m).fields.length=(th H.things m).fields.length):=by rw[Hid,HGE.out]
  have HGL:Hid (m<=G.things.length):=by rw[Hid,HGE.out];exact hm2
  have HGR:Hid (G.regs=H.regs):=by rw[Hid,HGE.out]
  have HGC:Hid ((G.deals t).changes.length<900000):=by rw[Hid,HGE.out];exact hcl
  have HACC:Hid (∀W,Rmem base W B nm H->Calls Try.prog 86 #[.pointer (some ⟨B,0,none⟩),.int .i64 (t:Int),.int .i64 (a:Int),.int .i64 (f:Int)] W (RetH base W B nm H H (.tuple #[.int .i64 (m:Int),.int .i64 0]))):=λW hW=>by
    have:=access_any base W B nm H hW t a ht ha (f:Int) ok hid h6 hver
    rw[hacc,if_pos rfl,if_neg (by decide),hreg] at this;exact this
  clear h ht ha hb hacc hreg ok hid h6 hver hm1 hm2 hf hcl how hP1 hG
  go_enter Try.func67,Try.ntmps67
  go_upto_region 63 with (first|(go_at_call 56;(with_reducible refine (in_kind 6 (by omega) _).mono ?_);rintro e w1 ⟨rfl,hb1⟩;obtain⟨HA,HR1,HR2,HB1,hz1⟩:=rows3 hb1;clear hb1;obtain⟨a0,a1,a2,a3,a4⟩:=HA.out.act)|(go_at_call 56;(with_reducible refine (in_reg t HTT.out _).mono ?_);rintro e _ ⟨rfl,rfl⟩)|(go_at_call 56;(with_reducible refine (in_reg a HAA.out _).mono ?_);rintro e _ ⟨rfl,rfl⟩)|(go_at_call 56;(with_reducible refine (in_reg b HBB.out _).mono ?_);rintro e _ ⟨rfl,rfl⟩))
  obtain⟨X2,hX2⟩:∃X2,X2=w.heap.size+1+1:=⟨_,rfl⟩
  rw[<- hX2] at HR2 ⊢
  obtain⟨X1,hX1⟩:∃X1,X1=w.heap.size+1:=⟨_,rfl⟩
  rw[<- hX1] at HR1 ⊢
  have hx:w.heap.size<X1/\X1<X2/\X2<w1.heap.size:=by omega
  have hx12:X1≠X2:=by omega
  have HF:=Lib.hid (AF.start HM.out HB1.out hx HA.out HR1.out HR2.out)
  have HM1:=Lib.hid HF.out.mem
  have hB1:=HM1.out.lt
  have hBX2:B≠X2:=by have:=HM.out.lt;omega
  have hBX1:B≠X1:=by have:=HM.out.lt;omega
  clear hX1 hX2 hz1 HA HR1 HR2
  go_upto_region 67 with (go_at_call 86;refine (HACC.out _ HM1.out).mono ?_;rintro e w2 ⟨rfl,nm2,hM2,hW2⟩;have HF2:=Lib.hid (HF.out.step hM2 hW2);clear hM2 hW2 a0 a1 a2 a3 a4)
  have HM2:=Lib.hid HF2.out.mem
  have hB2:=HM2.out.lt
  have HTH:Hid (∀W,Below w2.heap.size w2 W->Calls Try.prog 83 #[.pointer (some ⟨B,0,none⟩),.int .i64 (m:Int)] W (λe w'=>e = .returned (.pointer (some ⟨nm2.tb (m - 1),0,none⟩))/\W=w')):=λW hW=>thing_any (HM2.out.below hW) HO1.out HO2.out
  obtain⟨_,_,t2,_,_,_,tz,htl2⟩:=HM2.out.cT HO1.out HO2.out
  have tz2:=tz 2 (by omega)
  rw[HOW.out] at t2
  clear tz
  go_upto_region 71 with (go_at_call 83;refine (HTH.out _ (by ((repeat first|exact bR _ _|with_reducible first|refine bN ?_|refine bD ?_|refine bA ?_ ?_|refine bS ?_ ?_);all_goals first|exact Nat.le_refl _|(simp;done)|omega|(simp;omega)))).mono ?_;rintro e _ ⟨rfl,rfl⟩)
  have HF3:Hid (AF base w B nm H (actL 6 (t:Int) (a:Int) (b:Int) (f:Int)) X1 X2 AnsM.nil w2 nm2 G):=by rw[Hid,HGE.out];exact HF2.out
  clear t2 tz2 htl2 HM2
  have HM3:=Lib.hid HF3.out.mem
  have hB3:=HM3.out.lt
  obtain⟨_,_,_,c11,cz⟩:=HM3.out.cD HTT.out
  obtain⟨ca,cc,ec,hcc1,hcc2⟩:=Go.Proofs.Ytbeilcaadpopmab.OwnL.shape (show Go.Proofs.Ytbeilcaadpopmab.OwnL rChange w2 base (nm2.cv t) (G.deals t).changes from HM3.out.part (.changes t) HTT.out)
  have cz11:=cz 11 (by omega)
  obtain⟨cl,hcl⟩:∃cl,cl=(G.deals t).changes.length:=⟨_,rfl⟩
  rw[<- hcl] at ec hcc1
  rw[ec] at c11
  have HEC:=Lib.hid ec;have HCL:=Lib.hid hcl
  obtain⟨⟨fa,fc,hfv,hfc1,hfc2,t0,hfld⟩,_,_,_,_,_,_,htl⟩:=HM3.out.cT (n:=m) HO1.out HGL.out
  have HO3:Hid (f<(th G.things m).fields.length):=by rw[Hid,HGF.out];exact HOF.out
  obtain⟨g,rfl,hg,hgB,_,d0,d1,dz⟩:=hfld f HO3.out
  obtain⟨old,hold⟩:∃old,old=(th G.things m).fields[f]'HO3.out:=⟨_,rfl⟩
  rw[<- hold] at d0 d1
  obtain⟨ok,hok⟩:∃ok,ok=old.k:=⟨_,rfl⟩
  obtain⟨on,hon⟩:∃on,on=old.n:=⟨_,rfl⟩
  rw[<- hok] at d0;rw[<- hon] at d1
  have HOLD:=Lib.hid hold;have HOKK:=Lib.hid hok;have HONN:=Lib.hid hon
  obtain⟨fl,hfl⟩:∃fl,fl=(th G.things m).fields.length:=⟨_,rfl⟩
  rw[<- hfl] at t0 hfc1
  have hff:(f:Int)<(fl:Int):=by have:=HO3.out;omega
  obtain⟨T,hT⟩:∃T,T=nm2.tb (m - 1):=⟨_,rfl⟩
  have HTE:=Lib.hid hT;have HFV:=Lib.hid hfv
  have hmk:m - 1<G.things.length:=by have:=HO1.out;have:=HGL.out;omega
  have hTB:T≠B:=λe=>by
    have:=HM3.out.apart (.thing (m - 1)) .box B hmk trivial (by show some (nm2.tb (m - 1))=_;rw[<- hT,e]) rfl
    cases this
  have hTC:¬ (nm2.cv t).ownBlock=some T:=λe=>by
    have:=HM3.out.apart (.thing (m - 1)) (.changes t) T hmk HTT.out (by show some (nm2.tb (m - 1))=_;rw[<- hT]) e
    cases this
  have hgC:¬ (nm2.cv t).ownBlock=some g:=λe=>by
    have:=HM3.out.apart (.flds (m - 1)) (.changes t) g hmk HTT.out (by show (nm2.fv (m - 1)).ownBlock=_;rw[HFV.out];rfl) e
    cases this
  have hA3:=HF3.out.ra.1
  have hAB:w.heap.size≠B:=λe=>HF3.out.no B (by omega) (by have:=HF3.out.xs;omega) ⟨.box,trivial,rfl⟩
  have hAC:¬ (nm2.cv t).ownBlock=some w.heap.size:=λe=>HF3.out.no w.heap.size (Nat.le_refl _) (by have:=HF3.out.xs;omega) ⟨.changes t,HTT.out,e⟩
  have HFL:=Lib.hid hfl
  simp only [<- hT] at t0 htl ⊢
  clear hfld hfv hold hok hon hfl hT cz hcl ec
  have d4:=HF3.out.ra.act.2.2.2.2
  have HKC6:Hid (∀W,Chg (λk=>(nm2.cv t).ownBlock=some k) w2 W->W.cell? ⟨w.heap.size,4,none⟩=some (.int .i64 (f:Int))/\W.cell? ⟨T,0,none⟩=some (.slice (some ⟨g,0,none⟩) fl fc)/\W.cell? ⟨g,f * 2,none⟩=some (.int .i64 ok)/\W.cell? ⟨g,f * 2+1,none⟩=some (.int .i64 on)/\W.cell? ⟨B,34+t * 12+11,none⟩=some (.slice ca cl cc)/\W.frozen? ⟨B,34+t * 12+11,none⟩=false):=λW hW=>by
    have n1:¬ (nm2.cv t).ownBlock=some B:=λe=>by have:=HM3.out.apart .box (.changes t) B trivial HTT.out rfl e;cases this
    exact⟨(hW.cell hA3 hAC 4).1.trans d4,(hW.cell htl hTC 0).1.trans t0,(hW.cell hg hgC _).1.trans d0,(hW.cell hg hgC _).1.trans d1,(hW.cell hB3 n1 _).1.trans c11,(hW.cell hB3 n1 _).2.trans cz11⟩
  have HOWN:Hid (∀W,Below w2.heap.size w2 W->Go.Proofs.Ytbeilcaadpopmab.OwnL rChange W base (.slice ca cl cc) (G.deals t).changes):=λW hW=>by rw[<- HEC.out];exact (HM3.out.below hW).part (.changes t) HTT.out
  have HBS:=Lib.hid HM3.out.base_le
  have HCG:Hid (∀(W W':World),W.grownBy W' (Value.slice ca cl cc).ownBlock->Chg (λk=>(nm2.cv t).ownBlock=some k) W W'):=λW W' hg=>Chg.ofGrown _ hg (λi e=>by rw[HEC.out];exact e)
  have HADD:Hid (∀(W W':World) (v':Value),Below w2.heap.size w2 W->Go.Proofs.Ytbeilcaadpopmab.OwnL rChange W' base v' ((G.deals t).changes++[(m,f,old)])->W.grownBy W' (Value.slice ca cl cc).ownBlock->(v'.ownBlock=(Value.slice ca cl cc).ownBlock\/∀k,v'.ownBlock=some k->W.heap.size<=k)->AF base w B nm H (actL 6 (t:Int) (a:Int) (b:Int) (f:Int)) X1 X2 AnsM.nil (W'.setCell ⟨B,34+t * 12+11,none⟩ v') (nm2.deal t (nm2.rv t) (nm2.ov t) v') { G with deals:=put1 G.deals t ((G.deals t).addC (m,f,old)) }):=λW W' v' hW hO hg hn=>by
    obtain⟨q1,q2⟩:=HM3.out.addChange HTT.out (m,f,old) v' hW hO (by rw[HEC.out];exact hg) (by rw[HEC.out];exact hn)
    exact HF3.out.step q1 q2
  have HLC:Hid ((G.deals t).changes.length<900000):=HGC.out
  clear d4
  clear t0 d0 d1 c11 cz11
  obtain⟨w8,hw8⟩:∃w8,w8=w2.drew:=⟨_,rfl⟩
  have HB8:Hid (Below w2.heap.size w2 w8):=by rw[Hid,hw8];exact (Below.refl _ _).drew
  have hS8:(λW:World=>W.cell? ⟨w.heap.size,4,none⟩=some (.int .i64 (f:Int))/\W.cell? ⟨T,0,none⟩=some (.slice (some ⟨g,0,none⟩) fl fc)/\W.cell? ⟨g,f * 2,none⟩=some (.int .i64 ok)/\W.cell? ⟨g,f * 2+1,none⟩=some (.int .i64 on)/\W.cell? ⟨B,34+t * 12+11,none⟩=some (.slice ca cl cc)/\W.frozen? ⟨B,34+t * 12+11,none⟩=false) w8:=HKC6.out _ (.ofBelow _ HB8.out)
  refine wp_region_N [27] (λW=>W.cell? ⟨w.heap.size,4,none⟩=some (.int .i64 (f:Int))/\W.cell? ⟨T,0,none⟩=some (.slice (some ⟨g,0,none⟩) fl fc)/\W.cell? ⟨g,f * 2,none⟩=some (.int .i64 ok)/\W.cell? ⟨g,f * 2+1,none⟩=some (.int .i64 on)/\W.cell? ⟨B,34+t * 12+11,none⟩=some (.slice ca cl cc)/\W.frozen? ⟨B,34+t * 12+11,none⟩=false) (λ_=>True) (by kernel_rfl) hw8 ?_
  clear hw8
  refine TkN.on [0,1,2,3,4,5,6,7,8,9,10,11,12,13,14,15,16,17,18,19,20] ?_
  (repeat (refine TkN.take (v:=?_) rfl (by kernel_rfl) (λ_ _ _ h=>h) hS8 (.inl ⟨by rfl,?_⟩) ?_;rotate_left;(· (intro W hW;obtain⟨k0,k1,k2,k3,k4,k5⟩:=hW;go_simp;try with_reducible rfl));try simp only [List.getElem_toArray,List.getElem_cons_zero,List.getElem_cons_succ];try simp only [Act.put,List.setIfInBounds_toArray,List.set_cons_zero,List.set_cons_succ]))
  refine TkN.off ?_
  refine wpAnyN_pure (v:=?_) 23 rfl (by kernel_rfl) (by kernel_rfl) (by kernel_rfl) (λ_ _ _ h=>h) (.inl ⟨by rfl,?_⟩) ?_
  rotate_left
  · (intro W hW;go_simp;try with_reducible rfl)
  try simp only [Act.put,List.setIfInBounds_toArray,List.set_cons_zero,List.set_cons_succ]
  refine wpAnyN_pure (v:=?_) 24 rfl (by kernel_rfl) (by kernel_rfl) (by kernel_rfl) (λ_ _ _ h=>h) (.inl ⟨by rfl,?_⟩) ?_
  rotate_left
  · (intro W hW;go_simp;try with_reducible rfl)
  try simp only [Act.put,List.setIfInBounds_toArray,List.set_cons_zero,List.set_cons_succ]
  refine wpAnyN_one 21 rfl (by kernel_rfl) λK hK=>?_
  go_simp
  obtain⟨w9,hw9⟩:∃w9,w9=w8.alloc (.cells #[.int .i64 (m:Int),.int .i64 (f:Int),.int .i64 ok,.int .i64 on] 148):=⟨_,rfl⟩
  obtain⟨n9,hn9⟩:∃n9,n9=w8.heap.size:=⟨_,rfl⟩
  have HB9:Hid (Below w2.heap.size w2 w9):=by rw[Hid,hw9];exact HB8.out.alloc HB8.out.size _
  have HROW:Hid (Row w9 (.slice (some ⟨n9,0,none⟩) 1 1) 1 4 (rChange.enc (m,f,old))):=by rw[Hid,hw9,hn9];exact row_change w8 (m,f,old) ok on HOKK.out HONN.out
  rw[<- hw9,<- hn9]
  clear hw9 hn9
  have hS9:(λW:World=>W.cell? ⟨w.heap.size,4,none⟩=some (.int .i64 (f:Int))/\W.cell? ⟨T,0,none⟩=some (.slice (some ⟨g,0,none⟩) fl fc)/\W.cell? ⟨g,f * 2,none⟩=some (.int .i64 ok)/\W.cell? ⟨g,f * 2+1,none⟩=some (.int .i64 on)/\W.cell? ⟨B,34+t * 12+11,none⟩=some (.slice ca cl cc)/\W.frozen? ⟨B,34+t * 12+11,none⟩=false) w9:=HKC6.out _ (.ofBelow _ HB9.out)
  refine hK.out _ _ ⟨λ_ _=>hS9,λh=>h⟩ (λ_=>?_)
  clear hK K hS8
  try simp only [Act.put,List.setIfInBounds_toArray,List.set_cons_zero,List.set_cons_succ]
  refine wpAnyN_one 22 rfl (by kernel_rfl) λK hK=>?_
  refine step_append_L rChange rfl _ _ 121 _ 32 Try.underlying121 Try.infChange rfl (by decide) (by decide) (by decide) rfl base (.slice ca cl cc) ((G.deals t).changes) rfl (HOWN.out _ HB9.out) _ (m,f,old) rfl HROW.out HLC.out (Nat.le_trans HBS.out HB9.out.size) ?_
  intro v7 w7 hO7 hg7 hn7
  have HC7:Hid (Chg (λk=>(nm2.cv t).ownBlock=some k) w2 w7):=(Chg.ofBelow _ HB9.out).trans (HCG.out _ _ hg7)
  have HF7:=Lib.hid (HADD.out _ _ _ HB9.out hO7 hg7 hn7)
  have hB7:B<w7.heap.size:=Nat.lt_of_lt_of_le hB3 HC7.out.size
  have hS7:(λW:World=>W.cell? ⟨w.heap.size,4,none⟩=some (.int .i64 (f:Int))/\W.cell? ⟨T,0,none⟩=some (.slice (some ⟨g,0,none⟩) fl fc)/\W.cell? ⟨g,f * 2,none⟩=some (.int .i64 ok)/\W.cell? ⟨g,f * 2+1,none⟩=some (.int .i64 on)/\W.cell? ⟨B,34+t * 12+11,none⟩=some (.slice ca cl cc)/\W.frozen? ⟨B,34+t * 12+11,none⟩=false) w7:=HKC6.out _ HC7.out
  refine hK.out _ _ ⟨λ_ _=>hS7,λh=>h⟩ (λ_=>?_)
  clear hK K hS9
  try simp only [Act.put,List.setIfInBounds_toArray,List.set_cons_zero,List.set_cons_succ]
  refine wpAnyN_one 25 rfl (by kernel_rfl) λK hK=>?_
  go_simp
  refine hK.out _ _ ⟨λ_ _=>hS7,λh=>h⟩ (λ_=>?_)
  clear hK K
  try simp only [Act.put,List.setIfInBounds_toArray,List.set_cons_zero,List.set_cons_succ]
  refine wpAnyN_one 26 rfl (by kernel_rfl) λK hK=>?_
  go_simp
  refine hK.out _ _ ⟨λ_ _=>hS7,λh=>h⟩ (λ_=>?_)
  clear hK K
  try simp only [Act.put,List.setIfInBounds_toArray,List.set_cons_zero,List.set_cons_succ]
  obtain⟨k0,k1,k2,k3,k4,k5⟩:=hS7
  obtain⟨va,vl,vc,hv7⟩:∃va vl vc,v7 = .slice va vl vc:=by obtain⟨x,y,e,_⟩:=Go.Proofs.Ytbeilcaadpopmab.OwnL.shape hO7;exact⟨_,_,_,e⟩
  subst hv7
  clear hO7 hg7 hn7
  refine wpAnyN_one 27 rfl (by kernel_rfl) λK hK=>?_
  go_simp
  refine hK.out _ _ ⟨λh=>absurd (List.mem_singleton.2 rfl) h,λh=>h⟩ (λ_=>?_)
  clear hK K
  try simp only [Act.put,List.setIfInBounds_toArray,List.set_cons_zero,List.set_cons_succ]
  refine wpAnyN_done (by kernel_rfl) ?_ _
  clear k0 k1 k2 k3 k4 k5
  clear HKC6 HOWN HCG HADD HC7 hB7 hTB hTC hgC hAB hAC hgB HB8 HB9 HROW
  obtain⟨w5,hw5⟩:∃w5,w5=w7.setCell ⟨B,34+t * 12+11,none⟩ (.slice va vl vc):=⟨_,rfl⟩
  obtain⟨nm5,hn5⟩:∃nm5,nm5=nm2.deal t (nm2.rv t) (nm2.ov t) (.slice va vl vc):=⟨_,rfl⟩
  obtain⟨G5,hG5⟩:∃G5:Hall,G5={ G with deals:=put1 G.deals t ((G.deals t).addC (m,f,old)) }:=⟨_,rfl⟩
  rw[<- hw5,<- hn5,<- hG5] at HF7
  rw[<- hw5]
  have HTE5:Hid (T=nm5.tb (m - 1)):=by rw[Hid,hn5,HTE.out];rfl
  have hfv5:nm5.fv (m - 1) = .slice (some ⟨g,0,none⟩) fl fc:=by rw[hn5];show nm2.fv (m - 1)=_;rw[HFV.out,<- HFL.out]
  have HG5:=Lib.hid hG5
  have HG5F:Hid (th G5.things m=th G.things m/\G5.things.length=G.things.length/\G5.regs=H.regs):=by rw[hG5];exact⟨rfl,rfl,HGR.out⟩
  clear hw5 hn5 hG5 htl hg
  go_upto_region 72 with (fail)
  obtain⟨w8,hw8⟩:∃w8,w8=w5.drew:=⟨_,rfl⟩
  have HF8:Hid (AF base w B nm H (actL 6 (t:Int) (a:Int) (b:Int) (f:Int)) X1 X2 AnsM.nil w8 nm5 G5):=by rw[Hid,hw8];exact HF7.out.below (Below.refl _ _).drew
  have HM8:=Lib.hid HF8.out.mem
  obtain⟨a0,a1,a2,a3,a4⟩:=HF8.out.ra.act
  obtain⟨⟨fa',fc',hfv',_,_,t0,hfld⟩,_,_,_,_,_,_,htl⟩:=HM8.out.cT (n:=m) HO1.out (by rw[HG5F.out.2.1];exact HGL.out)
  have HO5:Hid (f<(th G5.things m).fields.length):=by rw[Hid,HG5F.out.1];exact HO3.out
  obtain⟨g',rfl,hg,hgB,_,d0,d1,dz⟩:=hfld f HO5.out
  rw[hfv5] at hfv'
  simp only [Value.slice.injEq,Option.some.injEq,Addr.mk.injEq,and_true] at hfv'
  obtain⟨rfl,hflx,rfl⟩:=hfv'
  rw[<- HTE5.out,<- hflx] at t0
  rw[<- HTE5.out] at htl
  have HTHR:Hid (w8.there g (f * 2) 2):=λj hj=>by
    rcases (show j=0\/j=1 by omega) with rfl|rfl
    · exact⟨by rw[show f * 2+0=f * 2 from rfl,d0];rfl,dz _⟩
    · exact⟨by rw[d1];rfl,dz _⟩
  obtain⟨v,hv⟩:∃v,v=H.regs t b:=⟨_,rfl⟩
  obtain⟨vk,hvk⟩:∃vk,vk=v.k:=⟨_,rfl⟩
  obtain⟨vn,hvn⟩:∃vn,vn=v.n:=⟨_,rfl⟩
  have HL:Hid (w8.rangeAt B (2+t * 8+b * 2) [.int .i64 vk,.int .i64 vn]):=HM8.out.box.range _ _ (by have:=HTT.out;have:=HBB.out;simp;omega) (λj hj=>by
    obtain⟨e1,e2⟩:=hallC_reg nm5 G5 HTT.out HBB.out
    rw[HG5F.out.2.2,<- hv] at e1 e2
    rw[<- hvk] at e1
    rw[<- hvn] at e2
    have hj2:j=0\/j=1:=by simp at hj;omega
    rcases hj2 with rfl|rfl
    · exact e1
    · exact e2)
  have HVV:=Lib.hid hv;have HVK:=Lib.hid hvk;have HVN:=Lib.hid hvn
  have HFV5:=Lib.hid hfv5
  have hffl:f<fl:=by omega
  clear hfld d0 d1 dz hv hvk hvn hflx hfv5
  refine still_tail_at 16 (by kernel_rfl) (by kernel_rfl) hw8 ?_;simp only [List.take_succ_cons,List.take_zero,List.drop_succ_cons,List.drop_zero];clear hw8;(repeat (first|(refine still_loadBox rfl _ _ rfl B (2+t * 8+b * 2) rfl _ HL.out _ Try.underlying36 rfl Try.sizeVal ?_)|still_step));refine wpStill_nil ?_
  refine wpList_store_mid rfl 36 _ _ rfl g (f * 2) #[.int .i64 vk,.int .i64 vn] rfl rfl HTHR.out Try.sizeVal (by simp[Value.oneCell']) ?_
  obtain⟨q1,q2⟩:=HM8.out.setField (n:=m) (k:=f) HO1.out (by rw[HG5F.out.2.1];exact HGL.out) HO5.out v HFV5.out
  have e9:rVal.enc v=(#[.int .i64 vk,.int .i64 vn]:Array Value).toList:=by rw[HVK.out,HVN.out];rfl
  rw[e9] at q1 q2
  generalize hw9:World.setCells _ _ _ _=w9 at q1 q2 ⊢
  have HF9:=Lib.hid (HF8.out.step q1 (by have:=q2;(try dsimp only at this ⊢);rw[show (setF G5.things m f v).length=G5.things.length from len_turn _ _ _];exact this))
  have hfin:({ G5 with things:=setF G5.things m f v }:Hall)=P1:=by
    rw[HP1.out,HG5.out]
    unfold Hall.write
    rw[show G.thing m=th G.things m from rfl,HVV.out,HOLD.out,List.getD_eq_getElem?_getD,List.getElem?_eq_getElem HO3.out]
    rfl
  rw[hfin] at HF9
  clear hfin q1 q2 hw9 e9 a0 a1 a2 a3 a4
  go_frame
  obtain⟨⟨o0,o1,o2,o3,o4,o5,o6⟩,z0,z1,z2,z3,z4,z5,z6⟩:=HF9.out.r2.ans
  obtain⟨⟨p0,p1,p2,p3,p4,p5,p6⟩,y0,y1,y2,y3,y4,y5,y6⟩:=HF9.out.r1.ans
  go_wp2_with fail
  have HEND:Hid (RowAt ((((((((w9).setCell ⟨X1,0,none⟩ (.int .i64 AnsM.nil.code)).setCell ⟨X1,1,none⟩ (.bool AnsM.nil.is)).setCell ⟨X1,2,none⟩ (.int .i64 AnsM.nil.number)).setCell ⟨X1,3,none⟩ (.bool AnsM.nil.yes)).setCell ⟨X1,4,none⟩ (.int .i64 AnsM.nil.words)).setCell ⟨X1,5,none⟩ (.bool AnsM.nil.going)).setCell ⟨X1,6,none⟩ (.int .i64 AnsM.nil.freed)) X1 (ansL AnsM.nil)) :=
    (((((((HF9.out.r1).set 0 _).set 1 _).set 2 _).set 3 _).set 4 _).set 5 _).set 6 _
  refine bodyPost_ret (v:=ansV AnsM.nil) (res_acted rfl HEND.out) rfl ?_
  exact HF9.out.fin (by repeat with_reducible (first|exact Chg.refl _ _|refine chgS ?_ (by first|(simp;done)|(simp;omega))))
end Go.Proofs.Ytbeilcaadpopmab
namespace Go.Proofs.Ytbeilcaadpopmab
open Go.RowKit Go.Maps
theorem thingC_own (f:Value) (x:Thing) (t:Nat):∀i,i<6->thingC f (ownT t x) i=ins (thingC f x) 2 (.int .i64 (t:Int)) i:=λi hi=>by
  rcases (show i=0\/i=1\/i=2\/i=3\/i=4\/i=5 by omega) with rfl|rfl|rfl|rfl|rfl|rfl <;> rfl
theorem Rmem.setOwner {base B:Nat} {w:World} {nm:Rn} {H:Hall} (h:Rmem base w B nm H) {t n:Nat} (h1:1<=n) (hn:n<=H.things.length) :
    Rmem base (w.setCell ⟨nm.tb (n - 1),2,none⟩ (.int .i64 (t:Int))) B nm { H with things:=turnT H.things n (ownT t) }/\WentR w (w.setCell ⟨nm.tb (n - 1),2,none⟩ (.int .i64 (t:Int))) B H.things.length H.things.length nm nm:=by
  refine h.thingTurn h1 hn (ownT t) (λ_=>rfl) (Chg.set _ _ _ _ rfl) ?_
  have hb:=h.thing (i:=n - 1) (by omega)
  rw[show n - 1+1=n by omega] at hb
  exact (hb.set (o:=2) (by omega) (.int .i64 (t:Int))).congr λi hi=>(thingC_own _ _ t i hi).symm
set_option maxRecDepth 100000 in
set_option maxHeartbeats 16000000 in
theorem acted_put_new (base:Nat) (w:World) (B:Nat) (nm:Rn) (H:Hall) (h:Rmem base w B nm H) (t a b m f:Nat) (ht:t<4) (ha:a<4) (hb:b<4) (hm1:1<=m) (hm2:m<=H.things.length) (hf:f<(th H.things m).fields.length) (hreg:H.regs t a = .ref m) (hacc:H.acc t a (f:Int)=0) (hcl:(H.deals t).changes.length<900000) (how:(th H.things m).owner=none) (hol:(H.deals t).owned.length<900000) (ok:UndOk H t) (hid:(H.regs t a).id<=H.things.length) (h6:∀i,(th H.things i).fields.length<=6) (hver:∀i u,(th H.things i).owner=some u->u<4) :
    Calls Try.prog 67 #[.pointer (some ⟨B,0,none⟩),.agg #[.int .i64 6,.int .i64 (t:Int),.int .i64 (a:Int),.int .i64 (b:Int),.int .i64 (f:Int)]] w (RetRA base w B nm H (((H.own t m).write t m f (H.regs t b),.nil))):=by
  have HM:=Lib.hid h
  have i1:(t:Int)<4:=by omega
  have i2:(a:Int)<4:=by omega
  have i3:(b:Int)<4:=by omega
  have HTT:=Lib.hid ht;have HAA:=Lib.hid ha;have HBB:=Lib.hid hb
  have HO1:=Lib.hid hm1;have HO2:=Lib.hid hm2;have HOF:=Lib.hid hf
  have HCHL:=Lib.hid hcl
  have HRL:=Lib.hid hol
  obtain⟨G,hG⟩:∃G,G=H.own t m:=⟨_,rfl⟩
  rw[<- hG]
  obtain⟨P1,hP1⟩:∃P1,P1=G.write t m f (H.regs t b):=⟨_,rfl⟩
  rw[<- hP1]
  have HP1:=Lib.hid hP1
  have HGE:Hid (G={ H with things:=turnT H.things m (ownT t),deals:=put1 H.deals t ((H.deals t).addO (m,(th H.things m).version)) }):=by
    rw[Hid,hG]
    unfold Hall.own
    rw[if_neg (show ¬ (H.thing m).owner=some t by rw[show (H.thing m).owner=none from how];simp)]
    rfl
  have HOW:Hid (ownN (th H.things m).owner = -1):=by rw[Hid,how];rfl
  have HGF:Hid ((th G.things m).fields.length=(th H.things m).fields.length):=by rw[Hid,HGE.out];dsimp only;rw[th_turn_same _ hm1 hm2];rfl
  have HGL:Hid (m<=G.things.length):=by rw[Hid,HGE.out];dsimp only;rw[len_turn];exact hm2
  have HGR:Hid (G.regs=H.regs):=by rw[Hid,HGE.out]
  have HGC:Hid ((G.deals t).changes.length<900000):=by rw[Hid,HGE.out];dsimp only;simp only [put1,if_true];exact hcl
  have HACC:Hid (∀W,Rmem base W B nm H->Calls Try.prog 86 #[.pointer (some ⟨B,0,none⟩),.int .i64 (t:Int),.int .i64 (a:Int),.int .i64 (f:Int)] W (RetH base W B nm H H (.tuple #[.int .i64 (m:Int),.int .i64 0]))):=λW hW=>by
    have:=access_any base W B nm H hW t a ht ha (f:Int) ok hid h6 hver
    rw[hacc,if_pos rfl,if_neg (by decide),hreg] at this;exact this
  clear h ht ha hb hacc hreg ok hid h6 hver hm1 hm2 hf hcl how hP1 hG hol
  go_enter Try.func67,Try.ntmps67
  go_upto_region 63 with (first|(go_at_call 56;(with_reducible refine (in_kind 6 (by omega) _).mono ?_);rintro e w1 ⟨rfl,hb1⟩;obtain⟨HA,HR1,HR2,HB1,hz1⟩:=rows3 hb1;clear hb1;obtain⟨a0,a1,a2,a3,a4⟩:=HA.out.act)|(go_at_call 56;(with_reducible refine (in_reg t HTT.out _).mono ?_);rintro e _ ⟨rfl,rfl⟩)|(go_at_call 56;(with_reducible refine (in_reg a HAA.out _).mono ?_);rintro e _ ⟨rfl,rfl⟩)|(go_at_call 56;(with_reducible refine (in_reg b HBB.out _).mono ?_);rintro e _ ⟨rfl,rfl⟩))
  obtain⟨X2,hX2⟩:∃X2,X2=w.heap.size+1+1:=⟨_,rfl⟩
  rw[<- hX2] at HR2 ⊢
  obtain⟨X1,hX1⟩:∃X1,X1=w.heap.size+1:=⟨_,rfl⟩
  rw[<- hX1] at HR1 ⊢
  have hx:w.heap.size<X1/\X1<X2/\X2<w1.heap.size:=by omega
  have hx12:X1≠X2:=by omega
  have HF:=Lib.hid (AF.start HM.out HB1.out hx HA.out HR1.out HR2.out)
  have HM1:=Lib.hid HF.out.mem
  have hB1:=HM1.out.lt
  have hBX2:B≠X2:=by have:=HM.out.lt;omega
  have hBX1:B≠X1:=by have:=HM.out.lt;omega
  clear hX1 hX2 hz1 HA HR1 HR2
  go_upto_region 67 with (go_at_call 86;refine (HACC.out _ HM1.out).mono ?_;rintro e w2 ⟨rfl,nm2,hM2,hW2⟩;have HF2:=Lib.hid (HF.out.step hM2 hW2);clear hM2 hW2 a0 a1 a2 a3 a4)
  have HM2:=Lib.hid HF2.out.mem
  have hB2:=HM2.out.lt
  have HTH:Hid (∀W,Below w2.heap.size w2 W->Calls Try.prog 83 #[.pointer (some ⟨B,0,none⟩),.int .i64 (m:Int)] W (λe w'=>e = .returned (.pointer (some ⟨nm2.tb (m - 1),0,none⟩))/\W=w')):=λW hW=>thing_any (HM2.out.below hW) HO1.out HO2.out
  obtain⟨_,_,t2,_,_,_,tz,htl2⟩:=HM2.out.cT HO1.out HO2.out
  have tz2:=tz 2 (by omega)
  rw[HOW.out] at t2
  clear tz
  go_upto_region 69 with (go_at_call 83;refine (HTH.out _ (by ((repeat first|exact bR _ _|with_reducible first|refine bN ?_|refine bD ?_|refine bA ?_ ?_|refine bS ?_ ?_);all_goals first|exact Nat.le_refl _|(simp;done)|omega|(simp;omega)))).mono ?_;rintro e _ ⟨rfl,rfl⟩)
  go_upto_region 70 with (fail)
  obtain⟨q1,q2⟩:=HM2.out.setOwner (t:=t) HO1.out HO2.out
  obtain⟨w3,hw3⟩:∃w3,w3=w2.setCell ⟨nm2.tb (m - 1),2,none⟩ (.int .i64 (t:Int)):=⟨_,rfl⟩
  rw[<- hw3] at q1 q2 ⊢
  have HF3:=Lib.hid (HF2.out.step q1 (by have:=q2;(try dsimp only at this ⊢);rw[len_turn];exact this))
  clear q1 q2 hw3 t2 tz2 htl2 HF2 HM2 HTH hB2
  have HM3:=Lib.hid HF3.out.mem
  have hB3:=HM3.out.lt
  obtain⟨_,_,c10,_,cz⟩:=HM3.out.cD HTT.out
  have cz10:=cz 10 (by omega)
  obtain⟨ra,rc,er,hrc1,hrc2⟩:=Go.Proofs.Ytbeilcaadpopmab.OwnL.shape (show Go.Proofs.Ytbeilcaadpopmab.OwnL rSeen w3 base (nm2.ov t) (H.deals t).owned from HM3.out.part (.owned t) HTT.out)
  obtain⟨rl,hrl⟩:∃rl,rl=(H.deals t).owned.length:=⟨_,rfl⟩
  rw[<- hrl] at er hrc1
  rw[er] at c10
  have HER:=Lib.hid er
  obtain⟨_,t1,_,_,_,_,_,htl⟩:=HM3.out.cT (n:=m) HO1.out (by dsimp only;rw[len_turn];exact HO2.out)
  dsimp only at t1
  rw[th_turn_same _ HO1.out HO2.out] at t1
  obtain⟨T1,hT1⟩:∃T1,T1=nm2.tb (m - 1):=⟨_,rfl⟩
  obtain⟨ver,hver⟩:∃ver,ver=(th H.things m).version:=⟨_,rfl⟩
  rw[show (ownT t (th H.things m)).version=ver from hver.symm] at t1
  have hmk:m - 1<(turnT H.things m (ownT t)).length:=by rw[len_turn];have:=HO1.out;have:=HO2.out;omega
  have hTB1:T1≠B:=λe=>by
    have:=HM3.out.apart (.thing (m - 1)) .box B hmk trivial (by show some (nm2.tb (m - 1))=_;rw[<- hT1,e]) rfl
    cases this
  have hTR1:¬ (nm2.ov t).ownBlock=some T1:=λe=>by
    have:=HM3.out.apart (.thing (m - 1)) (.owned t) T1 hmk HTT.out (by show some (nm2.tb (m - 1))=_;rw[<- hT1]) e
    cases this
  have HT1:=Lib.hid hT1;have HVR:=Lib.hid hver
  simp only [<- hT1] at t1 htl ⊢
  clear hT1 hver hrl cz er
  have HKR:Hid (∀W,Chg (λk=>(nm2.ov t).ownBlock=some k) w3 W->W.cell? ⟨T1,1,none⟩=some (.int .i64 (ver:Int))/\W.cell? ⟨B,34+t * 12+10,none⟩=some (.slice ra rl rc)/\W.frozen? ⟨B,34+t * 12+10,none⟩=false):=λW hW=>by
    have n1:¬ (nm2.ov t).ownBlock=some B:=λe=>by have:=HM3.out.apart .box (.owned t) B trivial HTT.out rfl e;cases this
    exact⟨(hW.cell htl hTR1 1).1.trans t1,(hW.cell hB3 n1 _).1.trans c10,(hW.cell hB3 n1 _).2.trans cz10⟩
  have HOWN:Hid (∀W,Below w3.heap.size w3 W->Go.Proofs.Ytbeilcaadpopmab.OwnL rSeen W base (.slice ra rl rc) (H.deals t).owned):=λW hW=>by rw[<- HER.out];exact (HM3.out.below hW).part (.owned t) HTT.out
  have HBS:=Lib.hid HM3.out.base_le
  have HCG:Hid (∀(W W':World),W.grownBy W' (Value.slice ra rl rc).ownBlock->Chg (λk=>(nm2.ov t).ownBlock=some k) W W'):=λW W' hg=>Chg.ofGrown _ hg (λi e=>by rw[HER.out];exact e)
  have HADD:Hid (∀(W W':World) (v':Value),Below w3.heap.size w3 W->Go.Proofs.Ytbeilcaadpopmab.OwnL rSeen W' base v' ((H.deals t).owned++[(m,ver)])->W.grownBy W' (Value.slice ra rl rc).ownBlock->(v'.ownBlock=(Value.slice ra rl rc).ownBlock\/∀k,v'.ownBlock=some k->W.heap.size<=k)->AF base w B nm H (actL 6 (t:Int) (a:Int) (b:Int) (f:Int)) X1 X2 AnsM.nil (W'.setCell ⟨B,34+t * 12+10,none⟩ v') (nm2.deal t (nm2.rv t) v' (nm2.cv t)) G):=λW W' v' hW hO hg hn=>by
    obtain⟨q1,q2⟩:=HM3.out.addOwned HTT.out (m,ver) v' hW hO (by rw[HER.out];exact hg) (by rw[HER.out];exact hn)
    rw[HGE.out,<- HVR.out]
    exact HF3.out.step q1 q2
  have HLRD:Hid ((H.deals t).owned.length<900000):=HRL.out
  clear t1 c10 cz10
  obtain⟨w8,hw8⟩:∃w8,w8=w3.drew:=⟨_,rfl⟩
  have HB8:Hid (Below w3.heap.size w3 w8):=by rw[Hid,hw8];exact (Below.refl _ _).drew
  have hS8:(λW:World=>W.cell? ⟨T1,1,none⟩=some (.int .i64 (ver:Int))/\W.cell? ⟨B,34+t * 12+10,none⟩=some (.slice ra rl rc)/\W.frozen? ⟨B,34+t * 12+10,none⟩=false) w8:=HKR.out _ (.ofBelow _ HB8.out)
  refine wp_region_N [21] (λW=>W.cell? ⟨T1,1,none⟩=some (.int .i64 (ver:Int))/\W.cell? ⟨B,34+t * 12+10,none⟩=some (.slice ra rl rc)/\W.frozen? ⟨B,34+t * 12+10,none⟩=false) (λ_=>True) (by kernel_rfl) hw8 ?_
  clear hw8
  refine TkN.on [0,1,2,3,4,5,6,7,8,9,10,11,12,13,14] ?_
  (repeat (refine TkN.take (v:=?_) rfl (by kernel_rfl) (λ_ _ _ h=>h) hS8 (.inl ⟨by rfl,?_⟩) ?_;rotate_left;(· (intro W hW;obtain⟨k0,k1,k2⟩:=hW;go_simp;try with_reducible rfl));try simp only [List.getElem_toArray,List.getElem_cons_zero,List.getElem_cons_succ];try simp only [Act.put,List.setIfInBounds_toArray,List.set_cons_zero,List.set_cons_succ]))
  refine TkN.off ?_
  refine wpAnyN_pure (v:=?_) 17 rfl (by kernel_rfl) (by kernel_rfl) (by kernel_rfl) (λ_ _ _ h=>h) (.inl ⟨by rfl,?_⟩) ?_
  rotate_left
  · (intro W hW;go_simp;try with_reducible rfl)
  try simp only [Act.put,List.setIfInBounds_toArray,List.set_cons_zero,List.set_cons_succ]
  refine wpAnyN_pure (v:=?_) 18 rfl (by kernel_rfl) (by kernel_rfl) (by kernel_rfl) (λ_ _ _ h=>h) (.inl ⟨by rfl,?_⟩) ?_
  rotate_left
  · (intro W hW;go_simp;try with_reducible rfl)
  try simp only [Act.put,List.setIfInBounds_toArray,List.set_cons_zero,List.set_cons_succ]
  refine wpAnyN_one 15 rfl (by kernel_rfl) λK hK=>?_
  go_simp
  obtain⟨w9,hw9⟩:∃w9,w9=w8.alloc (.cells #[.int .i64 (m:Int),.int .i64 (ver:Int)] 140):=⟨_,rfl⟩
  obtain⟨n9,hn9⟩:∃n9,n9=w8.heap.size:=⟨_,rfl⟩
  have HB9:Hid (Below w3.heap.size w3 w9):=by rw[Hid,hw9];exact HB8.out.alloc HB8.out.size _
  have HROW:Hid (Row w9 (.slice (some ⟨n9,0,none⟩) 1 1) 1 2 (rSeen.enc (m,ver))):=by rw[Hid,hw9,hn9];exact row_seen w8 (m,ver)
  rw[<- hw9,<- hn9]
  clear hw9 hn9
  have hS9:(λW:World=>W.cell? ⟨T1,1,none⟩=some (.int .i64 (ver:Int))/\W.cell? ⟨B,34+t * 12+10,none⟩=some (.slice ra rl rc)/\W.frozen? ⟨B,34+t * 12+10,none⟩=false) w9:=HKR.out _ (.ofBelow _ HB9.out)
  refine hK.out _ _ ⟨λ_ _=>hS9,λh=>h⟩ (λ_=>?_)
  clear hK K hS8
  try simp only [Act.put,List.setIfInBounds_toArray,List.set_cons_zero,List.set_cons_succ]
  refine wpAnyN_one 16 rfl (by kernel_rfl) λK hK=>?_
  refine step_append_L rSeen rfl _ _ 120 _ 16 Try.underlying120 Try.infSeen rfl (by decide) (by decide) (by decide) rfl base (.slice ra rl rc) ((H.deals t).owned) rfl (HOWN.out _ HB9.out) _ (m,ver) rfl HROW.out HLRD.out (Nat.le_trans HBS.out HB9.out.size) ?_
  intro v7 w7 hO7 hg7 hn7
  have HC7:Hid (Chg (λk=>(nm2.ov t).ownBlock=some k) w3 w7):=(Chg.ofBelow _ HB9.out).trans (HCG.out _ _ hg7)
  have HF7:=Lib.hid (HADD.out _ _ _ HB9.out hO7 hg7 hn7)
  have hB7:B<w7.heap.size:=Nat.lt_of_lt_of_le hB3 HC7.out.size
  have hS7:(λW:World=>W.cell? ⟨T1,1,none⟩=some (.int .i64 (ver:Int))/\W.cell? ⟨B,34+t * 12+10,none⟩=some (.slice ra rl rc)/\W.frozen? ⟨B,34+t * 12+10,none⟩=false) w7:=HKR.out _ HC7.out
  refine hK.out _ _ ⟨λ_ _=>hS7,λh=>h⟩ (λ_=>?_)
  clear hK K hS9
  try simp only [Act.put,List.setIfInBounds_toArray,List.set_cons_zero,List.set_cons_succ]
  refine wpAnyN_one 19 rfl (by kernel_rfl) λK hK=>?_
  go_simp
  refine hK.out _ _ ⟨λ_ _=>hS7,λh=>h⟩ (λ_=>?_)
  clear hK K
  try simp only [Act.put,List.setIfInBounds_toArray,List.set_cons_zero,List.set_cons_succ]
  refine wpAnyN_one 20 rfl (by kernel_rfl) λK hK=>?_
  go_simp
  refine hK.out _ _ ⟨λ_ _=>hS7,λh=>h⟩ (λ_=>?_)
  clear hK K
  try simp only [Act.put,List.setIfInBounds_toArray,List.set_cons_zero,List.set_cons_succ]
  obtain⟨k0,k1,k2⟩:=hS7
  obtain⟨va,vl,vc,hv7⟩:∃va vl vc,v7 = .slice va vl vc:=by obtain⟨x,y,e,_⟩:=Go.Proofs.Ytbeilcaadpopmab.OwnL.shape hO7;exact⟨_,_,_,e⟩
  subst hv7
  clear hO7 hg7 hn7
  refine wpAnyN_one 21 rfl (by kernel_rfl) λK hK=>?_
  go_simp
  refine hK.out _ _ ⟨λh=>absurd (List.mem_singleton.2 rfl) h,λh=>h⟩ (λ_=>?_)
  clear hK K
  try simp only [Act.put,List.setIfInBounds_toArray,List.set_cons_zero,List.set_cons_succ]
  refine wpAnyN_done (by kernel_rfl) ?_ _
  clear k0 k1 k2
  clear HKR HOWN HCG HADD HC7 hB7 hTB1 hTR1 HB8 HB9 HROW
  obtain⟨w4,hw4⟩:∃w4,w4=w7.setCell ⟨B,34+t * 12+10,none⟩ (.slice va vl vc):=⟨_,rfl⟩
  obtain⟨nm3,hn3⟩:∃nm3,nm3=nm2.deal t (nm2.rv t) (.slice va vl vc) (nm2.cv t):=⟨_,rfl⟩
  rw[<- hw4,<- hn3] at HF7
  rw[<- hw4]
  have HF4:=Lib.hid HF7.out
  have hT3:T1=nm3.tb (m - 1):=by rw[hn3,HT1.out];rfl
  rw[hT3]
  clear hw4 hn3 hT3 htl hrc1 hrc2 HM3 hB3 HBS HF7 HF3 HER
  go_upto_region 71 with (fail)
  have HM3:=Lib.hid HF4.out.mem
  have hB3:=HM3.out.lt
  obtain⟨_,_,_,c11,cz⟩:=HM3.out.cD HTT.out
  obtain⟨ca,cc,ec,hcc1,hcc2⟩:=Go.Proofs.Ytbeilcaadpopmab.OwnL.shape (show Go.Proofs.Ytbeilcaadpopmab.OwnL rChange w4 base (nm3.cv t) (G.deals t).changes from HM3.out.part (.changes t) HTT.out)
  have cz11:=cz 11 (by omega)
  obtain⟨cl,hcl⟩:∃cl,cl=(G.deals t).changes.length:=⟨_,rfl⟩
  rw[<- hcl] at ec hcc1
  rw[ec] at c11
  have HEC:=Lib.hid ec;have HCL:=Lib.hid hcl
  obtain⟨⟨fa,fc,hfv,hfc1,hfc2,t0,hfld⟩,_,_,_,_,_,_,htl⟩:=HM3.out.cT (n:=m) HO1.out HGL.out
  have HO3:Hid (f<(th G.things m).fields.length):=by rw[Hid,HGF.out];exact HOF.out
  obtain⟨g,rfl,hg,hgB,_,d0,d1,dz⟩:=hfld f HO3.out
  obtain⟨old,hold⟩:∃old,old=(th G.things m).fields[f]'HO3.out:=⟨_,rfl⟩
  rw[<- hold] at d0 d1
  obtain⟨ok,hok⟩:∃ok,ok=old.k:=⟨_,rfl⟩
  obtain⟨on,hon⟩:∃on,on=old.n:=⟨_,rfl⟩
  rw[<- hok] at d0;rw[<- hon] at d1
  have HOLD:=Lib.hid hold;have HOKK:=Lib.hid hok;have HONN:=Lib.hid hon
  obtain⟨fl,hfl⟩:∃fl,fl=(th G.things m).fields.length:=⟨_,rfl⟩
  rw[<- hfl] at t0 hfc1
  have hff:(f:Int)<(fl:Int):=by have:=HO3.out;omega
  obtain⟨T,hT⟩:∃T,T=nm3.tb (m - 1):=⟨_,rfl⟩
  have HTE:=Lib.hid hT;have HFV:=Lib.hid hfv
  have hmk:m - 1<G.things.length:=by have:=HO1.out;have:=HGL.out;omega
  have hTB:T≠B:=λe=>by
    have:=HM3.out.apart (.thing (m - 1)) .box B hmk trivial (by show some (nm3.tb (m - 1))=_;rw[<- hT,e]) rfl
    cases this
  have hTC:¬ (nm3.cv t).ownBlock=some T:=λe=>by
    have:=HM3.out.apart (.thing (m - 1)) (.changes t) T hmk HTT.out (by show some (nm3.tb (m - 1))=_;rw[<- hT]) e
    cases this
  have hgC:¬ (nm3.cv t).ownBlock=some g:=λe=>by
    have:=HM3.out.apart (.flds (m - 1)) (.changes t) g hmk HTT.out (by show (nm3.fv (m - 1)).ownBlock=_;rw[HFV.out];rfl) e
    cases this
  have hA3:=HF4.out.ra.1
  have hAB:w.heap.size≠B:=λe=>HF4.out.no B (by omega) (by have:=HF4.out.xs;omega) ⟨.box,trivial,rfl⟩
  have hAC:¬ (nm3.cv t).ownBlock=some w.heap.size:=λe=>HF4.out.no w.heap.size (Nat.le_refl _) (by have:=HF4.out.xs;omega) ⟨.changes t,HTT.out,e⟩
  have HFL:=Lib.hid hfl
  simp only [<- hT] at t0 htl ⊢
  clear hfld hfv hold hok hon hfl hT cz hcl ec
  have d4:=HF4.out.ra.act.2.2.2.2
  have HKC6:Hid (∀W,Chg (λk=>(nm3.cv t).ownBlock=some k) w4 W->W.cell? ⟨w.heap.size,4,none⟩=some (.int .i64 (f:Int))/\W.cell? ⟨T,0,none⟩=some (.slice (some ⟨g,0,none⟩) fl fc)/\W.cell? ⟨g,f * 2,none⟩=some (.int .i64 ok)/\W.cell? ⟨g,f * 2+1,none⟩=some (.int .i64 on)/\W.cell? ⟨B,34+t * 12+11,none⟩=some (.slice ca cl cc)/\W.frozen? ⟨B,34+t * 12+11,none⟩=false):=λW hW=>by
    have n1:¬ (nm3.cv t).ownBlock=some B:=λe=>by have:=HM3.out.apart .box (.changes t) B trivial HTT.out rfl e;cases this
    exact⟨(hW.cell hA3 hAC 4).1.trans d4,(hW.cell htl hTC 0).1.trans t0,(hW.cell hg hgC _).1.trans d0,(hW.cell hg hgC _).1.trans d1,(hW.cell hB3 n1 _).1.trans c11,(hW.cell hB3 n1 _).2.trans cz11⟩
  have HOWN:Hid (∀W,Below w4.heap.size w4 W->Go.Proofs.Ytbeilcaadpopmab.OwnL rChange W base (.slice ca cl cc) (G.deals t).changes):=λW hW=>by rw[<- HEC.out];exact (HM3.out.below hW).part (.changes t) HTT.out
  have HBS:=Lib.hid HM3.out.base_le
  have HCG:Hid (∀(W W':World),W.grownBy W' (Value.slice ca cl cc).ownBlock->Chg (λk=>(nm3.cv t).ownBlock=some k) W W'):=λW W' hg=>Chg.ofGrown _ hg (λi e=>by rw[HEC.out];exact e)
  have HADD:Hid (∀(W W':World) (v':Value),Below w4.heap.size w4 W->Go.Proofs.Ytbeilcaadpopmab.OwnL rChange W' base v' ((G.deals t).changes++[(m,f,old)])->W.grownBy W' (Value.slice ca cl cc).ownBlock->(v'.ownBlock=(Value.slice ca cl cc).ownBlock\/∀k,v'.ownBlock=some k->W.heap.size<=k)->AF base w B nm H (actL 6 (t:Int) (a:Int) (b:Int) (f:Int)) X1 X2 AnsM.nil (W'.setCell ⟨B,34+t * 12+11,none⟩ v') (nm3.deal t (nm3.rv t) (nm3.ov t) v') { G with deals:=put1 G.deals t ((G.deals t).addC (m,f,old)) }):=λW W' v' hW hO hg hn=>by
    obtain⟨q1,q2⟩:=HM3.out.addChange HTT.out (m,f,old) v' hW hO (by rw[HEC.out];exact hg) (by rw[HEC.out];exact hn)
    exact HF4.out.step q1 q2
  have HLC:Hid ((G.deals t).changes.length<900000):=HGC.out
  clear d4
  clear t0 d0 d1 c11 cz11
  obtain⟨w8,hw8⟩:∃w8,w8=w4.drew:=⟨_,rfl⟩
  have HB8:Hid (Below w4.heap.size w4 w8):=by rw[Hid,hw8];exact (Below.refl _ _).drew
  have hS8:(λW:World=>W.cell? ⟨w.heap.size,4,none⟩=some (.int .i64 (f:Int))/\W.cell? ⟨T,0,none⟩=some (.slice (some ⟨g,0,none⟩) fl fc)/\W.cell? ⟨g,f * 2,none⟩=some (.int .i64 ok)/\W.cell? ⟨g,f * 2+1,none⟩=some (.int .i64 on)/\W.cell? ⟨B,34+t * 12+11,none⟩=some (.slice ca cl cc)/\W.frozen? ⟨B,34+t * 12+11,none⟩=false) w8:=HKC6.out _ (.ofBelow _ HB8.out)
  refine wp_region_N [27] (λW=>W.cell? ⟨w.heap.size,4,none⟩=some (.int .i64 (f:Int))/\W.cell? ⟨T,0,none⟩=some (.slice (some ⟨g,0,none⟩) fl fc)/\W.cell? ⟨g,f * 2,none⟩=some (.int .i64 ok)/\W.cell? ⟨g,f * 2+1,none⟩=some (.int .i64 on)/\W.cell? ⟨B,34+t * 12+11,none⟩=some (.slice ca cl cc)/\W.frozen? ⟨B,34+t * 12+11,none⟩=false) (λ_=>True) (by kernel_rfl) hw8 ?_
  clear hw8
  refine TkN.on [0,1,2,3,4,5,6,7,8,9,10,11,12,13,14,15,16,17,18,19,20] ?_
  (repeat (refine TkN.take (v:=?_) rfl (by kernel_rfl) (λ_ _ _ h=>h) hS8 (.inl ⟨by rfl,?_⟩) ?_;rotate_left;(· (intro W hW;obtain⟨k0,k1,k2,k3,k4,k5⟩:=hW;go_simp;try with_reducible rfl));try simp only [List.getElem_toArray,List.getElem_cons_zero,List.getElem_cons_succ];try simp only [Act.put,List.setIfInBounds_toArray,List.set_cons_zero,List.set_cons_succ]))
  refine TkN.off ?_
  refine wpAnyN_pure (v:=?_) 23 rfl (by kernel_rfl) (by kernel_rfl) (by kernel_rfl) (λ_ _ _ h=>h) (.inl ⟨by rfl,?_⟩) ?_
  rotate_left
  · (intro W hW;go_simp;try with_reducible rfl)
  try simp only [Act.put,List.setIfInBounds_toArray,List.set_cons_zero,List.set_cons_succ]
  refine wpAnyN_pure (v:=?_) 24 rfl (by kernel_rfl) (by kernel_rfl) (by kernel_rfl) (λ_ _ _ h=>h) (.inl ⟨by rfl,?_⟩) ?_
  rotate_left
  · (intro W hW;go_simp;try with_reducible rfl)
  try simp only [Act.put,List.setIfInBounds_toArray,List.set_cons_zero,List.set_cons_succ]
  refine wpAnyN_one 21 rfl (by kernel_rfl) λK hK=>?_
  go_simp
  obtain⟨w9,hw9⟩:∃w9,w9=w8.alloc (.cells #[.int .i64 (m:Int),.int .i64 (f:Int),.int .i64 ok,.int .i64 on] 148):=⟨_,rfl⟩
  obtain⟨n9,hn9⟩:∃n9,n9=w8.heap.size:=⟨_,rfl⟩
  have HB9:Hid (Below w4.heap.size w4 w9):=by rw[Hid,hw9];exact HB8.out.alloc HB8.out.size _
  have HROW:Hid (Row w9 (.slice (some ⟨n9,0,none⟩) 1 1) 1 4 (rChange.enc (m,f,old))):=by rw[Hid,hw9,hn9];exact row_change w8 (m,f,old) ok on HOKK.out HONN.out
  rw[<- hw9,<- hn9]
  clear hw9 hn9
  have hS9:(λW:World=>W.cell? ⟨w.heap.size,4,none⟩=some (.int .i64 (f:Int))/\W.cell? ⟨T,0,none⟩=some (.slice (some ⟨g,0,none⟩) fl fc)/\W.cell? ⟨g,f * 2,none⟩=some (.int .i64 ok)/\W.cell? ⟨g,f * 2+1,none⟩=some (.int .i64 on)/\W.cell? ⟨B,34+t * 12+11,none⟩=some (.slice ca cl cc)/\W.frozen? ⟨B,34+t * 12+11,none⟩=false) w9:=HKC6.out _ (.ofBelow _ HB9.out)
  refine hK.out _ _ ⟨λ_ _=>hS9,λh=>h⟩ (λ_=>?_)
  clear hK K hS8
  try simp only [Act.put,List.setIfInBounds_toArray,List.set_cons_zero,List.set_cons_succ]
  refine wpAnyN_one 22 rfl (by kernel_rfl) λK hK=>?_
  refine step_append_L rChange rfl _ _ 121 _ 32 Try.underlying121 Try.infChange rfl (by decide) (by decide) (by decide) rfl base (.slice ca cl cc) ((G.deals t).changes) rfl (HOWN.out _ HB9.out) _ (m,f,old) rfl HROW.out HLC.out (Nat.le_trans HBS.out HB9.out.size) ?_
  intro v7 w7 hO7 hg7 hn7
  have HC7:Hid (Chg (λk=>(nm3.cv t).ownBlock=some k) w4 w7):=(Chg.ofBelow _ HB9.out).trans (HCG.out _ _ hg7)
  have HF7:=Lib.hid (HADD.out _ _ _ HB9.out hO7 hg7 hn7)
  have hB7:B<w7.heap.size:=Nat.lt_of_lt_of_le hB3 HC7.out.size
  have hS7:(λW:World=>W.cell? ⟨w.heap.size,4,none⟩=some (.int .i64 (f:Int))/\W.cell? ⟨T,0,none⟩=some (.slice (some ⟨g,0,none⟩) fl fc)/\W.cell? ⟨g,f * 2,none⟩=some (.int .i64 ok)/\W.cell? ⟨g,f * 2+1,none⟩=some (.int .i64 on)/\W.cell? ⟨B,34+t * 12+11,none⟩=some (.slice ca cl cc)/\W.frozen? ⟨B,34+t * 12+11,none⟩=false) w7:=HKC6.out _ HC7.out
  refine hK.out _ _ ⟨λ_ _=>hS7,λh=>h⟩ (λ_=>?_)
  clear hK K hS9
  try simp only [Act.put,List.setIfInBounds_toArray,List.set_cons_zero,List.set_cons_succ]
  refine wpAnyN_one 25 rfl (by kernel_rfl) λK hK=>?_
  go_simp
  refine hK.out _ _ ⟨λ_ _=>hS7,λh=>h⟩ (λ_=>?_)
  clear hK K
  try simp only [Act.put,List.setIfInBounds_toArray,List.set_cons_zero,List.set_cons_succ]
  refine wpAnyN_one 26 rfl (by kernel_rfl) λK hK=>?_
  go_simp
  refine hK.out _ _ ⟨λ_ _=>hS7,λh=>h⟩ (λ_=>?_)
  clear hK K
  try simp only [Act.put,List.setIfInBounds_toArray,List.set_cons_zero,List.set_cons_succ]
  obtain⟨k0,k1,k2,k3,k4,k5⟩:=hS7
  obtain⟨va,vl,vc,hv7⟩:∃va vl vc,v7 = .slice va vl vc:=by obtain⟨x,y,e,_⟩:=Go.Proofs.Ytbeilcaadpopmab.OwnL.shape hO7;exact⟨_,_,_,e⟩
  subst hv7
  clear hO7 hg7 hn7
  refine wpAnyN_one 27 rfl (by kernel_rfl) λK hK=>?_
  go_simp
  refine hK.out _ _ ⟨λh=>absurd (List.mem_singleton.2 rfl) h,λh=>h⟩ (λ_=>?_)
  clear hK K
  try simp only [Act.put,List.setIfInBounds_toArray,List.set_cons_zero,List.set_cons_succ]
  refine wpAnyN_done (by kernel_rfl) ?_ _
  clear k0 k1 k2 k3 k4 k5
  clear HKC6 HOWN HCG HADD HC7 hB7 hTB hTC hgC hAB hAC hgB HB8 HB9 HROW
  obtain⟨w5,hw5⟩:∃w5,w5=w7.setCell ⟨B,34+t * 12+11,none⟩ (.slice va vl vc):=⟨_,rfl⟩
  obtain⟨nm5,hn5⟩:∃nm5,nm5=nm3.deal t (nm3.rv t) (nm3.ov t) (.slice va vl vc):=⟨_,rfl⟩
  obtain⟨G5,hG5⟩:∃G5:Hall,G5={ G with deals:=put1 G.deals t ((G.deals t).addC (m,f,old)) }:=⟨_,rfl⟩
  rw[<- hw5,<- hn5,<- hG5] at HF7
  rw[<- hw5]
  have HTE5:Hid (T=nm5.tb (m - 1)):=by rw[Hid,hn5,HTE.out];rfl
  have hfv5:nm5.fv (m - 1) = .slice (some ⟨g,0,none⟩) fl fc:=by rw[hn5];show nm3.fv (m - 1)=_;rw[HFV.out,<- HFL.out]
  have HG5:=Lib.hid hG5
  have HG5F:Hid (th G5.things m=th G.things m/\G5.things.length=G.things.length/\G5.regs=H.regs):=by rw[hG5];exact⟨rfl,rfl,HGR.out⟩
  clear hw5 hn5 hG5 htl hg
  go_upto_region 72 with (fail)
  obtain⟨w8,hw8⟩:∃w8,w8=w5.drew:=⟨_,rfl⟩
  have HF8:Hid (AF base w B nm H (actL 6 (t:Int) (a:Int) (b:Int) (f:Int)) X1 X2 AnsM.nil w8 nm5 G5):=by rw[Hid,hw8];exact HF7.out.below (Below.refl _ _).drew
  have HM8:=Lib.hid HF8.out.mem
  obtain⟨a0,a1,a2,a3,a4⟩:=HF8.out.ra.act
  obtain⟨⟨fa',fc',hfv',_,_,t0,hfld⟩,_,_,_,_,_,_,htl⟩:=HM8.out.cT (n:=m) HO1.out (by rw[HG5F.out.2.1];exact HGL.out)
  have HO5:Hid (f<(th G5.things m).fields.length):=by rw[Hid,HG5F.out.1];exact HO3.out
  obtain⟨g',rfl,hg,hgB,_,d0,d1,dz⟩:=hfld f HO5.out
  rw[hfv5] at hfv'
  simp only [Value.slice.injEq,Option.some.injEq,Addr.mk.injEq,and_true] at hfv'
  obtain⟨rfl,hflx,rfl⟩:=hfv'
  rw[<- HTE5.out,<- hflx] at t0
  rw[<- HTE5.out] at htl
  have HTHR:Hid (w8.there g (f * 2) 2):=λj hj=>by
    rcases (show j=0\/j=1 by omega) with rfl|rfl
    · exact⟨by rw[show f * 2+0=f * 2 from rfl,d0];rfl,dz _⟩
    · exact⟨by rw[d1];rfl,dz _⟩
  obtain⟨v,hv⟩:∃v,v=H.regs t b:=⟨_,rfl⟩
  obtain⟨vk,hvk⟩:∃vk,vk=v.k:=⟨_,rfl⟩
  obtain⟨vn,hvn⟩:∃vn,vn=v.n:=⟨_,rfl⟩
  have HL:Hid (w8.rangeAt B (2+t * 8+b * 2) [.int .i64 vk,.int .i64 vn]):=HM8.out.box.range _ _ (by have:=HTT.out;have:=HBB.out;simp;omega) (λj hj=>by
    obtain⟨e1,e2⟩:=hallC_reg nm5 G5 HTT.out HBB.out
    rw[HG5F.out.2.2,<- hv] at e1 e2
    rw[<- hvk] at e1
    rw[<- hvn] at e2
    have hj2:j=0\/j=1:=by simp at hj;omega
    rcases hj2 with rfl|rfl
    · exact e1
    · exact e2)
  have HVV:=Lib.hid hv;have HVK:=Lib.hid hvk;have HVN:=Lib.hid hvn
  have HFV5:=Lib.hid hfv5
  have hffl:f<fl:=by omega
  clear hfld d0 d1 dz hv hvk hvn hflx hfv5
  refine still_tail_at 16 (by kernel_rfl) (by kernel_rfl) hw8 ?_;simp only [List.take_succ_cons,List.take_zero,List.drop_succ_cons,List.drop_zero];clear hw8;(repeat (first|(refine still_loadBox rfl _ _ rfl B (2+t * 8+b * 2) rfl _ HL.out _ Try.underlying36 rfl Try.sizeVal ?_)|still_step));refine wpStill_nil ?_
  refine wpList_store_mid rfl 36 _ _ rfl g (f * 2) #[.int .i64 vk,.int .i64 vn] rfl rfl HTHR.out Try.sizeVal (by simp[Value.oneCell']) ?_
  obtain⟨q1,q2⟩:=HM8.out.setField (n:=m) (k:=f) HO1.out (by rw[HG5F.out.2.1];exact HGL.out) HO5.out v HFV5.out
  have e9:rVal.enc v=(#[.int .i64 vk,.int .i64 vn]:Array Value).toList:=by rw[HVK.out,HVN.out];rfl
  rw[e9] at q1 q2
  generalize hw9:World.setCells _ _ _ _=w9 at q1 q2 ⊢
  have HF9:=Lib.hid (HF8.out.step q1 (by have:=q2;(try dsimp only at this ⊢);rw[show (setF G5.things m f v).length=G5.things.length from len_turn _ _ _];exact this))
  have hfin:({ G5 with things:=setF G5.things m f v }:Hall)=P1:=by
    rw[HP1.out,HG5.out]
    unfold Hall.write
    rw[show G.thing m=th G.things m from rfl,HVV.out,HOLD.out,List.getD_eq_getElem?_getD,List.getElem?_eq_getElem HO3.out]
    rfl
  rw[hfin] at HF9
  clear hfin q1 q2 hw9 e9 a0 a1 a2 a3 a4
  go_frame
  obtain⟨⟨o0,o1,o2,o3,o4,o5,o6⟩,z0,z1,z2,z3,z4,z5,z6⟩:=HF9.out.r2.ans
  obtain⟨⟨p0,p1,p2,p3,p4,p5,p6⟩,y0,y1,y2,y3,y4,y5,y6⟩:=HF9.out.r1.ans
  go_wp2_with fail
  have HEND:Hid (RowAt ((((((((w9).setCell ⟨X1,0,none⟩ (.int .i64 AnsM.nil.code)).setCell ⟨X1,1,none⟩ (.bool AnsM.nil.is)).setCell ⟨X1,2,none⟩ (.int .i64 AnsM.nil.number)).setCell ⟨X1,3,none⟩ (.bool AnsM.nil.yes)).setCell ⟨X1,4,none⟩ (.int .i64 AnsM.nil.words)).setCell ⟨X1,5,none⟩ (.bool AnsM.nil.going)).setCell ⟨X1,6,none⟩ (.int .i64 AnsM.nil.freed)) X1 (ansL AnsM.nil)) :=
    (((((((HF9.out.r1).set 0 _).set 1 _).set 2 _).set 3 _).set 4 _).set 5 _).set 6 _
  refine bodyPost_ret (v:=ansV AnsM.nil) (res_acted rfl HEND.out) rfl ?_
  exact HF9.out.fin (by repeat with_reducible (first|exact Chg.refl _ _|refine chgS ?_ (by first|(simp;done)|(simp;omega))))
end Go.Proofs.Ytbeilcaadpopmab
namespace Go.Proofs.Ytbeilcaadpopmab
open Go.RowKit Go.Maps
def fit1 (H:Hall) (t:Nat) (c:Nat × Nat):Bool:=((H.thing c.1).owner == none || (H.thing c.1).owner == some t) && (H.thing c.1).version == c.2
def fitsL (H:Hall) (t:Nat) (l:List (Nat × Nat)):Bool:=l.all (fit1 H t)
theorem fits_L (H:Hall) (t:Nat):H.fits t=fitsL H t (H.deals t).reads:=rfl
theorem fitsL_snoc (H:Hall) (t:Nat) (l:List (Nat × Nat)) (c:Nat × Nat):fitsL H t (l++[c])=(fitsL H t l && fit1 H t c):=by simp[fitsL]
def fitA (H:Hall) (t:Nat) (l:List (Nat × Nat)):AnsM:=if fitsL H t l=true then .nil else .err 6
theorem fitA_yes {H:Hall} {t:Nat} {l:List (Nat × Nat)} {c:Nat × Nat} (h:fit1 H t c=true):fitA H t (l++[c])=fitA H t l:=by
  unfold fitA;rw[fitsL_snoc,h,Bool.and_true]
theorem fitA_no {H:Hall} {t:Nat} {l:List (Nat × Nat)} {c:Nat × Nat} (h:fit1 H t c=false):fitA H t (l++[c]) = .err 6:=by
  unfold fitA;rw[fitsL_snoc,h,Bool.and_false];rfl
theorem fitA_set (H:Hall) (t:Nat) (l:List (Nat × Nat)):(ansL (fitA H t l)).set 0 (.int .i64 6)=ansL (.err 6):=by
  unfold fitA;split <;> rfl
theorem bumpF_append (l:List Thing) (a b:List (Nat × Nat)):bumpF l (a++b)=bumpF (bumpF l a) b:=by
  induction a generalizing l with
  | nil=>rfl
  | cons c a ih=>exact ih _
theorem bumpF_len (l:List Thing) (cs:List (Nat × Nat)):(bumpF l cs).length=l.length:=by
  have:=congrArg List.length (lens_bumpF cs l)
  rwa [lens_len,lens_len] at this
theorem bump_ver (l:List Thing) (n i:Nat) (h1:1<=n):(th (turnT l n bumpT) i).version<=(th l i).version+1:=by
  have q:∀i,1<=i->(th (turnT l n bumpT) i).version<=(th l i).version+1:=λi hi=>by
    rw[th_modify l n i _ h1 hi]
    split
    · exact Nat.le_refl _
    · omega
  rcases Nat.eq_zero_or_pos i with e|e
  · rw[e];exact q 1 (by omega)
  · exact q i e
theorem bumpF_ver:∀(cs:List (Nat × Nat)) (l:List Thing) (i:Nat) (h:∀c ∈ cs,1<=c.1),(th (bumpF l cs) i).version<=(th l i).version+cs.length
  | [],l,i,h=>by simp[bumpF]
  | c :: cs,l,i,h=>by
    have h1:=bumpF_ver cs (turnT l c.1 bumpT) i (λd hd=>h d (List.mem_cons_of_mem _ hd))
    have h2:=bump_ver l c.1 i (h c List.mem_cons_self)
    show (th (bumpF (turnT l c.1 bumpT) cs) i).version<=_
    simp only [List.length_cons]
    omega
theorem thingC_bump (f:Value) (x:Thing):∀i,i<6->thingC f (bumpT x) i=ins (ins (thingC f x) 2 (.int .i64 (-1))) 1 (.int .i64 ((x.version:Int)+1)) i:=λi hi=>by
  rcases (show i=0\/i=1\/i=2\/i=3\/i=4\/i=5 by omega) with rfl|rfl|rfl|rfl|rfl|rfl <;> rfl
theorem Rmem.bump {base B:Nat} {w:World} {nm:Rn} {H:Hall} (h:Rmem base w B nm H) {n:Nat} (h1:1<=n) (hn:n<=H.things.length) :
    Rmem base ((w.setCell ⟨nm.tb (n - 1),2,none⟩ (.int .i64 (-1))).setCell ⟨nm.tb (n - 1),1,none⟩ (.int .i64 (((th H.things n).version:Int)+1))) B nm { H with things:=turnT H.things n bumpT }/\WentR w ((w.setCell ⟨nm.tb (n - 1),2,none⟩ (.int .i64 (-1))).setCell ⟨nm.tb (n - 1),1,none⟩ (.int .i64 (((th H.things n).version:Int)+1))) B H.things.length H.things.length nm nm:=by
  refine h.thingTurn h1 hn bumpT (λ_=>rfl) ((Chg.setB _ _ _ _).trans (Chg.setB _ _ _ _)) ?_
  have hb:=h.thing (i:=n - 1) (by omega)
  rw[show n - 1+1=n by omega] at hb
  exact ((hb.set (o:=2) (by omega) (.int .i64 (-1))).set (o:=1) (by omega) _).congr λi hi=>(thingC_bump _ _ i hi).symm
set_option maxRecDepth 100000 in
set_option maxHeartbeats 16000000 in
theorem acted_commit (base:Nat) (w:World) (B:Nat) (nm:Rn) (H:Hall) (h:Rmem base w B nm H) (t:Nat) (ht:t<4) (a b n:Int) (ok:UndOk H t) (hrd:∀c ∈ (H.deals t).reads,1<=c.1/\c.1<=H.things.length) (hvb:∀i,(th H.things i).version<=1000000) (hver:∀i u,(th H.things i).owner=some u->u<4) :
    Calls Try.prog 67 #[.pointer (some ⟨B,0,none⟩),.agg #[.int .i64 2,.int .i64 (t:Int),.int .i64 a,.int .i64 b,.int .i64 n]] w (RetRA base w B nm H (H.commit t)):=by
  have HM:=Lib.hid h
  have i1:(t:Int)<4:=by omega
  have HTT:=Lib.hid ht;have HOK:=Lib.hid ok;have HRD:=Lib.hid hrd;have HVB:=Lib.hid hvb;have HV4:=Lib.hid hver
  clear h ok ht hrd hvb hver
  cases ho:(H.deals t).isOpen with
  | false =>
    have HP:Hid (H.commit t=(H,.err 5)):=by unfold Hid Hall.commit;rw[if_pos ho]
    rw[HP.out]
    have HO:=Lib.hid ho
    clear ho HP
    go_enter Try.func67,Try.ntmps67
    go_upto_region 19 with (first|(go_at_call 56;(with_reducible refine (in_kind 2 (by omega) _).mono ?_);rintro e w1 ⟨rfl,hb1⟩;obtain⟨HA,HR1,HR2,HB1,hz1⟩:=rows3 hb1;clear hb1;obtain⟨a0,a1,a2,a3,a4⟩:=HA.out.act)|(go_at_call 56;(with_reducible refine (in_reg t HTT.out _).mono ?_);rintro e _ ⟨rfl,rfl⟩))
    obtain⟨X2,hX2⟩:∃X2,X2=w.heap.size+1+1:=⟨_,rfl⟩
    rw[<- hX2] at HR2 ⊢
    obtain⟨X1,hX1⟩:∃X1,X1=w.heap.size+1:=⟨_,rfl⟩
    rw[<- hX1] at HR1 ⊢
    have hx:w.heap.size<X1/\X1<X2/\X2<w1.heap.size:=by omega
    have hx12:X1≠X2:=by omega
    have HF:=Lib.hid (AF.start HM.out HB1.out hx HA.out HR1.out HR2.out)
    have HM1:=Lib.hid HF.out.mem
    have hB1:=HM1.out.lt
    have hBX2:B≠X2:=by have:=HM.out.lt;omega
    have hBX1:B≠X1:=by have:=HM.out.lt;omega
    clear hX1 hX2 hz1 HA HR1 HR2
    have HBX:=Lib.hid HM1.out.box
    have HZ:=Lib.hid (deal_box w1)
    obtain⟨ra,rc,er,hrc1,hrc2⟩:=Go.Proofs.Ytbeilcaadpopmab.OwnL.shape (show Go.Proofs.Ytbeilcaadpopmab.OwnL rSeen w1 base (nm.rv t) (H.deals t).reads from HM1.out.part (.reads t) HTT.out)
    obtain⟨oa,oc,eo,hoc1,hoc2⟩:=Go.Proofs.Ytbeilcaadpopmab.OwnL.shape (show Go.Proofs.Ytbeilcaadpopmab.OwnL rSeen w1 base (nm.ov t) (H.deals t).owned from HM1.out.part (.owned t) HTT.out)
    obtain⟨ca,cc,ec,_,_⟩:=Go.Proofs.Ytbeilcaadpopmab.OwnL.shape (show Go.Proofs.Ytbeilcaadpopmab.OwnL rChange w1 base (nm.cv t) (H.deals t).changes from HM1.out.part (.changes t) HTT.out)
    have HONE:Hid ((dealL nm (H.deals t) t).toArray.all (·.oneCell')=true):=dealL_one (by rw[er];rfl) (by rw[eo];rfl) (by rw[ec];rfl)
    have HDL:Hid ((dealL nm (H.deals t) t).toArray.size=12):=by simp[Hid,dealL]
    have HER:=Lib.hid er;have HEO:=Lib.hid eo
    clear er eo ec
    go_upto_region 20 with (first|(refine wpl_storeN rfl _ _ _ rfl w1.heap.size 0 (dealL nm (H.deals t) t).toArray rfl rfl (λi=>(#[.bool false,.int .i64 0,.int .i64 0,.int .i64 0,.int .i64 0,.int .i64 0,.int .i64 0,.int .i64 0,.int .i64 0,.slice none 0 0,.slice none 0 0,.slice none 0 0]:Array Value).getD i undef) HZ.out (by rw[HDL.out];exact Nat.le_refl _) (Try.sizeDeal.trans (by rw[HDL.out])) HONE.out ?_;rw[List.toList_toArray];intro hbd hcd;have HBD:=Lib.hid hbd;have HCD:=Lib.hid hcd;clear hbd hcd)|refine wpl_loadN rfl _ _ rfl B (34+t * 12) rfl (hallC nm H) HBX.out (dealL nm (H.deals t) t) (by simp[dealL];have:=HTT.out;omega) (hallC_dealL nm H HTT.out) _ Try.underlying123 rfl (Try.sizeDeal.trans (by simp[dealL])) ?_)
    have HB0:Hid (∀arr ty,Below w1.heap.size w1 (w1.alloc (.cells arr ty))):=λarr ty=>(by ((repeat first|exact bR _ _|with_reducible first|refine bN ?_|refine bD ?_|refine bA ?_ ?_|refine bS ?_ ?_);all_goals first|exact Nat.le_refl _|(simp;done)|omega|(simp;omega)))
    generalize hw2:World.setCells _ _ _ _=w2 at HBD HCD ⊢
    have HD2:Hid (BoxN 12 w2 w1.heap.size (dealC nm (H.deals t) t)):=HBD.out.congr λi hi=>by
      unfold insL
      rw[if_pos ⟨by omega,by simp[dealL];omega⟩]
      simp[dealL,hi]
    have HBW:Hid (Below w1.heap.size w1 w2):=below_chg (HB0.out _ _) HCD.out (by simp)
    have HF2:=Lib.hid (HF.out.below HBW.out)
    have hYB:w1.heap.size≠B:=by omega
    have HNY0:Hid (¬ HasR B H.things.length nm w1.heap.size):=HM1.out.not_has (Nat.le_refl _)
    obtain⟨Y,hY⟩:∃Y,Y=w1.heap.size:=⟨_,rfl⟩
    rw[<- hY] at HD2 hYB HNY0 ⊢
    have hYX:X1≠Y/\X2≠Y:=by omega
    have hYw:Y<w2.heap.size:=HD2.out.lt (by omega)
    clear hw2 HZ HBX HDL HONE HBD HCD HB0 hY HBW
    obtain⟨y0,_⟩:=HD2.out 0 (by omega)
    rw[show dealC nm (H.deals t) t 0 = .bool (H.deals t).isOpen from rfl,HO.out] at y0
    obtain⟨⟨o0,o1,o2,o3,o4,o5,o6⟩,z0,z1,z2,z3,z4,z5,z6⟩:=HF2.out.r2.ans
    obtain⟨⟨p0,p1,p2,p3,p4,p5,p6⟩,y0,y1,y2,y3,y4,y5,y6⟩:=HF2.out.r1.ans
    go_wp2_with fail
    have HEND:Hid (RowAt (((((((((w2).setCell ⟨X2,0,none⟩ (.int .i64 5)).setCell ⟨X1,0,none⟩ (.int .i64 5)).setCell ⟨X1,1,none⟩ (.bool AnsM.nil.is)).setCell ⟨X1,2,none⟩ (.int .i64 AnsM.nil.number)).setCell ⟨X1,3,none⟩ (.bool AnsM.nil.yes)).setCell ⟨X1,4,none⟩ (.int .i64 AnsM.nil.words)).setCell ⟨X1,5,none⟩ (.bool AnsM.nil.going)).setCell ⟨X1,6,none⟩ (.int .i64 AnsM.nil.freed)) X1 (ansL (.err 5))) :=
      ((((((((HF2.out.r1).setFar _ _ (by simp;omega)).set 0 _).set 1 _).set 2 _).set 3 _).set 4 _).set 5 _).set 6 _
    refine bodyPost_ret (v:=ansV (.err 5)) (res_acted rfl HEND.out) rfl ?_
    exact HF2.out.fin (by repeat with_reducible (first|exact Chg.refl _ _|refine chgS ?_ (by first|(simp;done)|(simp;omega))))
  | true =>
    have HPC:Hid (H.commit t=if H.fits t then ({ H with things:=bumpF H.things (H.deals t).owned,deals:=put1 H.deals t noDeal },.nil) else (H.undone t,.err 6)):=by unfold Hid Hall.commit;rw[if_neg (by rw[ho];simp)]
    have HO:=Lib.hid ho
    clear ho
    go_enter Try.func67,Try.ntmps67
    go_upto_region 19 with (first|(go_at_call 56;(with_reducible refine (in_kind 2 (by omega) _).mono ?_);rintro e w1 ⟨rfl,hb1⟩;obtain⟨HA,HR1,HR2,HB1,hz1⟩:=rows3 hb1;clear hb1;obtain⟨a0,a1,a2,a3,a4⟩:=HA.out.act)|(go_at_call 56;(with_reducible refine (in_reg t HTT.out _).mono ?_);rintro e _ ⟨rfl,rfl⟩))
    obtain⟨X2,hX2⟩:∃X2,X2=w.heap.size+1+1:=⟨_,rfl⟩
    rw[<- hX2] at HR2 ⊢
    obtain⟨X1,hX1⟩:∃X1,X1=w.heap.size+1:=⟨_,rfl⟩
    rw[<- hX1] at HR1 ⊢
    have hx:w.heap.size<X1/\X1<X2/\X2<w1.heap.size:=by omega
    have hx12:X1≠X2:=by omega
    have HF:=Lib.hid (AF.start HM.out HB1.out hx HA.out HR1.out HR2.out)
    have HM1:=Lib.hid HF.out.mem
    have hB1:=HM1.out.lt
    have hBX2:B≠X2:=by have:=HM.out.lt;omega
    have hBX1:B≠X1:=by have:=HM.out.lt;omega
    clear hX1 hX2 hz1 HA HR1 HR2
    have HBX:=Lib.hid HM1.out.box
    have HZ:=Lib.hid (deal_box w1)
    obtain⟨ra,rc,er,hrc1,hrc2⟩:=Go.Proofs.Ytbeilcaadpopmab.OwnL.shape (show Go.Proofs.Ytbeilcaadpopmab.OwnL rSeen w1 base (nm.rv t) (H.deals t).reads from HM1.out.part (.reads t) HTT.out)
    obtain⟨oa,oc,eo,hoc1,hoc2⟩:=Go.Proofs.Ytbeilcaadpopmab.OwnL.shape (show Go.Proofs.Ytbeilcaadpopmab.OwnL rSeen w1 base (nm.ov t) (H.deals t).owned from HM1.out.part (.owned t) HTT.out)
    obtain⟨ca,cc,ec,_,_⟩:=Go.Proofs.Ytbeilcaadpopmab.OwnL.shape (show Go.Proofs.Ytbeilcaadpopmab.OwnL rChange w1 base (nm.cv t) (H.deals t).changes from HM1.out.part (.changes t) HTT.out)
    have HONE:Hid ((dealL nm (H.deals t) t).toArray.all (·.oneCell')=true):=dealL_one (by rw[er];rfl) (by rw[eo];rfl) (by rw[ec];rfl)
    have HDL:Hid ((dealL nm (H.deals t) t).toArray.size=12):=by simp[Hid,dealL]
    have HER:=Lib.hid er;have HEO:=Lib.hid eo
    clear er eo ec
    go_upto_region 20 with (first|(refine wpl_storeN rfl _ _ _ rfl w1.heap.size 0 (dealL nm (H.deals t) t).toArray rfl rfl (λi=>(#[.bool false,.int .i64 0,.int .i64 0,.int .i64 0,.int .i64 0,.int .i64 0,.int .i64 0,.int .i64 0,.int .i64 0,.slice none 0 0,.slice none 0 0,.slice none 0 0]:Array Value).getD i undef) HZ.out (by rw[HDL.out];exact Nat.le_refl _) (Try.sizeDeal.trans (by rw[HDL.out])) HONE.out ?_;rw[List.toList_toArray];intro hbd hcd;have HBD:=Lib.hid hbd;have HCD:=Lib.hid hcd;clear hbd hcd)|refine wpl_loadN rfl _ _ rfl B (34+t * 12) rfl (hallC nm H) HBX.out (dealL nm (H.deals t) t) (by simp[dealL];have:=HTT.out;omega) (hallC_dealL nm H HTT.out) _ Try.underlying123 rfl (Try.sizeDeal.trans (by simp[dealL])) ?_)
    have HB0:Hid (∀arr ty,Below w1.heap.size w1 (w1.alloc (.cells arr ty))):=λarr ty=>(by ((repeat first|exact bR _ _|with_reducible first|refine bN ?_|refine bD ?_|refine bA ?_ ?_|refine bS ?_ ?_);all_goals first|exact Nat.le_refl _|(simp;done)|omega|(simp;omega)))
    generalize hw2:World.setCells _ _ _ _=w2 at HBD HCD ⊢
    have HD2:Hid (BoxN 12 w2 w1.heap.size (dealC nm (H.deals t) t)):=HBD.out.congr λi hi=>by
      unfold insL
      rw[if_pos ⟨by omega,by simp[dealL];omega⟩]
      simp[dealL,hi]
    have HBW:Hid (Below w1.heap.size w1 w2):=below_chg (HB0.out _ _) HCD.out (by simp)
    have HF2:=Lib.hid (HF.out.below HBW.out)
    have hYB:w1.heap.size≠B:=by omega
    have HNY0:Hid (¬ HasR B H.things.length nm w1.heap.size):=HM1.out.not_has (Nat.le_refl _)
    obtain⟨Y,hY⟩:∃Y,Y=w1.heap.size:=⟨_,rfl⟩
    rw[<- hY] at HD2 hYB HNY0 ⊢
    have hYX:X1≠Y/\X2≠Y:=by omega
    have hYw:Y<w2.heap.size:=HD2.out.lt (by omega)
    clear hw2 HZ HBX HDL HONE HBD HCD HB0 hY HBW
    obtain⟨y0,_⟩:=HD2.out 0 (by omega)
    rw[show dealC nm (H.deals t) t 0 = .bool (H.deals t).isOpen from rfl,HO.out] at y0
    obtain⟨rs,hrs⟩:∃rs,rs=(H.deals t).reads:=⟨_,rfl⟩
    have hul:rs.length<=1000000:=by rw[hrs];exact (show Go.Proofs.Ytbeilcaadpopmab.OwnL rSeen w2 base (nm.rv t) (H.deals t).reads from HF2.out.mem.part (.reads t) HTT.out).1
    rw[<- hrs] at hrc1
    have HRS:=Lib.hid hrs
    clear hrs HM1 hB1 a0 a1 a2 a3 a4
    go_wp2_with fail
    go_loopw [10] (λu wx=>∃k:Nat,k<=rs.length/\u = .int .i64 (k:Int)/\AF base w B nm H (actL 2 (t:Int) a b n) X1 X2 (fitA H t (rs.take k)) wx nm H/\BoxN 12 wx Y (dealC nm (H.deals t) t)) (λu _=>rs.length - (intOf u).toNat)
    case atStart=>exact⟨0,Nat.zero_le _,rfl,HF2.out,HD2.out⟩
    case round =>
      rename World=>wy
      obtain⟨k,hk,rfl,hF,hD⟩:=hrel
      have HF3:=Lib.hid hF;have HD3:=Lib.hid hD
      clear hF hD HF2 HD2 y0 hYw
      have hB3:=HF3.out.mem.lt
      have hY3:=HD3.out.lt (by omega)
      obtain⟨y9,_⟩:=HD3.out 9 (by omega)
      rw[show dealC nm (H.deals t) t 9=nm.rv t from rfl,HER.out,<- HRS.out] at y9
      by_cases hlt:k<rs.length
      · obtain⟨c,hc⟩:∃c,c=rs[k]:=⟨_,rfl⟩
        obtain⟨o1,o2⟩:=HRD.out c (by rw[<- HRS.out,hc];exact List.getElem_mem _)
        have hpc:Go.Proofs.Ytbeilcaadpopmab.OwnL rSeen wy base (.slice ra rs.length rc) rs:=by
          have:=HF3.out.mem.part (.reads t) HTT.out
          have e2:nm.rv t = .slice ra rs.length rc:=by rw[HER.out,HRS.out]
          have e:(H.deals t).reads=rs:=HRS.out.symm
          rw[<- e2,<- e];exact this
        obtain⟨g,rfl,_,_,hg,hcell,_⟩:=hpc.at hlt
        rw[<- hc] at hcell
        have e0:wy.cell? ⟨g,k * 2,none⟩=some (.int .i64 (c.1:Int)):=hcell 0 (by show 0<2;omega)
        have e1:wy.cell? ⟨g,k * 2+1,none⟩=some (.int .i64 (c.2:Int)):=hcell 1 (by show 1<2;omega)
        have HTK:Hid (rs.take (k+1)=rs.take k++[c]):=by rw[Hid,List.take_add_one,List.getElem?_eq_getElem hlt,<- hc];rfl
        obtain⟨m,ver⟩:=c
        dsimp only at e0 e1 o1 o2
        obtain⟨_,t1,t2,_,_,_,_,htl⟩:=HF3.out.mem.cT o1 o2
        have HTH:Hid (∀W,Below wy.heap.size wy W->Calls Try.prog 83 #[.pointer (some ⟨B,0,none⟩),.int .i64 (m:Int)] W (λe w'=>e = .returned (.pointer (some ⟨nm.tb (m - 1),0,none⟩))/\W=w')):=λW hW=>thing_any (HF3.out.mem.below hW) o1 o2
        obtain⟨T,hT⟩:∃T,T=nm.tb (m - 1):=⟨_,rfl⟩
        simp only [<- hT] at t1 t2 htl HTH
        obtain⟨⟨p0,p1,p2,p3,p4,p5,p6⟩,z0,z1,z2,z3,z4,z5,z6⟩:=HF3.out.r2.ans
        have hX2y:=HF3.out.xs.2.2
        have hkk:(k:Int)<(rs.length:Int):=by omega
        have HC:=Lib.hid hc
        obtain⟨v,hv⟩:∃v,v=(th H.things m).version:=⟨_,rfl⟩
        have HTHV:Hid ((H.thing m).version=v):=hv.symm
        rw[<- hv] at t1
        clear hc hcell hpc hT hv
        cases how:(th H.things m).owner with
        | none =>
          rw[how] at t2
          change wy.cell? _=some (.int .i64 (-1)) at t2
          have HOW:Hid ((H.thing m).owner=none):=how
          clear how
          by_cases hvv:v=ver
          · have hne:((v:Int) != (ver:Int))=false:=by simp;omega
            have HFIT:Hid (fit1 H t (m,ver)=true):=by unfold Hid fit1;rw[HOW.out,HTHV.out,hvv];simp
            clear hvv
            go_upto_region 27 with (go_at_call 83;refine (HTH.out _ (by ((repeat first|exact bR _ _|with_reducible first|refine bN ?_|refine bD ?_|refine bA ?_ ?_|refine bS ?_ ?_);all_goals first|exact Nat.le_refl _|(simp;done)|omega|(simp;omega)))).mono ?_;rintro e _ ⟨rfl,rfl⟩)
            go_quiet (fail)
            go_wp2_with fail
            go_roundw
            case rel =>
              refine⟨k+1,by omega,by go_num,?_,?_⟩
              · rw[HTK.out,fitA_yes HFIT.out]
                exact HF3.out.below (by ((repeat first|exact bR _ _|with_reducible first|refine bN ?_|refine bD ?_|refine bA ?_ ?_|refine bS ?_ ?_);all_goals first|exact Nat.le_refl _|(simp;done)|omega|(simp;omega)))
              · exact HD3.out.keep rfl
            case measure=>simp[intOf];omega
          · have hne:((v:Int) != (ver:Int))=true:=by simp;omega
            have HFIT:Hid (fit1 H t (m,ver)=false):=by unfold Hid fit1;rw[HOW.out,HTHV.out];simp[hvv]
            clear hvv
            go_upto_region 27 with (go_at_call 83;refine (HTH.out _ (by ((repeat first|exact bR _ _|with_reducible first|refine bN ?_|refine bD ?_|refine bA ?_ ?_|refine bS ?_ ?_);all_goals first|exact Nat.le_refl _|(simp;done)|omega|(simp;omega)))).mono ?_;rintro e _ ⟨rfl,rfl⟩)
            go_quiet (fail)
            go_wp2_with fail
            go_roundw
            case rel =>
              refine⟨k+1,by omega,by go_num,?_,?_⟩
              · rw[HTK.out,fitA_no HFIT.out]
                exact (HF3.out.below (below_drewN (Below.refl _ _) nq)).set2 0 _ (fitA_set H t _)
              · exact (HD3.out.keep rfl).setFar (λe=>hYX.2 e) _
            case measure=>simp[intOf];omega
        | some u =>
          rw[how] at t2
          change wy.cell? _=some (.int .i64 (u:Int)) at t2
          have HOW:Hid ((H.thing m).owner=some u):=how
          have hu4:=HV4.out m u how
          clear how
          by_cases hut:u=t
          · have hnt:((u:Int) != (t:Int))=false:=by simp;omega
            by_cases hvv:v=ver
            · have hne:((v:Int) != (ver:Int))=false:=by simp;omega
              have HFIT:Hid (fit1 H t (m,ver)=true):=by unfold Hid fit1;rw[HOW.out,HTHV.out,hvv,hut];simp
              clear hvv hut
              go_upto_region 27 with (go_at_call 83;refine (HTH.out _ (by ((repeat first|exact bR _ _|with_reducible first|refine bN ?_|refine bD ?_|refine bA ?_ ?_|refine bS ?_ ?_);all_goals first|exact Nat.le_refl _|(simp;done)|omega|(simp;omega)))).mono ?_;rintro e _ ⟨rfl,rfl⟩)
              go_quiet (fail)
              go_wp2_with fail
              go_roundw
              case rel =>
                refine⟨k+1,by omega,by go_num,?_,?_⟩
                · rw[HTK.out,fitA_yes HFIT.out]
                  exact HF3.out.below (by ((repeat first|exact bR _ _|with_reducible first|refine bN ?_|refine bD ?_|refine bA ?_ ?_|refine bS ?_ ?_);all_goals first|exact Nat.le_refl _|(simp;done)|omega|(simp;omega)))
                · exact HD3.out.keep rfl
              case measure=>simp[intOf];omega
            · have hne:((v:Int) != (ver:Int))=true:=by simp;omega
              have HFIT:Hid (fit1 H t (m,ver)=false):=by unfold Hid fit1;rw[HOW.out,HTHV.out];simp[hvv]
              clear hvv hut
              go_upto_region 27 with (go_at_call 83;refine (HTH.out _ (by ((repeat first|exact bR _ _|with_reducible first|refine bN ?_|refine bD ?_|refine bA ?_ ?_|refine bS ?_ ?_);all_goals first|exact Nat.le_refl _|(simp;done)|omega|(simp;omega)))).mono ?_;rintro e _ ⟨rfl,rfl⟩)
              go_quiet (fail)
              go_wp2_with fail
              go_roundw
              case rel =>
                refine⟨k+1,by omega,by go_num,?_,?_⟩
                · rw[HTK.out,fitA_no HFIT.out]
                  exact (HF3.out.below (below_drewN (Below.refl _ _) nq)).set2 0 _ (fitA_set H t _)
                · exact (HD3.out.keep rfl).setFar (λe=>hYX.2 e) _
              case measure=>simp[intOf];omega
          · have hnt:((u:Int) != (t:Int))=true:=by simp;omega
            have HFIT:Hid (fit1 H t (m,ver)=false):=by unfold Hid fit1;rw[HOW.out];simp[hut]
            clear hut
            go_upto_region 27 with (go_at_call 83;refine (HTH.out _ (by ((repeat first|exact bR _ _|with_reducible first|refine bN ?_|refine bD ?_|refine bA ?_ ?_|refine bS ?_ ?_);all_goals first|exact Nat.le_refl _|(simp;done)|omega|(simp;omega)))).mono ?_;rintro e _ ⟨rfl,rfl⟩)
            go_quiet (fail)
            go_wp2_with fail
            go_roundw
            case rel =>
              refine⟨k+1,by omega,by go_num,?_,?_⟩
              · rw[HTK.out,fitA_no HFIT.out]
                exact (HF3.out.below (below_drewN (Below.refl _ _) nq)).set2 0 _ (fitA_set H t _)
              · exact (HD3.out.keep rfl).setFar (λe=>hYX.2 e) _
            case measure=>simp[intOf];omega
      · have HFE:Hid (fitA H t (rs.take k)=fitA H t (H.deals t).reads):=by rw[Hid,List.take_of_length_le (by omega),HRS.out]
        cases hfit:H.fits t with
        | false =>
          have HF4:Hid (AF base w B nm H (actL 2 (t:Int) a b n) X1 X2 (.err 6) wy nm H):=by
            have:=HF3.out
            rw[HFE.out,show fitA H t (H.deals t).reads = .err 6 from by unfold fitA;rw[<- fits_L,hfit];rfl] at this
            exact this
          have HPE:Hid (H.commit t=(H.undone t,.err 6)):=by rw[Hid,HPC.out,hfit];rfl
          clear hfit HFE HF3 HPC
          obtain⟨⟨o0,o1,o2,o3,o4,o5,o6⟩,z0,z1,z2,z3,z4,z5,z6⟩:=HF4.out.r2.ans
          go_wp2_with (go_at_call 84;refine (undone_any base _ B nm H (HF4.out.mem.below (by ((repeat first|exact bR _ _|with_reducible first|refine bN ?_|refine bD ?_|refine bA ?_ ?_|refine bS ?_ ?_);all_goals first|exact Nat.le_refl _|(simp;done)|omega|(simp;omega)))) t HTT.out HOK.out).mono ?_;rintro e w5 ⟨rfl,nm5,hM5,hW5⟩;have HF5:=Lib.hid (HF4.out.step hM5 (WentR.after hW5 (by ((repeat first|exact bR _ _|with_reducible first|refine bN ?_|refine bD ?_|refine bA ?_ ?_|refine bS ?_ ?_);all_goals first|exact Nat.le_refl _|(simp;done)|omega|(simp;omega))) λj hj=>(HF4.out.mem.has_lt j hj).2));clear o0 o1 o2 o3 o4 o5 o6 z0 z1 z2 z3 z4 z5 z6;obtain⟨⟨o0,o1,o2,o3,o4,o5,o6⟩,z0,z1,z2,z3,z4,z5,z6⟩:=HF5.out.r2.ans;obtain⟨⟨p0,p1,p2,p3,p4,p5,p6⟩,y0,y1,y2,y3,y4,y5,y6⟩:=HF5.out.r1.ans;clear hM5 hW5)
          have HEND:Hid (RowAt ((((((((w5).setCell ⟨X1,0,none⟩ (.int .i64 (AnsM.err 6).code)).setCell ⟨X1,1,none⟩ (.bool (AnsM.err 6).is)).setCell ⟨X1,2,none⟩ (.int .i64 (AnsM.err 6).number)).setCell ⟨X1,3,none⟩ (.bool (AnsM.err 6).yes)).setCell ⟨X1,4,none⟩ (.int .i64 (AnsM.err 6).words)).setCell ⟨X1,5,none⟩ (.bool (AnsM.err 6).going)).setCell ⟨X1,6,none⟩ (.int .i64 (AnsM.err 6).freed)) X1 (ansL (.err 6))) :=
            (((((((HF5.out.r1).set 0 _).set 1 _).set 2 _).set 3 _).set 4 _).set 5 _).set 6 _
          refine bodyPost_ret (v:=ansV (.err 6)) (res_acted rfl HEND.out) rfl ?_
          rw[HPE.out]
          exact HF5.out.fin (by repeat with_reducible (first|exact Chg.refl _ _|refine chgS ?_ (by first|(simp;done)|(simp;omega))))
        | true =>
          have HF4:Hid (AF base w B nm H (actL 2 (t:Int) a b n) X1 X2 AnsM.nil wy nm H):=by
            have:=HF3.out
            rw[HFE.out,show fitA H t (H.deals t).reads = .nil from by unfold fitA;rw[<- fits_L,hfit];rfl] at this
            exact this
          have HPE:Hid (H.commit t=({ H with things:=bumpF H.things (H.deals t).owned,deals:=put1 H.deals t noDeal },.nil)):=by rw[Hid,HPC.out,hfit];rfl
          clear hfit HFE HF3 HPC
          obtain⟨⟨o0,o1,o2,o3,o4,o5,o6⟩,z0,z1,z2,z3,z4,z5,z6⟩:=HF4.out.r2.ans
          obtain⟨os,hos⟩:∃os,os=(H.deals t).owned:=⟨_,rfl⟩
          have hol:os.length<=1000000:=by rw[hos];exact (show Go.Proofs.Ytbeilcaadpopmab.OwnL rSeen wy base (nm.ov t) (H.deals t).owned from HF4.out.mem.part (.owned t) HTT.out).1
          rw[<- hos] at hoc1
          have HOS:=Lib.hid hos
          clear hos
          go_wp2_with fail
          clear y9 o0 o1 o2 o3 o4 o5 o6 z0 z1 z2 z3 z4 z5 z6
          go_loopw [12] (λu wx=>∃k:Nat,k<=os.length/\u = .int .i64 (k:Int)/\AF base w B nm H (actL 2 (t:Int) a b n) X1 X2 AnsM.nil wx nm { H with things:=bumpF H.things (os.take k) }/\BoxN 12 wx Y (dealC nm (H.deals t) t)) (λu _=>os.length - (intOf u).toNat)
          case atStart=>exact⟨0,Nat.zero_le _,rfl,HF4.out,HD3.out⟩
          case round =>
            rename World=>wz
            obtain⟨k,hk,rfl,hF,hD⟩:=hrel
            have HF5:=Lib.hid hF;have HD5:=Lib.hid hD
            clear hF hD HF4 HD3
            have hB5:=HF5.out.mem.lt
            have hY5:=HD5.out.lt (by omega)
            obtain⟨y10,_⟩:=HD5.out 10 (by omega)
            rw[show dealC nm (H.deals t) t 10=nm.ov t from rfl,HEO.out,<- HOS.out] at y10
            have HGL:Hid ((bumpF H.things (os.take k)).length=H.things.length):=bumpF_len _ _
            by_cases hlt:k<os.length
            · obtain⟨c,hc⟩:∃c,c=os[k]:=⟨_,rfl⟩
              obtain⟨o1,o2⟩:=HOK.out.own c (by rw[<- HOS.out,hc];exact List.getElem_mem _)
              have o2':c.1<=(bumpF H.things (os.take k)).length:=by rw[HGL.out];exact o2
              have hpc:Go.Proofs.Ytbeilcaadpopmab.OwnL rSeen wz base (.slice oa os.length oc) os:=by
                have:=HF5.out.mem.part (.owned t) HTT.out
                have e2:nm.ov t = .slice oa os.length oc:=by rw[HEO.out,HOS.out]
                have e:(H.deals t).owned=os:=HOS.out.symm
                rw[<- e2,<- e];exact this
              obtain⟨g,rfl,_,_,hg,hcell,_⟩:=hpc.at hlt
              rw[<- hc] at hcell
              have e0:wz.cell? ⟨g,k * 2,none⟩=some (.int .i64 (c.1:Int)):=hcell 0 (by show 0<2;omega)
              have HTK:Hid (bumpF H.things (os.take (k+1))=turnT (bumpF H.things (os.take k)) c.1 bumpT):=by
                rw[Hid,List.take_add_one,List.getElem?_eq_getElem hlt,<- hc,Option.toList_some,bumpF_append];rfl
              have hver:=bumpF_ver (os.take k) H.things c.1 (λd hd=>(HOK.out.own d (by rw[<- HOS.out];exact List.mem_of_mem_take hd)).1)
              have hvb:=HVB.out c.1
              have htk:(os.take k).length<=k:=by simp;omega
              obtain⟨m,ver⟩:=c
              dsimp only at e0 o1 o2 o2' hver hvb HTK
              obtain⟨_,t1,t2,_,_,_,tz,htl⟩:=HF5.out.mem.cT (n:=m) o1 o2'
              have HBUMP:=Lib.hid (HF5.out.mem.bump (n:=m) o1 o2')
              have HTH:Hid (∀W,Below wz.heap.size wz W->Calls Try.prog 83 #[.pointer (some ⟨B,0,none⟩),.int .i64 (m:Int)] W (λe w'=>e = .returned (.pointer (some ⟨nm.tb (m - 1),0,none⟩))/\W=w')):=λW hW=>thing_any (HF5.out.mem.below hW) o1 o2'
              have tz1:=tz 1 (by omega);have tz2:=tz 2 (by omega)
              dsimp only at t1 t2
              obtain⟨v,hv⟩:∃v,v=(th (bumpF H.things (os.take k)) m).version:=⟨_,rfl⟩
              obtain⟨T,hT⟩:∃T,T=nm.tb (m - 1):=⟨_,rfl⟩
              simp only [<- hT,<- hv] at t1 t2 htl HTH HBUMP tz1 tz2
              rw[<- hv] at hver
              have wv:IntKind.i64.wrap ((v:Int)+1)=(v:Int)+1:=IntWalk.i64_in _ (by omega)
              have HTY:Hid (T≠Y):=λe=>by
                have:=(HF5.out.mem.has_lt T ⟨.thing (m - 1),by show m - 1<(bumpF H.things (os.take k)).length;omega,by show some (nm.tb (m - 1))=_;rw[<- hT]⟩)
                exact HNY0.out ⟨.thing (m - 1),by show m - 1<H.things.length;omega,by show some (nm.tb (m - 1))=_;rw[<- hT,e]⟩
              have hkk:(k:Int)<(os.length:Int):=by omega
              clear hc hcell hpc hT hv tz hver hvb htk o1 o2 o2'
              go_wp2_with (go_at_call 83;refine (HTH.out _ (by ((repeat first|exact bR _ _|with_reducible first|refine bN ?_|refine bD ?_|refine bA ?_ ?_|refine bS ?_ ?_);all_goals first|exact Nat.le_refl _|(simp;done)|omega|(simp;omega)))).mono ?_;rintro e _ ⟨rfl,rfl⟩)
              go_roundw
              case rel =>
                (repeat apply Exists.intro)
                refine⟨⟨k+1,by omega,by go_num,?_,?_⟩,rfl⟩
                · obtain⟨q1,q2⟩:=HBUMP.out
                  have h5:=HF5.out.step q1 (by have:=q2;(try dsimp only at this ⊢);rw[len_turn];exact this)
                  (try dsimp only at h5)
                  rw[<- HTK.out] at h5
                  exact h5.below (by ((repeat first|exact bR _ _|with_reducible first|refine bN ?_|refine bD ?_|refine bA ?_ ?_|refine bS ?_ ?_);all_goals first|exact Nat.le_refl _|(simp;done)|omega|(simp;omega)))
                · exact ((HD5.out.setFar (λe=>HTY.out e) _).setFar (λe=>HTY.out e) _).keep rfl
              case measure=>simp[intOf];omega
            · have HF6:Hid (AF base w B nm H (actL 2 (t:Int) a b n) X1 X2 AnsM.nil wz nm { H with things:=bumpF H.things (H.deals t).owned }):=by
                have:=HF5.out
                rw[List.take_of_length_le (by omega),HOS.out] at this
                exact this
              have HBY:=Lib.hid HF6.out.mem.box
              clear HF5
              go_upto_region 103 with (refine wpl_storeN rfl 123 _ _ rfl B (34+t * 12) (dealL (nm.deal t (.slice none 0 0) (.slice none 0 0) (.slice none 0 0)) noDeal t).toArray rfl dealL_zero.symm _ HBY.out (by simp[dealL];have:=HTT.out;omega) (Try.sizeDeal.trans (by simp[dealL])) (dealL_one (by simp[Rn.deal,put1,Value.oneCell']) (by simp[Rn.deal,put1,Value.oneCell']) (by simp[Rn.deal,put1,Value.oneCell'])) ?_;rw[List.toList_toArray];intro hbx hcg)
              obtain⟨q1,q2⟩:=HF6.out.mem.endDeal HTT.out noDeal ⟨rfl,rfl,rfl⟩ hcg hbx
              generalize hw7:World.setCells _ _ _ _=w7 at q1 q2 ⊢
              have HF7:=Lib.hid (HF6.out.step q1 q2)
              clear q1 q2 hw7 hbx hcg y10
              obtain⟨⟨o0,o1,o2,o3,o4,o5,o6⟩,z0,z1,z2,z3,z4,z5,z6⟩:=HF7.out.r2.ans
              obtain⟨⟨p0,p1,p2,p3,p4,p5,p6⟩,y0,y1,y2,y3,y4,y5,y6⟩:=HF7.out.r1.ans
              go_wp2_with fail
              have HEND:Hid (RowAt ((((((((w7).setCell ⟨X1,0,none⟩ (.int .i64 AnsM.nil.code)).setCell ⟨X1,1,none⟩ (.bool AnsM.nil.is)).setCell ⟨X1,2,none⟩ (.int .i64 AnsM.nil.number)).setCell ⟨X1,3,none⟩ (.bool AnsM.nil.yes)).setCell ⟨X1,4,none⟩ (.int .i64 AnsM.nil.words)).setCell ⟨X1,5,none⟩ (.bool AnsM.nil.going)).setCell ⟨X1,6,none⟩ (.int .i64 AnsM.nil.freed)) X1 (ansL AnsM.nil)) :=
                (((((((HF7.out.r1).set 0 _).set 1 _).set 2 _).set 3 _).set 4 _).set 5 _).set 6 _
              refine bodyPost_ret (v:=ansV AnsM.nil) (res_acted rfl HEND.out) rfl ?_
              rw[HPE.out]
              exact HF7.out.fin (by repeat with_reducible (first|exact Chg.refl _ _|refine chgS ?_ (by first|(simp;done)|(simp;omega))))
end Go.Proofs.Ytbeilcaadpopmab
namespace Go.Proofs.Ytbeilcaadpopmab
open Go.RowKit Go.Maps
theorem Try.infVal2:(Try.prog.info? 36).map (λi=>(i.zero,i.size,i.bytes))=some (some (.agg #[.int .i64 0,.int .i64 0]),2,16):=by kernel_rfl
theorem zeroVals_cells:∀n,rVal.cells (List.replicate n (.num 0))=List.replicate (n * 2) (.int .i64 0)
  | 0=>rfl
  | n+1=>by
    have ih:=zeroVals_cells n
    have e:rVal.cells (List.replicate (n+1) (.num 0)) = .int .i64 0 :: .int .i64 0 :: rVal.cells (List.replicate n (.num 0)):=rfl
    rw[e,ih,show (n+1) * 2=n * 2+1+1 by omega]
    simp only [List.replicate_succ]
theorem madeVals (n:Nat):(madeCells (Value.agg #[.int .i64 0,.int .i64 0]).cells (n * 2)).toList=rVal.cells (List.replicate n (.num 0)):=by
  rw[zeroVals_cells]
  refine List.ext_getElem (by simp[madeCells]) λi h1 h2=>?_
  simp only [madeCells,Value.cells,List.getElem_replicate]
  have:i % 2=0\/i % 2=1:=by omega
  rcases this with e|e <;> simp[e]
theorem step_make_vals {ops:Array Oper} {o:Oper} {a:Act} {w:World} {K:Act->World->Prop} {Q:Exit->Act->World->Prop} {E:Prop} (hg:o.guard=none) (l c:Operand)
    (ho:o.op=Op.makeSlice 141 l c) (base:Nat) (n:Nat) (hl:a.eval l = .int .i64 (n:Int)) (hc:a.eval c = .int .i64 (n:Int)) (hlen:n<=1000) (hbase:base<=w.heap.size)
    (h:∀w',OwnL rVal w' base (.slice (some ⟨w.heap.size,0,none⟩) n n) (List.replicate n (.num 0))->w.grownBy w' none->K (a.put o.dst (.slice (some ⟨w.heap.size,0,none⟩) n n)) w') :
    if Region.wanted o (yielded ops a.tmps)=true then Oper.wp Try.prog o a w K Q else E:=by
  have hw:Region.wanted o (yielded ops a.tmps)=true:=by simp[Region.wanted,hg]
  rw[if_pos hw]
  obtain⟨i,hi,hz,h4,h5⟩:=info_parts Try.infVal2
  obtain⟨w',hrun,r1,r2⟩:=run_make_full (P:=Try.prog) (w:=w) base 141 36 i _ 2 Try.underlying141 hi hz h4 .i64 .i64 n (by rw[h5];omega) (by unfold maxLen;omega) hbase
  unfold Oper.wp
  simp[execOp,ho,hl,hc,hrun,Result.andThen]
  refine h w' ⟨by simp;omega,?_⟩ r2
  rw[madeVals] at r1
  rw[show (List.replicate n (V.num 0)).length=n by simp]
  exact r1
theorem thingC_new (f:Value) (n:Nat) (i:Nat) (hi:i<6):thingC f (newT n) i=(#[f,.int .i64 0,.int .i64 (-1),.bool false,.bool true,.bool false]:Array Value).getD i undef:=by
  rcases (show i=0\/i=1\/i=2\/i=3\/i=4\/i=5 by omega) with rfl|rfl|rfl|rfl|rfl|rfl <;> rfl
theorem hallC_things (nm:Rn) (H:Hall) (tv:Value) (K g:Nat) (f:Value) (l:List Thing) (i:Nat) (hi:i<84):ins (hallC nm H) 1 tv i=hallC (nm.more K tv g f) { H with things:=l } i:=by
  unfold ins
  by_cases h1:i=1
  · subst h1;rw[if_pos rfl];rfl
  · rw[if_neg h1]
    unfold hallC
    rw[if_neg h1,if_neg h1]
    rfl
set_option maxRecDepth 100000 in
set_option maxHeartbeats 2000000 in
theorem acted_new_shut (base:Nat) (w:World) (B:Nat) (nm:Rn) (H:Hall) (h:Rmem base w B nm H) (t a:Nat) (ht:t<4) (ha:a<4) (b n:Int) (ho:(H.deals t).isOpen=false) :
    Calls Try.prog 67 #[.pointer (some ⟨B,0,none⟩),.agg #[.int .i64 4,.int .i64 (t:Int),.int .i64 (a:Int),.int .i64 b,.int .i64 n]] w (RetRA base w B nm H (H.new t a n)):=by
  have HM:=Lib.hid h
  have i1:(t:Int)<4:=by omega
  have i2:(a:Int)<4:=by omega
  have HTT:=Lib.hid ht;have HAA:=Lib.hid ha
  have HP:Hid (H.new t a n=(H,.err 5)):=by unfold Hid Hall.new;rw[if_pos ho]
  rw[HP.out]
  have HO:=Lib.hid ho
  clear h ht ha ho HP
  go_enter Try.func67,Try.ntmps67
  go_upto_region 44 with (first|(go_at_call 56;(with_reducible refine (in_kind 4 (by omega) _).mono ?_);rintro e w1 ⟨rfl,hb1⟩;obtain⟨HA,HR1,HR2,HB1,hz1⟩:=rows3 hb1;clear hb1;obtain⟨a0,a1,a2,a3,a4⟩:=HA.out.act)|(go_at_call 56;(with_reducible refine (in_reg t HTT.out _).mono ?_);rintro e _ ⟨rfl,rfl⟩)|(go_at_call 56;(with_reducible refine (in_reg a HAA.out _).mono ?_);rintro e _ ⟨rfl,rfl⟩))
  obtain⟨X2,hX2⟩:∃X2,X2=w.heap.size+1+1:=⟨_,rfl⟩
  rw[<- hX2] at HR2 ⊢
  obtain⟨X1,hX1⟩:∃X1,X1=w.heap.size+1:=⟨_,rfl⟩
  rw[<- hX1] at HR1 ⊢
  have hx:w.heap.size<X1/\X1<X2/\X2<w1.heap.size:=by omega
  have hx12:X1≠X2:=by omega
  have HF:=Lib.hid (AF.start HM.out HB1.out hx HA.out HR1.out HR2.out)
  have HM1:=Lib.hid HF.out.mem
  have hB1:=HM1.out.lt
  have hBX2:B≠X2:=by have:=HM.out.lt;omega
  have hBX1:B≠X1:=by have:=HM.out.lt;omega
  clear hX1 hX2 hz1 HA HR1 HR2
  have c0:=(HM1.out.cD HTT.out).1
  rw[HO.out] at c0
  obtain⟨⟨o0,o1,o2,o3,o4,o5,o6⟩,z0,z1,z2,z3,z4,z5,z6⟩:=HF.out.r2.ans
  obtain⟨⟨p0,p1,p2,p3,p4,p5,p6⟩,y0,y1,y2,y3,y4,y5,y6⟩:=HF.out.r1.ans
  go_wp2_with fail
  have HEND:Hid (RowAt (((((((((w1).setCell ⟨X2,0,none⟩ (.int .i64 5)).setCell ⟨X1,0,none⟩ (.int .i64 5)).setCell ⟨X1,1,none⟩ (.bool AnsM.nil.is)).setCell ⟨X1,2,none⟩ (.int .i64 AnsM.nil.number)).setCell ⟨X1,3,none⟩ (.bool AnsM.nil.yes)).setCell ⟨X1,4,none⟩ (.int .i64 AnsM.nil.words)).setCell ⟨X1,5,none⟩ (.bool AnsM.nil.going)).setCell ⟨X1,6,none⟩ (.int .i64 AnsM.nil.freed)) X1 (ansL (.err 5))) :=
    ((((((((HF.out.r1).setFar _ _ (by simp;omega)).set 0 _).set 1 _).set 2 _).set 3 _).set 4 _).set 5 _).set 6 _
  refine bodyPost_ret (v:=ansV (.err 5)) (res_acted rfl HEND.out) rfl ?_
  exact HF.out.fin (by repeat with_reducible (first|exact Chg.refl _ _|refine chgS ?_ (by first|(simp;done)|(simp;omega))))
set_option maxRecDepth 100000 in
set_option maxHeartbeats 2000000 in
theorem acted_new_range (base:Nat) (w:World) (B:Nat) (nm:Rn) (H:Hall) (h:Rmem base w B nm H) (t a:Nat) (ht:t<4) (ha:a<4) (b n:Int) (ho:(H.deals t).isOpen=true) (hn:¬ (0<=n/\n<=6)) :
    Calls Try.prog 67 #[.pointer (some ⟨B,0,none⟩),.agg #[.int .i64 4,.int .i64 (t:Int),.int .i64 (a:Int),.int .i64 b,.int .i64 n]] w (RetRA base w B nm H (H.new t a n)):=by
  have HM:=Lib.hid h
  have i1:(t:Int)<4:=by omega
  have i2:(a:Int)<4:=by omega
  have HTT:=Lib.hid ht;have HAA:=Lib.hid ha
  have HP:Hid (H.new t a n=(H,.err 2)):=by unfold Hid Hall.new;rw[if_neg (by rw[ho];simp),if_pos hn]
  rw[HP.out]
  have HO:=Lib.hid ho
  have HIN:Hid (∀W,Calls Try.prog 56 #[.int .i64 n,.int .i64 0,.int .i64 6] W (λe w'=>e = .returned (.bool false)/\W=w')):=λW=>by
    have:=in_any n 0 6 W
    by_cases h1:0<=n
    · rwa [inB_hi (by omega)] at this
    · rwa [inB_lo h1] at this
  clear h ht ha ho HP hn
  go_enter Try.func67,Try.ntmps67
  go_upto_region 44 with (first|(go_at_call 56;(with_reducible refine (in_kind 4 (by omega) _).mono ?_);rintro e w1 ⟨rfl,hb1⟩;obtain⟨HA,HR1,HR2,HB1,hz1⟩:=rows3 hb1;clear hb1;obtain⟨a0,a1,a2,a3,a4⟩:=HA.out.act)|(go_at_call 56;(with_reducible refine (in_reg t HTT.out _).mono ?_);rintro e _ ⟨rfl,rfl⟩)|(go_at_call 56;(with_reducible refine (in_reg a HAA.out _).mono ?_);rintro e _ ⟨rfl,rfl⟩))
  obtain⟨X2,hX2⟩:∃X2,X2=w.heap.size+1+1:=⟨_,rfl⟩
  rw[<- hX2] at HR2 ⊢
  obtain⟨X1,hX1⟩:∃X1,X1=w.heap.size+1:=⟨_,rfl⟩
  rw[<- hX1] at HR1 ⊢
  have hx:w.heap.size<X1/\X1<X2/\X2<w1.heap.size:=by omega
  have hx12:X1≠X2:=by omega
  have HF:=Lib.hid (AF.start HM.out HB1.out hx HA.out HR1.out HR2.out)
  have HM1:=Lib.hid HF.out.mem
  have hB1:=HM1.out.lt
  have hBX2:B≠X2:=by have:=HM.out.lt;omega
  have hBX1:B≠X1:=by have:=HM.out.lt;omega
  clear hX1 hX2 hz1 HA HR1 HR2
  have c0:=(HM1.out.cD HTT.out).1
  rw[HO.out] at c0
  obtain⟨⟨o0,o1,o2,o3,o4,o5,o6⟩,z0,z1,z2,z3,z4,z5,z6⟩:=HF.out.r2.ans
  obtain⟨⟨p0,p1,p2,p3,p4,p5,p6⟩,y0,y1,y2,y3,y4,y5,y6⟩:=HF.out.r1.ans
  go_wp2_with (go_at_call 56;refine (HIN.out _).mono ?_;rintro e _ ⟨rfl,rfl⟩)
  have HEND:Hid (RowAt (((((((((w1).setCell ⟨X2,0,none⟩ (.int .i64 2)).setCell ⟨X1,0,none⟩ (.int .i64 2)).setCell ⟨X1,1,none⟩ (.bool AnsM.nil.is)).setCell ⟨X1,2,none⟩ (.int .i64 AnsM.nil.number)).setCell ⟨X1,3,none⟩ (.bool AnsM.nil.yes)).setCell ⟨X1,4,none⟩ (.int .i64 AnsM.nil.words)).setCell ⟨X1,5,none⟩ (.bool AnsM.nil.going)).setCell ⟨X1,6,none⟩ (.int .i64 AnsM.nil.freed)) X1 (ansL (.err 2))) :=
    ((((((((HF.out.r1).setFar _ _ (by simp;omega)).set 0 _).set 1 _).set 2 _).set 3 _).set 4 _).set 5 _).set 6 _
  refine bodyPost_ret (v:=ansV (.err 2)) (res_acted rfl HEND.out) rfl ?_
  exact HF.out.fin (by repeat with_reducible (first|exact Chg.refl _ _|refine chgS ?_ (by first|(simp;done)|(simp;omega))))
set_option maxRecDepth 100000 in
set_option maxHeartbeats 2000000 in
theorem acted_new_size (base:Nat) (w:World) (B:Nat) (nm:Rn) (H:Hall) (h:Rmem base w B nm H) (t a:Nat) (ht:t<4) (ha:a<4) (b:Int) (n:Nat) (ho:(H.deals t).isOpen=true) (hn:n<=6) (hf:∀x ∈ H.things,x.fields.length<=6) (hbig:1+(H.used:Int)+2+(n:Int) > H.words) :
    Calls Try.prog 67 #[.pointer (some ⟨B,0,none⟩),.agg #[.int .i64 4,.int .i64 (t:Int),.int .i64 (a:Int),.int .i64 b,.int .i64 (n:Int)]] w (RetRA base w B nm H (H.new t a (n:Int))):=by
  have HM:=Lib.hid h
  have i1:(t:Int)<4:=by omega
  have i2:(a:Int)<4:=by omega
  have HTT:=Lib.hid ht;have HAA:=Lib.hid ha
  have HP:Hid (H.new t a (n:Int)=(H,.err 1)):=by unfold Hid Hall.new;rw[if_neg (by rw[ho];simp),if_neg (by omega),if_pos hbig]
  rw[HP.out]
  have HO:=Lib.hid ho;have H6:=Lib.hid hf
  obtain⟨u,hu⟩:∃u,u=H.used:=⟨_,rfl⟩
  have hu2:=usedOf_small _ hf
  have hub:u<=8000000:=by rw[hu];obtain⟨_,_,_,_,_,h6,_⟩:=h.tv;show usedOf _<=_;omega
  have HU:=Lib.hid hu
  rw[<- hu] at hbig
  have hd:decide ((H.words:Int)<1+(u:Int)+2+(n:Int))=true:=by simpa using hbig
  have v1:IntKind.i64.wrap (1+(u:Int))=1+(u:Int):=IntWalk.i64_in _ (by omega)
  have v2:IntKind.i64.wrap (1+(u:Int)+2)=1+(u:Int)+2:=IntWalk.i64_in _ (by omega)
  have v3:IntKind.i64.wrap (1+(u:Int)+2+(n:Int))=1+(u:Int)+2+(n:Int):=IntWalk.i64_in _ (by omega)
  have HVS:=Lib.hid (And.intro hd (And.intro v1 (And.intro v2 v3)))
  have HIN:Hid (∀W,Calls Try.prog 56 #[.int .i64 (n:Int),.int .i64 0,.int .i64 6] W (λe w'=>e = .returned (.bool true)/\W=w')):=λW=>by
    have:=in_any (n:Int) 0 6 W
    rwa [inB_true (by omega) (by omega)] at this
  clear h ht ha ho HP hn hf hbig hu hu2 hub hd v1 v2 v3
  go_enter Try.func67,Try.ntmps67
  go_upto_region 44 with (first|(go_at_call 56;(with_reducible refine (in_kind 4 (by omega) _).mono ?_);rintro e w1 ⟨rfl,hb1⟩;obtain⟨HA,HR1,HR2,HB1,hz1⟩:=rows3 hb1;clear hb1;obtain⟨a0,a1,a2,a3,a4⟩:=HA.out.act)|(go_at_call 56;(with_reducible refine (in_reg t HTT.out _).mono ?_);rintro e _ ⟨rfl,rfl⟩)|(go_at_call 56;(with_reducible refine (in_reg a HAA.out _).mono ?_);rintro e _ ⟨rfl,rfl⟩))
  obtain⟨X2,hX2⟩:∃X2,X2=w.heap.size+1+1:=⟨_,rfl⟩
  rw[<- hX2] at HR2 ⊢
  obtain⟨X1,hX1⟩:∃X1,X1=w.heap.size+1:=⟨_,rfl⟩
  rw[<- hX1] at HR1 ⊢
  have hx:w.heap.size<X1/\X1<X2/\X2<w1.heap.size:=by omega
  have hx12:X1≠X2:=by omega
  have HF:=Lib.hid (AF.start HM.out HB1.out hx HA.out HR1.out HR2.out)
  have HM1:=Lib.hid HF.out.mem
  have hB1:=HM1.out.lt
  have hBX2:B≠X2:=by have:=HM.out.lt;omega
  have hBX1:B≠X1:=by have:=HM.out.lt;omega
  clear hX1 hX2 hz1 HA HR1 HR2
  have c0:=(HM1.out.cD HTT.out).1
  rw[HO.out] at c0
  have w0:=(HM1.out.box 0 (by omega)).1
  rw[show hallC nm H 0 = .int .i64 (H.words:Int) from rfl] at w0
  obtain⟨⟨o0,o1,o2,o3,o4,o5,o6⟩,z0,z1,z2,z3,z4,z5,z6⟩:=HF.out.r2.ans
  obtain⟨⟨p0,p1,p2,p3,p4,p5,p6⟩,y0,y1,y2,y3,y4,y5,y6⟩:=HF.out.r1.ans
  have HUS:Hid (∀k,Calls Try.prog 85 #[.pointer (some ⟨B,0,none⟩)] (w1.drewN k) (λe w'=>e = .returned (.int .i64 (u:Int))/\w1.drewN k=w')):=λk=>by
    have:=used_any (HM1.out.below (below_drewN (Below.refl _ _) k)) H6.out
    rw[<- HU.out] at this
    exact this
  go_upto_region 48 with (go_at_call 56;refine (HIN.out _).mono ?_;rintro e _ ⟨rfl,rfl⟩)
  obtain⟨hd,v1,v2,v3⟩:=HVS.out
  go_quiet ((go_at_call 85;exact quiet_left (HUS.out _)))
  clear v1 v2 v3
  have HF2:=Lib.hid (HF.out.below (below_drewN (Below.refl w1.heap.size w1) nq))
  obtain⟨w2,hw2⟩:∃w2,w2=w1.drewN nq:=⟨_,rfl⟩
  rw[<- hw2] at HF2 ⊢
  clear hw2 o0 o1 o2 o3 o4 o5 o6 z0 z1 z2 z3 z4 z5 z6 p0 p1 p2 p3 p4 p5 p6 y0 y1 y2 y3 y4 y5 y6 w0 c0
  obtain⟨⟨o0,o1,o2,o3,o4,o5,o6⟩,z0,z1,z2,z3,z4,z5,z6⟩:=HF2.out.r2.ans
  obtain⟨⟨p0,p1,p2,p3,p4,p5,p6⟩,y0,y1,y2,y3,y4,y5,y6⟩:=HF2.out.r1.ans
  go_wp2_with fail
  have HEND:Hid (RowAt (((((((((w2).setCell ⟨X2,0,none⟩ (.int .i64 1)).setCell ⟨X1,0,none⟩ (.int .i64 1)).setCell ⟨X1,1,none⟩ (.bool AnsM.nil.is)).setCell ⟨X1,2,none⟩ (.int .i64 AnsM.nil.number)).setCell ⟨X1,3,none⟩ (.bool AnsM.nil.yes)).setCell ⟨X1,4,none⟩ (.int .i64 AnsM.nil.words)).setCell ⟨X1,5,none⟩ (.bool AnsM.nil.going)).setCell ⟨X1,6,none⟩ (.int .i64 AnsM.nil.freed)) X1 (ansL (.err 1))) :=
    ((((((((HF2.out.r1).setFar _ _ (by simp;omega)).set 0 _).set 1 _).set 2 _).set 3 _).set 4 _).set 5 _).set 6 _
  refine bodyPost_ret (v:=ansV (.err 1)) (res_acted rfl HEND.out) rfl ?_
  exact HF2.out.fin (by repeat with_reducible (first|exact Chg.refl _ _|refine chgS ?_ (by first|(simp;done)|(simp;omega))))
end Go.Proofs.Ytbeilcaadpopmab
namespace Go.Proofs.Ytbeilcaadpopmab
open Go.RowKit Go.Maps
set_option maxRecDepth 100000 in
set_option maxHeartbeats 16000000 in
theorem acted_new_made (base:Nat) (w:World) (B:Nat) (nm:Rn) (H:Hall) (h:Rmem base w B nm H) (t a:Nat) (ht:t<4) (ha:a<4) (b:Int) (n:Nat) (ho:(H.deals t).isOpen=true) (hn:n<=6) (hl:H.things.length<800000) (hf:∀x ∈ H.things,x.fields.length<=6) (hfit:¬ (1+(H.used:Int)+2+(n:Int) > H.words)) :
    Calls Try.prog 67 #[.pointer (some ⟨B,0,none⟩),.agg #[.int .i64 4,.int .i64 (t:Int),.int .i64 (a:Int),.int .i64 b,.int .i64 (n:Int)]] w (RetRA base w B nm H (H.new t a (n:Int))):=by
  have HM:=Lib.hid h
  have i1:(t:Int)<4:=by omega
  have i2:(a:Int)<4:=by omega
  have HTT:=Lib.hid ht;have HAA:=Lib.hid ha
  have HP:Hid (H.new t a (n:Int)=({ H with things:=H.things++[newT n],regs:=put2 H.regs t a (.ref (H.things.length+1)) },.nil)):=by unfold Hid Hall.new;rw[if_neg (by rw[ho];simp),if_neg (by omega),if_neg hfit];rfl
  rw[HP.out]
  have HO:=Lib.hid ho;have H6:=Lib.hid hf
  obtain⟨u,hu⟩:∃u,u=H.used:=⟨_,rfl⟩
  have hu2:=usedOf_small _ hf
  have hub:u<=8000000:=by rw[hu];obtain⟨_,_,_,_,_,h6,_⟩:=h.tv;show usedOf _<=_;omega
  have HU:=Lib.hid hu
  rw[<- hu] at hfit
  have hd:decide ((H.words:Int)<1+(u:Int)+2+(n:Int))=false:=by simpa using hfit
  have v1:IntKind.i64.wrap (1+(u:Int))=1+(u:Int):=IntWalk.i64_in _ (by omega)
  have v2:IntKind.i64.wrap (1+(u:Int)+2)=1+(u:Int)+2:=IntWalk.i64_in _ (by omega)
  have v3:IntKind.i64.wrap (1+(u:Int)+2+(n:Int))=1+(u:Int)+2+(n:Int):=IntWalk.i64_in _ (by omega)
  have HVS:=Lib.hid (And.intro hd (And.intro v1 (And.intro v2 v3)))
  have HN:=Lib.hid hn;have HLL:=Lib.hid hl
  have HIN:Hid (∀W,Calls Try.prog 56 #[.int .i64 (n:Int),.int .i64 0,.int .i64 6] W (λe w'=>e = .returned (.bool true)/\W=w')):=λW=>by
    have:=in_any (n:Int) 0 6 W
    rwa [inB_true (by omega) (by omega)] at this
  clear h ht ha ho HP hn hf hfit hu hu2 hub hd v1 v2 v3 hl
  go_enter Try.func67,Try.ntmps67
  go_upto_region 44 with (first|(go_at_call 56;(with_reducible refine (in_kind 4 (by omega) _).mono ?_);rintro e w1 ⟨rfl,hb1⟩;obtain⟨HA,HR1,HR2,HB1,hz1⟩:=rows3 hb1;clear hb1;obtain⟨a0,a1,a2,a3,a4⟩:=HA.out.act)|(go_at_call 56;(with_reducible refine (in_reg t HTT.out _).mono ?_);rintro e _ ⟨rfl,rfl⟩)|(go_at_call 56;(with_reducible refine (in_reg a HAA.out _).mono ?_);rintro e _ ⟨rfl,rfl⟩))
  obtain⟨X2,hX2⟩:∃X2,X2=w.heap.size+1+1:=⟨_,rfl⟩
  rw[<- hX2] at HR2 ⊢
  obtain⟨X1,hX1⟩:∃X1,X1=w.heap.size+1:=⟨_,rfl⟩
  rw[<- hX1] at HR1 ⊢
  have hx:w.heap.size<X1/\X1<X2/\X2<w1.heap.size:=by omega
  have hx12:X1≠X2:=by omega
  have HF:=Lib.hid (AF.start HM.out HB1.out hx HA.out HR1.out HR2.out)
  have HM1:=Lib.hid HF.out.mem
  have hB1:=HM1.out.lt
  have hBX2:B≠X2:=by have:=HM.out.lt;omega
  have hBX1:B≠X1:=by have:=HM.out.lt;omega
  clear hX1 hX2 hz1 HA HR1 HR2
  have c0:=(HM1.out.cD HTT.out).1
  rw[HO.out] at c0
  have w0:=(HM1.out.box 0 (by omega)).1
  rw[show hallC nm H 0 = .int .i64 (H.words:Int) from rfl] at w0
  have HUS:Hid (∀k,Calls Try.prog 85 #[.pointer (some ⟨B,0,none⟩)] (w1.drewN k) (λe w'=>e = .returned (.int .i64 (u:Int))/\w1.drewN k=w')):=λk=>by
    have:=used_any (HM1.out.below (below_drewN (Below.refl _ _) k)) H6.out
    rw[<- HU.out] at this
    exact this
  go_upto_region 48 with (go_at_call 56;refine (HIN.out _).mono ?_;rintro e _ ⟨rfl,rfl⟩)
  obtain⟨hd,v1,v2,v3⟩:=HVS.out
  go_quiet ((go_at_call 85;exact quiet_left (HUS.out _)))
  clear v1 v2 v3
  have HF2:=Lib.hid (HF.out.below (below_drewN (Below.refl w1.heap.size w1) nq))
  obtain⟨w2,hw2⟩:∃w2,w2=w1.drewN nq:=⟨_,rfl⟩
  rw[<- hw2] at HF2 ⊢
  clear hw2 w0 c0 a0 a1 a2 a3 a4
  go_upto_region 50 with (fail)
  clear hd
  have HM2:=Lib.hid HF2.out.mem
  have hB3:=HM2.out.lt
  obtain⟨ta,tc,et,_,_,_,_⟩:=HM2.out.tv
  obtain⟨tl,htl⟩:∃tl,tl=H.things.length:=⟨_,rfl⟩
  rw[<- htl] at et
  obtain⟨c1,z1⟩:=HM2.out.box 1 (by omega)
  rw[show hallC nm H 1=nm.tv from rfl,et] at c1
  have HET:=Lib.hid et;have HTL:=Lib.hid htl
  have d4:=HF2.out.ra.act.2.2.2.2
  have hA2:=HF2.out.ra.1
  have hTB:¬ nm.tv.ownBlock=some B:=λe=>by have:=HM2.out.apart .box .things B trivial trivial rfl e;cases this
  have hTA:¬ nm.tv.ownBlock=some w.heap.size:=λe=>HF2.out.no w.heap.size (Nat.le_refl _) (by have:=HF2.out.xs;omega) ⟨.things,trivial,e⟩
  have HK:Hid (∀W,Chg (λk=>nm.tv.ownBlock=some k) w2 W->W.cell? ⟨w.heap.size,4,none⟩=some (.int .i64 (n:Int))/\W.cell? ⟨B,1,none⟩=some (.slice ta tl tc)/\W.frozen? ⟨B,1,none⟩=false):=λW hW=>⟨(hW.cell hA2 hTA 4).1.trans d4,(hW.cell hB3 hTB 1).1.trans c1,(hW.cell hB3 hTB 1).2.trans z1⟩
  have HBS:=Lib.hid HM2.out.base_le
  clear et htl c1 z1 d4 hA2
  obtain⟨w8,hw8⟩:∃w8,w8=w2.drew:=⟨_,rfl⟩
  have HB8:Hid (Below w2.heap.size w2 w8):=by rw[Hid,hw8];exact (Below.refl _ _).drew
  have hS8:(λW:World=>W.cell? ⟨w.heap.size,4,none⟩=some (.int .i64 (n:Int))/\W.cell? ⟨B,1,none⟩=some (.slice ta tl tc)/\W.frozen? ⟨B,1,none⟩=false) w8:=HK.out _ (.ofBelow _ HB8.out)
  refine wp_region_N [14] (λW=>W.cell? ⟨w.heap.size,4,none⟩=some (.int .i64 (n:Int))/\W.cell? ⟨B,1,none⟩=some (.slice ta tl tc)/\W.frozen? ⟨B,1,none⟩=false) (λ_=>True) (by kernel_rfl) hw8 ?_
  clear hw8
  refine TkN.on [0,1,2,3,4,5,6] ?_
  (repeat (refine TkN.take (v:=?_) rfl (by kernel_rfl) (λ_ _ _ h=>h) hS8 (.inl ⟨by rfl,?_⟩) ?_;rotate_left;(· (intro W hW;obtain⟨k0,k1,k2⟩:=hW;go_simp;try with_reducible rfl));try simp only [List.getElem_toArray,List.getElem_cons_zero,List.getElem_cons_succ];try simp only [Act.put,List.setIfInBounds_toArray,List.set_cons_zero,List.set_cons_succ]))
  refine TkN.off ?_
  refine wpAnyN_one 7 rfl (by kernel_rfl) λK hK=>?_
  refine step_make_vals rfl _ _ rfl base n rfl rfl (by have:=HN.out;omega) (Nat.le_trans HBS.out HB8.out.size) ?_
  intro w9 hO9 hg9
  have HB9:Hid (Below w2.heap.size w2 w9):=HB8.out.trans ((below_of_grown hg9).mono HB8.out.size)
  have hsz9:w8.heap.size<=w9.heap.size:=hg9.size
  have hF9:w8.heap.size<w9.heap.size:=(hO9.lt (k:=w8.heap.size) rfl).2
  obtain⟨f9,hf9⟩:∃f9,f9=w8.heap.size:=⟨_,rfl⟩
  rw[<- hf9] at hO9 hF9
  have hf92:w2.heap.size<=f9:=by rw[hf9];exact HB8.out.size
  rw[<- hf9]
  have HO9:=Lib.hid hO9
  have hS9:(λW:World=>W.cell? ⟨w.heap.size,4,none⟩=some (.int .i64 (n:Int))/\W.cell? ⟨B,1,none⟩=some (.slice ta tl tc)/\W.frozen? ⟨B,1,none⟩=false) w9:=HK.out _ (.ofBelow _ HB9.out)
  refine hK.out _ _ ⟨λ_ _=>hS9,λh=>h⟩ (λ_=>?_)
  clear hK K hS8 hO9 hg9 hf9 hsz9
  try simp only [Act.put,List.setIfInBounds_toArray,List.set_cons_zero,List.set_cons_succ]
  refine wpAnyN_one 8 rfl (by kernel_rfl) λK hK=>?_
  go_simp
  refine hK.out _ _ ⟨λ_ _=>hS9,λh=>h⟩ (λ_=>?_)
  clear hK K
  try simp only [Act.put,List.setIfInBounds_toArray,List.set_cons_zero,List.set_cons_succ]
  refine wpAnyN_one 9 rfl (by kernel_rfl) λK hK=>?_
  go_simp
  obtain⟨w10,hw10⟩:∃w10,w10=w9.alloc (.cells #[.slice (some ⟨f9,0,none⟩) n n,.int .i64 0,.int .i64 (-1),.bool false,.bool true,.bool false] 143):=⟨_,rfl⟩
  obtain⟨g9,hg9⟩:∃g9,g9=w9.heap.size:=⟨_,rfl⟩
  have hb10:Below w9.heap.size w9 w10:=by rw[hw10];exact (Below.refl _ _).alloc (Nat.le_refl _) _
  have HB10:Hid (Below w2.heap.size w2 w10):=HB9.out.trans (hb10.mono HB9.out.size)
  have HG10:Hid (BoxN 6 w10 g9 (thingC (.slice (some ⟨f9,0,none⟩) n n) (newT n))):=by
    rw[Hid,hw10,hg9]
    exact (BoxN.alloc w9 #[.slice (some ⟨f9,0,none⟩) n n,.int .i64 0,.int .i64 (-1),.bool false,.bool true,.bool false] _).congr λi hi=>(thingC_new _ n i (by simpa using hi)).symm
  have HO10:=Lib.hid (HO9.out.keep λb e=>hb10.block b (HO9.out.lt e).2)
  have hgl10:g9<w10.heap.size:=HG10.out.lt (by omega)
  have hfg:f9<g9:=by rw[hg9];exact hF9
  rw[<- hw10,<- hg9]
  have hS10:(λW:World=>W.cell? ⟨w.heap.size,4,none⟩=some (.int .i64 (n:Int))/\W.cell? ⟨B,1,none⟩=some (.slice ta tl tc)/\W.frozen? ⟨B,1,none⟩=false) w10:=HK.out _ (.ofBelow _ HB10.out)
  refine hK.out _ _ ⟨λ_ _=>hS10,λh=>h⟩ (λ_=>?_)
  clear hK K hS9 hw10 hg9 hb10 hF9
  try simp only [Act.put,List.setIfInBounds_toArray,List.set_cons_zero,List.set_cons_succ]
  refine wpAnyN_one 10 rfl (by kernel_rfl) λK hK=>?_
  go_simp
  obtain⟨w11,hw11⟩:∃w11,w11=w10.alloc (.cells #[.pointer (some ⟨g9,0,none⟩)] 137):=⟨_,rfl⟩
  obtain⟨n9,hn9⟩:∃n9,n9=w10.heap.size:=⟨_,rfl⟩
  have hb11:Below w10.heap.size w10 w11:=by rw[hw11];exact (Below.refl _ _).alloc (Nat.le_refl _) _
  have HB11:Hid (Below w2.heap.size w2 w11):=HB10.out.trans (hb11.mono HB10.out.size)
  have HROW:Hid (Row w11 (.slice (some ⟨n9,0,none⟩) 1 1) 1 1 (rPtr.enc g9)):=by rw[Hid,hw11,hn9];exact row_ptr w10 g9
  have HG11:=Lib.hid (HG10.out.keep (hb11.block _ hgl10))
  have HO11:=Lib.hid (HO10.out.keep λb e=>hb11.block b (HO10.out.lt e).2)
  have hgl11:g9<w11.heap.size:=Nat.lt_of_lt_of_le hgl10 hb11.size
  rw[<- hw11,<- hn9]
  have hS11:(λW:World=>W.cell? ⟨w.heap.size,4,none⟩=some (.int .i64 (n:Int))/\W.cell? ⟨B,1,none⟩=some (.slice ta tl tc)/\W.frozen? ⟨B,1,none⟩=false) w11:=HK.out _ (.ofBelow _ HB11.out)
  refine hK.out _ _ ⟨λ_ _=>hS11,λh=>h⟩ (λ_=>?_)
  clear hK K hS10 hw11 hn9 hb11 hgl10
  try simp only [Act.put,List.setIfInBounds_toArray,List.set_cons_zero,List.set_cons_succ]
  refine wpAnyN_one 11 rfl (by kernel_rfl) λK hK=>?_
  have HOT:Hid (Go.Proofs.Ytbeilcaadpopmab.OwnL rPtr w11 base (.slice ta tl tc) ((List.range H.things.length).map nm.tb)):=by rw[Hid,<- HET.out];exact (HM2.out.below HB11.out).part .things trivial
  refine step_append_L rPtr rfl _ _ 119 _ 8 Try.underlying119 Try.infPtr rfl (by decide) (by decide) (by decide) rfl base (.slice ta tl tc) ((List.range H.things.length).map nm.tb) rfl HOT.out _ g9 rfl HROW.out (by have:=HLL.out;simp;omega) (Nat.le_trans HBS.out HB11.out.size) ?_
  intro v7 w7 hO7 hg7 hn7
  have HC7:Hid (Chg (λk=>nm.tv.ownBlock=some k) w11 w7):=Chg.ofGrown _ hg7 (λi e=>by rw[HET.out];exact e)
  have HC2:Hid (Chg (λk=>nm.tv.ownBlock=some k) w2 w7):=(Chg.ofBelow _ HB11.out).trans HC7.out
  have HLT:Hid (∀k,nm.tv.ownBlock=some k->k<w2.heap.size):=λk e=>(HM2.out.lo .things k trivial e).2
  have HNEW:Hid (∀k,w2.heap.size<=k->k<w11.heap.size->w7.heap[k]? = w11.heap[k]?):=λk h1 h2=>HC7.out.block k h2 (λe=>by have:=HLT.out k e;omega)
  have HG7:=Lib.hid (HG11.out.keep (HNEW.out g9 (by omega) hgl11))
  have HF7:=Lib.hid (HO11.out.keep λb e=>HNEW.out b (by have e2:f9=b:=Option.some.inj e;omega) (by have e2:f9=b:=Option.some.inj e;omega))
  have HO7:=Lib.hid hO7
  have HN7:Hid (v7.ownBlock=nm.tv.ownBlock\/∀k,v7.ownBlock=some k->w11.heap.size<=k):=by rw[Hid,HET.out];exact hn7
  have hB7:B<w7.heap.size:=Nat.lt_of_lt_of_le hB3 HC2.out.size
  have hS7:(λW:World=>W.cell? ⟨w.heap.size,4,none⟩=some (.int .i64 (n:Int))/\W.cell? ⟨B,1,none⟩=some (.slice ta tl tc)/\W.frozen? ⟨B,1,none⟩=false) w7:=HK.out _ HC2.out
  refine hK.out _ _ ⟨λ_ _=>hS7,λh=>h⟩ (λ_=>?_)
  clear hK K hS11 hn7
  try simp only [Act.put,List.setIfInBounds_toArray,List.set_cons_zero,List.set_cons_succ]
  refine wpAnyN_one 12 rfl (by kernel_rfl) λK hK=>?_
  go_simp
  refine hK.out _ _ ⟨λ_ _=>hS7,λh=>h⟩ (λ_=>?_)
  clear hK K
  try simp only [Act.put,List.setIfInBounds_toArray,List.set_cons_zero,List.set_cons_succ]
  refine wpAnyN_one 13 rfl (by kernel_rfl) λK hK=>?_
  go_simp
  refine hK.out _ _ ⟨λ_ _=>hS7,λh=>h⟩ (λ_=>?_)
  clear hK K
  try simp only [Act.put,List.setIfInBounds_toArray,List.set_cons_zero,List.set_cons_succ]
  obtain⟨k0,k1,k2⟩:=hS7
  obtain⟨va,vl,vc,hv7,hvl⟩:∃va vl vc,v7 = .slice va vl vc/\vl=H.things.length+1:=by obtain⟨x,y,e,_⟩:=Go.Proofs.Ytbeilcaadpopmab.OwnL.shape hO7;exact⟨x,_,y,e,by simp⟩
  have HVL:=Lib.hid hvl
  clear hvl
  subst hv7
  have hsz7:=HC7.out.size
  clear hO7 hg7
  refine wpAnyN_one 14 rfl (by kernel_rfl) λK hK=>?_
  go_simp
  refine hK.out _ _ ⟨λh=>absurd (List.mem_singleton.2 rfl) h,λh=>h⟩ (λ_=>?_)
  clear hK K
  try simp only [Act.put,List.setIfInBounds_toArray,List.set_cons_zero,List.set_cons_succ]
  refine wpAnyN_done (by kernel_rfl) ?_ _
  clear k0 k1 k2
  have hvB:(Value.slice va vl vc).ownBlock≠some B:=λe=>by
    rcases HN7.out with h|h
    · exact hTB (h ▸ e)
    · have:=h B e;have:=HB11.out.size;omega
  have hset:∀k,k≠B->(w7.setCell ⟨B,1,none⟩ (.slice va vl vc)).heap[k]? = w7.heap[k]?:=λk e=>Below.heap_setCell _ _ _ _ e
  have hb7x:BoxN 84 w7 B (hallC nm H):=HM2.out.box.keep (HC2.out.block B hB3 hTB)
  obtain⟨q1,q2⟩:=HM2.out.newThing (w':=w7.setCell ⟨B,1,none⟩ (.slice va vl vc)) (newT n) H.regs (.slice va vl vc) g9 (.slice (some ⟨f9,0,none⟩) n n)
    ((HC2.out.mono λk _ e=>.inr e).trans (Chg.set _ _ _ _ (.inl rfl)))
    ((hb7x.set (o:=1) (by omega) _).congr λi hi=>hallC_things nm H _ _ _ _ _ i hi)
    (HO7.out.keep λb e=>hset b (λeB=>hvB (eB ▸ e))) (HG7.out.keep (hset g9 (by omega))) (HF7.out.keep λb e=>hset b (by have e2:f9=b:=Option.some.inj e;omega))
    ⟨by omega,by simp[World.setCell];omega⟩ (λk e=>by have e2:f9=k:=Option.some.inj e;exact⟨by omega,by simp[World.setCell];omega⟩)
    (HN7.out.imp id λh k e=>⟨Nat.le_trans HB11.out.size (h k e),by have:=(HO7.out.lt e).2;simpa [World.setCell] using this⟩)
    (λe=>by have e2:f9=g9:=Option.some.inj e;omega) (λe=>HN7.out.elim (λh=>by have:=HLT.out g9 (h.symm.trans e);omega) (λh=>by have:=h g9 e;omega))
    (λk hk e e2=>by have e3:f9=k:=Option.some.inj e2;exact HN7.out.elim (λh=>by have:=HLT.out _ (h.symm.trans e);omega) (λh=>by have:=h _ e;omega))
  obtain⟨nm3,hn3⟩:∃nm3,nm3=nm.more H.things.length (.slice va vl vc) g9 (.slice (some ⟨f9,0,none⟩) n n):=⟨_,rfl⟩
  obtain⟨w12,hw12⟩:∃w12,w12=w7.setCell ⟨B,1,none⟩ (.slice va vl vc):=⟨_,rfl⟩
  rw[<- hn3,<- hw12] at q1 q2
  rw[<- hw12]
  have HF12:=Lib.hid (HF2.out.step q1 q2)
  have HTV:Hid (nm3.tv = .slice va vl vc):=by rw[Hid,hn3];rfl
  clear q1 q2 hn3 hw12 hb7x hset hvB hTB hTA hf92 hfg hgl11 hsz7 hB7 HK
  go_upto_region 51 with (fail)
  obtain⟨w13,hw13⟩:∃w13,w13=w12.drew:=⟨_,rfl⟩
  have HF13:Hid (AF base w B nm H (actL 4 (t:Int) (a:Int) b (n:Int)) X1 X2 AnsM.nil w13 nm3 { H with things:=H.things++[newT n] }):=by rw[Hid,hw13];exact HF12.out.below (Below.refl _ _).drew
  obtain⟨a0,a1,a2,a3,a4⟩:=HF13.out.ra.act
  have HBX:=Lib.hid HF13.out.mem.box
  have c1:=(HBX.out 1 (by omega)).1
  rw[show hallC nm3 { H with things:=H.things++[newT n] } 1=nm3.tv from rfl,HTV.out] at c1
  refine still_tail_at 14 (by kernel_rfl) (by kernel_rfl) hw13 ?_;simp only [List.take_succ_cons,List.take_zero,List.drop_succ_cons,List.drop_zero];clear hw13;(repeat still_step);refine wpStill_nil ?_
  have ho:2+t * 8+a * 2+(#[.int .i64 1,.int .i64 (vl:Int)]:Array Value).size<=84:=by have:=HTT.out;have:=HAA.out;simp;omega
  refine wpl_storeN rfl 36 _ _ rfl B (2+t * 8+a * 2) #[.int .i64 1,.int .i64 (vl:Int)] rfl rfl _ HBX.out ho Try.sizeVal (by simp[Value.oneCell']) ?_
  intro hbx hcg
  rw[List.toList_toArray] at hbx hcg ⊢
  obtain⟨w14,hw14⟩:∃w14,w14=w13.setCells B (2+t * 8+a * 2) [.int .i64 1,.int .i64 (vl:Int)]:=⟨_,rfl⟩
  rw[<- hw14] at hbx hcg ⊢
  obtain⟨q1,q2⟩:=HF13.out.mem.setReg HTT.out HAA.out (.ref (H.things.length+1)) hcg (by rw[HVL.out] at hbx;exact hbx)
  have HF14:=Lib.hid (HF13.out.step q1 q2)
  clear hbx hcg q1 q2 hw14 ho HBX a0 a1 a2 a3 a4 c1
  go_frame
  obtain⟨⟨o0,o1,o2,o3,o4,o5,o6⟩,z0,z1,z2,z3,z4,z5,z6⟩:=HF14.out.r2.ans
  obtain⟨⟨p0,p1,p2,p3,p4,p5,p6⟩,y0,y1,y2,y3,y4,y5,y6⟩:=HF14.out.r1.ans
  go_wp2_with fail
  have HEND:Hid (RowAt ((((((((w14).setCell ⟨X1,0,none⟩ (.int .i64 AnsM.nil.code)).setCell ⟨X1,1,none⟩ (.bool AnsM.nil.is)).setCell ⟨X1,2,none⟩ (.int .i64 AnsM.nil.number)).setCell ⟨X1,3,none⟩ (.bool AnsM.nil.yes)).setCell ⟨X1,4,none⟩ (.int .i64 AnsM.nil.words)).setCell ⟨X1,5,none⟩ (.bool AnsM.nil.going)).setCell ⟨X1,6,none⟩ (.int .i64 AnsM.nil.freed)) X1 (ansL AnsM.nil)) :=
    (((((((HF14.out.r1).set 0 _).set 1 _).set 2 _).set 3 _).set 4 _).set 5 _).set 6 _
  refine bodyPost_ret (v:=ansV AnsM.nil) (res_acted rfl HEND.out) rfl ?_
  exact HF14.out.fin (by repeat with_reducible (first|exact Chg.refl _ _|refine chgS ?_ (by first|(simp;done)|(simp;omega))))
end Go.Proofs.Ytbeilcaadpopmab
