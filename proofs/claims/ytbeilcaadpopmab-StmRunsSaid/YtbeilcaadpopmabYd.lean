/- Texts put together: An, Lift, Rs, Rt, Ru. -/
import Derived.Test.YtbeilcaadpopmabYc
import Derived.Test.YtbeilcaadpopmabY8
import Derived.Test.YtbeilcaadpopmabY9
import Derived.Test.YtbeilcaadpopmabYa
import Derived.Test.YtbeilcaadpopmabY7
import Derived.Test.YtbeilcaadpopmabY1
import Derived.ProofKit
import Derived.Lib.SmallJoins
import Derived.Deep.Slices
import Derived.Deep.Fields
import Derived.ChangeSame
import Derived.Test.YtbeilcaadpopmabY4
import Derived.Test.YtbeilcaadpopmabY5
import Derived.Outline
set_option linter.unusedVariables false
set_option linter.unusedSimpArgs false
namespace Go.Proofs.Ytbeilcaadpopmab
open Go.RowKit Go.Maps
theorem Sim.place {K:Nat} {H:Hall} {M:CM} (h:Sim H M) {i:Nat} (hl:Live H.things i):plL H.things i<1000:=by
  have:=h.wds.lt hl
  have:=h.wds.len
  have:=h.w4
  omega
theorem Sim.vals {K:Nat} {H:Hall} {M:CM} (h:Sim H M) (hi:Inv K H) (p:Pos) (hp:p.ok M):I64 (M.at p).1/\I64 (M.at p).2:=by
  cases p with
  | reg t r =>
    show I64 (M.regs t r).1/\I64 (M.regs t r).2
    rw[h.regs t hp.1 r hp.2]
    have:=encV_bounds (K:=K) h (hi.sz.regs t r) (pv_live (hi.cl.regs t hp.1 r hp.2))
    exact⟨this.1,this.2.2.2⟩
  | saved t r =>
    show I64 ((M.txs t).saved r).1/\I64 ((M.txs t).saved r).2
    rw[(h.txs t hp.1).saved r hp.2]
    have:=encV_bounds (K:=K) h (hi.sz.saved t r) (pv_live (hi.cl.saved t hp.1 r hp.2))
    exact⟨this.1,this.2.2.2⟩
  | was t i =>
    obtain⟨ht,hlt⟩:=hp
    unfold CM.at
    dsimp only
    rw[List.getD_eq_getElem?_getD,List.getElem?_eq_getElem hlt,Option.getD_some]
    have hm:=List.getElem_mem hlt
    obtain⟨u,hu⟩:∃u,u=(M.txs t).undo[i]:=⟨_,rfl⟩
    rw[<- hu] at hm ⊢
    rw[(h.txs t ht).undo] at hm
    obtain⟨c,hc,rfl⟩:=List.mem_map.1 hm
    have:=encV_bounds (K:=K) h (hi.sz.was t c hc) (pv_live (hi.cl.was t ht c hc).2)
    exact⟨this.1,this.2.2.2⟩
theorem Sim.heldOk {K:Nat} {H:Hall} {M:CM} (h:Sim H M) (hi:Inv K H) (y:Int) (hy:M.held y):0<=y/\y<1000:=by
  by_cases h0:y=0
  · omega
  · obtain⟨i,hr,hi0,rfl⟩:=(h.held hi y).1 ⟨h0,hy⟩
    have:=h.place (K:=K) (root_live hi i hr hi0)
    omega
theorem Sim.stepOk {K:Nat} {H:Hall} {M:CM} (h:Sim H M) (hi:Inv K H) (hK:K<=400) (hg:H.going=true) (n:Int):StepOk M n (livePl 1 H.things):=by
  have hs:=h.snap hg
  obtain⟨f1,f2⟩:=snap_few (words:=H.words) (xs:=M.xs) hs
  have hn:=hi.sz.n
  refine⟨h.heap hi hK,λx hx=>?_,⟨by omega,by omega⟩,λp hp=>h.vals hi p hp,λt ht u hu=>?_,λS hS=>?_⟩
  · obtain⟨i,hk,rfl⟩:=hs.inS x (hs.sub x hx)
    exact⟨plL H.things i,(mem_live _ _).2 ⟨i,hk.1,rfl⟩,rfl⟩
  · rw[(h.txs t ht).undo] at hu
    obtain⟨c,hc,rfl⟩:=List.mem_map.1 hu
    exact h.place (K:=K) (live_pi.1 (hi.cl.was t ht c hc).1)
  · obtain⟨c,g',S',h1,h2,h3,h4⟩:=Snap.look h.wds (kf_cl hi hg) n.toNat H.left M.gray M.S hs
    rw[hS] at h1
    cases h1
    have he:=snap_ends hi hg h3
    have key:∀i,KF H.things i->∃k ∈ endKs (livePl 1 H.things) S,(plL H.things i:Int)=(k:Int):=λi hk=>by
      refine⟨plL H.things i,List.mem_filter.2 ⟨(mem_live _ _).2 ⟨i,hk.1,rfl⟩,?_⟩,rfl⟩
      rw[List.contains_iff_mem]
      exact (he.mem i hk.1).2 hk.2
    refine⟨ends_out h.wds he,λt ht=>⟨λp v hp=>?_,λp v hp=>?_⟩⟩
    · rw[(h.txs t ht).reads] at hp
      obtain⟨d,hd,rfl,_⟩:=verF_some hp
      exact key d.1 (kf_pi hi hg (hi.cl.reads t ht d hd) ((hi.kf hg).reads t ht d hd))
    · rw[(h.txs t ht).owned] at hp
      obtain⟨d,hd,rfl,_⟩:=verF_some hp
      exact key d.1 (kf_pi hi hg (hi.cl.owned t ht d hd) ((hi.kf hg).owned t ht d hd))
theorem Inv.left {K:Nat} {H:Hall} (hi:Inv K H) (x:Int):Inv K { H with left:=x } :=
  ⟨⟨hi.cl.regs,hi.cl.saved,hi.cl.was,hi.cl.reads,hi.cl.owned,hi.cl.fields⟩,λe=>⟨(hi.kf e).regs,(hi.kf e).saved,(hi.kf e).was,(hi.kf e).reads,(hi.kf e).owned,(hi.kf e).fields⟩,hi.deals,
    ⟨hi.own.ver,hi.own.own,hi.own.ond,hi.own.chg,hi.own.rnd,hi.own.rds⟩,⟨hi.sz.regs,hi.sz.saved,hi.sz.was,hi.sz.fields,hi.sz.f6,hi.sz.ver,hi.sz.rd,hi.sz.ow,hi.sz.ch,hi.sz.n⟩⟩
theorem Sim.step {K:Nat} {H:Hall} {M M':CM} (h:Sim H M) (hi:Inv K H) (hK:K<=400) (n r c:Int) (hr:StepR M n (livePl 1 H.things) r c M') :
    (⟨c,false,0,false,0,false,r⟩:AnsM)=(H.step n).2/\Sim (H.step n).1 M':=by
  unfold Hall.step
  rcases hr with ⟨h1,rfl,rfl,rfl⟩|⟨h1,h2,rfl,rfl,rfl⟩|⟨h1,h2,g,S,h3,h4,rfl,rfl,rfl⟩|⟨h1,h2,S,L,h3,h4,rfl,rfl,rfl⟩
  · rw[if_pos h1];exact⟨rfl,h⟩
  · rw[if_neg (λe=>e h1),if_pos (by rw[<- h.going];exact h2)];exact⟨rfl,h⟩
  · have hg:H.going=true:=by rw[<- h.going];exact h2
    obtain⟨c,g',S',e1,e2,e3,e4⟩:=Snap.look h.wds (kf_cl hi hg) n.toNat H.left M.gray M.S (h.snap hg)
    rw[h3] at e1
    cases e1
    have hc:(c:Int)=n:=by have:=e4.resolve_left h4;omega
    rw[hc] at e3
    have hm:=e3.more h4
    rw[if_neg (λe=>e h1),if_neg (by rw[hg];simp),if_neg (by omega)]
    exact⟨rfl,h.looked _ e3⟩
  · have hg:H.going=true:=by rw[<- h.going];exact h2
    obtain⟨c,g',S',e1,e2,e3,_⟩:=Snap.look h.wds (kf_cl hi hg) n.toNat H.left M.gray M.S (h.snap hg)
    rw[h3] at e1
    cases e1
    have hz:=e3.done.1
    have he:=snap_ends hi hg e3
    obtain⟨_,et⟩:=ends_mvs h.wds he
    rw[if_neg (λe=>e h1),if_neg (by rw[hg];simp),if_pos (by omega)]
    refine⟨?_,?_⟩
    · congr 1
      rw[et,h.top]
      have:H.used=usedOf H.things:=rfl
      omega
    · exact (h.looked (H.left - c) e3).closes (hi.left _) hK hg he (H.left - n) h4
theorem bad_of {k t a b n:Int} (hk:1<=k/\k<=12) (h:(ActM.mk k t a b n).okR=false):(k<10/\¬ (0<=t/\t<=3))\/regsOk k a b n=false:=by
  by_cases h1:k<10/\¬ (0<=t/\t<=3)
  · exact .inl h1
  · refine .inr ?_
    cases e:regsOk k a b n with
    | false=>rfl
    | true =>
      exfalso
      unfold ActM.okR at h
      unfold regsOk at e
      have hk2:k=1\/k=2\/k=3\/k=4\/k=5\/k=6\/k=7\/k=8\/k=9\/k=10\/k=11\/k=12:=by omega
      have ht:k<10->in3 t=true:=λh2=>by unfold in3;rw[decide_eq_true_eq];omega
      rcases hk2 with rfl|rfl|rfl|rfl|rfl|rfl|rfl|rfl|rfl|rfl|rfl|rfl <;> simp_all
def RetAct (base:Nat) (w:World) (B:Nat) (nm:Nm) (p:Hall × AnsM) (e:Ending) (w':World):Prop :=
  e = .returned (ansV p.2)/\∃nm' M',Mach base w' B nm' M'/\Went 1 w w' B nm nm'/\Sim p.1 M'
theorem RetA.to {d base:Nat} {w:World} {B:Nat} {nm:Nm} {P:AnsM->CM->Prop} {p:Hall × AnsM} {e:Ending} {w':World} (h:RetA d base w B nm P e w') (hd:d<=1) (k:∀r M',P r M'->r=p.2/\Sim p.1 M'):RetAct base w B nm p e w':=by
  obtain⟨r,M',hP,rfl,nm',hm,hw⟩:=h
  obtain⟨rfl,hs⟩:=k r M' hP
  exact⟨rfl,nm',M',hm,hw.le hd,hs⟩
theorem act_any {K:Nat} (base:Nat) (w:World) (B:Nat) (nm:Nm) (H:Hall) (M:CM) (hs:Sim H M) (hi:Inv K H) (hK:K<=400) (h:Mach base w B nm M) (hN:nm.N<900000) (c:ActM) (hn:I64 c.n) :
    Calls Try.prog 66 #[.pointer (some ⟨B,0,none⟩),.agg #[.int .i64 c.kind,.int .i64 c.t,.int .i64 c.a,.int .i64 c.b,.int .i64 c.n]] w (RetAct base w B nm (H.act c)):=by
  obtain⟨k,ct,ca,cb,cn⟩:=c
  dsimp only at hn ⊢
  refine act_ind (P:=λp=>Calls Try.prog 66 #[.pointer (some ⟨B,0,none⟩),.agg #[.int .i64 k,.int .i64 ct,.int .i64 ca,.int .i64 cb,.int .i64 cn]] w (RetAct base w B nm p)) H ⟨k,ct,ca,cb,cn⟩ ?_ ?_ ?_ ?_ ?_ ?_ ?_ ?_ ?_ ?_ ?_ ?_ ?_
  · intro e he
    refine (act_bad base w B nm M h k ct ca cb cn e ?_).mono λe w' hr=>hr.to (Nat.zero_le _) λr M' hp=>?_
    · rcases he with ⟨rfl,he⟩|⟨rfl,h1,h2,h3⟩
      · exact .inl ⟨rfl,he⟩
      · exact .inr ⟨rfl,⟨h1,h2⟩,bad_of ⟨h1,h2⟩ h3⟩
    · obtain⟨rfl,rfl⟩:=hp;exact⟨rfl,hs⟩
  · rintro (rfl:k=1) t ht (rfl:ct=t)
    refine (act_begin base w B nm M h t ht ca cb cn).mono λe w' hr=>hr.to (Nat.zero_le _) λr M' hp=>?_
    unfold Hall.begin
    rw[(hs.txs t ht).op] at hp
    rcases hp with ⟨h1,rfl,rfl⟩|⟨h1,rfl,rfl⟩
    · rw[if_pos h1];exact⟨rfl,hs⟩
    · rw[if_neg (by rw[h1];simp)];exact⟨rfl,hs.begin ht⟩
  · rintro (rfl:k=2) t ht (rfl:ct=t)
    refine (act_commit base w B nm M h t ht ca cb cn (hs.commitOk hi hK ht)).mono λe w' hr=>hr.to (Nat.zero_le _) λr M' hp=>?_
    unfold Hall.commit
    rw[(hs.txs t ht).op] at hp
    rcases hp with ⟨rfl,h1,rfl⟩|⟨rfl,h1,h2,rfl⟩|⟨rfl,h1,h2,rfl⟩
    · rw[if_pos h1];exact⟨rfl,hs⟩
    · rw[if_neg (by rw[h1];simp),if_pos ((hs.fits hi ht).1 h2)];exact⟨rfl,hs.done hi ht⟩
    · rw[if_neg (by rw[h1];simp),if_neg (λe=>h2 ((hs.fits hi ht).2 e))];exact⟨rfl,hs.abort hi ht⟩
  · rintro (rfl:k=3) t ht (rfl:ct=t)
    refine (act_abort base w B nm M h t ht ca cb cn (hs.abortOk hi hK ht)).mono λe w' hr=>hr.to (Nat.zero_le _) λr M' hp=>?_
    unfold Hall.abort
    rw[(hs.txs t ht).op] at hp
    rcases hp with ⟨h1,rfl,rfl⟩|⟨h1,rfl,rfl⟩
    · rw[if_pos h1];exact⟨rfl,hs⟩
    · rw[if_neg (by rw[h1];simp)];exact⟨rfl,hs.abort hi ht⟩
  · rintro (rfl:k=4) t a ht ha (rfl:ct=t) (rfl:ca=a)
    refine (act_new base w B nm M h t ht a ha cb cn hn ⟨M.top,_,rfl,hs.heap hi hK⟩ (λhg=>?_)).mono λe w' hr=>hr.to (Nat.zero_le _) λr M' hp=>?_
    · have:=(snap_few (words:=H.words) (xs:=M.xs) (hs.snap (by rw[<- hs.going];exact hg))).1
      have:=hi.sz.n
      omega
    · obtain⟨rfl,rfl⟩:=hp
      exact hs.new hi ht ha cn
  · rintro (rfl:k=5) t a b ht ha hb (rfl:ct=t) (rfl:ca=a) (rfl:cb=b)
    refine (act_get base w B nm M h t ht a b ha hb cn hn (hs.fieldOk hi hK ht hb cn) hN).mono λe w' hr=>hr.to (Nat.le_refl _) λr M' hp=>?_
    have ho:=hs.object hi ht hb cn
    rw[ho] at hp
    rcases hp with ⟨h1,rfl,rfl⟩|⟨h1,rfl,rfl⟩
    · exact hs.get hi ht ha hb h1
    · unfold Hall.get
      rw[if_neg h1]
      exact⟨rfl,hs.failed hi ht _⟩
  · rintro (rfl:k=6) t a b ht ha hb (rfl:ct=t) (rfl:ca=a) (rfl:cb=b)
    refine (act_put base w B nm M h t ht a b ha hb cn hn (hs.putOk hi hK ht ha hb cn) hN).mono λe w' hr=>hr.to (Nat.le_refl _) λr M' hp=>?_
    have ho:=hs.object hi ht ha cn
    rw[ho] at hp
    obtain⟨rfl,rfl⟩:=hp
    by_cases h1:H.acc t a cn=0
    · rw[if_pos h1,h1]
      obtain⟨q1,q2⟩:=hs.put hi ht ha hb h1
      exact⟨by rw[q1];rfl,q2⟩
    · rw[if_neg h1]
      unfold Hall.put
      rw[if_neg h1]
      exact⟨rfl,hs.failed hi ht _⟩
  · rintro (rfl:k=7) t a ht ha (rfl:ct=t) (rfl:ca=a)
    refine (act_set base w B nm M h t a ht ha cb cn hn).mono λe w' hr=>hr.to (Nat.zero_le _) λr M' hp=>?_
    unfold Hall.set
    rcases hp with ⟨h1,rfl,rfl⟩|⟨h1,rfl,rfl⟩
    · rw[if_neg h1];exact⟨rfl,hs⟩
    · rw[if_pos h1];exact⟨rfl,hs.setReg t a (.num cn) _ rfl⟩
  · rintro (rfl:k=8) t a b u ht ha hb hu (rfl:ct=t) (rfl:ca=a) (rfl:cb=b) (rfl:cn=u)
    refine (act_copy base w B nm M h t a b u ht ha hb hu).mono λe w' hr=>hr.to (Nat.zero_le _) λr M' hp=>?_
    unfold Hall.copy
    rw[(hs.txs t ht).op,(hs.txs u hu).op] at hp
    rcases hp with ⟨h1,rfl,rfl⟩|⟨h1,rfl,rfl⟩
    · rw[if_pos h1];exact⟨rfl,hs⟩
    · rw[if_neg h1];exact⟨rfl,hs.setReg t a _ _ (hs.regs u hu b hb)⟩
  · rintro (rfl:k=9) t a b ht ha hb (rfl:ct=t) (rfl:ca=a) (rfl:cb=b)
    refine (act_same base w B nm M h t a b ht ha hb cn).mono λe w' hr=>hr.to (Nat.zero_le _) λr M' hp=>?_
    have e:(M.regs t a=M.regs t b) ↔ (H.regs t a=H.regs t b):=by
      rw[hs.regs t ht a ha,hs.regs t ht b hb]
      exact encV_eq (pv_live (hi.cl.regs t ht a ha)) (pv_live (hi.cl.regs t ht b hb))
    simp only [e] at hp
    obtain⟨rfl,rfl⟩:=hp
    exact⟨rfl,hs⟩
  · rintro (rfl:k=10)
    refine (act_collect base w B nm M h ct ca cb cn (hs.heldOk hi) (hs.vals hi)).mono λe w' hr=>hr.to (Nat.zero_le _) λr M' hp=>?_
    unfold Hall.collect
    rw[hs.going] at hp
    rcases hp with ⟨h1,rfl,rfl⟩|⟨h1,rfl,h2⟩
    · rw[if_pos h1];exact⟨rfl,hs⟩
    · rw[if_neg (by rw[h1];simp)];exact⟨rfl,hs.collect hi h2⟩
  · rintro (rfl:k=11)
    refine (act_step base w B nm M h hN ct ca cb cn hn (livePl 1 H.things) (λhg _ _=>hs.stepOk hi hK (by rw[<- hs.going];exact hg) cn)).mono λe w' hr=>hr.to (Nat.zero_le _) λr M' hp=>?_
    obtain⟨f,c,hp,rfl⟩:=hp
    exact hs.step hi hK cn f c hp
  · rintro (rfl:k=12)
    have h1:=hs.heap hi hK
    refine (act_stat base w B nm M h ct ca cb cn ⟨h1.2.1,by have:=h1.1;have:=h1.2.2.1;omega⟩).mono λe w' hr=>hr.to (Nat.zero_le _) λr M' hp=>?_
    obtain⟨rfl,rfl⟩:=hp
    refine⟨?_,hs⟩
    congr 1
    · rw[hs.top];omega
    · exact hs.going
end Go.Proofs.Ytbeilcaadpopmab
set_option maxRecDepth 100000
namespace Go.Proofs.Ytbeilcaadpopmab
open Go.ChangeShapes Go.WideShapes Go.ChangeAt Go.RowKit Go.Joins
theorem Try.own:ownKnob Try.prog.godebug=none:=by kernel_rfl
theorem Try.laidOut:laidOutB Try.prog=true:=by kernel_rfl
theorem trodAll_below {H:Type} {enc:TypeId × Value->H} {P:Program} (hl:laidOutB P=true) {W W':World} (hb:Below W.heap.size W W') :
    ∀ (ts : List TypeId) (vs : List Value) (ds : List (DataW H)) (ps : List MemPlace), ts.all (fun t => P.readableRec t && decide (t < P.types.size)) = true → (∀ x ∈ ps, x.block < W.heap.size) →
      DataW.TrodAll enc P W 0 (λ_=>true) true ts vs ds ps->DataW.TrodAll enc P W' 0 (λb=>decide (b<W.heap.size)) true ts vs ds ps
  | [],[],[],ps,_,_,h=>h
  | t :: ts,v :: vs,d :: ds,ps,hr,hlt,h=>by
    obtain⟨p,q,h1,h2,rfl⟩:=h
    simp only [List.all_cons,Bool.and_eq_true,decide_eq_true_eq] at hr
    exact⟨p,q,Below.trod hl hr.1.1 hr.1.2 h1 hb (λx hx=>hlt x (by simp[hx])),trodAll_below hl hb ts vs ds q hr.2 (λx hx=>hlt x (by simp[hx])) h2,rfl⟩
  | [],_ :: _,_,_,_,_,h=>by simp[DataW.TrodAll] at h
  | [],[],_ :: _,_,_,_,h=>by simp[DataW.TrodAll] at h
  | _ :: _,[],_,_,_,_,h=>by simp[DataW.TrodAll] at h
  | _ :: _,_ :: _,[],_,_,_,h=>by simp[DataW.TrodAll] at h
theorem law_end {H:Type} {enc:TypeId × Value->H} {P:Program} {f:Func} {s:ChangeSpec} {W W':World} {args:Array Value} {ds gs:List (DataW H)} {before:List MemPlace} {tb:TypeId}
    (hl:laidOutB P=true) (hW:DataW.Whole enc P f.params.toList s.vars false W args.toList ds gs before) (hvars:s.vars=[]) (hr:f.resultTypes = #[tb]) (htb:P.underlying tb=some .bool)
    (hp:f.params.toList.all (λt=>P.readableRec t && decide (t<P.types.size))=true)
    (hres:(s.fn H (ds++gs)).results=[.lit (.bool true)]) (harg:(s.fn H (ds++gs)).args=ds) (hv:(s.fn H (ds++gs)).vars=[])
    (hb:Below W.heap.size W W'):s.post enc P f false true false false W args (.bool true) W':=by
  have hW0:=hW
  obtain⟨p,q,hA,hV,rfl,hfz,hnd⟩:=hW
  rw[hvars] at hV
  have hlt:∀x ∈ p,x.block<W.heap.size:=λx hx=>by simpa using hW0.lt x (by simp[hx])
  refine⟨ds,gs,p++q,[]++[],p,[],hW0,?_,?_,?_,hb.frame _,λh=>by cases h⟩
  · rw[hres,hr]
    exact⟨[],[],shut_bool htb true,rfl,rfl⟩
  · rw[harg]
    exact trodAll_below hl hb _ _ _ _ hp hlt hA
  · rw[hvars,hv];rfl
section
variable {H:Type} {enc:TypeId × Value->H} {W:World} {r:Reach} {b0:Nat} {v:Value} {d:DataW H} {p:List MemPlace}
theorem open_i {t:TypeId} (ht:Try.prog.underlying t=some (.int .i64)) (hv:Value.okWide Try.prog W r b0 t v) (h:DataW.Trod enc Try.prog W 0 (λ_=>true) true t v d p):∃x,v = .int .i64 x/\I64 x:=by
  obtain⟨a,rfl,rfl,rfl,wa⟩:=open_int ht hv h
  exact⟨a,rfl,i64_of_wf wa⟩
theorem Try.cellsValue:Try.prog.cellsOf 36 = 2:=by kernel_rfl
theorem Try.cellsHeap:Try.prog.cellsOf 25 = 2:=by kernel_rfl
theorem Try.cellsInt:Try.prog.cellsOf 3 = 1:=by kernel_rfl
theorem Try.bytesInt:Try.prog.bytesOf 3 = 8:=by kernel_rfl
theorem open_value (hv:Value.okWide Try.prog W r b0 36 v) (h:DataW.Trod enc Try.prog W 0 (λ_=>true) true 36 v d p):∃k n,v = .agg #[.int .i64 k,.int .i64 n]/\I64 k/\I64 n:=by
  obtain⟨c0,c1,y0,y1,m,rfl,rfl,rfl,h0,h1⟩:=open_agg2 Try.underlying36 (by kernel_rfl) Try.cellsValue hv h
  obtain⟨k,e0,rfl,w0⟩:=DataW.trod_int Try.underlying3 h0
  obtain⟨n,e1,rfl,w1⟩:=DataW.trod_int Try.underlying3 h1
  simp at e0 e1
  subst e0 e1
  exact⟨k,n,rfl,i64_of_wf w0,i64_of_wf w1⟩
theorem open_ints_trod {fuel:Nat} {x:DataW H × List MemPlace} (hf:DataW.trod enc Try.prog W 0 (λ_=>true) true fuel 23 [v]=some x)
    (hz:∀elems spare,x.1 = .slice elems spare->(elems.length+spare.length) * 8<=reachBytes) (hlt:∀y ∈ x.2,y.block<W.heap.size):∃xs,Ints W v xs/\xs.length<=17592186043904:=by
  rcases open_ints Try.underlying23 Try.underlying3 Try.cellsInt hf with ⟨hcs,hx⟩|⟨a,len,cap,zs,hcs,_,hl,hm,hzl,hx,hcell,hwz⟩
  · simp at hcs
    subst hcs
    exact⟨[],⟨⟨by simp,by simp⟩,by simp,by simp,none,0,rfl,Nat.le_refl _,Nat.zero_le _,λ_=>rfl,λh=>absurd h (by simp)⟩,by simp⟩
  · simp at hcs
    subst hcs
    subst hx
    simp only [if_true] at hzl
    have hz:=hz _ _ rfl
    have hlen:(zs.take len).length=len:=by simp;omega
    simp only [lits,List.length_map,List.length_take,List.length_drop,reachBytes] at hz
    refine⟨zs.take len,⟨⟨λy hy=>i64_of_wf (hwz y (List.mem_of_mem_take hy)),by omega⟩,by simp,by omega,some a,cap,by rw[hlen],by rw[hlen];exact hl,hm,λh=>by simp at h,λhn=>?_⟩,by omega⟩
    · rw[hlen] at hn
      obtain⟨b,off,spot⟩:=a
      have hspot:spot=none:=by simpa [Addr.add] using World.cell?_spot (hcell 0 (by omega))
      subst hspot
      refine⟨b,off,rfl,hlt (.cell b off) (MemPlace.mem_row.2 ⟨0,by omega,by simp⟩),λi hi=>?_⟩
      simp only [List.length_map,hlen] at hi
      have hiz:i<zs.length:=by omega
      rw[<- add_plain,hcell i hiz]
      simp[List.getD,List.getElem?_take,hi,hiz]
theorem open_heap (hv:Value.okWide Try.prog W r b0 25 v) (h:DataW.Trod enc Try.prog W 0 (λ_=>true) true 25 v d p)
    (hw:∀x ∈ d.weights Try.prog 25,x<=reachBytes) (hlt:∀y ∈ p,y.block<W.heap.size):∃a xs top,v = .agg #[a,.int .i64 top]/\Ints W a xs/\I64 top:=by
  obtain⟨c0,c1,y0,y1,m,rfl,rfl,rfl,h0,h1⟩:=open_agg2 Try.underlying25 (by kernel_rfl) Try.cellsHeap hv h
  obtain⟨n,e1,rfl,w1⟩:=DataW.trod_int Try.underlying3 h1
  simp at e1
  subst e1
  obtain⟨xs,hxs,_⟩:=open_ints_trod h0 (λelems spare e=>by
    have:=hw ((elems.length+spare.length) * Try.prog.bytesOf 3) (by simp[DataW.weights,DataW.weightsEach,Try.underlying25,Try.underlying23,e])
    rwa [Try.bytesInt] at this) (λy hy=>hlt y (by simp[hy]))
  exact⟨c0,xs,n,rfl,hxs,i64_of_wf w1⟩
theorem open_intsArg {t:TypeId} (ht:t = 23) (hv:Value.okWide Try.prog W r b0 t v) (h:DataW.Trod enc Try.prog W 0 (λ_=>true) true t v d p)
    (hw:∀x ∈ d.weights Try.prog t,x<=reachBytes) (hlt:∀y ∈ p,y.block<W.heap.size):∃xs,Ints W v xs/\xs.length<=17592186043904:=by
  subst ht
  obtain⟨fuel,hf⟩:=h
  obtain⟨a0,len,cap,rfl⟩:=okWide_slice Try.underlying23 hv
  refine open_ints_trod (by simpa [Value.cells] using hf) (λelems spare e=>?_) hlt
  have:=hw ((elems.length+spare.length) * Try.prog.bytesOf 3) (by simp only at e;subst e;simp[DataW.weights,Try.underlying23])
  rwa [Try.bytesInt] at this
theorem weights_at {P:Program} {ts:List TypeId} {ds:List (DataW H)} (h:(DataW.weightsEach P ts ds).all (· <= reachBytes)=true) {j:Nat} {t:TypeId} (ht:ts[j]? = some t) (hd:ds[j]? = some d):∀x ∈ d.weights P t,x<=reachBytes:=by
  intro x hx
  have:=List.all_eq_true.1 h _ (DataW.weights_mem_each ht hd x hx)
  simpa using this
end
end Go.Proofs.Ytbeilcaadpopmab
set_option maxRecDepth 100000
namespace Go.Proofs.Ytbeilcaadpopmab
open Go.ChangeShapes Go.WideShapes Go.RowKit Go.Joins Go.Deep
section
variable {H:Type} {enc:TypeId × Value->H} {P:Program} {w:World} {base:Nat} {spare:Nat->Bool} {held:Bool}
theorem open_slice_fields {t e:TypeId} {fs:Array Field} {fuel:Nat} {cs:List Value} {x:DataW H × List MemPlace} (ht:P.underlying t=some (.slice e)) (he:P.underlying e=some (.struct fs))
    (hone:oneCellFields P fs=true) (hC:P.cellsOf e=fs.size) (h:DataW.trod enc P w base spare held fuel t cs=some x) :
    (cs=[.slice none 0 0]/\x=(.nil,[])) \/
    ∃ (a : Addr) (len cap m : Nat) (D : Nat → DataW H) (Pl : Nat → List MemPlace), cs = [.slice (some a) len cap] ∧ base ≤ a.block ∧ len ≤ cap ∧ cap ≤ maxLen ∧ m = (if spare a.block then cap else len) ∧
      x=(.slice ((List.range len).map D) ((List.range (m - len)).map λj=>D (len+j)),MemPlace.row a (m * fs.size)++(List.range m).flatMap Pl) /\
      ∀ i, i < m → ∃ (ys : List (DataW H × List MemPlace)) (n : Nat), D i = .agg (ys.map (·.1)) ∧ Pl i = ys.flatMap (·.2) ∧ ys.length = fs.size ∧
        ∀(j:Nat) (f:Field),fs[j]? = some f->∃(v:Value) (y:DataW H × List MemPlace),w.cell? (a.add (i * fs.size+j))=some v/\ys[j]? = some y/\DataW.trod enc P w base spare held n f.type [v]=some y:=by
  rcases open_slice ht h with h0|⟨a,len,cap,m,n,D,Pl,hcs,hb,hl,hm,hmm,hx,hi⟩
  · exact .inl h0
  · refine .inr ⟨a,len,cap,m,D,Pl,hcs,hb,hl,hm,hmm,by rw[hC] at hx;exact hx,λi him=>?_⟩
    obtain⟨cs',hc,ht'⟩:=hi i him
    rw[hC] at hc
    obtain⟨ys,n',hn',hy,hlen,hyl,hf⟩:=DataW.trod_struct he ht'
    obtain⟨_,hcl,hat⟩:=World.cells?_some hc
    simp only [Prod.mk.injEq] at hy
    refine⟨ys,n',hy.1,hy.2,hyl,λj f hj=>?_⟩
    obtain⟨ho,hk⟩:=hone_of hone j f hj
    have hjl:j<fs.size:=(Array.getElem?_eq_some_iff.1 hj).1
    have hcell:=hat j hjl
    have hv:cs'[j]? = some (cs'[j]'(by omega)):=List.getElem?_eq_getElem (by omega)
    have h1:=hf j f hj
    rw[ho,hk] at h1
    have hone':(cs'.drop j).take 1=[cs'[j]'(by omega)]:=by
      rw[List.drop_eq_getElem_cons (by omega)]
      rfl
    rw[hone'] at h1
    have hys:ys[j]? = some (ys[j]'(by omega)):=List.getElem?_eq_getElem (by omega)
    refine⟨_,_,?_,hys,h1.trans hys⟩
    rw[<- Go.Deep.add_add,hcell,hv]
end
theorem list_of {α:Type} (P:Nat->α->Prop):∀n,(∀i,i<n->∃r,P i r)->∃l:List α,l.length=n/\∀i (h:i<l.length),P i l[i]
  | 0,_=>⟨[],rfl,λi h=>by simp at h⟩
  | n+1,h=>by
    obtain⟨l,h1,h2⟩:=list_of P n (λi hi=>h i (by omega))
    obtain⟨r,hr⟩:=h n (by omega)
    refine⟨l++[r],by simp[h1],λi hi=>?_⟩
    by_cases e:i<l.length
    · rw[List.getElem_append_left e];exact h2 i e
    · have e2:i=l.length:=by simp at hi;omega
      subst e2
      rw[List.getElem_concat_length rfl]
      rw[h1];exact hr
structure Raw4 where
  (k a b c:Int)
  deriving DecidableEq
def cellsRaw (l:List Raw4):List Value:=l.flatMap λr=>[.int .i64 r.k,.int .i64 r.a,.int .i64 r.b,.int .i64 r.c]
theorem cellsRaw_len (l:List Raw4):(cellsRaw l).length=l.length * 4:=by
  induction l with
  | nil=>rfl
  | cons m ms ih=>simp only [cellsRaw,List.flatMap_cons,List.length_append,List.length_cons,List.length_nil] at *;omega
theorem cellsRaw_at:∀(l:List Raw4) (i:Nat) (h:i<l.length),(cellsRaw l)[i * 4+0]? = some (.int .i64 l[i].k)/\(cellsRaw l)[i * 4+1]? = some (.int .i64 l[i].a)/\(cellsRaw l)[i * 4+2]? = some (.int .i64 l[i].b)/\(cellsRaw l)[i * 4+3]? = some (.int .i64 l[i].c)
  | [],i,h=>by simp at h
  | m :: ms,0,h=>⟨rfl,rfl,rfl,rfl⟩
  | m :: ms,i+1,h=>by
    have:=cellsRaw_at ms i (by simpa using h)
    have e:cellsRaw (m :: ms) = .int .i64 m.k :: .int .i64 m.a :: .int .i64 m.b :: .int .i64 m.c :: cellsRaw ms:=rfl
    rw[e]
    simp only [show ∀k,(i+1) * 4+k=i * 4+k+1+1+1+1 by intro k;omega]
    simpa using this
def Raws (w:World) (v:Value) (l:List Raw4):Prop:=((∀r ∈ l,I64 r.k/\I64 r.a/\I64 r.b/\I64 r.c)/\l.length<=17592186044416)/\Row w v l.length 4 (cellsRaw l)
theorem Raws.below {w w':World} {v:Value} {l:List Raw4} {B:Nat} (h:Raws w v l) (hB:w.heap.size<=B) (hb:Below B w w'):Raws w' v l:=⟨h.1,h.2.below hB hb⟩
theorem Raws.len {w:World} {v:Value} {l:List Raw4} (h:Raws w v l):∃a cap,v = .slice a l.length cap/\l.length<=cap/\cap<=9223372036854775807/\(a=none->cap=0):=h.2.len
theorem Raws.le {w:World} {v:Value} {l:List Raw4} (h:Raws w v l):l.length<=17592186044416:=h.1.2
theorem Raws.at {w:World} {a:Option Addr} {n c:Nat} {l:List Raw4} (h:Raws w (.slice a n c) l) (hn:0<l.length) :
    ∃b o,a=some ⟨b,o,none⟩/\b<w.heap.size/\∀i (hi:i<l.length),(w.cell? ⟨b,o+i * 4,none⟩=some (.int .i64 l[i].k)/\w.cell? ⟨b,o+i * 4+1,none⟩=some (.int .i64 l[i].a)/\w.cell? ⟨b,o+i * 4+2,none⟩=some (.int .i64 l[i].b)/\w.cell? ⟨b,o+i * 4+3,none⟩=some (.int .i64 l[i].c))/\(I64 l[i].k/\I64 l[i].a/\I64 l[i].b/\I64 l[i].c):=by
  obtain⟨b,o,rfl,hb,hc⟩:=h.2.at hn
  refine⟨b,o,rfl,hb,λi hi=>⟨?_,h.1.1 _ (List.getElem_mem hi)⟩⟩
  have hl:=cellsRaw_len l
  obtain⟨h0,h1,h2,h3⟩:=cellsRaw_at l i hi
  have key:∀k,k<4->w.cell? ⟨b,o+(i * 4+k),none⟩=(cellsRaw l)[i * 4+k]?:=λk hk=>by
    have hlt:i * 4+k<(cellsRaw l).length:=by omega
    rw[hc _ hlt,List.getD_eq_getElem?_getD,List.getElem?_eq_getElem hlt];rfl
  exact⟨by have e:=(key 0 (by omega)).trans h0;rwa [<- Nat.add_assoc] at e,by have e:=(key 1 (by omega)).trans h1;rwa [<- Nat.add_assoc] at e,by have e:=(key 2 (by omega)).trans h2;rwa [<- Nat.add_assoc] at e,by have e:=(key 3 (by omega)).trans h3;rwa [<- Nat.add_assoc] at e⟩
section
variable {H:Type} {enc:TypeId × Value->H} {W:World} {r:Reach} {b0:Nat} {v:Value} {d:DataW H} {p:List MemPlace}
theorem open_raws {t:TypeId} (ht:t = 41) (hv:Value.okWide Try.prog W r b0 t v) (h:DataW.Trod enc Try.prog W 0 (λ_=>true) true t v d p)
    (hw:∀x ∈ d.weights Try.prog t,x<=reachBytes) (hlt:∀y ∈ p,y.block<W.heap.size):∃l:List Raw4,Raws W v l:=by
  subst ht
  obtain⟨fuel,hf⟩:=h
  obtain⟨a0,len,cap,rfl⟩:=okWide_slice Try.underlying41 hv
  rcases open_slice_fields Try.underlying41 Try.underlying61 (by kernel_rfl) (by kernel_rfl) (by simpa [Value.cells] using hf) with ⟨hcs,hx⟩|⟨a,len',cap',m,D,Pl,hcs,_,hl,hm,hmm,hx,hi⟩
  · simp at hcs
    obtain⟨rfl,rfl,rfl⟩:=hcs
    exact⟨[],⟨by simp,by simp⟩,by simp[cellsRaw],by simp,none,0,rfl,Nat.le_refl _,Nat.zero_le _,λ_=>rfl,λh=>absurd h (by simp)⟩
  · simp only [List.cons.injEq,Value.slice.injEq,and_true] at hcs
    obtain⟨rfl,rfl,rfl⟩:=hcs
    simp only [Prod.mk.injEq] at hx
    obtain⟨rfl,rfl⟩:=hx
    simp only [if_true] at hmm
    have hz:=hw ((len+(m - len)) * Try.prog.bytesOf 61) (by simp[DataW.weights,Try.underlying41])
    rw[show Try.prog.bytesOf 61 = 32 by kernel_rfl] at hz
    simp only [reachBytes] at hz
    obtain⟨l,hll,hlat⟩:=list_of (λi (r:Raw4)=>(W.cell? (a.add (i * 4+0))=some (.int .i64 r.k)/\W.cell? (a.add (i * 4+1))=some (.int .i64 r.a)/\W.cell? (a.add (i * 4+2))=some (.int .i64 r.b)/\W.cell? (a.add (i * 4+3))=some (.int .i64 r.c))/\(I64 r.k/\I64 r.a/\I64 r.b/\I64 r.c)) len (λi hilt=>by
      obtain⟨ys,n,hD,hPl,hys,hf⟩:=hi i (by omega)
      obtain⟨v0,y0,hc0,hy0,ht0⟩:=hf 0 _ rfl
      obtain⟨z0,e0,rfl,w0⟩:=DataW.trod_int Try.underlying3 ht0
      simp at e0
      subst e0
      obtain⟨v1,y1,hc1,hy1,ht1⟩:=hf 1 _ rfl
      obtain⟨z1,e1,rfl,w1⟩:=DataW.trod_int Try.underlying3 ht1
      simp at e1
      subst e1
      obtain⟨v2,y2,hc2,hy2,ht2⟩:=hf 2 _ rfl
      obtain⟨z2,e2,rfl,w2⟩:=DataW.trod_int Try.underlying3 ht2
      simp at e2
      subst e2
      obtain⟨v3,y3,hc3,hy3,ht3⟩:=hf 3 _ rfl
      obtain⟨z3,e3,rfl,w3⟩:=DataW.trod_int Try.underlying3 ht3
      simp at e3
      subst e3
      exact⟨⟨z0,z1,z2,z3⟩,⟨hc0,hc1,hc2,hc3⟩,i64_of_wf w0,i64_of_wf w1,i64_of_wf w2,i64_of_wf w3⟩)
    subst hll
    refine⟨l,⟨λy hy=>?_,by omega⟩,cellsRaw_len l,by omega,some a,cap,rfl,hl,hm,(λh=>by cases h),λhn=>?_⟩
    · obtain⟨i,hi',rfl⟩:=List.mem_iff_getElem.1 hy
      exact (hlat i hi').2
    · obtain⟨b,off,spot⟩:=a
      have hspot:spot=none:=by simpa [Addr.add] using World.cell?_spot (hlat 0 hn).1.1
      subst hspot
      refine⟨b,off,rfl,hlt (.cell b off) (List.mem_append_left _ (MemPlace.mem_row.2 ⟨0,by simp;omega,by simp⟩)),λj hj=>?_⟩
      rw[cellsRaw_len] at hj
      obtain⟨q,k,hk,rfl⟩:∃q k,k<4/\j=q * 4+k:=⟨j / 4,j % 4,Nat.mod_lt _ (by omega),by have:=Nat.div_add_mod j 4;omega⟩
      have hd:q<l.length:=by omega
      obtain⟨h0,h1,h2,h3⟩:=(hlat q hd).1
      obtain⟨g0,g1,g2,g3⟩:=cellsRaw_at l q hd
      have hjl:q * 4+k<(cellsRaw l).length:=by rw[cellsRaw_len];omega
      rw[List.getD_eq_getElem?_getD,List.getElem?_eq_getElem hjl,Option.getD_some,<- List.getElem?_eq_getElem hjl,<- add_plain]
      have hk:k=0\/k=1\/k=2\/k=3:=by omega
      rcases hk with rfl|rfl|rfl|rfl
      · exact h0.trans g0.symm
      · exact h1.trans g1.symm
      · exact h2.trans g2.symm
      · exact h3.trans g3.symm
end
section
variable {H:Type} {enc:TypeId × Value->H} {W:World} {r:Reach} {b0:Nat} {v:Value} {d:DataW H} {p:List MemPlace}
theorem open_raw (hv:Value.okWide Try.prog W r b0 61 v) (h:DataW.Trod enc Try.prog W 0 (λ_=>true) true 61 v d p) :
    ∃k a b c,v = .agg #[.int .i64 k,.int .i64 a,.int .i64 b,.int .i64 c]/\I64 k/\I64 a/\I64 b/\I64 c:=by
  obtain⟨c0,c1,c2,c3,y0,y1,y2,y3,m,rfl,rfl,rfl,h0,h1,h2,h3⟩:=open_agg4 Try.underlying61 (by kernel_rfl) (by kernel_rfl) hv h
  obtain⟨z0,e0,rfl,w0⟩:=DataW.trod_int Try.underlying3 h0
  obtain⟨z1,e1,rfl,w1⟩:=DataW.trod_int Try.underlying3 h1
  obtain⟨z2,e2,rfl,w2⟩:=DataW.trod_int Try.underlying3 h2
  obtain⟨z3,e3,rfl,w3⟩:=DataW.trod_int Try.underlying3 h3
  simp at e0 e1 e2 e3
  subst e0 e1 e2 e3
  exact⟨z0,z1,z2,z3,rfl,i64_of_wf w0,i64_of_wf w1,i64_of_wf w2,i64_of_wf w3⟩
end
end Go.Proofs.Ytbeilcaadpopmab
set_option maxRecDepth 100000
namespace Go.Proofs.Ytbeilcaadpopmab
open Go.ChangeShapes Go.WideShapes Go.RowKit Go.Joins Go.Deep Go.Maps
def cellsAct (l:List ActM):List Value:=l.flatMap λr=>[.int .i64 r.kind,.int .i64 r.t,.int .i64 r.a,.int .i64 r.b,.int .i64 r.n]
theorem cellsAct_len (l:List ActM):(cellsAct l).length=l.length * 5:=by
  induction l with
  | nil=>rfl
  | cons m ms ih=>simp only [cellsAct,List.flatMap_cons,List.length_append,List.length_cons,List.length_nil] at *;omega
theorem cellsAct_at:∀(l:List ActM) (i:Nat) (h:i<l.length),(cellsAct l)[i * 5+0]? = some (.int .i64 l[i].kind)/\(cellsAct l)[i * 5+1]? = some (.int .i64 l[i].t)/\(cellsAct l)[i * 5+2]? = some (.int .i64 l[i].a)/\(cellsAct l)[i * 5+3]? = some (.int .i64 l[i].b)/\(cellsAct l)[i * 5+4]? = some (.int .i64 l[i].n)
  | [],i,h=>by simp at h
  | m :: ms,0,h=>⟨rfl,rfl,rfl,rfl,rfl⟩
  | m :: ms,i+1,h=>by
    have:=cellsAct_at ms i (by simpa using h)
    have e:cellsAct (m :: ms) = .int .i64 m.kind :: .int .i64 m.t :: .int .i64 m.a :: .int .i64 m.b :: .int .i64 m.n :: cellsAct ms:=rfl
    rw[e]
    simp only [show ∀k,(i+1) * 5+k=i * 5+k+1+1+1+1+1 by intro k;omega]
    simpa using this
def Acts (w:World) (v:Value) (l:List ActM):Prop:=((∀r ∈ l,I64 r.kind/\I64 r.t/\I64 r.a/\I64 r.b/\I64 r.n)/\l.length * 40<=140737488355328)/\Row w v l.length 5 (cellsAct l)
theorem Acts.below {w w':World} {v:Value} {l:List ActM} {B:Nat} (h:Acts w v l) (hB:w.heap.size<=B) (hb:Below B w w'):Acts w' v l:=⟨h.1,h.2.below hB hb⟩
theorem Acts.len {w:World} {v:Value} {l:List ActM} (h:Acts w v l):∃a cap,v = .slice a l.length cap/\l.length<=cap/\cap<=9223372036854775807/\(a=none->cap=0):=h.2.len
theorem Acts.le {w:World} {v:Value} {l:List ActM} (h:Acts w v l):l.length<=17592186044416:=by have:=h.1.2;omega
theorem Acts.at {w:World} {a:Option Addr} {n c:Nat} {l:List ActM} (h:Acts w (.slice a n c) l) (hn:0<l.length) :
    ∃b o,a=some ⟨b,o,none⟩/\b<w.heap.size/\∀i (hi:i<l.length),(w.cell? ⟨b,o+i * 5,none⟩=some (.int .i64 l[i].kind)/\w.cell? ⟨b,o+i * 5+1,none⟩=some (.int .i64 l[i].t)/\w.cell? ⟨b,o+i * 5+2,none⟩=some (.int .i64 l[i].a)/\w.cell? ⟨b,o+i * 5+3,none⟩=some (.int .i64 l[i].b)/\w.cell? ⟨b,o+i * 5+4,none⟩=some (.int .i64 l[i].n))/\(I64 l[i].kind/\I64 l[i].t/\I64 l[i].a/\I64 l[i].b/\I64 l[i].n):=by
  obtain⟨b,o,rfl,hb,hc⟩:=h.2.at hn
  refine⟨b,o,rfl,hb,λi hi=>⟨?_,h.1.1 _ (List.getElem_mem hi)⟩⟩
  have hl:=cellsAct_len l
  obtain⟨h0,h1,h2,h3,h4⟩:=cellsAct_at l i hi
  have key:∀k,k<5->w.cell? ⟨b,o+(i * 5+k),none⟩=(cellsAct l)[i * 5+k]?:=λk hk=>by
    have hlt:i * 5+k<(cellsAct l).length:=by omega
    rw[hc _ hlt,List.getD_eq_getElem?_getD,List.getElem?_eq_getElem hlt];rfl
  exact⟨by have e:=(key 0 (by omega)).trans h0;rwa [<- Nat.add_assoc] at e,by have e:=(key 1 (by omega)).trans h1;rwa [<- Nat.add_assoc] at e,by have e:=(key 2 (by omega)).trans h2;rwa [<- Nat.add_assoc] at e,by have e:=(key 3 (by omega)).trans h3;rwa [<- Nat.add_assoc] at e,by have e:=(key 4 (by omega)).trans h4;rwa [<- Nat.add_assoc] at e⟩
section
variable {H:Type} {enc:TypeId × Value->H} {W:World} {r:Reach} {b0:Nat} {v:Value} {d:DataW H} {p:List MemPlace}
theorem open_acts {t:TypeId} (ht:t = 42) (hv:Value.okWide Try.prog W r b0 t v) (h:DataW.Trod enc Try.prog W 0 (λ_=>true) true t v d p)
    (hw:∀x ∈ d.weights Try.prog t,x<=reachBytes) (hlt:∀y ∈ p,y.block<W.heap.size):∃l:List ActM,Acts W v l:=by
  subst ht
  obtain⟨fuel,hf⟩:=h
  obtain⟨a0,len,cap,rfl⟩:=okWide_slice Try.underlying42 hv
  rcases open_slice_fields Try.underlying42 Try.underlying46 (by kernel_rfl) (by kernel_rfl) (by simpa [Value.cells] using hf) with ⟨hcs,hx⟩|⟨a,len',cap',m,D,Pl,hcs,_,hl,hm,hmm,hx,hi⟩
  · simp at hcs
    obtain⟨rfl,rfl,rfl⟩:=hcs
    exact⟨[],⟨by simp,by simp⟩,by simp[cellsAct],by simp,none,0,rfl,Nat.le_refl _,Nat.zero_le _,λ_=>rfl,λh=>absurd h (by simp)⟩
  · simp only [List.cons.injEq,Value.slice.injEq,and_true] at hcs
    obtain⟨rfl,rfl,rfl⟩:=hcs
    simp only [Prod.mk.injEq] at hx
    obtain⟨rfl,rfl⟩:=hx
    simp only [if_true] at hmm
    have hz:=hw ((len+(m - len)) * Try.prog.bytesOf 46) (by simp[DataW.weights,Try.underlying42])
    rw[show Try.prog.bytesOf 46 = 40 by kernel_rfl] at hz
    simp only [reachBytes] at hz
    obtain⟨l,hll,hlat⟩:=list_of (λi (r:ActM)=>(W.cell? (a.add (i * 5+0))=some (.int .i64 r.kind)/\W.cell? (a.add (i * 5+1))=some (.int .i64 r.t)/\W.cell? (a.add (i * 5+2))=some (.int .i64 r.a)/\W.cell? (a.add (i * 5+3))=some (.int .i64 r.b)/\W.cell? (a.add (i * 5+4))=some (.int .i64 r.n))/\(I64 r.kind/\I64 r.t/\I64 r.a/\I64 r.b/\I64 r.n)) len (λi hilt=>by
      obtain⟨ys,n,hD,hPl,hys,hf⟩:=hi i (by omega)
      obtain⟨v0,y0,hc0,hy0,ht0⟩:=hf 0 _ rfl
      obtain⟨z0,e0,rfl,w0⟩:=DataW.trod_int Try.underlying3 ht0
      simp at e0
      subst e0
      obtain⟨v1,y1,hc1,hy1,ht1⟩:=hf 1 _ rfl
      obtain⟨z1,e1,rfl,w1⟩:=DataW.trod_int Try.underlying3 ht1
      simp at e1
      subst e1
      obtain⟨v2,y2,hc2,hy2,ht2⟩:=hf 2 _ rfl
      obtain⟨z2,e2,rfl,w2⟩:=DataW.trod_int Try.underlying3 ht2
      simp at e2
      subst e2
      obtain⟨v3,y3,hc3,hy3,ht3⟩:=hf 3 _ rfl
      obtain⟨z3,e3,rfl,w3⟩:=DataW.trod_int Try.underlying3 ht3
      simp at e3
      subst e3
      obtain⟨v4,y4,hc4,hy4,ht4⟩:=hf 4 _ rfl
      obtain⟨z4,e4,rfl,w4⟩:=DataW.trod_int Try.underlying3 ht4
      simp at e4
      subst e4
      exact⟨⟨z0,z1,z2,z3,z4⟩,⟨hc0,hc1,hc2,hc3,hc4⟩,i64_of_wf w0,i64_of_wf w1,i64_of_wf w2,i64_of_wf w3,i64_of_wf w4⟩)
    subst hll
    refine⟨l,⟨λy hy=>?_,by omega⟩,cellsAct_len l,by omega,some a,cap,rfl,hl,hm,(λh=>by cases h),λhn=>?_⟩
    · obtain⟨i,hi',rfl⟩:=List.mem_iff_getElem.1 hy
      exact (hlat i hi').2
    · obtain⟨b,off,spot⟩:=a
      have hspot:spot=none:=by simpa [Addr.add] using World.cell?_spot (hlat 0 hn).1.1
      subst hspot
      refine⟨b,off,rfl,hlt (.cell b off) (List.mem_append_left _ (MemPlace.mem_row.2 ⟨0,by simp;omega,by simp⟩)),λj hj=>?_⟩
      rw[cellsAct_len] at hj
      obtain⟨q,k,hk,rfl⟩:∃q k,k<5/\j=q * 5+k:=⟨j / 5,j % 5,Nat.mod_lt _ (by omega),by have:=Nat.div_add_mod j 5;omega⟩
      have hd:q<l.length:=by omega
      obtain⟨h0,h1,h2,h3,h4⟩:=(hlat q hd).1
      obtain⟨g0,g1,g2,g3,g4⟩:=cellsAct_at l q hd
      have hjl:q * 5+k<(cellsAct l).length:=by rw[cellsAct_len];omega
      rw[List.getD_eq_getElem?_getD,List.getElem?_eq_getElem hjl,Option.getD_some,<- List.getElem?_eq_getElem hjl,<- add_plain]
      have hk:k=0\/k=1\/k=2\/k=3\/k=4:=by omega
      rcases hk with rfl|rfl|rfl|rfl|rfl
      · exact h0.trans g0.symm
      · exact h1.trans g1.symm
      · exact h2.trans g2.symm
      · exact h3.trans g3.symm
      · exact h4.trans g4.symm
end
theorem Try.infoAct:(Try.prog.info? 46).map (λi=>(i.zero,i.size,i.bytes))=some (some (.agg #[.int .i64 0,.int .i64 0,.int .i64 0,.int .i64 0,.int .i64 0]),5,40):=by kernel_rfl
theorem wpl_append_acts0 {ops:Array Oper} {rest:List Oper} {o:Oper} {a:Act} {Q:Exit->Act->World->Prop} {w:World} (hg:o.guard=none) (s x:Operand)
    (ho:o.op = .call { callee:=.builtin .append,args:=#[s,x],argTypes:=#[42,42] }) (hs:a.eval s = .slice none 0 0)
    (sv:Value) (ys:List ActM) (hx:a.eval x=sv) (hy:Acts w sv ys)
    (h:∀v' w',Acts w' v' ys->Below w.heap.size w w'->wpList Try.prog ops Q rest (a.put o.dst v') w'):wpList Try.prog ops Q (o :: rest) a w:=by
  refine wpList_plain hg λK' hK'=>?_
  obtain⟨i,hi,hz,h4,h5⟩:=info_parts Try.infoAct
  have hb:=hy.1.2
  obtain⟨v',w',hrun,h1,h2,h3,h6⟩:=run_append_row (P:=Try.prog) w w.heap.size 42 o.type 46 i (.agg #[.int .i64 0,.int .i64 0,.int .i64 0,.int .i64 0,.int .i64 0]) 5 40 Try.underlying42 hi hz h4 h5 rfl (by decide) (.slice none 0 0) 0 [] (World.ownsRow_nil _ _ _ _) sv ys.length _ hy.2 (by
      intro u' hu
      unfold cellsAct at hu
      obtain⟨r,_,hr⟩:=List.mem_flatMap.1 hu
      simp only [List.mem_cons,List.not_mem_nil,or_false] at hr
      rcases hr with rfl|rfl|rfl|rfl|rfl <;> rfl) (by omega) (by decide) (Nat.le_refl _)
  unfold Oper.wp
  simp[execOp,ho,resolve,invoke,builtin,hs,hx,hrun,Result.andThen]
  rw[Nat.zero_add,List.nil_append] at h1
  exact hK' _ _ (h v' w' ⟨hy.1,Row.of_own h1 (by omega)⟩ ((Below.refl _ _).grown h2 (Nat.le_refl _) (by simp[Value.ownBlock])))
def cellsAns (l:List AnsM):List Value:=l.flatMap λr=>[.int .i64 r.code,.bool r.is,.int .i64 r.number,.bool r.yes,.int .i64 r.words,.bool r.going,.int .i64 r.freed]
theorem Try.infoAns:(Try.prog.info? 51).map (λi=>(i.zero,i.size,i.bytes))=some (some (.agg #[.int .i64 0,.bool false,.int .i64 0,.bool false,.int .i64 0,.bool false,.int .i64 0]),7,56):=by kernel_rfl
def OwnAns (w:World) (base:Nat) (v:Value) (l:List AnsM):Prop:=l.length<=1000000/\w.ownsRow base 51 7 v l.length (cellsAns l)
theorem OwnAns.nil (w:World) (base:Nat):OwnAns w base (.slice none 0 0) []:=⟨by simp,World.ownsRow_nil _ _ _ _⟩
theorem OwnAns.shape {w:World} {base:Nat} {v:Value} {l:List AnsM} (h:OwnAns w base v l):∃a c,v = .slice a l.length c:=by
  rcases h.2.2 with ⟨e,e'⟩|⟨g,cap,cur,e,_⟩
  · rw[e,e'];exact⟨none,0,rfl⟩
  · exact⟨_,_,e⟩
theorem OwnAns.keep {w w':World} {base:Nat} {v:Value} {l:List AnsM} (h:OwnAns w base v l) (k:∀b,v.ownBlock=some b->w'.heap[b]? = w.heap[b]?):OwnAns w' base v l:=⟨h.1,ownsRow_keep h.2 k⟩
theorem OwnAns.lt {w:World} {base:Nat} {v:Value} {l:List AnsM} (h:OwnAns w base v l) {k:Nat} (hk:v.ownBlock=some k):base<=k/\k<w.heap.size:=h.2.lt k hk
theorem OwnAns.below {w w':World} {base:Nat} {v:Value} {l:List AnsM} (h:OwnAns w base v l) (hb:Below w.heap.size w w'):OwnAns w' base v l:=h.keep λb hb2=>hb.block b (h.lt hb2).2
theorem OwnAns.mono {w:World} {base base':Nat} {v:Value} {l:List AnsM} (h:OwnAns w base v l) (hb:base'<=base):OwnAns w base' v l:=⟨h.1,ownsRow_mono h.2 hb⟩
theorem OwnAns.row {w:World} {base:Nat} {v:Value} {l:List AnsM} (h:OwnAns w base v l):Row w v l.length 7 (cellsAns l):=Row.of_own h.2 (by have:=h.1;omega)
theorem row_Ans (w:World) (u:AnsM) {n:Nat} (hn:n=w.heap.size):Row (w.alloc (.cells #[.int .i64 u.code,.bool u.is,.int .i64 u.number,.bool u.yes,.int .i64 u.words,.bool u.going,.int .i64 u.freed] 51)) (.slice (some ⟨n,0,none⟩) 1 1) 1 7 (cellsAns [u]):=by
  subst hn
  refine⟨rfl,by omega,_,1,rfl,Nat.le_refl _,by unfold maxLen;omega,(λh=>by cases h),λ_=>⟨w.heap.size,0,rfl,by simp,λi hi=>?_⟩⟩
  have:i=0\/i=1\/i=2\/i=3\/i=4\/i=5\/i=6:=by simp[cellsAns] at hi;omega
  rcases this with rfl|rfl|rfl|rfl|rfl|rfl|rfl <;> simp[cellsAns]
theorem wpl_append_Ans {ops:Array Oper} {rest:List Oper} {o:Oper} {a:Act} {Q:Exit->Act->World->Prop} {w:World} (hg:o.guard=none) (s x:Operand)
    (ho:o.op = .call { callee:=.builtin .append,args:=#[s,x],argTypes:=#[47,47] }) (base:Nat) (v:Value) (us:List AnsM) (hs:a.eval s=v) (hown:OwnAns w base v us)
    (sv:Value) (ys:List AnsM) (hx:a.eval x=sv) (hy:Row w sv ys.length 7 (cellsAns ys)) (hlen:us.length+ys.length<900000) (hbase:base<=w.heap.size)
    (h:∀v' w',OwnAns w' base v' (us++ys)->w.grownBy w' v.ownBlock->(v'.ownBlock=v.ownBlock\/∀k,v'.ownBlock=some k->w.heap.size<=k)->wpList Try.prog ops Q rest (a.put o.dst v') w'):wpList Try.prog ops Q (o :: rest) a w:=by
  refine wpList_plain hg λK' hK'=>?_
  obtain⟨i,hi,hz,h4,h5⟩:=info_parts Try.infoAns
  obtain⟨v',w',hrun,h1,h2,h3,h6⟩:=run_append_row (P:=Try.prog) w base 47 o.type 51 i (.agg #[.int .i64 0,.bool false,.int .i64 0,.bool false,.int .i64 0,.bool false,.int .i64 0]) 7 56 Try.underlying47 hi hz h4 h5 rfl (by decide) v us.length _ hown.2 sv ys.length _ hy (by
      intro u' hu
      unfold cellsAns at hu
      obtain⟨r,_,hr⟩:=List.mem_flatMap.1 hu
      simp only [List.mem_cons,List.not_mem_nil,or_false] at hr
      rcases hr with rfl|rfl|rfl|rfl|rfl|rfl|rfl <;> rfl) (by omega) (by decide) hbase
  unfold Oper.wp
  simp[execOp,ho,resolve,invoke,builtin,hs,hx,hrun,Result.andThen]
  refine hK' _ _ (h v' w' ⟨by simp;omega,?_⟩ h2 ?_)
  · have e:cellsAns (us++ys)=cellsAns us++cellsAns ys:=by simp[cellsAns]
    rw[e]
    simpa using h1
  · rcases h6 with h6|⟨h6,_⟩
    · exact .inl h6
    · exact .inr λk hk=>(h6.lt k hk).1
end Go.Proofs.Ytbeilcaadpopmab
namespace Go.Proofs.Ytbeilcaadpopmab
open Go.RowKit Go.Maps
def nm0 (hv:Value):Nm:=⟨hv,λ_=>none,λ_=>none,λ_=>.slice none 0 0,.slice none 0 0,none,0⟩
def cm0 (n:Nat):CM:=⟨List.replicate n 0,1,λ_ _=>(0,0),λ_=>noTx,false,[],[]⟩
def cells0 (hv:Value):List Value:=[hv,.int .i64 1]++List.replicate 32 (.int .i64 0)++(List.replicate 4 ([.bool false]++List.replicate 8 (.int .i64 0)++[.map none,.map none,.slice none 0 0])).flatten++[.bool false,.slice none 0 0,.map none]
theorem cells0_at (hv:Value) (n:Nat):(List.range 85).map (cellOf (nm0 hv) (cm0 n))=cells0 hv:=rfl
theorem box0 {w:World} {B:Nat} {hv:Value} {n:Nat} (h:∀i v,(cells0 hv)[i]? = some v->w.cell? ⟨B,i,none⟩=some v/\w.frozen? ⟨B,i,none⟩=false):Box w B (cellOf (nm0 hv) (cm0 n)):=λi hi=>by
  refine h i _ ?_
  rw[<- cells0_at hv n,List.getElem?_map,List.getElem?_range hi]
  rfl
theorem Mach.start {base B:Nat} {w:World} {hv:Value} {n:Nat} (hb:Box w B (cellOf (nm0 hv) (cm0 n))) (hO:OwnInts w base hv (List.replicate n 0)) (hB:base<=B) (hne:hv.ownBlock≠some B) (hbase:base<=w.heap.size):Mach base w B (nm0 hv) (cm0 n):=by
  have hlt:=hb.lt
  have hr:∀(i:Ro) k,i≠.box->i≠.words->role B (nm0 hv) i≠some k:=λi k h1 h2 e=>by
    cases i with
    | box=>exact h1 rfl
    | words=>exact h2 rfl
    | _=>cases e
  refine⟨λi hi=>?_,λi k hi hk=>?_,λi j k hi hj h1 h2=>?_,λt ht ho=>(by cases ho),hbase⟩
  · cases i with
    | box=>exact hb
    | words=>exact hO
    | reads t=>exact λ_=>rfl
    | owned t=>exact λ_=>rfl
    | undo t=>exact OwnU.nil _ _
    | gray=>exact (show OwnInts w base (.slice none 0 0) [] from ⟨⟨by simp,by simp⟩,World.ownsRow_nil _ _ _ _⟩)
    | mark=>intro hg;cases hg
  · by_cases e1:i = .box
    · subst e1;cases hk;exact⟨hB,hlt⟩
    · by_cases e2:i = .words
      · subst e2;exact hO.lt hk
      · exact absurd hk (hr i k e1 e2)
  · by_cases e1:i = .box
    · by_cases e2:j = .box
      · rw[e1,e2]
      · by_cases e3:j = .words
        · subst e1 e3
          cases h1
          exact absurd h2 hne
        · exact absurd h2 (hr j k e2 e3)
    · by_cases e3:i = .words
      · by_cases e2:j = .box
        · subst e2 e3
          cases h2
          exact absurd h1 hne
        · by_cases e4:j = .words
          · rw[e3,e4]
          · exact absurd h2 (hr j k e2 e4)
      · exact absurd h1 (hr i k e1 e3)
def RetRun (w:World) (n:Int) (l:List ActM) (e:Ending) (w':World):Prop :=
  Below w.heap.size w w'/\((¬ (1<=n/\n<=400)/\e = .returned (.tuple #[.slice none 0 0,.agg #[.slice none 0 0,.int .i64 0],.int .i64 2]))\/((1<=n/\n<=400)/\400<l.length/\e = .returned (.tuple #[.slice none 0 0,.agg #[.slice none 0 0,.int .i64 0],.int .i64 1])) \/
    ((1<=n/\n<=400)/\l.length<=400/\∃(aa:Option Addr) (ac:Nat) (ha:Option Addr) (hc t:Nat) (xs:List Int) (lp:List Nat),e = .returned (.tuple #[.slice aa l.length ac,.agg #[.slice ha xs.length hc,.int .i64 (t:Int)],.int .i64 0]) /\
      OwnAns w' w.heap.size (.slice aa l.length ac) ((hall0 n.toNat).answers l)/\OwnInts w' w.heap.size (.slice ha xs.length hc) xs/\HeapIs xs t lp/\xs.length=n.toNat/\Wds n.toNat ((hall0 n.toNat).runs l).things xs))
theorem inv_runs:∀(l:List ActM) (K:Nat) (H:Hall),Inv K H->Inv (K+l.length) (H.runs l)
  | [],K,H,h=>h
  | c :: l,K,H,h=>by
    have:=inv_runs l (K+1) _ (h.act c)
    rw[show K+1+l.length=K+(c :: l).length by simp only [List.length_cons];omega] at this
    exact this
def RunInv (w:World) (m:Nat) (l:List ActM) (B k:Nat) (wr:World) (vo:Value):Prop :=
  ∃nm M,OwnAns wr (w.heap.size+1) vo ((hall0 m).answers (l.take k))/\Mach (w.heap.size+1) wr B nm M/\Sim ((hall0 m).runs (l.take k)) M/\nm.N<=k/\(∀j,vo.ownBlock=some j->¬ Has B nm j)/\Below w.heap.size w wr/\RowAt wr w.heap.size [.slice none 0 0,.int .i64 0]
set_option maxRecDepth 100000 in
set_option maxHeartbeats 4000000 in
theorem run_any (n:Int) (v:Value) (l:List ActM) (w:World) (h:Acts w v l):Calls Try.prog 42 #[.int .i64 n,v] w (RetRun w n l):=by
  obtain⟨a,c,rfl,hc,hcm,_⟩:=h.len
  have hle:=h.le
  have HF:Hid (∀w2,Below w.heap.size w w2->Acts w2 (.slice a l.length c) l):=λw2 hb2=>h.below (Nat.le_refl _) hb2
  clear h
  by_cases hn:1<=n/\n<=400
  · by_cases hl:400<l.length
    · go_enter Try.func42,Try.ntmps42
      go_wp2_with (go_at_call 16;refine (new_any n _).mono ?_;rintro e w1 ⟨hb1,⟨m,a1,c1,rfl,h1,h2,rfl,hv1⟩|⟨hno,_⟩⟩;rotate_left;exact absurd hn hno;have zc1:=Nat.lt_of_lt_of_le (show w.heap.size<_ from (by first|(simp;done)|omega|(simp;omega))) (Below.size hb1);have fc1_0:=Below.cell hb1 (p:=⟨w.heap.size,0,none⟩) (by first|(simp;done)|omega|(simp;omega));have gc1_0:=Below.frozen hb1 (p:=⟨w.heap.size,0,none⟩) (by first|(simp;done)|omega|(simp;omega));have fc1_1:=Below.cell hb1 (p:=⟨w.heap.size,1,none⟩) (by first|(simp;done)|omega|(simp;omega));have gc1_1:=Below.frozen hb1 (p:=⟨w.heap.size,1,none⟩) (by first|(simp;done)|omega|(simp;omega));(try simp at fc1_0 gc1_0 fc1_1 gc1_1))
      refine bodyPost_ret (v:=.tuple #[.slice none 0 0,.agg #[.slice none 0 0,.int .i64 0],.int .i64 1]) (by simp[results,Try.results42,go_sem, *]) rfl ⟨(by ((repeat first|exact bR _ _|with_reducible first|refine bT ?_ hb1 ?_|refine bN ?_|refine bD ?_|refine bA ?_ ?_|refine bS ?_ ?_);all_goals first|exact Nat.le_refl _|(simp;done)|omega|(simp;omega)|(have z0:=Below.size hb1;omega)|(have z0:=Below.size hb1;simp at *;omega))),.inr (.inl ⟨hn,hl,rfl⟩)⟩
    · go_enter Try.func42,Try.ntmps42
      have hl2:¬ 400<(l.length:Int):=by omega
      go_upto_region 9 with (go_at_call 16;refine (new_any n _).mono ?_;rintro e w1 ⟨hb1,⟨m,a1,c1,rfl,h1,h2,rfl,hv1⟩|⟨hno,_⟩⟩;rotate_left;exact absurd hn hno;have zc2:=Nat.lt_of_lt_of_le (show w.heap.size<_ from (by first|(simp;done)|omega|(simp;omega))) (Below.size hb1);have fc2_0:=Below.cell hb1 (p:=⟨w.heap.size,0,none⟩) (by first|(simp;done)|omega|(simp;omega));have gc2_0:=Below.frozen hb1 (p:=⟨w.heap.size,0,none⟩) (by first|(simp;done)|omega|(simp;omega));have fc2_1:=Below.cell hb1 (p:=⟨w.heap.size,1,none⟩) (by first|(simp;done)|omega|(simp;omega));have gc2_1:=Below.frozen hb1 (p:=⟨w.heap.size,1,none⟩) (by first|(simp;done)|omega|(simp;omega));(try simp at fc2_0 gc2_0 fc2_1 gc2_1))
      obtain⟨B,hB⟩:∃B,B=w1.heap.size+1:=⟨_,rfl⟩
      have HV1:Hid (OwnInts w1 (w.heap.size+1) (.slice a1 m c1) (List.replicate m 0)):=by
        rw[Hid]
        simpa using hv1
      have hz1:=hb1.size
      simp only [World.size_alloc] at hz1
      obtain⟨mc,hmc⟩:∃mc:Array Value,mc=(Try.zeroCells116.setIfInBounds 0 (.slice a1 m c1)).setIfInBounds 1 (.int .i64 1):=⟨_,rfl⟩
      rw[<- hmc]
      obtain⟨w2,hw2⟩:∃w2,w2=(w1.alloc (.cells #[.slice a1 m c1,.int .i64 1] 25)).alloc (.cells mc 116):=⟨_,rfl⟩
      have hc0:mc.toList=cells0 (.slice a1 m c1):=by rw[hmc];kernel_rfl
      clear hmc
      have HB12:Hid (Below w1.heap.size w1 w2):=by rw[Hid,hw2];exact (by ((repeat first|exact bR _ _|with_reducible first|refine bN ?_|refine bD ?_|refine bA ?_ ?_|refine bS ?_ ?_);all_goals first|exact Nat.le_refl _|(simp;done)|omega|(simp;omega)))
      have HB02:Hid (Below w.heap.size w w2):=by rw[Hid,hw2];exact (by ((repeat first|exact bR _ _|with_reducible first|refine bT ?_ hb1 ?_|refine bN ?_|refine bD ?_|refine bA ?_ ?_|refine bS ?_ ?_);all_goals first|exact Nat.le_refl _|(simp;done)|omega|(simp;omega)|(have z0:=Below.size hb1;omega)|(have z0:=Below.size hb1;simp at *;omega)))
      have HBX:Hid (Box w2 B (cellOf (nm0 (.slice a1 m c1)) (cm0 m))):=by
        refine box0 λi v hv=>?_
        rw[<- hc0] at hv
        rw[hB,hw2]
        have hi:i<mc.toList.length:=(List.getElem?_eq_some_iff.1 hv).1
        have hr:=RowAt.alloc (w1.alloc (.cells #[.slice a1 m c1,.int .i64 1] 25)) mc 116
        have:=hr.2 i hi
        rw[World.size_alloc] at this
        rw[(List.getElem?_eq_some_iff.1 hv).2] at this
        exact this
      have HM2:Hid (Mach (w.heap.size+1) w2 B (nm0 (.slice a1 m c1)) (cm0 m)) :=
        Mach.start HBX.out (HV1.out.below HB12.out) (by omega) (λe=>by have:=(HV1.out.lt e).2;omega) (by have:=HB12.out.size;omega)
      have HR5:Hid (RowAt w2 w.heap.size [.slice none 0 0,.int .i64 0]):=by
        have h0:RowAt (w.alloc (.cells #[.slice none 0 0,.int .i64 0] 25)) w.heap.size [.slice none 0 0,.int .i64 0]:=RowAt.alloc _ _ _
        exact (h0.below hb1).belowN HB12.out (by omega)
      have hBz:B<w2.heap.size:=HBX.out.lt
      have hHM:w.heap.size<B:=by omega
      have HW2E:=Lib.hid hw2;have HBE:=Lib.hid hB
      rw[<- hw2,<- hB]
      clear hc0 HV1 HBX hv1 hw2 hB
      have hm:(m:Int).toNat=m:=Int.toNat_natCast m
      have HST:Hid (RunInv w m l B 0 w2 (.slice none 0 0)):=by
        refine⟨nm0 (.slice a1 m c1),cm0 m,OwnAns.nil _ _,HM2.out,Sim.start h1 h2,Nat.le_refl _,λj hj=>(by cases hj),HB02.out,HR5.out⟩
      have HLB:Hid (w.heap.size+1<=w2.heap.size):=by rw[Hid];omega
      clear HM2 HR5
      go_loopw [10,31] (λu10 u wr=>∃k:Nat,u = .int .i64 k/\k<=l.length/\RunInv w m l B k wr u10) (λ_ u _=>l.length - (intOf u).toNat)
      case atStart=>exact⟨0,rfl,Nat.zero_le _,HST.out⟩
      case round =>
        obtain⟨k,rfl,hk,hinv⟩:=hrel
        obtain⟨nm1,M1,hO,hM,hS,hN,hnh,hBw,hR⟩:=hinv
        have HO:=Lib.hid hO;have HM:=Lib.hid hM;have HS:=Lib.hid hS;have HN:=Lib.hid hN;have HNH:=Lib.hid hnh;have HBW:=Lib.hid hBw;have HR:=Lib.hid hR
        clear hO hM hS hN hnh hBw hR HST
        by_cases hlt:k<l.length
        · have hlt':(k:Int)<(l.length:Int):=by omega
          obtain⟨b,o,rfl,hbs,hat⟩:=(HF.out wr HBW.out).at (by omega)
          obtain⟨⟨e0,e1,e2,e3,e4⟩,i0,i1,i2,i3,i4⟩:=hat k hlt
          obtain⟨r,hr⟩:∃r,r=l[k]:=⟨_,rfl⟩
          have HTK:Hid (l.take (k+1)=l.take k++[r]):=by rw[Hid,List.take_succ_eq_append_getElem hlt,hr]
          rw[<- hr] at e0 e1 e2 e3 e4 i4
          have HI4:=Lib.hid i4
          obtain⟨H1,hH1⟩:∃H1,H1=(hall0 m).runs (l.take k):=⟨_,rfl⟩
          rw[<- hH1] at HS
          have HINV:Hid (Inv k H1):=by
            rw[Hid,hH1]
            have:=inv_runs (l.take k) 0 _ (Inv.start m)
            rw[Nat.zero_add,List.length_take,Nat.min_eq_left hk] at this
            exact this
          have HRUN:Hid ((hall0 m).runs (l.take (k+1))=(H1.act r).1/\(hall0 m).answers (l.take (k+1))=(hall0 m).answers (l.take k)++[(H1.act r).2]):=by
            rw[Hid,HTK.out,runs_append,answers_append,<- hH1]
            exact⟨rfl,rfl⟩
          have hHMl:=HM.out.lt
          clear hat hr hH1 i0 i1 i2 i3 i4
          go_upto_region 11 with fail
          obtain⟨x0,hx0⟩:∃x0,x0=wr.heap.size:=⟨_,rfl⟩
          obtain⟨w3,hw3⟩:∃w3,w3=wr.alloc (.cells #[.int .i64 r.kind,.int .i64 r.t,.int .i64 r.a,.int .i64 r.b,.int .i64 r.n] 46):=⟨_,rfl⟩
          have HB3:Hid (Below wr.heap.size wr w3):=by rw[Hid,hw3];exact (by ((repeat first|exact bR _ _|with_reducible first|refine bN ?_|refine bD ?_|refine bA ?_ ?_|refine bS ?_ ?_);all_goals first|exact Nat.le_refl _|(simp;done)|omega|(simp;omega)))
          have HR3:Hid (RowAt w3 x0 (actL r.kind r.t r.a r.b r.n)):=by rw[Hid,hw3,hx0];exact RowAt.alloc _ _ _
          obtain⟨q0,q1,q2,q3,q4⟩:=HR3.out.act
          rw[<- hx0,<- hw3]
          obtain⟨an,han⟩:∃an,an=(H1.act r).2:=⟨_,rfl⟩
          have HAN:=Lib.hid han
          have HACT:Hid (Calls Try.prog 66 #[.pointer (some ⟨B,0,none⟩),.agg #[.int .i64 r.kind,.int .i64 r.t,.int .i64 r.a,.int .i64 r.b,.int .i64 r.n]] w3 (λe w5=>e = .returned (.agg #[.int .i64 an.code,.bool an.is,.int .i64 an.number,.bool an.yes,.int .i64 an.words,.bool an.going,.int .i64 an.freed])/\∃nm5 M5,Mach (w.heap.size+1) w5 B nm5 M5/\Went 1 w3 w5 B nm1 nm5/\Sim (H1.act r).1 M5)):=by
            rw[Hid,han]
            exact act_any (K:=k) (w.heap.size+1) w3 B nm1 H1 M1 HS.out HINV.out (by omega) (HM.out.below HB3.out) (by have:=HN.out;omega) r HI4.out
          have HUL:Hid (((hall0 m).answers (l.take k)).length+1<900000):=by rw[Hid,answers_len,List.length_take];omega
          clear hx0 hw3 han e0 e1 e2 e3 e4
          go_wp2_with (first
            | (go_at_call 66;refine HACT.out.mono ?_;rintro e w5 ⟨rfl,nm5,M5,hM5,hW5,hS5⟩;have HO5:=Lib.hid ((HO.out.below HB3.out).keep (w':=w5) λj hj=>hW5.chg.block j (Nat.lt_of_lt_of_le (HO.out.lt hj).2 HB3.out.size) (HNH.out j hj));have HM5:=Lib.hid hM5;have HW5:=Lib.hid hW5;have HS5:=Lib.hid hS5;clear hM5 hW5 hS5)
            | (at_builtin;refine wpl_append_Ans rfl _ _ rfl (w.heap.size+1) u10 _ rfl (HO5.out.below (by ((repeat first|exact bR _ _|with_reducible first|refine bN ?_|refine bD ?_|refine bA ?_ ?_|refine bS ?_ ?_);all_goals first|exact Nat.le_refl _|(simp;done)|omega|(simp;omega)))) _ [an] rfl (row_Ans _ an rfl) HUL.out (by have:=HM5.out.base_le;simp;omega) ?_;intro v7 w7 hv7 hg7 hn7;have HV7:=Lib.hid hv7;have HG7:=Lib.hid hg7;have HN7:=Lib.hid hn7;clear hv7 hg7 hn7))
          have hnu:∀j,u10.ownBlock=some j->¬ Has B nm5 j:=λj hj=>HW5.out.not_has (Nat.lt_of_lt_of_le (HO.out.lt hj).2 HB3.out.size) (HNH.out j hj)
          obtain⟨w6,hw6⟩:∃w6,w6=w5.alloc (.cells #[.int .i64 an.code,.bool an.is,.int .i64 an.number,.bool an.yes,.int .i64 an.words,.bool an.going,.int .i64 an.freed] 51):=⟨_,rfl⟩
          have HB6:Hid (Below w5.heap.size w5 w6):=by rw[Hid,hw6];exact (by ((repeat first|exact bR _ _|with_reducible first|refine bN ?_|refine bD ?_|refine bA ?_ ?_|refine bS ?_ ?_);all_goals first|exact Nat.le_refl _|(simp;done)|omega|(simp;omega)))
          rw[<- hw6] at HG7 HN7
          clear hw6
          have hM7:Mach (w.heap.size+1) w7 B nm5 M5:=(HM5.out.below HB6.out).other (Chg.ofGrown _ HG7.out λj hj=>hnu j hj)
          have hlo5:∀j,Has B nm1 j->w.heap.size+1<=j:=λj ⟨i,hi,e⟩=>(HM.out.lo i j hi e).1
          have h03:Below w.heap.size w w3:=HBW.out.trans (HB3.out.mono HBW.out.size)
          have h05:Below w.heap.size w w5:=h03.trans (HW5.out.chg.below (Nat.le_trans HBW.out.size HB3.out.size) λj _ hj=>by have:=hlo5 j hj;omega)
          have h06:Below w.heap.size w w6:=h05.trans (HB6.out.mono h05.size)
          have h07:Below w.heap.size w w7:=h06.grown HG7.out h06.size λj hj=>by have:=(HO.out.lt hj).1;omega
          have hR7:RowAt w7 w.heap.size [.slice none 0 0,.int .i64 0] :=
            ((((HR.out.below HB3.out).chg HW5.out.chg (λhj=>by have:=hlo5 _ hj;omega)).below HB6.out).chg (Chg.ofGrown (λj=>u10.ownBlock=some j) HG7.out λj hj=>hj) (λhj=>by have:=(HO.out.lt hj).1;omega))
          refine⟨⟨k+1,by go_num,by omega,nm5,M5,?_,hM7,?_,by have:=HW5.out.few;have:=HN.out;omega,λj hj=>?_,h07,hR7⟩,by simp[intOf];omega⟩
          · rw[HRUN.out.2,<- HAN.out];exact HV7.out
          · rw[HRUN.out.1];exact HS5.out
          · rcases HN7.out with e|e
            · exact hnu j (by rw[<- e];exact hj)
            · intro hh
              have h1:=e j hj
              have h2:=HM5.out.has_lt j hh
              have h3:=HB6.out.size
              omega
        · have hke:k=l.length:=by omega
          subst hke
          rw[List.take_length] at HO HS
          obtain⟨ga,gc,hhv⟩:∃a c,nm1.hv = .slice a M1.xs.length c:=(HM.out.part .words trivial).shape
          have HHV:Hid (Ints wr (.slice ga M1.xs.length gc) M1.xs):=by rw[Hid,<- hhv];exact (HM.out.part .words trivial).ints
          have d0:=HM.out.c0
          have d1:=HM.out.c1
          rw[hhv] at d0
          obtain⟨va,vc,hvo⟩:=HO.out.shape
          rw[answers_len] at hvo
          subst hvo
          have hBl:=HM.out.lt
          have r0:=HR.out.2 0 (by simp);have r1:=HR.out.2 1 (by simp)
          obtain⟨r0a,r0b⟩:=r0
          obtain⟨r1a,r1b⟩:=r1
          dsimp only [List.getElem_cons_zero,List.getElem_cons_succ] at r0a r1a
          clear hhv
          have HT:=Lib.hid HR.out.1
          go_wp2_with (go_at_call 48;refine (heapCopy_any (.slice ga M1.xs.length gc) M1.xs M1.top _ HHV.out).mono ?_;rintro e w7 ⟨ha,hc',rfl,hv7,hb7⟩;have HV7:=Lib.hid hv7;have HB7:=Lib.hid hb7;have s0:=(hb7.cell (p:=⟨w.heap.size,0,none⟩) HT.out).trans r0a;have s1:=(hb7.cell (p:=⟨w.heap.size,1,none⟩) HT.out).trans r1a;have s2:=(hb7.frozen (p:=⟨w.heap.size,0,none⟩) HT.out).trans r0b;have s3:=(hb7.frozen (p:=⟨w.heap.size,1,none⟩) HT.out).trans r1b;clear hv7 hb7)
          have hinv:=inv_runs l 0 _ (Inv.start m)
          rw[Nat.zero_add] at hinv
          have hheap:=HS.out.heap hinv (by omega)
          have hwds:=HS.out.wds
          rw[(runs_size l (hall0 m)).1] at hwds
          have hlen:=hwds.len
          have hzr:=HBW.out.size
          have hzt:w.heap.size<wr.heap.size:=HT.out
          refine bodyPost_ret (v:=.tuple #[.slice va l.length vc,.agg #[.slice ha M1.xs.length hc',.int .i64 (M1.top:Int)],.int .i64 0]) (by simp[results,Try.results42,go_sem, *]) rfl ⟨?_,.inr (.inr ⟨hn,by omega,va,vc,ha,hc',M1.top,M1.xs,_,rfl,?_,?_,hheap,?_,?_⟩)⟩
          · have h1:Below w.heap.size w w7:=HBW.out.trans (HB7.out.mono hzr)
            exact (h1.setCell (by simp) _).setCell (by simp) _
          · rw[hm]
            have h1:=(HO.out.below HB7.out).mono (base':=w.heap.size) (by omega)
            refine h1.keep λj hj=>?_
            have h2:=(HO.out.lt hj).1
            exact (Below.heap_setCell _ ⟨w.heap.size,1,none⟩ _ _ (by simp;omega)).trans (Below.heap_setCell _ ⟨w.heap.size,0,none⟩ _ _ (by simp;omega))
          · exact ((HV7.out.setBelow (a:=⟨w.heap.size,0,none⟩) hzt _).setBelow (a:=⟨w.heap.size,1,none⟩) hzt _).mono hzr
          · rw[hlen,hm];rfl
          · rw[hm];exact hwds
  · go_enter Try.func42,Try.ntmps42
    go_wp2_with (go_at_call 16;refine (new_any n _).mono ?_;rintro e w1 ⟨hb1,⟨m,a1,c1,rfl,h1,h2,rfl,hv1⟩|⟨_,rfl⟩⟩;exact absurd ⟨by omega,by omega⟩ hn;have zc3:=Nat.lt_of_lt_of_le (show w.heap.size<_ from (by first|(simp;done)|omega|(simp;omega))) (Below.size hb1);have fc3_0:=Below.cell hb1 (p:=⟨w.heap.size,0,none⟩) (by first|(simp;done)|omega|(simp;omega));have gc3_0:=Below.frozen hb1 (p:=⟨w.heap.size,0,none⟩) (by first|(simp;done)|omega|(simp;omega));have fc3_1:=Below.cell hb1 (p:=⟨w.heap.size,1,none⟩) (by first|(simp;done)|omega|(simp;omega));have gc3_1:=Below.frozen hb1 (p:=⟨w.heap.size,1,none⟩) (by first|(simp;done)|omega|(simp;omega));(try simp at fc3_0 gc3_0 fc3_1 gc3_1))
    refine bodyPost_ret (v:=.tuple #[.slice none 0 0,.agg #[.slice none 0 0,.int .i64 0],.int .i64 2]) (by simp[results,Try.results42,go_sem, *]) rfl ⟨(by ((repeat first|exact bR _ _|with_reducible first|refine bT ?_ hb1 ?_|refine bN ?_|refine bD ?_|refine bA ?_ ?_|refine bS ?_ ?_);all_goals first|exact Nat.le_refl _|(simp;done)|omega|(simp;omega)|(have z0:=Below.size hb1;omega)|(have z0:=Below.size hb1;simp at *;omega))),.inl ⟨hn,rfl⟩⟩
end Go.Proofs.Ytbeilcaadpopmab
