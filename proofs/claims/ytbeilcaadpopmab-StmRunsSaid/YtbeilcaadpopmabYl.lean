/- Texts put together: Jy, Jz, Sm, Sz. -/
import Derived.Test.YtbeilcaadpopmabYi
import Derived.Test.YtbeilcaadpopmabYh
import Derived.Test.YtbeilcaadpopmabYj
import Derived.Test.YtbeilcaadpopmabYk
import Derived.Test.YtbeilcaadpopmabYd
import Derived.Test.YtbeilcaadpopmabYt
import Derived.Test.YtbeilcaadpopmabYe
set_option linter.unusedVariables false
set_option linter.unusedSimpArgs false
namespace Go.Proofs.Ytbeilcaadpopmab
open Go.RowKit Go.Maps
def liveP (H:Hall) (i:Nat):Prop:=PI (λf=>f.2.2=false) H.things i
theorem liveP_le {H:Hall} {i:Nat} (h:liveP H i):1<=i/\i<=H.things.length:=PI.le (by simp) h
theorem pv_id {H:Hall} {v:V} (h:PV (λf=>f.2.2=false) H.things v) (h0:v.id≠0):liveP H v.id:=by
  cases v with
  | num n=>exact absurd rfl h0
  | ref i=>exact h.resolve_left h0
theorem pv_le {H:Hall} {v:V} (h:PV (λf=>f.2.2=false) H.things v):v.id<=H.things.length:=by
  by_cases h0:v.id=0
  · omega
  · exact (liveP_le (pv_id h h0)).2
section
variable {K:Nat} {H:Hall} (hi:Inv K H)
include hi
theorem inv_und {t:Nat} (ht:t<4):UndOk H t:=by
  refine⟨λc hc=>?_,hi.own.keys ht⟩
  obtain⟨h1,h2⟩:=hi.own.chg t ht c hc
  obtain⟨d,hd,e⟩:=h1
  have:=hi.own.keys ht d hd
  rw[e] at this
  exact⟨this.1,this.2,h2⟩
theorem inv_owner (i u:Nat) (h:(th H.things i).owner=some u):u<4:=by
  rcases Nat.eq_zero_or_pos i with e|e
  · rw[e] at h;exact (hi.own.own 1 (by omega) u h).1
  · exact (hi.own.own i e u h).1
theorem inv_f6:∀x ∈ H.things,x.fields.length<=6:=λx hx=>by
  obtain⟨i,hi2,rfl⟩:=List.getElem_of_mem hx
  have:=hi.sz.f6 (i+1)
  rwa [th_at _ _ hi2] at this
theorem inv_shut:Shut6 (liveP H) H.things:=⟨λi h=>liveP_le h,hi.sz.f6,λi h v hv h0=>pv_id (hi.cl.fields i h v hv) h0⟩
theorem inv_roots:∀i ∈ H.roots,i≠0->liveP H i:=λi hr h0=>by
  obtain⟨t,ht,h⟩:=List.mem_flatMap.1 hr
  have ht4:=List.mem_range.1 ht
  unfold heldBy at h
  simp only [List.mem_append,List.mem_map,List.mem_range] at h
  rcases h with (((⟨r,hr4,rfl⟩|⟨r,hr4,rfl⟩)|⟨c,hc,rfl⟩)|⟨c,hc,rfl⟩)|⟨c,hc,rfl⟩
  · exact pv_id (hi.cl.regs t ht4 r hr4) h0
  · exact pv_id (hi.cl.saved t ht4 r hr4) h0
  · exact pv_id (hi.cl.was t ht4 c hc).2 h0
  · exact hi.cl.reads t ht4 c hc
  · exact hi.cl.owned t ht4 c hc
theorem inv_reg {t r:Nat} (ht:t<4) (hr:r<4):(H.regs t r).id<=H.things.length:=pv_le (hi.cl.regs t ht r hr)
end
theorem acc_zero {H:Hall} {t r:Nat} {f:Int} (h:H.acc t r f=0):∃m k,(H.deals t).isOpen=true/\H.regs t r = .ref m/\1<=m/\f=((k:Nat):Int)/\k<(th H.things m).fields.length/\((th H.things m).owner=none\/(th H.things m).owner=some t):=by
  unfold Hall.acc at h
  split at h
  · cases h
  · rename_i ho
    split at h
    · cases h
    · rename_i n hn
      split at h
      · cases h
      · split at h
        · cases h
        · rename_i h1 h2
          split at h
          · rename_i h3
            have h2':0<=f/\f<((H.thing n).fields.length:Int):=by simpa using h2
            refine⟨n,f.toNat,by simpa using ho,hn,by omega,by omega,?_,h3⟩
            have:(H.thing n).fields.length=(th H.things n).fields.length:=rfl
            omega
          · cases h
theorem okR_eq (k t a b n:Int):(ActM.mk k t a b n).okR=true ↔ (10<=k\/(0<=t/\t<=3))/\((k<=3\/10<=k)\/(0<=a/\a<=3))/\((k<=4\/k=7\/10<=k)\/(0<=b/\b<=3))/\(k≠8\/(0<=n/\n<=3)):=by
  unfold ActM.okR in3
  simp only [Bool.and_eq_true,Bool.or_eq_true,decide_eq_true_eq,and_assoc]
set_option maxRecDepth 100000 in
theorem acted_bad_any (base:Nat) (w:World) (B:Nat) (nm:Rn) (H:Hall) (h:Rmem base w B nm H) (ck ct ca cb cn:Int) (h1:1<=ck) (h2:ck<=12) (h3:(ActM.mk ck ct ca cb cn).okR=false) :
    Calls Try.prog 67 #[.pointer (some ⟨B,0,none⟩),.agg #[.int .i64 ck,.int .i64 ct,.int .i64 ca,.int .i64 cb,.int .i64 cn]] w (RetRA base w B nm H (H,.err 2)):=by
  have h4:¬ ((10<=ck\/(0<=ct/\ct<=3))/\((ck<=3\/10<=ck)\/(0<=ca/\ca<=3))/\((ck<=4\/ck=7\/10<=ck)\/(0<=cb/\cb<=3))/\(ck≠8\/(0<=cn/\cn<=3))):=λe=>by
    rw[(okR_eq ck ct ca cb cn).2 e] at h3
    cases h3
  clear h3
  by_cases e1:ck<=9/\¬ (0<=ct/\ct<=3)
  · exact acted_bad_t base w B nm H h ck ct ca cb cn (by omega) e1.2
  by_cases e2:4<=ck/\ck<=9/\¬ (0<=ca/\ca<=3)
  · exact acted_bad_a base w B nm H h ck ct ca cb cn (by omega) (by omega) e2.2.2
  by_cases e3:(ck=5\/ck=6\/ck=8\/ck=9)/\¬ (0<=cb/\cb<=3)
  · exact acted_bad_b base w B nm H h ck ct ca cb cn e3.1 (by omega) (by omega) e3.2
  · exact acted_bad_n base w B nm H h ck ct ca cb cn (by omega) (by omega) (by omega) (by omega) (by omega)
set_option maxRecDepth 100000 in
set_option maxHeartbeats 2000000 in
theorem acted_any (base:Nat) (w:World) (B:Nat) (nm:Rn) (H:Hall) (h:Rmem base w B nm H) (K:Nat) (hi:Inv K H) (hK:K<=800000 - 1) (hl:Left2 H) (c:ActM) :
    Calls Try.prog 67 #[.pointer (some ⟨B,0,none⟩),.agg #[.int .i64 c.kind,.int .i64 c.t,.int .i64 c.a,.int .i64 c.b,.int .i64 c.n]] w (RetRA base w B nm H (H.act c)):=by
  obtain⟨ck,ct,ca,cb,cn⟩:=c
  refine act_ind (P:=λp=>Calls Try.prog 67 #[.pointer (some ⟨B,0,none⟩),.agg #[.int .i64 ck,.int .i64 ct,.int .i64 ca,.int .i64 cb,.int .i64 cn]] w (RetRA base w B nm H p)) H _ ?_ ?_ ?_ ?_ ?_ ?_ ?_ ?_ ?_ ?_ ?_ ?_ ?_
  · rintro e (⟨rfl,h1⟩|⟨rfl,h1,h2,h3⟩)
    · exact acted_none base w B nm H h ck ct ca cb cn h1
    · dsimp only at h1 h2
      exact acted_bad_any base w B nm H h ck ct ca cb cn h1 h2 h3
  · intro hk t ht et;dsimp only at hk et;subst hk et
    exact acted_begin base w B nm H h t ht ca cb cn
  · intro hk t ht et;dsimp only at hk et;subst hk et
    exact acted_commit base w B nm H h t ht ca cb cn (inv_und hi ht) (λc hc=>by have:=hi.own.rds t ht c hc;exact⟨this.1,this.2.1⟩) (λi=>by have:=hi.sz.ver i;omega) (inv_owner hi)
  · intro hk t ht et;dsimp only at hk et;subst hk et
    exact acted_abort base w B nm H h t ht ca cb cn (inv_und hi ht)
  · intro hk t a ht ha et ea;dsimp only at hk et ea ⊢;subst hk et ea
    by_cases ho:(H.deals t).isOpen=true
    · by_cases hn:0<=cn/\cn<=6
      · obtain⟨n,rfl⟩:∃n:Nat,cn=(n:Int):=⟨cn.toNat,by omega⟩
        by_cases hbig:1+(H.used:Int)+2+(n:Int) > H.words
        · exact acted_new_size base w B nm H h t a ht ha cb n ho (by omega) (inv_f6 hi) hbig
        · exact acted_new_made base w B nm H h t a ht ha cb n ho (by omega) (by have:=hi.sz.n;omega) (inv_f6 hi) hbig
      · exact acted_new_range base w B nm H h t a ht ha cb cn ho hn
    · exact acted_new_shut base w B nm H h t a ht ha cb cn (by simpa using ho)
  · intro hk t a b ht ha hb et ea eb;dsimp only at hk et ea eb ⊢;subst hk et ea eb
    by_cases hacc:H.acc t b cn=0
    · obtain⟨m,k,ho,hr,hm,rfl,hf,how⟩:=acc_zero hacc
      have hm2:m<=H.things.length:=by have:=inv_reg hi ht hb;rw[hr] at this;exact this
      have hget:H.get t a b (k:Int)=({ H with regs:=put2 H.regs t a ((th H.things m).fields.getD k (.num 0)),deals:=H.readD t m },told ((th H.things m).fields.getD k (.num 0))):=by
        unfold Hall.get
        rw[if_pos hacc,hr]
        rfl
      rw[hget]
      have e1:(H.thing m).owner=(th H.things m).owner:=rfl
      cases hno:noted (H.deals t).reads m with
      | some x =>
        rw[show H.readD t m=H.deals from by unfold Hall.readD;rw[if_neg (by rw[hno];simp)]]
        exact acted_get_noted base w B nm H h t a b m k ht ha hb hm hm2 hf hr hacc x hno (inv_und hi ht) (inv_reg hi ht hb) hi.sz.f6 (inv_owner hi)
      | none =>
        rcases how with how|how
        · rw[show H.readD t m=put1 H.deals t ((H.deals t).addR (m,(th H.things m).version)) from by unfold Hall.readD;rw[if_pos ⟨hno,by rw[e1,how];simp⟩];rfl]
          exact acted_get_app base w B nm H h t a b m k ht ha hb hm hm2 hf hr hacc hno how (by have:=hi.sz.rd t;omega) (inv_und hi ht) (inv_reg hi ht hb) hi.sz.f6 (inv_owner hi)
        · rw[show H.readD t m=H.deals from by unfold Hall.readD;rw[if_neg (by rw[e1,how];simp)]]
          exact acted_get_own base w B nm H h t a b m k ht ha hb hm hm2 hf hr hacc hno how (inv_und hi ht) (inv_reg hi ht hb) hi.sz.f6 (inv_owner hi)
    · exact acted_get_err base w B nm H h t a b ht ha hb cn hacc (inv_und hi ht) (inv_reg hi ht hb) hi.sz.f6 (inv_owner hi)
  · intro hk t a b ht ha hb et ea eb;dsimp only at hk et ea eb ⊢;subst hk et ea eb
    by_cases hacc:H.acc t a cn=0
    · obtain⟨m,k,ho,hr,hm,rfl,hf,how⟩:=acc_zero hacc
      have hm2:m<=H.things.length:=by have:=inv_reg hi ht ha;rw[hr] at this;exact this
      have hput:H.put t a b (k:Int)=((H.own t m).write t m k (H.regs t b),.nil):=by
        unfold Hall.put
        rw[if_pos hacc,hr]
        rfl
      rw[hput]
      rcases how with how|how
      · exact acted_put_new base w B nm H h t a b m k ht ha hb hm hm2 hf hr hacc (by have:=hi.sz.ch t;omega) how (by have:=hi.sz.ow t;omega) (inv_und hi ht) (inv_reg hi ht ha) hi.sz.f6 (inv_owner hi)
      · exact acted_put_own base w B nm H h t a b m k ht ha hb hm hm2 hf hr hacc (by have:=hi.sz.ch t;omega) how (inv_und hi ht) (inv_reg hi ht ha) hi.sz.f6 (inv_owner hi)
    · exact acted_put_err base w B nm H h t a b ht ha hb cn hacc (inv_und hi ht) (inv_reg hi ht ha) hi.sz.f6 (inv_owner hi)
  · intro hk t a ht ha et ea;dsimp only at hk et ea ⊢;subst hk et ea
    exact acted_set base w B nm H h t a ht ha cb cn
  · intro hk t a b u ht ha hb hu et ea eb eu;dsimp only at hk et ea eb eu ⊢;subst hk et ea eb eu
    exact acted_copy base w B nm H h t a b u ht ha hb hu
  · intro hk t a b ht ha hb et ea eb;dsimp only at hk et ea eb ⊢;subst hk et ea eb
    exact acted_same base w B nm H h t a b ht ha hb cn
  · intro hk;dsimp only at hk;subst hk
    exact acted_collect base w B nm H h (liveP H) (inv_shut hi) (inv_roots hi) ct ca cb cn
  · intro hk;dsimp only at hk ⊢;subst hk
    exact acted_step base w B nm H h (inv_f6 hi) hl ct ca cb cn
  · intro hk;dsimp only at hk;subst hk
    exact acted_stat base w B nm H h (inv_f6 hi) ct ca cb cn
end Go.Proofs.Ytbeilcaadpopmab
namespace Go.Proofs.Ytbeilcaadpopmab
open Go.RowKit Go.Maps
def rn0:Rn:=⟨.slice none 0 0,λ_=>0,λ_=>.slice none 0 0,λ_=>.slice none 0 0,λ_=>.slice none 0 0,λ_=>.slice none 0 0⟩
def cellsR0 (m:Nat):List Value:=[.int .i64 (m:Int),.slice none 0 0]++List.replicate 32 (.int .i64 0)++(List.replicate 4 ([.bool false]++List.replicate 8 (.int .i64 0)++[.slice none 0 0,.slice none 0 0,.slice none 0 0])).flatten++[.bool false,.int .i64 0]
theorem cellsR0_at (m:Nat):(List.range 84).map (hallC rn0 (hall0 m))=cellsR0 m:=rfl
theorem Rmem.start {w:World} {B m:Nat} {cs:Array Value} {ty:TypeId} (hc:cs.toList=cellsR0 m) (hB:B=w.heap.size):Rmem B (w.alloc (.cells cs ty)) B rn0 (hall0 m):=by
  have hr:=RowAt.alloc w cs ty
  rw[hc,<- hB] at hr
  have hno:∀(i:Rl) k,i≠.box->i.ok 0->roleR B rn0 i≠some k:=λi k h1 h2 e=>by
    cases i with
    | box=>exact h1 rfl
    | thing i=>exact absurd h2 (Nat.not_lt_zero _)
    | _=>cases e
  refine⟨λi hi=>?_,λi k hi hk=>?_,λi j k hi hj h1 h2=>?_,Nat.le_of_lt hr.1⟩
  · cases i with
    | box =>
      intro j hj
      have hl:j<(cellsR0 m).length:=hj
      have h2:=hr.2 j hl
      have e:(cellsR0 m)[j]=hallC rn0 (hall0 m) j:=by
        have h3:(cellsR0 m)[j]? = some (hallC rn0 (hall0 m) j):=by rw[<- cellsR0_at m,List.getElem?_map,List.getElem?_range hj];rfl
        rw[List.getElem?_eq_getElem hl] at h3
        exact Option.some.inj h3
      rw[e] at h2
      exact h2
    | thing i=>exact absurd hi (Nat.not_lt_zero _)
    | flds i=>exact absurd hi (Nat.not_lt_zero _)
    | _=>exact OwnL.nil _ _ _
  · by_cases e:i = .box
    · subst e;cases hk;exact⟨Nat.le_refl _,hr.1⟩
    · exact absurd hk (hno i k e hi)
  · by_cases e:i = .box
    · by_cases e2:j = .box
      · rw[e,e2]
      · exact absurd h2 (hno j k e2 hj)
    · exact absurd h1 (hno i k e hi)
theorem left2_runs:∀(l:List ActM) (K:Nat) (H:Hall),Inv K H->Left2 H->K+l.length<=1000000->Left2 (H.runs l)
  | [],K,H,hi,h,hk=>h
  | c :: l,K,H,hi,h,hk=>left2_runs l (K+1) _ (hi.act c) (h.act (by have:=hi.sz.n;simp only [List.length_cons] at hk;omega) c) (by simp only [List.length_cons] at hk;omega)
def RetScr (w:World) (n:Int) (l:List ActM) (e:Ending) (w':World):Prop :=
  Below w.heap.size w w'/\((¬ (1<=n/\n<=400)/\e = .returned (.tuple #[.slice none 0 0,.int .i64 2]))\/((1<=n/\n<=400)/\400<l.length/\e = .returned (.tuple #[.slice none 0 0,.int .i64 1])) \/
    ((1<=n/\n<=400)/\l.length<=400/\∃(aa:Option Addr) (ac:Nat),e = .returned (.tuple #[.slice aa l.length ac,.int .i64 0])/\OwnAns w' w.heap.size (.slice aa l.length ac) ((hall0 n.toNat).answers l)))
def ScrInv (w:World) (m:Nat) (l:List ActM) (B k:Nat) (wr:World) (vo:Value):Prop :=
  ∃nm,OwnAns wr w.heap.size vo ((hall0 m).answers (l.take k))/\Rmem w.heap.size wr B nm ((hall0 m).runs (l.take k))/\(∀j,vo.ownBlock=some j->¬ HasR B ((hall0 m).runs (l.take k)).things.length nm j)/\Below w.heap.size w wr
set_option maxRecDepth 100000 in
set_option maxHeartbeats 4000000 in
theorem scriptOf_any (n:Int) (v:Value) (l:List ActM) (w:World) (h:Acts w v l):Calls Try.prog 43 #[.int .i64 n,v] w (RetScr w n l):=by
  obtain⟨a,c,rfl,hc,hcm,_⟩:=h.len
  have hle:=h.le
  have HF:Hid (∀w2,Below w.heap.size w w2->Acts w2 (.slice a l.length c) l):=λw2 hb2=>h.below (Nat.le_refl _) hb2
  clear h
  by_cases hn:1<=n/\n<=400
  · have HIN:Hid (∀W,Calls Try.prog 56 #[.int .i64 n,.int .i64 1,.int .i64 400] W (λe w'=>e = .returned (.bool true)/\W=w')):=λW=>by
      have:=in_any n 1 400 W
      rwa [inB_true hn.1 hn.2] at this
    by_cases hl:400<l.length
    · go_enter Try.func43,Try.ntmps43
      go_wp2_with (go_at_call 56;refine (HIN.out _).mono ?_;rintro e _ ⟨rfl,rfl⟩)
      refine bodyPost_ret (v:=.tuple #[.slice none 0 0,.int .i64 1]) (by simp[results,Try.results43,go_sem, *]) rfl ⟨Below.refl _ _,.inr (.inl ⟨hn,hl,rfl⟩)⟩
    · obtain⟨m,hm⟩:∃m:Nat,n=(m:Int):=⟨n.toNat,by omega⟩
      subst hm
      have hl2:¬ 400<(l.length:Int):=by omega
      go_enter Try.func43,Try.ntmps43
      go_upto_region 6 with (go_at_call 56;refine (HIN.out _).mono ?_;rintro e _ ⟨rfl,rfl⟩)
      obtain⟨B,hB⟩:∃B,B=w.heap.size:=⟨_,rfl⟩
      obtain⟨mc,hmc⟩:∃mc:Array Value,mc = Try.zeroCells126.setIfInBounds 0 (.int .i64 (m:Int)):=⟨_,rfl⟩
      have hc0:mc.toList=cellsR0 m:=by rw[hmc];kernel_rfl
      rw[<- hmc,<- hB]
      obtain⟨w2,hw2⟩:∃w2,w2=w.alloc (.cells mc 126):=⟨_,rfl⟩
      have HB02:Hid (Below w.heap.size w w2):=by rw[Hid,hw2];exact (by ((repeat first|exact bR _ _|with_reducible first|refine bN ?_|refine bD ?_|refine bA ?_ ?_|refine bS ?_ ?_);all_goals first|exact Nat.le_refl _|(simp;done)|omega|(simp;omega)))
      have HM2:Hid (Rmem w.heap.size w2 B rn0 (hall0 m)):=by
        have:=Rmem.start (ty:=126) hc0 hB
        rw[Hid,hw2,<- hB]
        exact this
      have HST:Hid (ScrInv w m l B 0 w2 (.slice none 0 0)):=⟨rn0,OwnAns.nil _ _,HM2.out,λj hj=>(by cases hj),HB02.out⟩
      rw[<- hw2]
      clear hmc hc0 hw2 HM2 HB02 hB
      go_wp2_with fail
      go_loopw [7,8] (λu7 u wr=>∃k:Nat,u = .int .i64 k/\k<=l.length/\ScrInv w m l B k wr u7) (λ_ u _=>l.length - (intOf u).toNat)
      case atStart=>exact⟨0,rfl,Nat.zero_le _,HST.out⟩
      case round =>
        obtain⟨k,rfl,hk,hinv⟩:=hrel
        obtain⟨nm1,hO,hM,hnh,hBw⟩:=hinv
        have HO:=Lib.hid hO;have HM:=Lib.hid hM;have HNH:=Lib.hid hnh;have HBW:=Lib.hid hBw
        clear hO hM hnh hBw HST
        by_cases hlt:k<l.length
        · have hlt':(k:Int)<(l.length:Int):=by omega
          obtain⟨b,o,rfl,hbs,hat⟩:=(HF.out wr HBW.out).at (by omega)
          obtain⟨⟨e0,e1,e2,e3,e4⟩,_⟩:=hat k hlt
          obtain⟨r,hr⟩:∃r,r=l[k]:=⟨_,rfl⟩
          have HTK:Hid (l.take (k+1)=l.take k++[r]):=by rw[Hid,List.take_succ_eq_append_getElem hlt,hr]
          rw[<- hr] at e0 e1 e2 e3 e4
          obtain⟨H1,hH1⟩:∃H1,H1=(hall0 m).runs (l.take k):=⟨_,rfl⟩
          rw[<- hH1] at HM HNH
          have HINV:Hid (Inv k H1):=by
            rw[Hid,hH1]
            have:=inv_runs (l.take k) 0 _ (Inv.start m)
            rw[Nat.zero_add,List.length_take,Nat.min_eq_left hk] at this
            exact this
          have HLEFT:Hid (Left2 H1):=by
            rw[Hid,hH1]
            exact left2_runs (l.take k) 0 _ (Inv.start m) (Left2.start m) (by rw[List.length_take];omega)
          have HRUN:Hid ((hall0 m).runs (l.take (k+1))=(H1.act r).1/\(hall0 m).answers (l.take (k+1))=(hall0 m).answers (l.take k)++[(H1.act r).2]):=by
            rw[Hid,HTK.out,runs_append,answers_append,<- hH1]
            exact⟨rfl,rfl⟩
          have hBl:=HM.out.has_lt B ⟨.box,trivial,rfl⟩
          clear hat hr hH1
          obtain⟨an,han⟩:∃an,an=(H1.act r).2:=⟨_,rfl⟩
          have HAN:=Lib.hid han
          have HACT:Hid (Calls Try.prog 67 #[.pointer (some ⟨B,0,none⟩),.agg #[.int .i64 r.kind,.int .i64 r.t,.int .i64 r.a,.int .i64 r.b,.int .i64 r.n]] wr (λe w5=>e = .returned (.agg #[.int .i64 an.code,.bool an.is,.int .i64 an.number,.bool an.yes,.int .i64 an.words,.bool an.going,.int .i64 an.freed])/\∃nm5,Rmem w.heap.size w5 B nm5 (H1.act r).1/\WentR wr w5 B H1.things.length (H1.act r).1.things.length nm1 nm5)):=by
            rw[Hid,han]
            exact acted_any w.heap.size wr B nm1 H1 HM.out k HINV.out (by omega) HLEFT.out r
          have HUL:Hid (((hall0 m).answers (l.take k)).length+1<900000):=by rw[Hid,answers_len,List.length_take];omega
          clear han
          go_wp2_with (first
            | (go_at_call 67;refine HACT.out.mono ?_;rintro e w5 ⟨rfl,nm5,hM5,hW5⟩;have HO5:=Lib.hid (HO.out.keep (w':=w5) λj hj=>hW5.chg.block j (HO.out.lt hj).2 (HNH.out j hj));have HM5:=Lib.hid hM5;have HW5:=Lib.hid hW5;clear hM5 hW5)
            | (at_builtin;refine wpl_append_Ans rfl _ _ rfl w.heap.size u7 _ rfl (HO5.out.below (by ((repeat first|exact bR _ _|with_reducible first|refine bN ?_|refine bD ?_|refine bA ?_ ?_|refine bS ?_ ?_);all_goals first|exact Nat.le_refl _|(simp;done)|omega|(simp;omega)))) _ [an] rfl (row_Ans _ an rfl) HUL.out (by have:=HM5.out.base_le;simp;omega) ?_;intro v7 w7 hv7 hg7 hn7;have HV7:=Lib.hid hv7;have HG7:=Lib.hid hg7;have HN7:=Lib.hid hn7;clear hv7 hg7 hn7))
          have hnu:∀j,u7.ownBlock=some j->¬ HasR B (H1.act r).1.things.length nm5 j:=λj hj hh=>HNH.out j hj (HW5.out.own j (HO.out.lt hj).2 hh)
          obtain⟨w6,hw6⟩:∃w6,w6=w5.alloc (.cells #[.int .i64 an.code,.bool an.is,.int .i64 an.number,.bool an.yes,.int .i64 an.words,.bool an.going,.int .i64 an.freed] 51):=⟨_,rfl⟩
          have HB6:Hid (Below w5.heap.size w5 w6):=by rw[Hid,hw6];exact (by ((repeat first|exact bR _ _|with_reducible first|refine bN ?_|refine bD ?_|refine bA ?_ ?_|refine bS ?_ ?_);all_goals first|exact Nat.le_refl _|(simp;done)|omega|(simp;omega)))
          rw[<- hw6] at HG7 HN7
          clear hw6
          have hM7:Rmem w.heap.size w7 B nm5 (H1.act r).1:=(HM5.out.below HB6.out).other (Chg.ofGrown _ HG7.out λj hj=>hnu j hj)
          have h05:Below w.heap.size w w5:=HBW.out.trans (HW5.out.chg.below HBW.out.size λj _ hj=>(HM.out.has_lt j hj).1)
          have h06:Below w.heap.size w w6:=h05.trans (HB6.out.mono h05.size)
          have h07:Below w.heap.size w w7:=h06.grown HG7.out h06.size λj hj=>(HO.out.lt hj).1
          refine⟨⟨k+1,by go_num,by omega,nm5,?_,?_,λj hj=>?_,h07⟩,by simp[intOf];omega⟩
          · rw[HRUN.out.2,<- HAN.out];exact HV7.out
          · rw[HRUN.out.1];exact hM7
          · rw[HRUN.out.1]
            rcases HN7.out with e|e
            · exact hnu j (by rw[<- e];exact hj)
            · intro hh
              have h1:=e j hj
              have h2:=(HM5.out.has_lt j hh).2
              have h3:=HB6.out.size
              omega
        · have hke:k=l.length:=by omega
          subst hke
          rw[List.take_length] at HO
          obtain⟨va,vc,hvo⟩:=HO.out.shape
          rw[answers_len] at hvo
          subst hvo
          go_wp2_with fail
          refine bodyPost_ret (v:=.tuple #[.slice va l.length vc,.int .i64 0]) (by simp[results,Try.results43,go_sem, *]) rfl ⟨HBW.out,.inr (.inr ⟨hn,by omega,va,vc,rfl,?_⟩)⟩
          rw[Int.toNat_natCast]
          exact HO.out
  · have HIN:Hid (∀W,Calls Try.prog 56 #[.int .i64 n,.int .i64 1,.int .i64 400] W (λe w'=>e = .returned (.bool false)/\W=w')):=λW=>by
      have:=in_any n 1 400 W
      rwa [inB_not hn] at this
    go_enter Try.func43,Try.ntmps43
    go_wp2_with (go_at_call 56;refine (HIN.out _).mono ?_;rintro e _ ⟨rfl,rfl⟩)
    refine bodyPost_ret (v:=.tuple #[.slice none 0 0,.int .i64 2]) (by simp[results,Try.results43,go_sem, *]) rfl ⟨Below.refl _ _,.inl ⟨hn,rfl⟩⟩
end Go.Proofs.Ytbeilcaadpopmab
namespace Go.Proofs.Ytbeilcaadpopmab
open Go.RowKit Go.Maps
set_option maxHeartbeats 1000000 in
set_option maxRecDepth 100000 in
theorem sameAnswers_same (a b:Value) (X:List AnsM) (w:World) (ha:Row w a X.length 7 (cellsAns X)) (hb:Row w b X.length 7 (cellsAns X)) :
    Calls Try.prog 44 #[a,b] w λe w'=>e = .returned (.bool true)/\Below w.heap.size w w':=by
  obtain⟨aa,ac,rfl,hac,hacm,_⟩:=Row.len ha
  obtain⟨ba,bc,rfl,hbc,hbcm,_⟩:=Row.len hb
  have hle:X.length<=140737488355328:=ha.2.1
  have HA:=Lib.hid ha;clear ha
  have HB:=Lib.hid hb;clear hb
  go_enter Try.func44,Try.ntmps44
  go_wp2
  go_loopw [5] (λi wr=>∃k:Nat,k<=X.length/\i = .int .i64 k/\Below w.heap.size w wr) (λi _=>X.length - (intOf i).toNat)
  case atStart=>exact⟨0,Nat.zero_le _,rfl,Below.refl _ _⟩
  case round =>
    obtain⟨k,hk,rfl,hbel⟩:=hrel
    by_cases hlt:k<X.length
    · obtain⟨ab,ao,rfl,_,c1⟩:=ansRow_at (HA.out.below (Nat.le_refl _) hbel) (by omega)
      obtain⟨bb,bo,rfl,_,c2⟩:=ansRow_at (HB.out.below (Nat.le_refl _) hbel) (by omega)
      obtain⟨c10,c11,c12,c13,c14,c15,c16⟩:=c1 k hlt
      obtain⟨c20,c21,c22,c23,c24,c25,c26⟩:=c2 k hlt
      clear c1 c2
      generalize X[k]=x at c10 c11 c12 c13 c14 c15 c16 c20 c21 c22 c23 c24 c25 c26
      go_wp2
      go_quiet (fail)
      go_wp2
      go_roundw
      case rel=>exact⟨k+1,by omega,by go_num,below_drewN hbel _⟩
      case measure=>simp[intOf];omega
    · go_wp2
      go_ret
      exact⟨rfl,hbel⟩
end Go.Proofs.Ytbeilcaadpopmab
namespace Go.Proofs.Ytbeilcaadpopmab
open Go.RowKit Go.Maps
set_option maxHeartbeats 4000000 in
set_option maxRecDepth 100000 in
theorem stmRuns_any (v:Value) (l:List ActM) (n:Int) (w:World) (h:Acts w v l):Calls Try.prog 12 #[.int .i64 n,v] w λe w'=>e = .returned (.bool true)/\Below w.heap.size w w':=by
  obtain⟨a,c,rfl,hc,hcm,_⟩:=h.len
  have hle:=h.le
  have HA:=Lib.hid h
  have HSC:Hid (∀W,Below w.heap.size w W->Calls Try.prog 43 #[.int .i64 n,.slice a l.length c] W (RetScr W n l)):=λW hW=>scriptOf_any n _ l W (HA.out.below (Nat.le_refl _) hW)
  clear h
  by_cases hok:(1<=n/\n<=400)/\l.length<=400
  · have HOK:=Lib.hid hok
    clear hok
    go_enter Try.func12,Try.ntmps12
    go_upto_region 2 with (first
      | (at_builtin;refine wpl_append_acts0 rfl _ _ rfl rfl _ l rfl HA.out ?_;intro v1 w1 hv1 hb1;have HV1:=Lib.hid hv1;have HB1:=Lib.hid hb1;clear hv1 hb1)
      | (go_at_call 42;refine (run_any n v1 l w1 HV1.out).mono ?_;rintro e w2 ⟨hb2,⟨h1,_⟩|⟨_,h1,_⟩|⟨_,_,aa,ac,ha,hc',t,xs,lp,rfl,hO,hI,hH,hlen,_⟩⟩;exact absurd HOK.out.1 h1;exact absurd h1 (by have:=HOK.out.2;omega);have HB2:=Lib.hid hb2;have HO:=Lib.hid hO;have HI:=Lib.hid hI;have HH:=Lib.hid hH;have HL:=Lib.hid hlen;clear hb2 hO hI hH hlen))
    obtain⟨X,hX⟩:∃X,X=w2.heap.size:=⟨_,rfl⟩
    obtain⟨w3,hw3⟩:∃w3,w3=w2.alloc (.cells #[.slice ha xs.length hc',.int .i64 (t:Int)] 25):=⟨_,rfl⟩
    have HR3:Hid (RowAt w3 X [.slice ha xs.length hc',.int .i64 (t:Int)]):=by rw[Hid,hw3,hX];exact RowAt.alloc _ _ _
    have HB3:Hid (Below w2.heap.size w2 w3):=by rw[Hid,hw3];exact (by ((repeat first|exact bR _ _|with_reducible first|refine bN ?_|refine bD ?_|refine bA ?_ ?_|refine bS ?_ ?_);all_goals first|exact Nat.le_refl _|(simp;done)|omega|(simp;omega)))
    have HB03:Hid (Below w.heap.size w w3):=(HB1.out.trans (HB2.out.mono HB1.out.size)).trans (HB3.out.mono (HB1.out.trans (HB2.out.mono HB1.out.size)).size)
    rw[<- hw3,<- hX]
    have hX3:X<w3.heap.size:=HR3.out.1
    clear hw3 hX
    have hxn:(xs.length:Int)=n:=by have:=HL.out;have:=HOK.out.1;omega
    have hl:l.length<=400:=HOK.out.2
    have HOK2:Hid (HeapOk xs (t:Int)):=⟨t,lp,rfl,HH.out⟩
    have c0:=(HR3.out.2 0 (by simp)).1
    have c1:=(HR3.out.2 1 (by simp)).1
    dsimp only [List.getElem_cons_zero,List.getElem_cons_succ] at c0 c1
    have HXN:=Lib.hid hxn
    clear hxn
    go_wp2_with (first
      | (go_at_call 43;refine (HSC.out _ HB03.out).mono ?_;rintro e w4 ⟨hb4,⟨h1,_⟩|⟨_,h1,_⟩|⟨_,_,ba,bc,rfl,hO4⟩⟩;exact absurd HOK.out.1 h1;exact absurd h1 (by omega);have HB4:=Lib.hid hb4;have HO4:=Lib.hid hO4;have d0:=(hb4.cell (p:=⟨X,0,none⟩) hX3).trans c0;have d1:=(hb4.cell (p:=⟨X,1,none⟩) hX3).trans c1;have hX4:=Nat.lt_of_lt_of_le hX3 hb4.size;clear hb4 hO4 c0 c1)
      | (go_at_call 44;refine (sameAnswers_same _ _ ((hall0 n.toNat).answers l) w4 ((HO.out.below HB3.out).below HB4.out).row HO4.out.row).mono ?_;rintro e w5 ⟨rfl,hb5⟩;have HB5:=Lib.hid hb5;have f0:=(hb5.cell (p:=⟨X,0,none⟩) hX4).trans d0;have f1:=(hb5.cell (p:=⟨X,1,none⟩) hX4).trans d1;have hX5:=Nat.lt_of_lt_of_le hX4 hb5.size;have hxn:=HXN.out;clear hb5 d0 d1)
      | (go_at_call 45;refine (may_any _ xs (t:Int) w5 (((HI.out.below HB3.out).below HB4.out).below HB5.out).ints).mono ?_;rintro e w6 ⟨hb6,⟨_,rfl⟩|⟨hno,_⟩⟩;rotate_left;exact absurd HOK2.out hno;have HB6:=Lib.hid hb6;have g0:=(hb6.cell (p:=⟨X,0,none⟩) hX5).trans f0;clear hb6 f0 f1))
    go_ret
    have h4:=HB03.out.trans (HB4.out.mono HB03.out.size)
    have h5:=h4.trans (HB5.out.mono h4.size)
    exact⟨rfl,h5.trans (HB6.out.mono h5.size)⟩
  · obtain⟨k,hk,hrun,hscr⟩:∃k:Int,(k != 0)=true/\Hid (∀w e w',RetRun w n l e w'->e = .returned (.tuple #[.slice none 0 0,.agg #[.slice none 0 0,.int .i64 0],.int .i64 k])/\Below w.heap.size w w')/\Hid (∀w e w',RetScr w n l e w'->e = .returned (.tuple #[.slice none 0 0,.int .i64 k])/\Below w.heap.size w w'):=by
      by_cases hn:1<=n/\n<=400
      · refine⟨1,by decide,?_,?_⟩ <;> (rintro w e w' ⟨hb,⟨h1,_⟩|⟨_,_,e1⟩|⟨_,h2,_⟩⟩;exact absurd hn h1;exact⟨e1,hb⟩;exact absurd ⟨hn,h2⟩ hok)
      · refine⟨2,by decide,?_,?_⟩ <;> (rintro w e w' ⟨hb,⟨_,e1⟩|⟨h1,_⟩|⟨h1,_⟩⟩;exact⟨e1,hb⟩;exact absurd h1 hn;exact absurd h1 hn)
    clear hok
    have HNIL:Hid (∀W,Row W (.slice none 0 0) ([]:List AnsM).length 7 (cellsAns [])):=λW=>⟨rfl,by simp,none,0,rfl,Nat.le_refl _,Nat.zero_le _,λ_=>rfl,λh=>absurd h (by simp)⟩
    go_enter Try.func12,Try.ntmps12
    go_upto_region 2 with (first
      | (at_builtin;refine wpl_append_acts0 rfl _ _ rfl rfl _ l rfl HA.out ?_;intro v1 w1 hv1 hb1;have HV1:=Lib.hid hv1;have HB1:=Lib.hid hb1;clear hv1 hb1)
      | (go_at_call 42;refine (run_any n v1 l w1 HV1.out).mono ?_;intro e w2 hr;obtain⟨rfl,hb2⟩:=hrun.out _ _ _ hr;have HB2:=Lib.hid hb2;clear hr hb2))
    obtain⟨X,hX⟩:∃X,X=w2.heap.size:=⟨_,rfl⟩
    obtain⟨w3,hw3⟩:∃w3,w3=w2.alloc (.cells #[.slice none 0 0,.int .i64 0] 25):=⟨_,rfl⟩
    have HR3:Hid (RowAt w3 X [.slice none 0 0,.int .i64 0]):=by rw[Hid,hw3,hX];exact RowAt.alloc _ _ _
    have HB3:Hid (Below w2.heap.size w2 w3):=by rw[Hid,hw3];exact (by ((repeat first|exact bR _ _|with_reducible first|refine bN ?_|refine bD ?_|refine bA ?_ ?_|refine bS ?_ ?_);all_goals first|exact Nat.le_refl _|(simp;done)|omega|(simp;omega)))
    have HB03:Hid (Below w.heap.size w w3):=(HB1.out.trans (HB2.out.mono HB1.out.size)).trans (HB3.out.mono (HB1.out.trans (HB2.out.mono HB1.out.size)).size)
    rw[<- hw3,<- hX]
    have hX3:X<w3.heap.size:=HR3.out.1
    clear hw3 hX
    have c0:=(HR3.out.2 0 (by simp)).1
    dsimp only [List.getElem_cons_zero,List.getElem_cons_succ] at c0
    go_wp2_with (first
      | (go_at_call 43;refine (HSC.out _ HB03.out).mono ?_;intro e w4 hr;obtain⟨rfl,hb4⟩:=hscr.out _ _ _ hr;have HB4:=Lib.hid hb4;have d0:=(hb4.cell (p:=⟨X,0,none⟩) hX3).trans c0;have hX4:=Nat.lt_of_lt_of_le hX3 hb4.size;clear hr hb4 c0)
      | (go_at_call 44;refine (sameAnswers_same _ _ [] w4 (HNIL.out _) (HNIL.out _)).mono ?_;rintro e w5 ⟨rfl,hb5⟩;have HB5:=Lib.hid hb5;have f0:=(hb5.cell (p:=⟨X,0,none⟩) hX4).trans d0;clear hb5 d0))
    go_ret
    have h4:=HB03.out.trans (HB4.out.mono HB03.out.size)
    exact⟨rfl,h4.trans (HB5.out.mono h4.size)⟩
end Go.Proofs.Ytbeilcaadpopmab
