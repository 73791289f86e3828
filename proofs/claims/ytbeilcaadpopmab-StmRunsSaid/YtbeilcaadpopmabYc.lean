/- Texts put together: Rx, Ee, Ak. -/
import Derived.Test.YtbeilcaadpopmabY6
import Derived.Test.YtbeilcaadpopmabYb
import Derived.Test.YtbeilcaadpopmabY7
import Derived.Test.YtbeilcaadpopmabY3
import Derived.Test.YtbeilcaadpopmabY1
import Derived.Outline
import Derived.Test.YtbeilcaadpopmabY8
set_option linter.unusedVariables false
set_option linter.unusedSimpArgs false
namespace Go.Proofs.Ytbeilcaadpopmab
section
variable {P:Program} {ops:Array Oper} {Q:Exit->Act->World->Prop} {md:Region.Mode} {S T:World->Prop} {N:List Nat}
def wpAnyN (P:Program) (md:Region.Mode) (ops:Array Oper) (Q:Exit->Act->World->Prop) (S T:World->Prop) (N:List Nat):Nat->Array Bool->Act->World->Prop
  | 0,listed,a,w=>Region.ready md ops listed=[]/\Q .normal a w
  | fuel+1,listed,a,w =>
    (Region.ready md ops listed=[]->Q .normal a w) /\
    ∀i ∈ Region.ready md ops listed,wpOp P ops Q i (λa' w'=>((i ∉ N->S w->S w')/\(T w->T w'))/\wpAnyN P md ops Q S T N fuel (listed.setIfInBounds i true) a' w') a w
theorem wpAny_of_N:∀(fuel:Nat) (listed:Array Bool) (a:Act) (w:World),wpAnyN P md ops Q S T N fuel listed a w->wpAny P md ops Q fuel listed a w
  | 0,_,_,_,h=>h
  | fuel+1,_,_,_,h=>⟨h.1,λi hi=>wpOp_mono (λa' w' h'=>wpAny_of_N fuel _ a' w' h'.2) (h.2 i hi)⟩
theorem wpAnyN_first {i:Nat} {oi:Oper} {v:Value} {U:World->Prop} (hi:ops[i]? = some oi) (hsel:∀(j:Nat) (o:Oper) cs b,ops[j]? = some o->o.op≠.select cs b)
    (hQ:∀c a w,Q (.panic c) (a.put oi.dst v) w->Q (.panic c) a w) (hT:(∀w,U w)\/(U=S/\∀n ∈ N,Region.waitsFor md ops n i=true)\/U=T) :
    ∀ (fuel : Nat) (listed : Array Bool) (a : Act) (w : World),
      (∀j oj,ops[j]? = some oj->j≠i->listed.getD j true=false->(∀e ∈ oj.after,Region.binds md e=true->e.on≠i)->oi.apart ops oj=true) ->
      i ∈ Region.ready md ops listed->YieldsIf P ops U oi v a->U w ->
      wpAnyN P md ops Q S T N fuel (listed.setIfInBounds i true) (a.put oi.dst v) w->wpAnyN P md ops Q S T N (fuel+1) listed a w:=by
  intro fuel
  induction fuel with
  | zero =>
    intro listed a w _ hr hy hS H
    refine⟨λh=>(by rw[h] at hr;cases hr),λj hj=>?_⟩
    by_cases hji:j=i
    · subst hji;exact hy.wpOp hi hS ⟨⟨λ_ h=>h,λh=>h⟩,H⟩
    · have:=ready_mono hj hji
      rw[H.1] at this
      cases this
  | succ fuel ih =>
    intro listed a w hfree hr hy hS H
    refine⟨λh=>(by rw[h] at hr;cases hr),λj hj=>?_⟩
    by_cases hji:j=i
    · subst hji;exact hy.wpOp hi hS ⟨⟨λ_ h=>h,λh=>h⟩,H⟩
    · have h1:=H.2 j (ready_mono hj hji)
      obtain⟨hjun,oj,hoj,hall⟩:=mem_ready.1 hj
      have hnot:∀e ∈ oj.after,Region.binds md e=true->e.on≠i:=λe he hb heq=>by
        have h1:=hall e he hb
        have h0:=(mem_ready.1 hr).1
        rw[heq] at h1
        rcases Nat.lt_or_ge i listed.size with h'|h'
        · simp[h'] at h0 h1;rw[h0] at h1;cases h1
        · simp[Array.getElem?_eq_none h'] at h1
      have hjT:∀w',(j ∉ N->S w->S w')/\(T w->T w')->U w':=λw' hw=>by
        rcases hT with hT|⟨rfl,hT⟩|rfl
        · exact hT w'
        · refine hw.1 (λe=>?_) hS
          obtain⟨on,hon,e',he',hb,hei⟩:=Region.waitsFor_spec (hT j e)
          have:on=oj:=Option.some.inj (hon.symm.trans hoj)
          subst this
          exact hnot e' he' hb hei
        · exact hw.2 hS
      have h2:=wpOp_putIf hoj (hfree j oj hoj hji hjun hnot) (λcs b=>hsel i oi cs b hi) (λcs b=>hsel j oj cs b hoj) hQ hy h1
      have hfree':∀k ok,ops[k]? = some ok->k≠i->(listed.setIfInBounds j true).getD k true=false ->
          (∀e ∈ ok.after,Region.binds md e=true->e.on≠i)->oi.apart ops ok=true:=λk ok hk hki hun hno=>by
        refine hfree k ok hk hki ?_ hno
        by_cases hjk:j=k
        · subst hjk;exact hjun
        · rw[getD_set_ne true hjk] at hun;exact hun
      refine wpOp_mono (λa' w' h3=>⟨h3.2.1,ih (listed.setIfInBounds j true) a' w' hfree' (ready_mono hr (Ne.symm hji)) h3.1 (hjT w' h3.2.1) ?_⟩) h2
      rw[Array.setIfInBounds_comm _ _ hji]
      exact h3.2.2
theorem wpAnyN_take (i:Nat) {oi:Oper} {v:Value} {fuel:Nat} {listed:Array Bool} {a:Act} {w:World} (hi:ops[i]? = some oi)
    (hs:Region.noSelect ops=true) (hf:Region.free md ops listed i=true) (hr:(Region.ready md ops listed).contains i=true) (hN:N.all (λn=>Region.waitsFor md ops n i)=true)
    (hQ:∀c a w,Q (.panic c) (a.put oi.dst v) w->Q (.panic c) a w) (hS:S w) (hy:YieldsIf P ops S oi v a)
    (h:wpAnyN P md ops Q S T N fuel (listed.setIfInBounds i true) (a.put oi.dst v) w):wpAnyN P md ops Q S T N (fuel+1) listed a w :=
  wpAnyN_first (U:=S) hi (Region.noSelect_spec hs) hQ (.inr (.inl ⟨rfl,λn hn=>by simpa using List.all_eq_true.1 hN n hn⟩)) fuel listed a w (Region.free_spec hi hf) (by simpa using hr) hy hS h
theorem wpAnyN_takeT (i:Nat) {oi:Oper} {v:Value} {fuel:Nat} {listed:Array Bool} {a:Act} {w:World} (hi:ops[i]? = some oi)
    (hs:Region.noSelect ops=true) (hf:Region.free md ops listed i=true) (hr:(Region.ready md ops listed).contains i=true)
    (hQ:∀c a w,Q (.panic c) (a.put oi.dst v) w->Q (.panic c) a w) (hS:T w) (hy:YieldsIf P ops T oi v a)
    (h:wpAnyN P md ops Q S T N fuel (listed.setIfInBounds i true) (a.put oi.dst v) w):wpAnyN P md ops Q S T N (fuel+1) listed a w :=
  wpAnyN_first (U:=T) hi (Region.noSelect_spec hs) hQ (.inr (.inr rfl)) fuel listed a w (Region.free_spec hi hf) (by simpa using hr) hy hS h
theorem wpAnyN_pure (i:Nat) {oi:Oper} {v:Value} {fuel:Nat} {listed:Array Bool} {a:Act} {w:World} (hi:ops[i]? = some oi)
    (hs:Region.noSelect ops=true) (hf:Region.free md ops listed i=true) (hr:(Region.ready md ops listed).contains i=true)
    (hQ:∀c a w,Q (.panic c) (a.put oi.dst v) w->Q (.panic c) a w) (hy:YieldsIf P ops (λ_=>True) oi v a)
    (h:wpAnyN P md ops Q S T N fuel (listed.setIfInBounds i true) (a.put oi.dst v) w):wpAnyN P md ops Q S T N (fuel+1) listed a w :=
  wpAnyN_first (U:=λ_=>True) hi (Region.noSelect_spec hs) hQ (.inl λ_=>trivial) fuel listed a w (Region.free_spec hi hf) (by simpa using hr) hy trivial h
theorem wpAnyN_one (i:Nat) {o:Oper} {fuel:Nat} {listed:Array Bool} {a:Act} {w:World} (hi:ops[i]? = some o) (hr:Region.ready md ops listed=[i])
    (h:∀K:Act->World->Prop,Go.Shut (∀a' w',((i ∉ N->S w->S w')/\(T w->T w'))->(((i ∉ N->S w->S w')/\(T w->T w'))->wpAnyN P md ops Q S T N fuel (listed.setIfInBounds i true) a' w')->K a' w') ->
      (if Region.wanted o (yielded ops a.tmps) then o.wp P a w K Q else K (a.put o.dst undef) w)):wpAnyN P md ops Q S T N (fuel+1) listed a w:=by
  refine⟨λh0=>(by rw[hr] at h0;cases h0),λj hj=>?_⟩
  rw[hr,List.mem_singleton] at hj
  subst hj
  have h2:=h (λa' w'=>((j ∉ N->S w->S w')/\(T w->T w'))/\wpAnyN P md ops Q S T N fuel (listed.setIfInBounds j true) a' w') (λa' w' h1 h3=>⟨h1,h3 h1⟩)
  unfold wpOp
  rw[hi]
  simp only
  split
  · rename_i hw;rw[if_pos hw] at h2;exact .inl h2
  · rename_i hw;rw[if_neg hw] at h2;exact h2
theorem wpAnyN_done {listed:Array Bool} {a:Act} {w:World} (hr:Region.ready md ops listed=[]) (h:Q .normal a w) :
    ∀fuel,wpAnyN P md ops Q S T N fuel listed a w
  | 0=>⟨hr,h⟩
  | _+1=>⟨λ_=>h,by rw[hr];simp⟩
theorem wp_region_N {id:Nat} {a:Act} {w w2:World} (N:List Nat) (S T:World->Prop) (hm:P.follows .mixedOrders=true) (hw:w2=w.drew)
    (h:wpAnyN P .any ops Q S T N ops.size (Array.replicate ops.size false) a w2):(Code.region id ops true).wp P Q a w:=by
  subst hw
  exact wp_region_any hm (wpAny_of_N _ _ _ _ h)
end
end Go.Proofs.Ytbeilcaadpopmab
namespace Go.Proofs.Ytbeilcaadpopmab
open Go.RowKit Go.Maps
structure StepOk (M:CM) (n:Int) (l:List Nat):Prop where
  heap:HeapIs M.xs M.top l
  gray:∀x ∈ M.gray,∃q ∈ l,x=(q:Int)
  few:M.S.length<=1000/\M.gray.length<=1000
  vals:∀p:Pos,p.ok M->I64 (M.at p).1/\I64 (M.at p).2
  und:∀t,t<4->∀u ∈ (M.txs t).undo,u.p<1000
  ends:∀S,lookF M.xs n.toNat (M.gray,M.S)=([],S)->(∃L,outW M.xs (mvs M.xs (endKs l S) 1) (endKs l S)=some L) /\
    ∀t,t<4->(∀p v,(M.txs t).reads p=some v->∃k ∈ endKs l S,p=(k:Int))/\(∀p v,(M.txs t).owned p=some v->∃k ∈ endKs l S,p=(k:Int))
def StepR (M:CM) (n:Int) (l:List Nat) (r c:Int) (M':CM):Prop :=
  (¬ (1<=n/\n<=400)/\r=0/\c=2/\M' = M)\/((1<=n/\n<=400)/\M.going=false/\r=0/\c=5/\M' = M) \/
  ((1<=n/\n<=400)/\M.going=true/\∃g S,lookF M.xs n.toNat (M.gray,M.S)=(g,S)/\g≠[]/\r=0/\c=0/\M' = { M with gray:=g,S:=S }) \/
  ((1<=n/\n<=400)/\M.going=true/\∃S L,lookF M.xs n.toNat (M.gray,M.S)=([],S)/\outW M.xs (mvs M.xs (endKs l S) 1) (endKs l S)=some L/\r=(M.top:Int) - (topOf M.xs (endKs l S) 1:Nat)/\c=0/\M' = ({ M with gray:=[],S:=S }:CM).closed (endKs l S) L)
def RetN (base:Nat) (w:World) (B:Nat) (nm:Nm) (P:Int->Int->CM->Prop) (e:Ending) (w':World):Prop:=∃(r c:Int) (M':CM),P r c M'/\e = .returned (.tuple #[.int .i64 r,.int .i64 c])/\∃nm',Mach base w' B nm' M'/\Went 0 w w' B nm nm'
theorem Chg.setNew {X:Nat->Prop} {w W:World} {a:Addr} (ha:w.heap.size<=a.block) (h:Chg X w W) (v:Value):Chg X w (W.setCell a v) :=
  ⟨h.os,h.tape,h.output,by simp[World.setCell];exact h.size,λk hk hx=>(Below.heap_setCell _ _ _ _ (λe=>by omega)).trans (h.block k hk hx)⟩
structure FactsZ (LB:Nat->Prop) (w4:World) (n:Nat) (ys:List Int) (ms:List (Nat × Nat)) (tp Z:Nat) (oa:Option Addr) (oc:Nat) (ma:Option Addr) (mc:Nat) (W:World):Prop where
  c0:W.cell? ⟨Z,0,none⟩=some (.slice oa n oc)
  c1:W.cell? ⟨Z,1,none⟩=some (.int .i64 (tp:Int))
  zlo:w4.heap.size<=Z
  zlt:Z<W.heap.size
  ov:OwnInts W w4.heap.size (.slice oa n oc) ys
  mv:OwnMoves W w4.heap.size (.slice ma ms.length mc) ms
  chg:Chg LB w4 W
  oz:Value.ownBlock (.slice oa n oc)≠some Z
  mz:Value.ownBlock (.slice ma ms.length mc)≠some Z
theorem FactsZ.alloc {LB:Nat->Prop} {w4 w7:World} {n base tp:Nat} {ys:List Int} {ms:List (Nat × Nat)} {oa:Option Addr} {oc:Nat} {ma:Option Addr} {mc:Nat} (T:TypeId) (ho:OwnInts w7 base (.slice oa n oc) ys) (hm:OwnMoves w7 base (.slice ma ms.length mc) ms)
    (hb:w4.heap.size<=base) (hc:Chg LB w4 w7):FactsZ LB w4 n ys ms tp w7.heap.size oa oc ma mc (w7.alloc (.cells #[.slice oa n oc,.int .i64 (tp:Int)] T)):=by
  have hB:Below w7.heap.size w7 (w7.alloc (.cells #[.slice oa n oc,.int .i64 (tp:Int)] T)):=(by ((repeat first|exact bR _ _|with_reducible first|refine bN ?_|refine bD ?_|refine bA ?_ ?_|refine bS ?_ ?_);all_goals first|exact Nat.le_refl _|(simp;done)|omega|(simp;omega)))
  exact⟨by simp,by simp,hc.size,by simp,(ho.mono hb).below hB,(hm.mono hb).below hB,hc.trans (Chg.alloc _ _ _),λe=>by have:=(ho.lt e).2;omega,λe=>by have:=(hm.lt e).2;omega⟩
theorem FactsZ.set {LB:Nat->Prop} {w4 w7:World} {n base tp Z:Nat} {ys:List Int} {ms:List (Nat × Nat)} {oa:Option Addr} {oc:Nat} {ma:Option Addr} {mc:Nat} {x y:Value} (c0:w7.cell? ⟨Z,0,none⟩=some x) (c1:w7.cell? ⟨Z,1,none⟩=some y) (ho:OwnInts w7 base (.slice oa n oc) ys) (hm:OwnMoves w7 base (.slice ma ms.length mc) ms)
    (hz:w4.heap.size<=Z) (hb:Z<base) (hc:Chg LB w4 w7):FactsZ LB w4 n ys ms tp Z oa oc ma mc ((w7.setCell ⟨Z,0,none⟩ (.slice oa n oc)).setCell ⟨Z,1,none⟩ (.int .i64 (tp:Int))):=by
  have hoz:Value.ownBlock (.slice oa n oc)≠some Z:=λe=>by have:=(ho.lt e).1;omega
  have hmz:Value.ownBlock (.slice ma ms.length mc)≠some Z:=λe=>by have:=(hm.lt e).1;omega
  have hd:(w7.setCell ⟨Z,0,none⟩ (.slice oa n oc)).cell? ⟨Z,1,none⟩=some y:=by rw[World.cell?_setCell_other _ _ _ _ (by simp)];exact c1
  have hlt:=World.block_lt_of_cell? w7 _ c0
  refine⟨?_,World.cell?_setCell_same _ _ _ hd,hz,by simpa [World.setCell] using hlt,?_,?_,Chg.setNew (a:=⟨Z,1,none⟩) hz (Chg.setNew (a:=⟨Z,0,none⟩) hz hc _) _,hoz,hmz⟩
  · rw[World.cell?_setCell_other _ _ _ _ (by simp)];exact World.cell?_setCell_same _ _ _ c0
  · exact ((ho.setBelow (a:=⟨Z,0,none⟩) hb _).setBelow (a:=⟨Z,1,none⟩) hb _).mono (by omega)
  · exact ((hm.setFar (a:=⟨Z,0,none⟩) hmz _).setFar (a:=⟨Z,1,none⟩) hmz _).mono (by omega)
set_option maxRecDepth 100000 in
set_option maxHeartbeats 4000000 in
theorem step_any (base:Nat) (w:World) (B:Nat) (nm:Nm) (M:CM) (h:Mach base w B nm M) (hN0:nm.N<900000) (n:Int) (hn:I64 n) (l:List Nat) (ok:M.going=true->1<=n->n<=400->StepOk M n l) :
    Calls Try.prog 82 #[.pointer (some ⟨B,0,none⟩),.int .i64 n] w (RetN base w B nm (StepR M n l)):=by
  have HM:=Lib.hid h;have HOK:=Lib.hid ok;have HN0:=Lib.hid hN0
  clear hN0
  have hB:=h.lt
  have c82:=h.c82
  obtain⟨PA,hPA⟩:∃PA,PA=StepR M n l:=⟨_,rfl⟩
  rw[<- hPA]
  have HPA:=Lib.hid hPA
  clear h ok hPA
  by_cases h1:n<1
  · have h1b:decide (n<1)=true:=by simpa using h1
    go_enter Try.func82,Try.ntmps82
    go_wp2_with fail
    refine bodyPost_ret (v:=.tuple #[.int .i64 0,.int .i64 2]) (by simp[results,Try.results82,go_sem, *]) rfl ?_
    refine⟨0,2,M,?_,rfl,nm,HM.out.below (by ((repeat first|exact bR _ _|with_reducible first|refine bN ?_|refine bD ?_|refine bA ?_ ?_|refine bS ?_ ?_);all_goals first|exact Nat.le_refl _|(simp;done)|omega|(simp;omega))),(Went.refl w B nm).below (by ((repeat first|exact bR _ _|with_reducible first|refine bN ?_|refine bD ?_|refine bA ?_ ?_|refine bS ?_ ?_);all_goals first|exact Nat.le_refl _|(simp;done)|omega|(simp;omega))) HM.out.has_lt⟩
    rw[HPA.out]
    exact .inl ⟨by omega,rfl,rfl,rfl⟩
  by_cases h2:400<n
  · go_enter Try.func82,Try.ntmps82
    go_wp2_with fail
    refine bodyPost_ret (v:=.tuple #[.int .i64 0,.int .i64 2]) (by simp[results,Try.results82,go_sem, *]) rfl ?_
    refine⟨0,2,M,?_,rfl,nm,HM.out.below (by ((repeat first|exact bR _ _|with_reducible first|refine bN ?_|refine bD ?_|refine bA ?_ ?_|refine bS ?_ ?_);all_goals first|exact Nat.le_refl _|(simp;done)|omega|(simp;omega))),(Went.refl w B nm).below (by ((repeat first|exact bR _ _|with_reducible first|refine bN ?_|refine bD ?_|refine bA ?_ ?_|refine bS ?_ ?_);all_goals first|exact Nat.le_refl _|(simp;done)|omega|(simp;omega))) HM.out.has_lt⟩
    rw[HPA.out]
    exact .inl ⟨by omega,rfl,rfl,rfl⟩
  have HNN:Hid (1<=n/\n<=400):=by rw[Hid];omega
  by_cases hg:M.going=true
  · have HG:=Lib.hid hg
    have HO:=Lib.hid (HOK.out hg HNN.out.1 HNN.out.2)
    rw[hg] at c82
    clear hg HOK
    obtain⟨m,rfl⟩:∃m:Nat,n=(m:Int):=⟨n.toNat,by omega⟩
    go_enter Try.func82,Try.ntmps82
    go_upto_region 5 with fail
    obtain⟨X,hX⟩:∃X,X=w.heap.size:=⟨_,rfl⟩
    obtain⟨w1,hw1⟩:∃w1,w1=w.alloc (.cells #[.pointer (some ⟨B,0,none⟩)] 108):=⟨_,rfl⟩
    have HB1:Hid (Below w.heap.size w w1):=by rw[Hid,hw1];exact (by ((repeat first|exact bR _ _|with_reducible first|refine bN ?_|refine bD ?_|refine bA ?_ ?_|refine bS ?_ ?_);all_goals first|exact Nat.le_refl _|(simp;done)|omega|(simp;omega)))
    have HR:Hid (RowAt w1 X [.pointer (some ⟨B,0,none⟩)]):=by rw[Hid,hw1,hX];exact RowAt.alloc _ _ _
    have HM1:=Lib.hid (HM.out.below HB1.out)
    have HX:=Lib.hid hX
    rw[<- hw1]
    clear hw1 c82
    rw[<- hX]
    clear hX
    have HNH:Hid (∀k,Has B nm k->k<X):=λk hk=>by have:=HM.out.has_lt k hk;have:=HX.out;omega
    have HXC:Hid (∀W nm',Went 0 w1 W B nm nm'->W.cell? ⟨X,0,none⟩=some (.pointer (some ⟨B,0,none⟩))/\X<W.heap.size):=λW nm' hW =>
      ⟨(hW.cell HR.out.1 (λhn=>by have:=HNH.out _ hn;omega) 0).1.trans (HR.out.2 0 (by simp)).1,Nat.lt_of_lt_of_le HR.out.1 hW.chg.size⟩
    obtain⟨w2,hw2⟩:∃w2,w2=w1.drew:=⟨_,rfl⟩
    have HB2:Hid (Below w1.heap.size w1 w2):=by rw[Hid,hw2];exact (Below.refl _ _).drew
    have HM2:=Lib.hid (HM1.out.below HB2.out)
    have HW2:=Lib.hid ((Went.refl w1 B nm).below HB2.out HM1.out.has_lt)
    obtain⟨ha,hc,hhv⟩:∃a c,nm.hv = .slice a M.xs.length c:=(HM2.out.part .words trivial).shape
    have HHV:=Lib.hid hhv
    have x2:=(HXC.out _ _ HW2.out).1
    have d0:=HM2.out.c0
    have d1:=HM2.out.c1
    have hB2:=HM2.out.lt
    rw[hhv] at d0
    clear hhv
    refine still_tail_at 8 (by kernel_rfl) (by kernel_rfl) hw2 ?_;simp only [List.take_succ_cons,List.take_zero,List.drop_succ_cons,List.drop_zero];clear hw2;(repeat still_step);refine wpStill_nil ?_
    obtain⟨b,hb,hmk⟩:=HM2.out.marker HG.out
    have HMK:=Lib.hid hmk;have HBB:=Lib.hid hb
    have HHI:Hid (Ints w2 (.slice ha M.xs.length hc) M.xs):=by rw[Hid,<- HHV.out];exact (HM2.out.part .words trivial).ints
    have hs1:Value.ownBlock (.slice ha M.xs.length hc)≠some B:=λe=>by have:=HM2.out.apart .words .box B trivial trivial (by show nm.hv.ownBlock=_;rw[HHV.out];exact e) rfl;cases this
    have hs2:Value.ownBlock (.slice ha M.xs.length hc)≠some b:=λe=>by have:=HM2.out.apart .words .mark b trivial trivial (by show nm.hv.ownBlock=_;rw[HHV.out];exact e) hb;cases this
    have hs3:∀k,Value.ownBlock (.slice ha M.xs.length hc)=some k->nm.gv.ownBlock≠some k:=λk e e2=>by have:=HM2.out.apart .words .gray k trivial trivial (by show nm.hv.ownBlock=_;rw[HHV.out];exact e) e2;cases this
    have HS1:=Lib.hid hs1;have HS2:=Lib.hid hs2;have HS3:=Lib.hid hs3
    clear hmk hb hs1 hs2 hs3 d0 d1
    go_upto_region 6 with (go_at_call 61;refine (look_any (cut w2 base) w2 B 83 b base nm.gv (.slice ha M.xs.length hc) M.xs M.gray M.S M.top m l HMK.out HHI.out HO.out.heap HO.out.gray (by have:=HNN.out;omega) HO.out.few.1 HO.out.few.2 HS1.out HS2.out HS3.out).mono ?_;rintro e w3 ⟨rfl,gv3,hM3,hT3⟩;have HK3:=Lib.hid hM3;have HT3:=Lib.hid hT3;clear hM3 hT3)
    obtain⟨q1,q2⟩:=HM2.out.turned HBB.out HK3.out HT3.out
    obtain⟨g,S3,hgs⟩:∃g S,lookF M.xs m (M.gray,M.S)=(g,S):=⟨_,_,rfl⟩
    rw[hgs] at q1
    have HGS:Hid (lookF M.xs ((m:Int)).toNat (M.gray,M.S)=(g,S3)):=hgs
    obtain⟨nm3,hnm3⟩:∃nm3:Nm,nm3={ nm with gv:=gv3 }:=⟨_,rfl⟩
    rw[<- hnm3] at q1 q2
    have HM3:Hid (Mach base w3 B nm3 { M with gray:=g,S:=S3 }):=q1
    have HW3:=Lib.hid (HW2.out.trans q2)
    have HH3:Hid (nm3.hv = .slice ha M.xs.length hc):=by rw[Hid,hnm3];exact HHV.out
    clear q1 q2 hgs hnm3 HK3 HT3 HMK HM2 HHI x2
    have x3:=(HXC.out _ _ HW3.out).1
    have hB3:=HM3.out.lt
    obtain⟨ga,gc,hgv⟩:∃a c,nm3.gv = .slice a g.length c:=(HM3.out.part .gray trivial).shape
    have c83:=(HM3.out.box 83 (by omega)).1
    rw[show cellOf nm3 { M with gray:=g,S:=S3 } 83=nm3.gv from rfl,hgv] at c83
    have HGV:=Lib.hid hgv
    clear hgv
    by_cases hg0:g=[]
    · subst hg0
      rw[List.length_nil] at c83
      have d0:=HM3.out.c0
      have d1:=HM3.out.c1
      rw[HH3.out] at d0
      have HI3:Hid (Ints w3 (.slice ha M.xs.length hc) M.xs):=by
        have:=HM3.out.part .words trivial
        rw[Hid,<- HH3.out];exact this.ints
      go_upto_region 11 with (go_at_call 18;refine (Places_any (.slice ha M.xs.length hc) M.xs M.top w3 HI3.out).mono ?_;rintro e w4 ⟨hb4,⟨t',l',la,lc,ht',hl',rfl,hv4⟩|⟨hno,_⟩⟩;rotate_left;exact absurd ⟨_,_,rfl,HO.out.heap⟩ hno;obtain rfl:=Int.ofNat_inj.1 ht';obtain rfl:=HO.out.heap.uniq hl';have HB4:=Lib.hid hb4;have HV4:=Lib.hid hv4;clear hb4 hv4 ht' hl')
      clear d0 d1 x3 c83 hB3
      have HM4:=Lib.hid (HM3.out.below HB4.out)
      have HW4:=Lib.hid (HW3.out.below HB4.out HM3.out.has_lt)
      obtain⟨ks,hks⟩:∃ks,ks=endKs l S3:=⟨_,rfl⟩
      have HKS:=Lib.hid hks
      obtain⟨⟨L,hL⟩,hent⟩:=HO.out.ends S3 HGS.out
      rw[<- hks] at hL hent
      have HL:=Lib.hid hL;have HENT:=Lib.hid hent
      have HKI:Hid (KeepIs l ks):=by rw[Hid,hks];exact endKs_keep HO.out.heap S3
      clear hks hL hent
      obtain⟨ms,hms⟩:∃ms,ms=mvs M.xs ks 1:=⟨_,rfl⟩
      have HMS:=Lib.hid hms
      obtain⟨tp,htp⟩:∃tp,tp=topOf M.xs ks 1:=⟨_,rfl⟩
      have HTP:=Lib.hid htp
      clear hms htp
      obtain⟨LB,hLB⟩:∃LB:Nat->Prop,LB=λk=>Value.ownBlock (.slice la l.length lc)=some k:=⟨_,rfl⟩
      have HLB:=Lib.hid hLB
      have hlalen:(intsOf l).length=l.length:=by simp[intsOf]
      have HLN:Hid (∀k,LB k->w3.heap.size<=k):=λk hk=>by rw[hLB] at hk;exact (HV4.out.lt hk).1
      clear hLB hlalen
      have d0:=HM4.out.c0
      have d1:=HM4.out.c1
      rw[HH3.out] at d0
      have x4:=(HXC.out _ _ HW4.out).1
      have hB4:=HM4.out.lt
      have HLZ:Hid (¬ LB w4.heap.size):=λhk=>by rw[HLB.out] at hk;have:=(HV4.out.lt hk).2;omega
      have HNB:Hid (∀k,LB k->¬ Has B nm3 k):=λk hk hn=>by have:=HM3.out.has_lt k hn;have:=HLN.out k hk;omega
      have HXL:Hid (X<w4.heap.size/\¬ LB X):=⟨(HXC.out _ _ HW4.out).2,λhk=>by have:=HLN.out X hk;have:=(HXC.out _ _ HW3.out).2;omega⟩
      have HBL:Hid (¬ LB B):=λhk=>HNB.out B hk ⟨.box,trivial,rfl⟩
      have HKEEP:Hid (∀W,Chg LB w4 W->W.cell? ⟨X,0,none⟩=some (.pointer (some ⟨B,0,none⟩))/\W.cell? ⟨B,0,none⟩=some (.slice ha M.xs.length hc)/\W.cell? ⟨B,1,none⟩=some (.int .i64 (M.top:Int))/\Chg LB w4 W):=λW hW =>
        ⟨(hW.cell HXL.out.1 HXL.out.2 0).1.trans x4,(hW.cell hB4 HBL.out 0).1.trans d0,(hW.cell hB4 HBL.out 1).1.trans d1,hW⟩
      have HMW:Hid (∀W,Chg LB w4 W->Mach base W B nm3 { M with gray:=[],S:=S3 }):=λW hW=>HM4.out.other (hW.mono λk _ hk=>HNB.out k hk)
      have hfil:(intsOf l).filter (λx=>!(!decide (x ∈ S3)))=intsOf ks:=by
        rw[HKS.out]
        unfold endKs intsOf
        rw[List.filter_map]
        congr 1
        refine List.filter_congr λx _=>?_
        simp[Function.comp]
      have HDEL:Hid (∀W,Below w4.heap.size w4 W->Calls Try.prog 62 #[.slice la l.length lc,.func (.func 99) #[] #[.pointer (some ⟨X,0,none⟩)]] W (λe w'=>∃dv,e = .returned dv/\Ints w' dv (intsOf ks)/\Chg LB W w')):=by
        intro W hW
        have hWC:=Chg.ofBelow LB hW
        have:=deleteFunc_any 99 #[.pointer (some ⟨X,0,none⟩)] (λ_ _=>by kernel_rfl) (λx=>!decide (x ∈ S3)) w3.heap.size (.slice la l.length lc) (intsOf l) W (HV4.out.below hW) (λw' x hg hx=>by
          have hC:=hWC.trans (Chg.ofGrown LB hg λi e=>by rw[HLB.out];exact e)
          obtain⟨q,hq,rfl⟩:=List.mem_map.1 hx
          have hqb:q<=400:=by
            obtain⟨_,_,_,h4⟩:=places_obj HO.out.heap.2.2.2.1 q hq
            have:=HO.out.heap.1;have:=HO.out.heap.2.2.1
            omega
          exact step1_any base w' B nm3 { M with gray:=[],S:=S3 } (HMW.out w' hC) HG.out X (HKEEP.out w' hC).1 (q:Int) (by unfold I64;omega))
        refine this.mono λe w' hr=>?_
        obtain⟨v',rfl,hv,hg,_⟩:=hr
        rw[hfil] at hv
        exact⟨v',rfl,hv.ints,Chg.ofGrown LB hg λi e=>by rw[HLB.out];exact e⟩
      have HCOMP:Hid (∀W dv,Chg LB w4 W->Ints W dv (intsOf ks)->Calls Try.prog 27 #[.agg #[.slice ha M.xs.length hc,.int .i64 (M.top:Int)],dv] W (λe w'=>∃oa oc ma mc,e = .returned (.tuple #[.agg #[.slice oa M.xs.length oc,.int .i64 (tp:Int)],.slice ma ms.length mc,.int .i64 0])/\Below W.heap.size W w' /\
          OwnInts w' W.heap.size (.slice oa M.xs.length oc) (padTo M.xs.length (0 :: L))/\OwnMoves w' W.heap.size (.slice ma ms.length mc) ms)):=by
        intro W dv hW hdv
        have hints:Ints W (.slice ha M.xs.length hc) M.xs:=by
          have:=(HMW.out W hW).part .words trivial
          rw[<- HH3.out];exact this.ints
        refine (compact_any (.slice ha M.xs.length hc) dv M.xs (intsOf ks) M.top W hints hdv).mono λe w' hr=>?_
        obtain⟨hb,ov,mv,rfl,h1,h2⟩:=hr.good HO.out.heap HKI.out HL.out
        rw[<- HMS.out] at h2
        obtain⟨oa,oc,rfl⟩:=h1.shape
        obtain⟨ma,mc,rfl,_,_⟩:=h2.shape
        have hlen:(padTo M.xs.length (0 :: L)).length=M.xs.length:=padTo_len (by
          have:=outW_len ks L 1 (λp hp=>fields_len HO.out.heap p (HKI.out.1 p hp)) HL.out
          have:=keep_top HO.out.heap HKI.out
          have:=HO.out.heap.2.2.1
          simp only [List.length_cons]
          omega)
        rw[hlen] at h1 ⊢
        rw[<- HTP.out]
        exact⟨oa,oc,ma,mc,rfl,hb,h1,h2⟩
      refine Code.wp_mono (Q:=λe a W=>e = .normal/\∃(Z:Nat) (dv:Value) (oa:Option Addr) (oc:Nat) (ma:Option Addr) (mc:Nat),FactsZ LB w4 M.xs.length (padTo M.xs.length (0 :: L)) ms tp Z oa oc ma mc W/\a={ tmps:=#[Value.pointer (some ⟨B,0,none⟩),Value.int .i64 (m:Int),Value.pointer (some ⟨X,0,none⟩),undef,Value.int .i64 0,Value.int .i64 0,Value.slice la l.length lc,Value.int .i64 0,Value.pointer (some ⟨Z,0,none⟩),Value.slice ma ms.length mc,undef,undef,undef,undef,undef,undef,undef,Value.bool false,Value.int .i64 (m:Int),Value.bool false,Value.bool false,Value.int .i64 (m:Int),Value.bool false,Value.bool false,Value.bool false,Value.pointer (some ⟨B,0,none⟩),Value.pointer (some ⟨B,0,none⟩),Value.pointer (some ⟨B,82,none⟩),Value.bool true,Value.bool false,Value.pointer (some ⟨B,0,none⟩),Value.pointer (some ⟨B,0,none⟩),Value.pointer (some ⟨B,83,none⟩),Value.pointer (some ⟨B,0,none⟩),Value.pointer (some ⟨B,0,none⟩),Value.pointer (some ⟨B,0,none⟩),Value.agg #[Value.slice ha M.xs.length hc,Value.int .i64 (M.top:Int)],Value.int .i64 (m:Int),Value.tuple #[],Value.pointer (some ⟨B,0,none⟩),Value.pointer (some ⟨B,0,none⟩),Value.pointer (some ⟨B,83,none⟩),Value.pointer (some ⟨B,83,none⟩),Value.slice ga 0 gc,Value.int .i64 0,Value.bool false,Value.tuple #[Value.slice la l.length lc,Value.int .i64 0],Value.pointer (some ⟨B,0,none⟩),Value.pointer (some ⟨B,0,none⟩),Value.pointer (some ⟨B,0,none⟩),Value.agg #[Value.slice ha M.xs.length hc,Value.int .i64 (M.top:Int)],Value.tuple #[Value.slice la l.length lc,Value.int .i64 0],Value.slice la l.length lc,Value.int .i64 0,Value.int .i64 0,Value.bool false,undef,Value.tuple #[Value.agg #[Value.slice oa M.xs.length oc,Value.int .i64 (tp:Int)],Value.slice ma ms.length mc,Value.int .i64 0],Value.pointer (some ⟨B,0,none⟩),Value.pointer (some ⟨B,0,none⟩),Value.pointer (some ⟨B,0,none⟩),Value.agg #[Value.slice ha M.xs.length hc,Value.int .i64 (M.top:Int)],Value.slice la l.length lc,Value.func (Fn.func 99) #[] #[Value.pointer (some ⟨X,0,none⟩)],dv,Value.tuple #[Value.agg #[Value.slice oa M.xs.length oc,Value.int .i64 (tp:Int)],Value.slice ma ms.length mc,Value.int .i64 0],Value.agg #[Value.slice oa M.xs.length oc,Value.int .i64 (tp:Int)],Value.slice ma ms.length mc,Value.int .i64 0,undef,undef,undef,undef,undef,undef,undef,undef,undef,undef,undef,undef,undef,undef,undef,undef,undef,undef,undef,undef,undef,undef,undef,undef,undef,undef,undef,undef,undef,undef,undef,undef,undef,undef,undef,undef,undef,undef,undef,undef,undef,undef,undef,undef,undef,undef,undef,undef,undef,undef,undef,undef,undef,undef,undef,undef,undef,undef,undef,undef,undef,undef,undef,undef,undef,undef,undef,undef,undef,undef,undef,undef,undef,undef,undef,undef,undef,undef,undef,undef,undef,undef,undef,undef,undef,undef,undef,undef,undef],defers:=[] }) ?_ ?_
      · clear hfil
        rintro e a w5 ⟨rfl,Z,dv,oa,oc,ma,mc,hFZ,rfl⟩
        have HFZ:=Lib.hid hFZ
        have HM5:=Lib.hid (HMW.out w5 hFZ.chg)
        have HW5:Hid (Went 0 w1 w5 B nm nm3):=HW4.out.newer (hFZ.chg.mono λk _ hk=>by have:=HLN.out k hk;have:=HW3.out.chg.size;omega)
        obtain⟨M5,hM5⟩:∃M5,M5=({ M with gray:=[],S:=S3 }:CM):=⟨_,rfl⟩
        rw[<- hM5] at HM5
        have HM5E:=Lib.hid hM5
        have HZ45:Hid (w4.heap.size<=w5.heap.size/\w1.heap.size<=w4.heap.size):=⟨hFZ.chg.size,HW4.out.chg.size⟩
        clear hM5 HMW HDEL HCOMP HKEEP HM4 HW4 hFZ d0 d1 x4 hB4
        have hmm:=@run_makeMap Try.prog
        go_upto_region 15 with (refine wpl_funIns rfl _ _ _ rfl w5.heap.size 0 _ rfl (funMap_made w5) (by omega) 0 0 rfl (by unfold I64;omega) rfl (by unfold I64;omega) ?_;intro w6 hf6 hg6;have HF6:=Lib.hid hf6;have HG6:=Lib.hid hg6;clear hf6 hg6)
        clear hmm
        obtain⟨c,hc1⟩:∃c,c=w5.heap.size:=⟨_,rfl⟩
        obtain⟨Y,hY⟩:∃Y,Y=w6.heap.size:=⟨_,rfl⟩
        obtain⟨w7,hw7⟩:∃w7,w7=w6.alloc (.cells #[.map (some w5.heap.size)] 71):=⟨_,rfl⟩
        have HB56:Hid (Below w5.heap.size w5 w6):=by
          have h1:Below w5.heap.size w5 (w5.alloc (.map #[] 0)):=(by ((repeat first|exact bR _ _|with_reducible first|refine bN ?_|refine bD ?_|refine bA ?_ ?_|refine bS ?_ ?_);all_goals first|exact Nat.le_refl _|(simp;done)|omega|(simp;omega)))
          exact h1.grown HG6.out (by simp) (λj hj=>by simp only [Option.some.injEq] at hj;omega)
        have HB57:Hid (Below w5.heap.size w5 w7):=by rw[Hid,hw7];exact (by ((repeat first|exact bR _ _|with_reducible first|refine bT ?_ HB56.out ?_|refine bN ?_|refine bD ?_|refine bA ?_ ?_|refine bS ?_ ?_);all_goals first|exact Nat.le_refl _|(simp;done)|omega|(simp;omega)|(have z0:=Below.size HB56.out;omega)|(have z0:=Below.size HB56.out;simp at *;omega)))
        have HFM7:Hid (FunMap w7 c 1 (toF [])):=by
          have h1:=HF6.out
          have e:(toF []:Int->Option Int)=λz=>if z=0 then some 0 else none:=by funext y;simp[toF]
          rw[Hid,e,hw7,hc1]
          exact h1.below (by ((repeat first|exact bR _ _|with_reducible first|refine bN ?_|refine bD ?_|refine bA ?_ ?_|refine bS ?_ ?_);all_goals first|exact Nat.le_refl _|(simp;done)|omega|(simp;omega)))
        have HY7:Hid (w7.cell? ⟨Y,0,none⟩=some (.map (some c))/\w5.heap.size<Y/\Y<w7.heap.size):=by
          rw[Hid,hw7,hY,hc1]
          refine⟨by simp,HF6.out.lt,by simp⟩
        have HC:=Lib.hid hc1
        rw[<- hY,<- hw7]
        clear hY hw7 HF6 HG6 hc1
        have HMVO:Hid (MvOk ms):=by
          rw[Hid,HMS.out]
          refine⟨?_,mvs_snd _ _ _,λm hm e=>?_,λm hm=>?_⟩
          · rw[mvs_fst]
            exact HKI.out.2.imp λh=>by omega
          · have h1:m.1 ∈ ks:=by rw[<- mvs_fst M.xs ks 1];exact List.mem_map.2 ⟨m,hm,rfl⟩
            have:=(places_obj HO.out.heap.2.2.2.1 _ (HKI.out.1 _ h1)).1
            omega
          · have h1:m.1 ∈ ks:=by rw[<- mvs_fst M.xs ks 1];exact List.mem_map.2 ⟨m,hm,rfl⟩
            obtain⟨_,_,_,h4⟩:=places_obj HO.out.heap.2.2.2.1 _ (HKI.out.1 _ h1)
            have h5:=(mvs_le _ _ _ m hm).2
            have h6:=keep_top HO.out.heap HKI.out
            have h7:=HO.out.heap.1;have h8:=HO.out.heap.2.2.1
            exact⟨by omega,by omega⟩
        have HKW:Hid (∀W,Chg (λi=>i=c) w7 W->Below w5.heap.size w5 W):=λW hW=>HB57.out.trans (hW.below HB57.out.size λi _ e=>by rw[e,HC.out];exact Nat.le_refl _)
        have hmsl:ms.length<=400:=by
          rw[HMS.out,mvs_len]
          have:=keep_len HO.out.heap HKI.out
          have:=HO.out.heap.1;have:=HO.out.heap.2.2.1
          omega
        go_wp2_with fail
        go_loopw [76] (λu wr=>∃k:Nat,u = .int .i64 k/\k<=ms.length/\FunMap wr c (k+1) (toF (ms.take k))/\Chg (λi=>i=c) w7 wr) (λu _=>ms.length - (intOf u).toNat)
        case atStart=>exact⟨0,rfl,Nat.zero_le _,HFM7.out,Chg.refl _ _⟩
        case round =>
          obtain⟨k,rfl,hk,hfm,hch⟩:=hrel
          have HFMK:=Lib.hid hfm;have HCH:=Lib.hid hch
          have HBK:=Lib.hid (HKW.out wr hch)
          clear hfm hch
          by_cases hlt:k<ms.length
          · have hlt':(k:Int)<(ms.length:Int):=by omega
            obtain⟨mg,rfl,hm1,hm2,e1,e2⟩:=(HFZ.out.mv.below HBK.out).at hlt
            obtain⟨pp,tt,hpt⟩:∃pp tt,ms[k]=(pp,tt):=⟨_,_,rfl⟩
            have hmem:(pp,tt) ∈ ms:=by rw[<- hpt];exact List.getElem_mem hlt
            rw[hpt] at e1 e2
            have HTK:Hid (ms.take (k+1)=ms.take k++[(pp,tt)]):=by rw[Hid,List.take_succ_eq_append_getElem hlt,hpt]
            have HNP:Hid (pp ∉ (ms.take k).map (·.1)):=by
              intro hm
              have hnd:=HMVO.out.n1
              rw[<- List.take_append_drop (k+1) ms,HTK.out,List.map_append,List.map_append,List.nodup_append,List.nodup_append] at hnd
              exact hnd.1.2.2 pp hm pp (by simp) rfl
            have hp0:=HMVO.out.z _ hmem
            have hhi:=HMVO.out.hi _ hmem
            have HP0:=Lib.hid hp0
            have HPI:Hid (I64 (pp:Int)):=by have:=hhi.1;unfold Hid I64;omega
            have HTI:Hid (I64 (tt:Int)):=by have:=hhi.2;unfold Hid I64;omega
            dsimp only at e1 e2
            clear hpt hmem hp0 hhi
            go_upto_region 18 with fail
            clear e1 e2
            obtain⟨x0,hx0⟩:∃x0,x0=wr.heap.size:=⟨_,rfl⟩
            obtain⟨w9,hw9⟩:∃w9,w9=wr.alloc (.cells #[.int .i64 (pp:Int),.int .i64 (tt:Int)] 73):=⟨_,rfl⟩
            have HB9:Hid (Below wr.heap.size wr w9):=by rw[Hid,hw9];exact (Below.refl _ _).alloc (Nat.le_refl _) _
            have y0:w9.cell? ⟨x0,0,none⟩=some (.int .i64 (pp:Int)):=by rw[hw9,hx0];simp
            have y1:w9.cell? ⟨x0,1,none⟩=some (.int .i64 (tt:Int)):=by rw[hw9,hx0];simp
            rw[<- hx0,<- hw9]
            have HCH9:=Lib.hid (HCH.out.trans (Chg.ofBelow _ HB9.out))
            have hYc:Y≠c:=by have:=HC.out;have:=HY7.out.2.1;omega
            have yy:=(HCH9.out.cell HY7.out.2.2 hYc 0).1.trans HY7.out.1
            have HFM9:=Lib.hid (HFMK.out.below HB9.out)
            have hk9:k+1<1000000:=by omega
            clear hx0 hw9
            go_wp2_with (at_mapUpdate;refine wpl_funPut rfl _ _ _ rfl c (k+1) _ rfl HFM9.out hk9 (pp:Int) (tt:Int) rfl HPI.out rfl HTI.out ?_;intro w11 hf11 hg11;have HF11:=Lib.hid hf11;have HG11:=Lib.hid hg11;clear hf11 hg11;go_frame)
            go_roundw
            case rel =>
              refine⟨k+1,by go_num,by omega,?_,HCH9.out.trans (Chg.ofGrown _ HG11.out λi e=>by cases e;rfl)⟩
              rw[HTK.out,toF_snoc _ _ _ HP0.out HNP.out]
              exact HF11.out
            case measure=>simp[intOf];omega
          · obtain rfl:k=ms.length:=by omega
            have hlt':¬ (ms.length:Int)<(ms.length:Int):=by omega
            rw[List.take_length] at HFMK
            obtain⟨w8,hw8⟩:∃w8:World,w8=wr:=⟨_,rfl⟩
            rw[<- hw8] at HFMK HCH HBK
            go_upto_region 20 with fail
            rw[<- hw8]
            clear hw8
            have HM8:=Lib.hid (HM5.out.below HBK.out)
            have HW8:=Lib.hid (HW5.out.below HBK.out HM5.out.has_lt)
            have hYc:Y≠c:=by have:=HC.out;have:=HY7.out.2.1;omega
            have HY8:Hid (w8.cell? ⟨Y,0,none⟩=some (.map (some c))/\Y<w8.heap.size):=⟨(HCH.out.cell HY7.out.2.2 hYc 0).1.trans HY7.out.1,Nat.lt_of_lt_of_le HY7.out.2.2 HCH.out.size⟩
            have HNC:Hid (∀k,w5.heap.size<=k->¬ Has B nm3 k):=λk hk hn=>by have:=HM5.out.has_lt k hn;omega
            have HTO:Hid (∀W nm',Went 0 w8 W B nm3 nm'->W.cell? ⟨Y,0,none⟩=some (.map (some c))/\FunMap W c (ms.length+1) (toF ms)):=λW nm' hW =>
              ⟨(hW.cell HY8.out.2 (HNC.out Y (by have:=HY7.out.2.1;omega)) 0).1.trans HY8.out.1,HFMK.out.keep (hW.chg.block c HFMK.out.lt (HNC.out c (by rw[HC.out];exact Nat.le_refl _)))⟩
            have HVAL:Hid (∀p:Pos,p.ok M5->I64 (M5.at p).1/\I64 (M5.at p).2):=by
              intro p hp
              rw[HM5E.out] at hp ⊢
              have:=HO.out.vals p (by cases p <;> exact hp)
              cases p <;> exact this
            have HEACH:Hid (Calls Try.prog 96 #[.pointer (some ⟨B,0,none⟩),.func (.func 100) #[] #[.pointer (some ⟨Y,0,none⟩)]] w8 (RetM 0 base w8 B nm3 (steps (λp N=>N.mvAt (toF ms) p) (posL M5 4) M5) (.tuple #[]))):=by
              refine each_any 100 #[.pointer (some ⟨Y,0,none⟩)] (λ_ _=>by kernel_rfl) base w8 B nm3 M5 HM8.out (λM'=>Rest M5 M'/\∀p:Pos,p.ok M5->I64 (M'.at p).1/\I64 (M'.at p).2) (λp N=>N.mvAt (toF ms) p) ⟨Rest.refl _,HVAL.out⟩ ?_ ?_ ?_
              · rintro M' p ⟨h1,h2⟩ hp
                refine⟨h1.trans (Rest.mvAt _ _ _),λq hq=>?_⟩
                rw[mvAt_at _ _ ((h1.ok p).2 hp)]
                split
                · unfold mvG
                  split
                  · have:=HMVO.out.i64 ((M'.at p).2)
                    exact⟨(h2 p hp).1,by unfold I64;dsimp only;omega⟩
                  · exact h2 p hp
                · exact h2 q hq
              · rintro M' ⟨h1,_⟩ t
                exact (h1.txs t).2.2.2.1
              · rintro w' nm' M' p b' o' hm hw ⟨h1,h2⟩ hp ha
                obtain⟨z1,z2⟩:=HTO.out w' nm' hw
                exact step2_any base w' B nm' M' hm Y c (ms.length+1) (toF ms) z1 z2 p b' o' hp ha (h2 p ((h1.ok p).1 hp))
            have x8:=(HXC.out _ _ HW8.out).1
            have hB8:=HM8.out.lt
            go_upto_region 22 with (go_at_call 96;refine HEACH.out.mono ?_;rintro e w10 ⟨rfl,nm10,hM10,hW10⟩;have HM10:=Lib.hid hM10;have HW10:=Lib.hid hW10;clear hM10 hW10)
            obtain⟨M10,hM10⟩:∃M10,M10=steps (λp N=>N.mvAt (toF ms) p) (posL M5 4) M5:=⟨_,rfl⟩
            rw[<- hM10] at HM10
            have HE10:=Lib.hid hM10
            have HRS:Hid (Rest M5 M10):=by rw[Hid,hM10];exact (mv_steps (toF ms) (posL M5 4) M5 (posL_nodup M5 4) (λp hp=>pos_ok hp)).1
            clear hM10 HEACH x8 hB8 HVAL
            have HMOV0:Hid (∀t,t<4->(∀p v,(M10.txs t).reads p=some v->∃m ∈ ms,p=(m.1:Int))/\(∀p v,(M10.txs t).owned p=some v->∃m ∈ ms,p=(m.1:Int))):=by
              intro t ht
              obtain⟨_,e1,e2,_,_⟩:=HRS.out.txs t
              have e3:(M5.txs t).reads=(M.txs t).reads:=by rw[HM5E.out]
              have e4:(M5.txs t).owned=(M.txs t).owned:=by rw[HM5E.out]
              obtain⟨a,b⟩:=HENT.out t ht
              have key:∀k ∈ ks,∃m ∈ ms,((k:Nat):Int)=(m.1:Int):=λk hk=>by
                rw[HMS.out]
                have:k ∈ (mvs M.xs ks 1).map (·.1):=by rw[mvs_fst];exact hk
                obtain⟨m,hm,e⟩:=List.mem_map.1 this
                exact⟨m,hm,by rw[<- e]⟩
              refine⟨λp v h=>?_,λp v h=>?_⟩
              · rw[e1,e3] at h
                obtain⟨k,hk,rfl⟩:=a p v h
                exact key k hk
              · rw[e2,e4] at h
                obtain⟨k,hk,rfl⟩:=b p v h
                exact key k hk
            have HN:Hid (nm3.N<900000):=by have h1:=HW3.out.few;have h2:=HN0.out;rw[Hid];omega
            go_loopw [89] (λu wr=>∃(t:Nat) (nm':Nm),u = .int .i64 t/\t<=4/\Mach base wr B nm' (M10.mvTo ms t)/\Went 0 w8 wr B nm3 nm') (λu _=>(4 - intOf u).toNat)
            case atStart=>exact⟨0,nm10,rfl,by omega,by rw[CM.mvTo_zero];exact HM10.out,HW10.out⟩
            case round =>
              obtain⟨t,nmq,rfl,ht,hMq,hWq⟩:=hrel
              have HMq:=Lib.hid hMq;have HWq:=Lib.hid hWq
              clear hMq hWq HM10 HW10
              have hBq:=HMq.out.lt
              have xq:=(HXC.out _ _ (HW8.out.trans HWq.out)).1
              by_cases ht4:t<4
              · have i1 : (t : Int) < 4 := by omega
                have HT4:=Lib.hid ht4
                have hrd:(M10.mvTo ms t).txs t=M10.txs t:=CM.mvTo_at _ _ _
                obtain⟨_,d9,d10,d11,z11⟩:=HMq.out.cTx ht4
                have HMA:Hid (MapAt wr (nmq.rb t) nmq.N (M10.txs t).reads):=by have:=HMq.out.part (.reads t) ht4;simp only [Part,hrd] at this;exact this
                have HMB:Hid (MapAt wr (nmq.ob t) nmq.N (M10.txs t).owned):=by have:=HMq.out.part (.owned t) ht4;simp only [Part,hrd] at this;exact this
                have HTOq:=Lib.hid (HTO.out _ _ HWq.out)
                have HYq:Hid (Y<wr.heap.size/\Y≠B):=⟨Nat.lt_of_lt_of_le HY8.out.2 HWq.out.chg.size,λe=>HNC.out Y (by have:=HY7.out.2.1;omega) ⟨.box,trivial,by rw[e];rfl⟩⟩
                have HNq:Hid (nmq.N<900000):=by have h1:=HWq.out.few;have h2:=HN.out;rw[Hid];omega
                have HSK:Hid (∀W,Below wr.heap.size wr W->W.cell? ⟨B,34+t * 12+9,none⟩=some (.map (nmq.rb t))/\W.cell? ⟨B,34+t * 12+10,none⟩=some (.map (nmq.ob t))):=λW hW =>
                  ⟨(hW.cell (p:=⟨B,34+t * 12+9,none⟩) hBq).trans d9,(hW.cell (p:=⟨B,34+t * 12+10,none⟩) hBq).trans d10⟩
                have HTK2:Hid (∀W,Below wr.heap.size wr W->W.cell? ⟨Y,0,none⟩=some (.map (some c))):=λW hW=>(hW.cell (p:=⟨Y,0,none⟩) HYq.out.1).trans HTOq.out.1
                have HMG:Hid (∀(W:World) (rb:Option Nat) (f:Int->Option Int),Below wr.heap.size wr W->MapAt wr rb nmq.N f->(∀k,rb=some k->k<wr.heap.size)->(∀p v,f p=some v->∃m ∈ ms,p=(m.1:Int))->Calls Try.prog 101 #[.map rb,.map (some c)] W (λe w'=>Below W.heap.size W w'/\∃rb',e = .returned (.map rb')/\MapAt w' rb' nmq.N (mvF ms f)/\(∀k,rb' = some k->W.heap.size<=k/\k<w'.heap.size)/\(rb' = none ↔ rb=none))):=by
                  intro W rb f hW hm hlt hf
                  refine (moved_any W rb nmq.N f (hm.keep λk hk=>hW.block k (hlt k hk)) c (ms.length+1) (toF ms) (HTOq.out.2.below hW) (HMVO.out.inj hf) (λx v _=>by have:=HMVO.out.i64 x;unfold I64;omega) HNq.out (mvF ms f) (HMVO.out.by hf)).mono λe w' hr=>?_
                  obtain⟨hb,⟨rfl,rfl⟩|⟨k,m,hne,rfl,h1,h2,h3⟩⟩:=hr
                  · refine⟨hb,none,rfl,λq=>?_,λk hk=>(by cases hk),by simp⟩
                    unfold mvF
                    cases ms.find? (λm=>decide ((m.2:Int)=q)) with
                    | none=>rfl
                    | some m=>exact hm _
                  · exact⟨hb,some k,rfl,⟨m,h2,h3⟩,λk' hk'=>by cases hk';exact⟨h1,h3.lt⟩,by simp[hne]⟩
                have HMOVA:=Lib.hid (λW hW=>HMG.out W (nmq.rb t) _ hW HMA.out (λk hk=>(HMq.out.lo (.reads t) k ht4 hk).2) (HMOV0.out t ht4).1)
                have HMOVB:=Lib.hid (λW hW=>HMG.out W (nmq.ob t) _ hW HMB.out (λk hk=>(HMq.out.lo (.owned t) k ht4 hk).2) (HMOV0.out t ht4).2)
                clear d9 d10 d11 z11 hrd
                go_upto_region 25 with fail
                obtain⟨w11,hw11⟩:∃w11,w11=wr.drew:=⟨_,rfl⟩
                have HBR11:Hid (Below wr.heap.size wr w11):=by rw[Hid,hw11];exact (Below.refl _ _).drew
                have hS11:=HSK.out _ HBR11.out
                have hT11:=HTK2.out _ HBR11.out
                have hBY:Y≠B:=HYq.out.2
                clear xq
                refine wp_region_N [16,19] (λW=>W.cell? ⟨B,34+t * 12+9,none⟩=some (.map (nmq.rb t))/\W.cell? ⟨B,34+t * 12+10,none⟩=some (.map (nmq.ob t))) (λW=>W.cell? ⟨Y,0,none⟩=some (.map (some c))) (by kernel_rfl) hw11 ?_
                clear hw11
                refine wpAnyN_pure (v:=?_) 0 rfl (by kernel_rfl) (by kernel_rfl) (by kernel_rfl) (λ_ _ _ h=>h) (.inl ⟨by rfl,?_⟩) ?_
                rotate_left
                · (intro W hW;go_simp;try with_reducible rfl)
                try simp only [Act.put,List.setIfInBounds_toArray,List.set_cons_zero,List.set_cons_succ]
                refine wpAnyN_pure (v:=?_) 1 rfl (by kernel_rfl) (by kernel_rfl) (by kernel_rfl) (λ_ _ _ h=>h) (.inl ⟨by rfl,?_⟩) ?_
                rotate_left
                · (intro W hW;go_simp;try with_reducible rfl)
                try simp only [Act.put,List.setIfInBounds_toArray,List.set_cons_zero,List.set_cons_succ]
                refine wpAnyN_pure (v:=?_) 2 rfl (by kernel_rfl) (by kernel_rfl) (by kernel_rfl) (λ_ _ _ h=>h) (.inl ⟨by rfl,?_⟩) ?_
                rotate_left
                · (intro W hW;go_simp;try with_reducible rfl)
                try simp only [Act.put,List.setIfInBounds_toArray,List.set_cons_zero,List.set_cons_succ]
                refine wpAnyN_pure (v:=?_) 3 rfl (by kernel_rfl) (by kernel_rfl) (by kernel_rfl) (λ_ _ _ h=>h) (.inl ⟨by rfl,?_⟩) ?_
                rotate_left
                · (intro W hW;go_simp;try with_reducible rfl)
                try simp only [Act.put,List.setIfInBounds_toArray,List.set_cons_zero,List.set_cons_succ]
                refine wpAnyN_pure (v:=?_) 4 rfl (by kernel_rfl) (by kernel_rfl) (by kernel_rfl) (λ_ _ _ h=>h) (.inl ⟨by rfl,?_⟩) ?_
                rotate_left
                · (intro W hW;go_simp;try with_reducible rfl)
                try simp only [Act.put,List.setIfInBounds_toArray,List.set_cons_zero,List.set_cons_succ]
                refine wpAnyN_take (v:=?_) 5 rfl (by kernel_rfl) (by kernel_rfl) (by kernel_rfl) (by kernel_rfl) (λ_ _ _ h=>h) hS11 (.inl ⟨by rfl,?_⟩) ?_
                rotate_left
                · (intro W hW;go_simp;try with_reducible rfl)
                try simp only [Act.put,List.setIfInBounds_toArray,List.set_cons_zero,List.set_cons_succ]
                refine wpAnyN_takeT (v:=?_) 6 rfl (by kernel_rfl) (by kernel_rfl) (by kernel_rfl) (λ_ _ _ h=>h) hT11 (.inl ⟨by rfl,?_⟩) ?_
                rotate_left
                · (intro W hW;go_simp;try with_reducible rfl)
                try simp only [Act.put,List.setIfInBounds_toArray,List.set_cons_zero,List.set_cons_succ]
                refine wpAnyN_pure (v:=?_) 8 rfl (by kernel_rfl) (by kernel_rfl) (by kernel_rfl) (λ_ _ _ h=>h) (.inl ⟨by rfl,?_⟩) ?_
                rotate_left
                · (intro W hW;go_simp;try with_reducible rfl)
                try simp only [Act.put,List.setIfInBounds_toArray,List.set_cons_zero,List.set_cons_succ]
                refine wpAnyN_pure (v:=?_) 9 rfl (by kernel_rfl) (by kernel_rfl) (by kernel_rfl) (λ_ _ _ h=>h) (.inl ⟨by rfl,?_⟩) ?_
                rotate_left
                · (intro W hW;go_simp;try with_reducible rfl)
                try simp only [Act.put,List.setIfInBounds_toArray,List.set_cons_zero,List.set_cons_succ]
                refine wpAnyN_pure (v:=?_) 10 rfl (by kernel_rfl) (by kernel_rfl) (by kernel_rfl) (λ_ _ _ h=>h) (.inl ⟨by rfl,?_⟩) ?_
                rotate_left
                · (intro W hW;go_simp;try with_reducible rfl)
                try simp only [Act.put,List.setIfInBounds_toArray,List.set_cons_zero,List.set_cons_succ]
                refine wpAnyN_take (v:=?_) 11 rfl (by kernel_rfl) (by kernel_rfl) (by kernel_rfl) (by kernel_rfl) (λ_ _ _ h=>h) hS11 (.inl ⟨by rfl,?_⟩) ?_
                rotate_left
                · (intro W hW;go_simp;try with_reducible rfl)
                try simp only [Act.put,List.setIfInBounds_toArray,List.set_cons_zero,List.set_cons_succ]
                refine wpAnyN_takeT (v:=?_) 12 rfl (by kernel_rfl) (by kernel_rfl) (by kernel_rfl) (λ_ _ _ h=>h) hT11 (.inl ⟨by rfl,?_⟩) ?_
                rotate_left
                · (intro W hW;go_simp;try with_reducible rfl)
                try simp only [Act.put,List.setIfInBounds_toArray,List.set_cons_zero,List.set_cons_succ]
                refine wpAnyN_one 7 rfl (by kernel_rfl) λK hK=>?_
                go_simp
                go_at_call 101
                refine (HMOVA.out w11 HBR11.out).mono ?_
                rintro e w12 ⟨hb12,rb',rfl,hr1,hr2,hr3⟩
                have HB12:=Lib.hid hb12;have HR1:=Lib.hid hr1;have HR2:=Lib.hid hr2;have HR3:=Lib.hid hr3
                clear hb12 hr1 hr2 hr3
                go_wp2_with fail
                refine hK.out _ _ ⟨λ_ _=>HSK.out _ (HBR11.out.trans (HB12.out.mono HBR11.out.size)),λ_=>HTK2.out _ (HBR11.out.trans (HB12.out.mono HBR11.out.size))⟩ (λ_=>?_)
                clear hK K
                have HBR12:Hid (Below wr.heap.size wr w12):=HBR11.out.trans (HB12.out.mono HBR11.out.size)
                try simp only [Act.put,List.setIfInBounds_toArray,List.set_cons_zero,List.set_cons_succ]
                refine wpAnyN_one 13 rfl (by kernel_rfl) λK hK=>?_
                go_simp
                go_at_call 101
                refine (HMOVB.out w12 HBR12.out).mono ?_
                rintro e w13 ⟨hb13,ob',rfl,ho1,ho2,ho3⟩
                have HB13:=Lib.hid hb13;have HO1:=Lib.hid ho1;have HO2:=Lib.hid ho2;have HO3:=Lib.hid ho3
                clear hb13 ho1 ho2 ho3
                go_wp2_with fail
                have HBR13:Hid (Below wr.heap.size wr w13):=HBR12.out.trans (HB13.out.mono HBR12.out.size)
                refine hK.out _ _ ⟨λ_ _=>HSK.out _ HBR13.out,λ_=>HTK2.out _ HBR13.out⟩ (λ_=>?_)
                clear hK K
                try simp only [Act.put,List.setIfInBounds_toArray,List.set_cons_zero,List.set_cons_succ]
                have HBX13:Hid (Box w13 B (cellOf nmq (M10.mvTo ms t))):=(HMq.out.below HBR13.out).box
                have zc9:=(HBX13.out (34+t * 12+9) (by omega)).2
                have zd9:=(HBX13.out (34+t * 12+9) (by omega)).1
                have zc10:=(HBX13.out (34+t * 12+10) (by omega)).2
                have zd10:=(HBX13.out (34+t * 12+10) (by omega)).1
                have zx10:(w13.setCell ⟨B,34+t * 12+9,none⟩ (.map rb')).cell? ⟨B,34+t * 12+10,none⟩=some (cellOf nmq (M10.mvTo ms t) (34+t * 12+10)):=by rw[World.cell?_setCell_other _ _ _ _ (by simp)];exact zd10
                have zy10:(w13.setCell ⟨B,34+t * 12+9,none⟩ (.map rb')).frozen? ⟨B,34+t * 12+10,none⟩=false:=by rw[frozen_setCell_any];exact zc10
                refine wpAnyN_pure (v:=?_) 14 rfl (by kernel_rfl) (by kernel_rfl) (by kernel_rfl) (λ_ _ _ h=>h) (.inl ⟨by rfl,?_⟩) ?_
                rotate_left
                · (intro W hW;go_simp;try with_reducible rfl)
                try simp only [Act.put,List.setIfInBounds_toArray,List.set_cons_zero,List.set_cons_succ]
                refine wpAnyN_pure (v:=?_) 15 rfl (by kernel_rfl) (by kernel_rfl) (by kernel_rfl) (λ_ _ _ h=>h) (.inl ⟨by rfl,?_⟩) ?_
                rotate_left
                · (intro W hW;go_simp;try with_reducible rfl)
                try simp only [Act.put,List.setIfInBounds_toArray,List.set_cons_zero,List.set_cons_succ]
                refine wpAnyN_one 16 rfl (by kernel_rfl) λK hK=>?_
                go_simp
                refine hK.out _ _ ⟨λh=>absurd (by decide) h,λhT=>?_⟩ (λ_=>?_)
                · rw[World.cell?_setCell_other _ _ _ _ (by simp only [ne_eq,Addr.mk.injEq];omega)];exact hT
                clear hK K
                try simp only [Act.put,List.setIfInBounds_toArray,List.set_cons_zero,List.set_cons_succ]
                refine wpAnyN_pure (v:=?_) 17 rfl (by kernel_rfl) (by kernel_rfl) (by kernel_rfl) (λ_ _ _ h=>h) (.inl ⟨by rfl,?_⟩) ?_
                rotate_left
                · (intro W hW;go_simp;try with_reducible rfl)
                try simp only [Act.put,List.setIfInBounds_toArray,List.set_cons_zero,List.set_cons_succ]
                refine wpAnyN_pure (v:=?_) 18 rfl (by kernel_rfl) (by kernel_rfl) (by kernel_rfl) (λ_ _ _ h=>h) (.inl ⟨by rfl,?_⟩) ?_
                rotate_left
                · (intro W hW;go_simp;try with_reducible rfl)
                try simp only [Act.put,List.setIfInBounds_toArray,List.set_cons_zero,List.set_cons_succ]
                refine wpAnyN_one 19 rfl (by kernel_rfl) λK hK=>?_
                go_simp
                refine hK.out _ _ ⟨λh=>absurd (by decide) h,λhT=>?_⟩ (λ_=>?_)
                · rw[World.cell?_setCell_other _ _ _ _ (by simp only [ne_eq,Addr.mk.injEq];omega),World.cell?_setCell_other _ _ _ _ (by simp only [ne_eq,Addr.mk.injEq];omega)];exact (HTK2.out _ HBR13.out)
                clear hK K
                try simp only [Act.put,List.setIfInBounds_toArray,List.set_cons_zero,List.set_cons_succ]
                refine wpAnyN_done (by kernel_rfl) ?_ _
                obtain⟨q1,q2⟩:=HMq.out.newMaps HT4.out rb' ob' (mvF ms (M10.txs t).reads) (mvF ms (M10.txs t).owned) HBR13.out (HR1.out.keep λk hk=>HB13.out.block k (HR2.out k hk).2) HO1.out
                  (λk hk=>⟨Nat.le_trans HBR11.out.size (HR2.out k hk).1,Nat.lt_of_lt_of_le (HR2.out k hk).2 HB13.out.size⟩) (λk hk=>⟨Nat.le_trans HBR12.out.size (HO2.out k hk).1,(HO2.out k hk).2⟩) (λk h1 h2=>by have:=(HR2.out k h1).2;have:=(HO2.out k h2).1;omega) HR3.out HO3.out
                rw[CM.mvTo_at] at q1
                obtain⟨nmr,hnmr⟩:∃nmr:Nm,nmr={ nmq with rb:=pt nmq.rb t rb',ob:=pt nmq.ob t ob',uv:=pt nmq.uv t (nmq.uv t) }:=⟨_,rfl⟩
                rw[<- hnmr] at q1 q2
                obtain⟨w14,hw14⟩:∃w14,w14=(w13.setCell ⟨B,34+t * 12+9,none⟩ (.map rb')).setCell ⟨B,34+t * 12+10,none⟩ (.map ob'):=⟨_,rfl⟩
                rw[<- hw14] at q1 q2 ⊢
                have HM14:=Lib.hid q1;have HW14:=Lib.hid (HWq.out.trans q2)
                clear q1 q2 hnmr hw14 zc9 zd9 zc10 zd10 zx10 zy10 HBX13 hS11 hT11 HSK HTK2 HMOVA HMOVB HMG HR1 HR2 HR3 HO1 HO2 HO3 HB12 HB13 HBR11 HBR12 HBR13 HMq HWq HMA HMB HTOq HYq HNq hBq
                obtain⟨us,hus⟩:∃us,us=(M10.txs t).undo:=⟨_,rfl⟩
                have HUS:=Lib.hid hus
                obtain⟨MI,hMI⟩:∃MI:Nat->CM,MI=λi=>(M10.mvTo ms t).setTx t { M10.txs t with reads:=mvF ms (M10.txs t).reads,owned:=mvF ms (M10.txs t).owned,undo:=(us.take i).map (mvP ms)++us.drop i }:=⟨_,rfl⟩
                have HMI:=Lib.hid hMI
                have HM15:Hid (Mach base w14 B nmr (MI 0)):=by
                  rw[Hid,hMI,hus]
                  exact HM14.out
                have HUN:Hid (∀i,((MI i).txs t).undo=(us.take i).map (mvP ms)++us.drop i):=λi=>by rw[hMI];simp[CM.setTx,pt]
                have HLEN:Hid (∀i,((us.take i).map (mvP ms)++us.drop i).length=us.length):=λi=>by simp;omega
                have HSL:Hid (∀W i,Mach base W B nmr (MI i)->∃a c2,nmr.uv t = .slice a us.length c2/\us.length<=c2/\c2<=9223372036854775807/\us.length<=1000000/\W.cell? ⟨B,34+t * 12+11,none⟩=some (.slice a us.length c2)/\W.frozen? ⟨B,34+t * 12+11,none⟩=false/\OwnU W base (nmr.uv t) ((us.take i).map (mvP ms)++us.drop i)):=by
                  intro W i hm
                  have hU:OwnU W base (nmr.uv t) ((MI i).txs t).undo:=hm.part (.undo t) HT4.out
                  rw[HUN.out i] at hU
                  obtain⟨a,c2,e1,e2,e3⟩:=hU.shape
                  have h1:=hU.1
                  rw[HLEN.out i] at e1 e2 h1
                  obtain⟨_,_,_,d11,z11⟩:=hm.cTx HT4.out
                  rw[e1] at d11
                  exact⟨a,c2,e1,e2,e3,h1,d11,z11,hU⟩
                clear hus hMI HM14
                obtain⟨a14,c14,_,e14b,e14c,e14d,d11,z11,_⟩:=HSL.out w14 0 HM15.out
                have hB14:=HM15.out.lt
                go_wp2_with fail
                go_loopw [120] (λu wr=>∃i:Nat,u = .int .i64 i/\i<=us.length/\Mach base wr B nmr (MI i)/\Went 0 w8 wr B nm3 nmr) (λu _=>us.length - (intOf u).toNat)
                case atStart=>exact⟨0,rfl,Nat.zero_le _,HM15.out,HW14.out⟩
                case round =>
                  obtain⟨i,rfl,hi,hMi,hWi⟩:=hrel
                  have HMi:=Lib.hid hMi;have HWi:=Lib.hid hWi
                  clear hMi hWi d11 z11 HM15 HW14 hB14
                  by_cases hlt:i<us.length
                  · have hlt':(i:Int)<(us.length:Int):=by omega
                    obtain⟨a2,c2,e2a,e2b,e2c,e2d,d11,z11,hU⟩:=HSL.out _ i HMi.out
                    rw[e2a] at hU
                    have hil:i<((us.take i).map (mvP ms)++us.drop i).length:=by rw[HLEN.out i];exact hlt
                    obtain⟨g2,rfl,_,hg2,k0,_,_,_,kz⟩:=hU.at hil
                    have hui:((us.take i).map (mvP ms)++us.drop i)[i]=us[i]:=by
                      rw[List.getElem_append_right (by simp;omega)]
                      simp only [List.length_map,List.length_take,List.getElem_drop]
                      congr 1
                      omega
                    rw[hui] at k0
                    obtain⟨p0,hp0⟩:∃p0,p0=us[i].p:=⟨_,rfl⟩
                    rw[<- hp0] at k0
                    have kz0:=kz (i * 4)
                    have HUI:Hid (us[i].p=p0):=hp0.symm
                    have HPB:Hid (p0<1000):=by
                      rw[Hid,hp0]
                      have hu5:(M5.txs t).undo=(M.txs t).undo:=by rw[HM5E.out]
                      have h10:i<(M10.txs t).undo.length:=by rw[<- HUS.out];exact hlt
                      have h5i:i<(M5.txs t).undo.length:=by rw[<- (HRS.out.txs t).2.2.2.1];exact h10
                      have h5:=((HRS.out.txs t).2.2.2.2 i h5i h10).1
                      have h6:us[i].p=(M10.txs t).undo[i].p:=by simp only [HUS.out]
                      rw[h6,h5]
                      refine HO.out.und t HT4.out _ ?_
                      rw[<- hu5]
                      exact List.getElem_mem _
                    have HPI:Hid (I64 (p0:Int)):=by have:=HPB.out;unfold Hid I64;omega
                    have HTOi:=Lib.hid (HTO.out _ _ HWi.out)
                    have ty:=HTOi.out.1
                    have hBi:=HMi.out.lt
                    have hYi:Y<wr.heap.size:=Nat.lt_of_lt_of_le HY8.out.2 HWi.out.chg.size
                    have HE2:=Lib.hid e2a
                    clear e2a hui hp0 kz hU
                    go_upto_region 29 with fail
                    obtain⟨w16,hw16⟩:∃w16,w16=wr.drew:=⟨_,rfl⟩
                    have HB16:Hid (Below wr.heap.size wr w16):=by rw[Hid,hw16];exact (Below.refl _ _).drew
                    have d11':w16.cell? ⟨B,34+t * 12+11,none⟩=some (.slice (some ⟨g2,0,none⟩) us.length c2):=by rw[hw16];exact d11
                    have k0':w16.cell? ⟨g2,i * 4,none⟩=some (.int .i64 (p0:Int)):=by rw[hw16];exact k0
                    have kz':w16.frozen? ⟨g2,i * 4,none⟩=false:=by rw[hw16];exact kz0
                    have ty':w16.cell? ⟨Y,0,none⟩=some (.map (some c)):=by rw[hw16];exact ty
                    have HF16:=Lib.hid (HTOi.out.2.below HB16.out)
                    clear d11 z11 k0 kz0 ty
                    refine still_tail_at 15 (by kernel_rfl) (by kernel_rfl) hw16 ?_;simp only [List.take_succ_cons,List.take_zero,List.drop_succ_cons,List.drop_zero];clear hw16;(repeat (first|(refine still_funLook rfl _ _ rfl c (ms.length+1) (toF ms) rfl HF16.out (p0:Int) rfl HPI.out ?_)|still_step));refine wpStill_nil ?_
                    go_wp2_with fail
                    obtain⟨qq,hqq⟩:∃qq:Nat,(toF ms (p0:Int)).getD 0=(qq:Int):=⟨((toF ms (p0:Int)).getD 0).toNat,by have:=(HMVO.out.i64 (p0:Int)).1;omega⟩
                    rw[hqq]
                    have hM16:=HMi.out.below HB16.out
                    have hW16:=HWi.out.below HB16.out HMi.out.has_lt
                    have hU16:OwnU w16 base (nmr.uv t) ((us.take i).map (mvP ms)++us.drop i):=by
                      have:=hM16.part (.undo t) HT4.out
                      show OwnU w16 base (nmr.uv t) _
                      rw[<- HUN.out i];exact this
                    have hnext:(us.take (i+1)).map (mvP ms)++us.drop (i+1)=((us.take i).map (mvP ms)++us.drop i).modify i (λu=>{ u with p:=qq }):=by
                      refine List.ext_getElem (by simp;omega) λj h1 h2=>?_
                      rw[List.getElem_modify]
                      by_cases hj:j<i
                      · rw[if_neg (by omega),List.getElem_append_left (by simp;omega),List.getElem_append_left (by simp;omega)]
                        simp
                      · by_cases hj2:j=i
                        · subst hj2
                          rw[if_pos rfl,List.getElem_append_left (by simp;omega),List.getElem_append_right (by simp;omega)]
                          simp only [List.getElem_map,List.getElem_take,List.length_map,List.length_take,List.getElem_drop]
                          have:us[j+(j - min j us.length)]'(by omega)=us[j]:=by congr 1;omega
                          rw[this]
                          unfold mvP
                          rw[HUI.out,hqq]
                          simp
                        · rw[if_neg (λe=>hj2 e.symm),List.getElem_append_right (by simp;omega),List.getElem_append_right (by simp;omega)]
                          simp only [List.length_map,List.length_take,List.getElem_drop]
                          congr 1
                          omega
                    have hOset:OwnU (w16.setCell ⟨g2,i * 4,none⟩ (.int .i64 (qq:Int))) base (nmr.uv t) ((us.take (i+1)).map (mvP ms)++us.drop (i+1)):=by
                      rw[hnext]
                      rw[HE2.out] at hU16 ⊢
                      exact hU16.set (by rw[HLEN.out i];omega) (by simp) (cellsU_place qq _ i (by rw[HLEN.out i];exact hlt))
                    obtain⟨q1,q2⟩:=hM16.undoOnly HT4.out _ (Chg.set (λk=>(nmr.uv t).ownBlock=some k) w16 ⟨g2,i * 4,none⟩ (.int .i64 (qq:Int)) (by rw[HE2.out];rfl)) hOset
                    refine⟨⟨i+1,by go_num,by omega,?_,hW16.trans q2⟩,by simp[intOf];omega⟩
                    have e:(MI i).setTx t { (MI i).txs t with undo:=(us.take (i+1)).map (mvP ms)++us.drop (i+1) }=MI (i+1):=by
                      rw[HMI.out]
                      unfold CM.setTx
                      dsimp only
                      rw[pt_same]
                      congr 1
                      funext u
                      unfold pt
                      split <;> rfl
                    rw[<- e];exact q1
                  · have hi2:i=us.length:=by omega
                    subst hi2
                    have hlt':¬ (us.length:Int)<(us.length:Int):=by omega
                    have HEQ:Hid (MI us.length=M10.mvTo ms (t+1)):=by
                      rw[Hid,HMI.out,CM.mvTo_succ]
                      dsimp only
                      rw[List.take_length,List.drop_length,List.append_nil,HUS.out]
                      rfl
                    go_wp2_with fail
                    go_roundw
                    case rel=>exact⟨t+1,nmr,by go_num,by omega,by rw[<- HEQ.out];exact HMi.out,HWi.out⟩
                    case measure=>simp[intOf];omega
              · have ht5:t=4:=by omega
                subst ht5
                go_upto_region 32 with fail
                have HTP10:Hid ((M10.mvTo ms 4).top=M.top):=HRS.out.top.trans (by rw[HM5E.out])
                have HNZ:Hid (∀k,w4.heap.size<=k->¬ Has B nm3 k):=λk hk hn=>by have:=HM3.out.has_lt k hn;have:=HB4.out.size;omega
                have hZ8:Z<w8.heap.size:=Nat.lt_of_lt_of_le HFZ.out.zlt HBK.out.size
                have c1:=HMq.out.c1
                rw[HTP10.out] at c1
                have zz0:=(HWq.out.cell hZ8 (HNZ.out Z HFZ.out.zlo) 0).1.trans ((HBK.out.cell (p:=⟨Z,0,none⟩) HFZ.out.zlt).trans HFZ.out.c0)
                have zz1:=(HWq.out.cell hZ8 (HNZ.out Z HFZ.out.zlo) 1).1.trans ((HBK.out.cell (p:=⟨Z,1,none⟩) HFZ.out.zlt).trans HFZ.out.c1)
                have HOV:Hid (OwnInts wr w4.heap.size (.slice oa M.xs.length oc) (padTo M.xs.length (0 :: L))):=(HFZ.out.ov.below HBK.out).keep λk hk=>HWq.out.chg.block k (Nat.lt_of_lt_of_le (HFZ.out.ov.lt hk).2 HBK.out.size) (HNZ.out k (HFZ.out.ov.lt hk).1)
                have hB0:=(HMq.out.box 0 (by omega)).2
                have hB0c:=(HMq.out.box 0 (by omega)).1
                have hB1:=(HMq.out.box 1 (by omega)).2
                have hB82:=(HMq.out.box 82 (by omega)).2
                have hB82c:=(HMq.out.box 82 (by omega)).1
                have hZr:Z<wr.heap.size:=Nat.lt_of_lt_of_le hZ8 HWq.out.chg.size
                have hZB:Z≠B:=λe=>HNZ.out Z HFZ.out.zlo ⟨.box,trivial,by rw[e];rfl⟩
                have hXB:X≠B:=λe=>by have:=HM.out.lt;have:=HX.out;omega
                have hXr:=(HXC.out _ _ (HW8.out.trans HWq.out)).2
                have hwt:IntKind.i64.wrap ((M.top:Int) - (tp:Int))=(M.top:Int) - (tp:Int):=IntWalk.i64_in _ (by
                  have h1:=HO.out.heap.1;have h2:=HO.out.heap.2.2.1;have h3:=keep_top HO.out.heap HKI.out;have h4:=HTP.out
                  omega)
                clear hZ8
                go_quiet (fail)
                go_wp2_with fail
                obtain⟨w20,hw20⟩:∃w20,w20=wr.drewN nq:=⟨_,rfl⟩
                have HB20:Hid (Below wr.heap.size wr w20):=by rw[Hid,hw20];exact below_drewN (Below.refl _ _) nq
                rw[<- hw20]
                clear hw20
                have HM20:=Lib.hid (HMq.out.below HB20.out)
                have HW20:=Lib.hid ((HW8.out.trans HWq.out).below HB20.out HMq.out.has_lt)
                have HOV20:=Lib.hid (HOV.out.below HB20.out)
                have hx20:=(HB20.out.cell (p:=⟨X,0,none⟩) hXr).trans xq
                have hz20:=(HB20.out.cell (p:=⟨Z,0,none⟩) hZr).trans zz0
                have hz21:=(HB20.out.cell (p:=⟨Z,1,none⟩) hZr).trans zz1
                have hX20:X<w20.heap.size:=World.block_lt_of_cell? w20 _ hx20
                have hZ20:Z<w20.heap.size:=World.block_lt_of_cell? w20 _ hz20
                have b0:=HM20.out.box 0 (by omega);have b1:=HM20.out.box 1 (by omega);have b82:=HM20.out.box 82 (by omega)
                obtain⟨b0c,b0z⟩:=b0;obtain⟨b1c,b1z⟩:=b1;obtain⟨b82c,b82z⟩:=b82
                have HWX:=Lib.hid (HWq.out.below HB20.out HMq.out.has_lt)
                have HKP:Hid (∀W,Chg (λk=>k=B) w20 W->W.cell? ⟨X,0,none⟩=some (.pointer (some ⟨B,0,none⟩))/\W.cell? ⟨Z,0,none⟩=some (.slice oa M.xs.length oc)/\W.cell? ⟨Z,1,none⟩=some (.int .i64 (tp:Int))/\Chg (λk=>k=B) w20 W):=λW hW =>
                  ⟨(hW.cell hX20 hXB 0).1.trans hx20,(hW.cell hZ20 hZB 0).1.trans hz20,(hW.cell hZ20 hZB 1).1.trans hz21,hW⟩
                clear xq c1 zz0 zz1 hB0 hB0c hB1 hB82 hB82c hZr hXr HMq HWq hBq hwt
                go_region_held3 (λW=>W.cell? ⟨X,0,none⟩=some (.pointer (some ⟨B,0,none⟩))/\W.cell? ⟨Z,0,none⟩=some (.slice oa M.xs.length oc)/\W.cell? ⟨Z,1,none⟩=some (.int .i64 (tp:Int))/\Chg (λk=>k=B) w20 W)
                  ((refine HKP.out _ ?_;repeat (first|with_reducible exact Chg.refl _ _|with_reducible refine Chg.trans ?_ (Chg.setB _ _ _ _)|with_reducible refine Chg.trans ?_ (Chg.drew _ _))))
                  (fail)
                rename_i hHeld
                clear hHeld HKP
                obtain⟨q1,q2⟩:=HM20.out.setHeap HW20.out (tp:=tp) HOV20.out HZ45.out.2 HM1.out.base_le (λk hk hn=>HNZ.out k (HOV20.out.lt hk).1 (by
                  by_cases h8:k<w8.heap.size
                  · exact HWX.out.own k h8 hn
                  · exact absurd (HFZ.out.ov.lt hk).2 (by have:=HBK.out.size;omega))) HM1.out.lt
                obtain⟨w21,hw21⟩:∃w21,w21=((w20.setCell ⟨B,0,none⟩ (.slice oa M.xs.length oc)).setCell ⟨B,1,none⟩ (.int .i64 (tp:Int))).setCell ⟨B,82,none⟩ (.bool false):=⟨_,rfl⟩
                rw[<- hw21] at q1 q2 ⊢
                clear hw21
                have hlike:=closed_like M5 M10 ks L ms (by rw[HM5E.out];exact HMS.out) HE10.out
                have hxs5:M5.xs=M.xs:=by rw[HM5E.out]
                rw[hxs5,<- HTP.out] at hlike
                have q3:=q1.like hlike
                have HQ3:=Lib.hid (q3.below (Below.refl _ _).drew)
                have HQ4:=Lib.hid ((q2.below (Below.refl _ _).drew q1.has_lt).after HB1.out)
                clear q1 q2 q3 hlike hxs5 hx20 hz20 hz21 b0c b0z b1c b1z b82c b82z
                go_wp2_with fail
                refine bodyPost_ret (v:=.tuple #[.int .i64 ((M.top:Int) - (tp:Int)),.int .i64 0]) (by simp[results,Try.results82,go_sem, *]) rfl ?_
                refine⟨(M.top:Int) - (tp:Int),0,M5.closed ks L,?_,rfl,_,HQ3.out,HQ4.out⟩
                rw[HPA.out,HKS.out] at *
                exact .inr (.inr (.inr ⟨HNN.out,HG.out,S3,L,HGS.out,HL.out,by rw[HTP.out],rfl,by rw[HM5E.out]⟩))
      · clear hfil
        go_region_held3 (λW=>W.cell? ⟨X,0,none⟩=some (.pointer (some ⟨B,0,none⟩))/\W.cell? ⟨B,0,none⟩=some (.slice ha M.xs.length hc)/\W.cell? ⟨B,1,none⟩=some (.int .i64 (M.top:Int))/\Chg LB w4 W)
          ((refine HKEEP.out _ ?_;repeat (first|with_reducible exact Chg.refl _ _|with_reducible exact HC5.out|with_reducible exact HC7.out|with_reducible refine Chg.trans ?_ (Chg.alloc _ _ _)|with_reducible refine Chg.trans ?_ (Chg.drew _ _)|(with_reducible refine Chg.setNew ?_ ?_ _;focus (first|(simp;done)|(have:=HC5.out.size;simp;omega)|(have:=HC7.out.size;simp;omega))))))
          (first|(go_at_call 62;refine (HDEL.out _ (by ((repeat first|exact bR _ _|with_reducible first|refine bN ?_|refine bD ?_|refine bA ?_ ?_|refine bS ?_ ?_);all_goals first|exact Nat.le_refl _|(simp;done)|omega|(simp;omega)))).mono ?_;rintro e w5 ⟨dv,rfl,hi5,hcw⟩;have HI5:=Lib.hid hi5;have HC5:Hid (Chg LB w4 w5):=(Chg.ofBelow LB (by ((repeat first|exact bR _ _|with_reducible first|refine bN ?_|refine bD ?_|refine bA ?_ ?_|refine bS ?_ ?_);all_goals first|exact Nat.le_refl _|(simp;done)|omega|(simp;omega)))).trans hcw;have fz:=λh=>Nat.lt_of_lt_of_le (n:=w4.heap.size) h hcw.size;(try simp at fz);have fa:=λh=>hcw.cell (k:=w4.heap.size) h HLZ.out 0;have fb:=λh=>hcw.cell (k:=w4.heap.size) h HLZ.out 1;(try simp[go_sem] at fa);(try simp[go_sem] at fb);(try (obtain⟨fa0,fa1⟩:=fa;obtain⟨fb0,fb1⟩:=fb));clear hi5 hcw)|(go_at_call 27;refine (HCOMP.out _ _ (by first|exact HC5.out|exact HC5.out.trans (Chg.alloc _ _ _)) (HI5.out.below (Nat.le_refl _) (by ((repeat first|exact bR _ _|with_reducible first|refine bN ?_|refine bD ?_|refine bA ?_ ?_|refine bS ?_ ?_);all_goals first|exact Nat.le_refl _|(simp;done)|omega|(simp;omega))))).mono ?_;rintro e w7 ⟨oa,oc,ma,mc,rfl,hb7,ho7,hm7⟩;have HB7:=Lib.hid hb7;have HO7:=Lib.hid ho7;have HM7:=Lib.hid hm7;have ga:=λh=>And.intro (Below.cell hb7 (p:=⟨w4.heap.size,0,none⟩) h) (Below.frozen hb7 (p:=⟨w4.heap.size,0,none⟩) h);have gb:=λh=>And.intro (Below.cell hb7 (p:=⟨w4.heap.size,1,none⟩) h) (Below.frozen hb7 (p:=⟨w4.heap.size,1,none⟩) h);have ka:=λh=>And.intro (Below.cell hb7 (p:=⟨w5.heap.size,0,none⟩) h) (Below.frozen hb7 (p:=⟨w5.heap.size,0,none⟩) h);have kb:=λh=>And.intro (Below.cell hb7 (p:=⟨w5.heap.size,1,none⟩) h) (Below.frozen hb7 (p:=⟨w5.heap.size,1,none⟩) h);(try simp[go_sem, *] at ga);(try simp[go_sem, *] at gb);(try simp[go_sem] at ka);(try simp[go_sem] at kb);(try (obtain⟨ga0,ga1⟩:=ga;obtain⟨gb0,gb1⟩:=gb));(try (obtain⟨ka0,ka1⟩:=ka;obtain⟨kb0,kb1⟩:=kb));have HC7:Hid (Chg LB w4 w7):=(by first|exact HC5.out.trans (Chg.ofBelow _ hb7)|exact (HC5.out.trans (Chg.alloc _ _ _)).trans (Chg.ofBelow _ hb7));clear hb7 ho7 hm7))
        all_goals (
          have hz5:=HC5.out.size
          have hz7:=HC7.out.size
          first
            | exact⟨rfl,w7.heap.size,dv,oa,oc,ma,mc,FactsZ.alloc _ HO7.out HM7.out hz5 HC7.out,rfl⟩
            | exact⟨rfl,w4.heap.size,dv,oa,oc,ma,mc,FactsZ.set ga0 gb0 HO7.out HM7.out (Nat.le_refl _) fz HC7.out,rfl⟩
            | exact⟨rfl,w5.heap.size,dv,oa,oc,ma,mc,FactsZ.set ka0 kb0 HO7.out HM7.out hz5 (by simp) HC7.out,rfl⟩)
    · have hgl:0<g.length:=List.length_pos_iff.2 hg0
      have HG0:=Lib.hid hg0
      clear hg0
      go_wp2_with fail
      refine bodyPost_ret (v:=.tuple #[.int .i64 0,.int .i64 0]) (by simp[results,Try.results82,go_sem, *]) rfl ?_
      refine⟨0,0,_,?_,rfl,nm3,HM3.out,HW3.out.after HB1.out⟩
      rw[HPA.out]
      exact .inr (.inr (.inl ⟨HNN.out,HG.out,g,S3,HGS.out,HG0.out,rfl,rfl,rfl⟩))
  · have HG:Hid (M.going=false):=by rw[Hid];simpa using hg
    rw[HG.out] at c82
    clear hg
    go_enter Try.func82,Try.ntmps82
    go_wp2_with fail
    refine bodyPost_ret (v:=.tuple #[.int .i64 0,.int .i64 5]) (by simp[results,Try.results82,go_sem, *]) rfl ?_
    refine⟨0,5,M,?_,rfl,nm,HM.out.below (by ((repeat first|exact bR _ _|with_reducible first|refine bN ?_|refine bD ?_|refine bA ?_ ?_|refine bS ?_ ?_);all_goals first|exact Nat.le_refl _|(simp;done)|omega|(simp;omega))),(Went.refl w B nm).below (by ((repeat first|exact bR _ _|with_reducible first|refine bN ?_|refine bD ?_|refine bA ?_ ?_|refine bS ?_ ?_);all_goals first|exact Nat.le_refl _|(simp;done)|omega|(simp;omega))) HM.out.has_lt⟩
    rw[HPA.out]
    exact .inr (.inl ⟨HNN.out,HG.out,rfl,rfl,rfl⟩)
end Go.Proofs.Ytbeilcaadpopmab
namespace Go.Proofs.Ytbeilcaadpopmab
open Go.RowKit Go.Maps
set_option maxRecDepth 100000 in
set_option maxHeartbeats 2000000 in
theorem act_collect (base:Nat) (w:World) (B:Nat) (nm:Nm) (M:CM) (h:Mach base w B nm M) (t a b n:Int) (ok:∀y,M.held y->0<=y/\y<1000) (okv:∀p:Pos,p.ok M->I64 (M.at p).1/\I64 (M.at p).2) :
    Calls Try.prog 66 #[.pointer (some ⟨B,0,none⟩),.agg #[.int .i64 10,.int .i64 t,.int .i64 a,.int .i64 b,.int .i64 n]] w
      (RetA 0 base w B nm (λr M'=>(M.going=true/\r = .err 5/\M' = M)\/(M.going=false/\r = .nil/\M.Collected M'))):=by
  have HM:=Lib.hid h
  have HR:Hid (∀W,Calls Try.prog 74 #[.agg #[.int .i64 10,.int .i64 t,.int .i64 a,.int .i64 b,.int .i64 n]] W (λe w'=>e = .returned (.bool true)/\Below W.heap.size W w')):=λW=>by
    have:=registers_any 10 t a b n W (by omega)
    simpa [regsOk] using this
  have HC:Hid (∀W,Below w.heap.size w W->Calls Try.prog 81 #[.pointer (some ⟨B,0,none⟩)] W (RetC 0 base W B nm (λc M'=>(M.going=true/\c=5/\M' = M)\/(M.going=false/\c=0/\M.Collected M')))):=λW hW=>collect_any base W B nm M (h.below hW) ok okv
  clear h ok okv
  go_enter Try.func66,Try.ntmps66
  go_upto_region 42 with (go_at_call 74;refine (HR.out _).mono ?_;rintro e w1 ⟨rfl,hb1⟩;obtain⟨HA,HR1,HR2,HB1,hz1⟩:=rows3 hb1;clear hb1;obtain⟨a0,a1,a2,a3,a4⟩:=HA.out.act)
  obtain⟨X2,hX2⟩:∃X2,X2=w.heap.size+1+1:=⟨_,rfl⟩
  rw[<- hX2] at HR2 ⊢
  obtain⟨X1,hX1⟩:∃X1,X1=w.heap.size+1:=⟨_,rfl⟩
  rw[<- hX1] at HR1 ⊢
  have hx:w.heap.size<X1/\X1<X2/\X2<w1.heap.size:=by omega
  clear hX1 hX2 hz1
  go_wp2_with (go_at_call 81;refine (HC.out _ HB1.out).mono ?_;rintro e w2 ⟨c,M',hP,rfl,nm2,hM2,hW2⟩;have HM2:=Lib.hid hM2;have HW2:=Lib.hid hW2;have HP:=Lib.hid hP;have HO1:=Lib.hid (HR1.out.went hW2 (HM.out.not_has (by omega)));have HO2:=Lib.hid (HR2.out.went hW2 (HM.out.not_has (by omega)));obtain⟨⟨o0,o1,o2,o3,o4,o5,o6⟩,z0,z1,z2,z3,z4,z5,z6⟩:=HO2.out.ans;obtain⟨⟨p0,p1,p2,p3,p4,p5,p6⟩,y0,y1,y2,y3,y4,y5,y6⟩:=HO1.out.ans;have hx12:X1≠X2:=(by omega);clear hM2 hW2 hP a0 a1 a2 a3 a4)
  have HF:Hid (RowAt ((((((((w2.setCell ⟨X2,0,none⟩ (.int .i64 c)).setCell ⟨X1,0,none⟩ (.int .i64 c)).setCell ⟨X1,1,none⟩ (.bool AnsM.nil.is)).setCell ⟨X1,2,none⟩ (.int .i64 AnsM.nil.number)).setCell ⟨X1,3,none⟩ (.bool AnsM.nil.yes)).setCell ⟨X1,4,none⟩ (.int .i64 AnsM.nil.words)).setCell ⟨X1,5,none⟩ (.bool AnsM.nil.going)).setCell ⟨X1,6,none⟩ (.int .i64 AnsM.nil.freed)) X1 (ansL (.err c))) :=
    ((((((((HO1.out.setFar _ _ (by simp;omega)).set 0 _).set 1 _).set 2 _).set 3 _).set 4 _).set 5 _).set 6 _)
  refine bodyPost_ret (v:=ansV (.err c)) (res_act rfl HF.out) rfl ?_
  refine retA (.err c) ?_ HM.out HB1.out HM2.out HW2.out (by repeat with_reducible (first|exact Chg.refl _ _|refine chgS ?_ (by first|(simp;done)|(simp;omega))))
  rcases HP.out with ⟨h1,rfl,h2⟩|⟨h1,rfl,h2⟩
  · exact .inl ⟨h1,rfl,h2⟩
  · exact .inr ⟨h1,rfl,h2⟩
set_option maxRecDepth 100000 in
set_option maxHeartbeats 2000000 in
theorem act_step (base:Nat) (w:World) (B:Nat) (nm:Nm) (M:CM) (h:Mach base w B nm M) (hN:nm.N<900000) (t a b n:Int) (hn:I64 n) (l:List Nat) (ok:M.going=true->1<=n->n<=400->StepOk M n l) :
    Calls Try.prog 66 #[.pointer (some ⟨B,0,none⟩),.agg #[.int .i64 11,.int .i64 t,.int .i64 a,.int .i64 b,.int .i64 n]] w
      (RetA 0 base w B nm (λr M'=>∃f c,StepR M n l f c M'/\r=⟨c,false,0,false,0,false,f⟩)):=by
  have HM:=Lib.hid h
  have HR:Hid (∀W,Calls Try.prog 74 #[.agg #[.int .i64 11,.int .i64 t,.int .i64 a,.int .i64 b,.int .i64 n]] W (λe w'=>e = .returned (.bool true)/\Below W.heap.size W w')):=λW=>by
    have:=registers_any 11 t a b n W (by omega)
    simpa [regsOk] using this
  obtain⟨PS,hPS⟩:∃PS,PS=StepR M n l:=⟨_,rfl⟩
  have HC:Hid (∀W,Below w.heap.size w W->Calls Try.prog 82 #[.pointer (some ⟨B,0,none⟩),.int .i64 n] W (RetN base W B nm PS)):=λW hW=>by rw[hPS];exact step_any base W B nm M (h.below hW) hN n hn l ok
  rw[<- hPS]
  clear h ok hN hPS
  go_enter Try.func66,Try.ntmps66
  go_upto_region 44 with (go_at_call 74;refine (HR.out _).mono ?_;rintro e w1 ⟨rfl,hb1⟩;obtain⟨HA,HR1,HR2,HB1,hz1⟩:=rows3 hb1;clear hb1;obtain⟨a0,a1,a2,a3,a4⟩:=HA.out.act)
  obtain⟨X2,hX2⟩:∃X2,X2=w.heap.size+1+1:=⟨_,rfl⟩
  rw[<- hX2] at HR2 ⊢
  obtain⟨X1,hX1⟩:∃X1,X1=w.heap.size+1:=⟨_,rfl⟩
  rw[<- hX1] at HR1 ⊢
  have hx:w.heap.size<X1/\X1<X2/\X2<w1.heap.size:=by omega
  clear hX1 hX2 hz1
  go_wp2_with (go_at_call 82;refine (HC.out _ HB1.out).mono ?_;rintro e w2 ⟨f,c,M',hP,rfl,nm2,hM2,hW2⟩;have HM2:=Lib.hid hM2;have HW2:=Lib.hid hW2;have HP:=Lib.hid hP;have HO1:=Lib.hid (HR1.out.went hW2 (HM.out.not_has (by omega)));have HO2:=Lib.hid (HR2.out.went hW2 (HM.out.not_has (by omega)));obtain⟨⟨o0,o1,o2,o3,o4,o5,o6⟩,z0,z1,z2,z3,z4,z5,z6⟩:=HO2.out.ans;obtain⟨⟨p0,p1,p2,p3,p4,p5,p6⟩,y0,y1,y2,y3,y4,y5,y6⟩:=HO1.out.ans;have hx12:X1≠X2:=(by omega);clear hM2 hW2 hP a0 a1 a2 a3 a4)
  have HF:Hid (RowAt (((((((((w2.setCell ⟨X2,6,none⟩ (.int .i64 f)).setCell ⟨X2,0,none⟩ (.int .i64 c)).setCell ⟨X1,0,none⟩ (.int .i64 c)).setCell ⟨X1,1,none⟩ (.bool AnsM.nil.is)).setCell ⟨X1,2,none⟩ (.int .i64 AnsM.nil.number)).setCell ⟨X1,3,none⟩ (.bool AnsM.nil.yes)).setCell ⟨X1,4,none⟩ (.int .i64 AnsM.nil.words)).setCell ⟨X1,5,none⟩ (.bool AnsM.nil.going)).setCell ⟨X1,6,none⟩ (.int .i64 f)) X1 (ansL ⟨c,false,0,false,0,false,f⟩)) :=
    (((((((((HO1.out.setFar _ _ (by simp;omega)).setFar _ _ (by simp;omega)).set 0 _).set 1 _).set 2 _).set 3 _).set 4 _).set 5 _).set 6 _)
  refine bodyPost_ret (v:=ansV ⟨c,false,0,false,0,false,f⟩) (res_act rfl HF.out) rfl ?_
  exact retA ⟨c,false,0,false,0,false,f⟩ ⟨f,c,HP.out,rfl⟩ HM.out HB1.out HM2.out HW2.out (by repeat with_reducible (first|exact Chg.refl _ _|refine chgS ?_ (by first|(simp;done)|(simp;omega))))
def ActBad (k t a b n:Int) (c:Int):Prop:=(c=3/\¬ (1<=k/\k<=12))\/(c=2/\(1<=k/\k<=12)/\((k<10/\¬ (0<=t/\t<=3))\/regsOk k a b n=false))
set_option maxRecDepth 100000 in
set_option maxHeartbeats 4000000 in
theorem act_bad (base:Nat) (w:World) (B:Nat) (nm:Nm) (M:CM) (h:Mach base w B nm M) (k t a b n c:Int) (hc:ActBad k t a b n c) :
    Calls Try.prog 66 #[.pointer (some ⟨B,0,none⟩),.agg #[.int .i64 k,.int .i64 t,.int .i64 a,.int .i64 b,.int .i64 n]] w
      (RetA 0 base w B nm (λr M'=>r = .err c/\M' = M)):=by
  have HM:=Lib.hid h
  have HW0:Hid (∀(w0 w1:World),Below w.heap.size w w1->RowAt w0 0 []->True):=λ_ _ _ _=>trivial
  clear h
  rcases hc with ⟨rfl,hk⟩|⟨rfl,hk,hor⟩
  · by_cases h1:k<1
    · clear hk
      go_enter Try.func66,Try.ntmps66
      go_wp2_with fail
      refine bodyPost_ret (v:=ansV (.err 3)) (by simp[results,Try.results66,go_sem];rfl) rfl ⟨.err 3,M,⟨rfl,rfl⟩,rfl,nm,HM.out.below (by ((repeat first|exact bR _ _|with_reducible first|refine bN ?_|refine bD ?_|refine bA ?_ ?_|refine bS ?_ ?_);all_goals first|exact Nat.le_refl _|(simp;done)|omega|(simp;omega))),(Went.refl w B nm).below (by ((repeat first|exact bR _ _|with_reducible first|refine bN ?_|refine bD ?_|refine bA ?_ ?_|refine bS ?_ ?_);all_goals first|exact Nat.le_refl _|(simp;done)|omega|(simp;omega))) HM.out.has_lt⟩
    · have h2:12<k:=by omega
      clear hk
      go_enter Try.func66,Try.ntmps66
      go_wp2_with fail
      refine bodyPost_ret (v:=ansV (.err 3)) (by simp[results,Try.results66,go_sem];rfl) rfl ⟨.err 3,M,⟨rfl,rfl⟩,rfl,nm,HM.out.below (by ((repeat first|exact bR _ _|with_reducible first|refine bN ?_|refine bD ?_|refine bA ?_ ?_|refine bS ?_ ?_);all_goals first|exact Nat.le_refl _|(simp;done)|omega|(simp;omega))),(Went.refl w B nm).below (by ((repeat first|exact bR _ _|with_reducible first|refine bN ?_|refine bD ?_|refine bA ?_ ?_|refine bS ?_ ?_);all_goals first|exact Nat.le_refl _|(simp;done)|omega|(simp;omega))) HM.out.has_lt⟩
  · obtain⟨k1,k2⟩:=hk
    have n1:¬ k<1:=by omega
    have n2:¬ 12<k:=by omega
    by_cases ht:k<10/\¬ (0<=t/\t<=3)
    · obtain⟨k10,htt⟩:=ht
      by_cases t1:t<0
      · clear hor htt
        go_enter Try.func66,Try.ntmps66
        go_wp2_with fail
        refine bodyPost_ret (v:=ansV (.err 2)) (by simp[results,Try.results66,go_sem];rfl) rfl ⟨.err 2,M,⟨rfl,rfl⟩,rfl,nm,HM.out.below (by ((repeat first|exact bR _ _|with_reducible first|refine bN ?_|refine bD ?_|refine bA ?_ ?_|refine bS ?_ ?_);all_goals first|exact Nat.le_refl _|(simp;done)|omega|(simp;omega))),(Went.refl w B nm).below (by ((repeat first|exact bR _ _|with_reducible first|refine bN ?_|refine bD ?_|refine bA ?_ ?_|refine bS ?_ ?_);all_goals first|exact Nat.le_refl _|(simp;done)|omega|(simp;omega))) HM.out.has_lt⟩
      · have t2:4<=t:=by omega
        clear hor htt
        go_enter Try.func66,Try.ntmps66
        go_wp2_with fail
        refine bodyPost_ret (v:=ansV (.err 2)) (by simp[results,Try.results66,go_sem];rfl) rfl ⟨.err 2,M,⟨rfl,rfl⟩,rfl,nm,HM.out.below (by ((repeat first|exact bR _ _|with_reducible first|refine bN ?_|refine bD ?_|refine bA ?_ ?_|refine bS ?_ ?_);all_goals first|exact Nat.le_refl _|(simp;done)|omega|(simp;omega))),(Went.refl w B nm).below (by ((repeat first|exact bR _ _|with_reducible first|refine bN ?_|refine bD ?_|refine bA ?_ ?_|refine bS ?_ ?_);all_goals first|exact Nat.le_refl _|(simp;done)|omega|(simp;omega))) HM.out.has_lt⟩
    · have HRB:Hid (regsOk k a b n=false):=hor.resolve_left ht
      have HR:Hid (∀W,Calls Try.prog 74 #[.agg #[.int .i64 k,.int .i64 t,.int .i64 a,.int .i64 b,.int .i64 n]] W (λe w'=>e = .returned (.bool false)/\Below W.heap.size W w')):=λW=>by
        have:=registers_any k t a b n W ⟨k1,k2⟩
        rw[HRB.out] at this
        exact this
      clear hor
      by_cases k10:k<10
      · have t1:¬ t<0:=by omega
        have t2:¬ 4<=t:=by omega
        clear ht
        go_enter Try.func66,Try.ntmps66
        go_upto_region 6 with (go_at_call 74;refine (HR.out _).mono ?_;rintro e w1 ⟨rfl,hb1⟩;obtain⟨HA,HR1,HR2,HB1,hz1⟩:=rows3 hb1;clear hb1;obtain⟨a0,a1,a2,a3,a4⟩:=HA.out.act)
        obtain⟨X2,hX2⟩:∃X2,X2=w.heap.size+1+1:=⟨_,rfl⟩
        rw[<- hX2] at HR2 ⊢
        obtain⟨X1,hX1⟩:∃X1,X1=w.heap.size+1:=⟨_,rfl⟩
        rw[<- hX1] at HR1 ⊢
        have hx:w.heap.size<X1/\X1<X2/\X2<w1.heap.size:=by omega
        clear hX1 hX2 hz1
        have HF:Hid (RowAt ((((((((w1.setCell ⟨X2,0,none⟩ (.int .i64 2)).setCell ⟨X1,0,none⟩ (.int .i64 2)).setCell ⟨X1,1,none⟩ (.bool AnsM.nil.is)).setCell ⟨X1,2,none⟩ (.int .i64 AnsM.nil.number)).setCell ⟨X1,3,none⟩ (.bool AnsM.nil.yes)).setCell ⟨X1,4,none⟩ (.int .i64 AnsM.nil.words)).setCell ⟨X1,5,none⟩ (.bool AnsM.nil.going)).setCell ⟨X1,6,none⟩ (.int .i64 AnsM.nil.freed)) X1 (ansL (.err 2))) :=
          ((((((((HR1.out.setFar _ _ (by simp;omega)).set 0 _).set 1 _).set 2 _).set 3 _).set 4 _).set 5 _).set 6 _)
        obtain⟨⟨o0,o1,o2,o3,o4,o5,o6⟩,z0,z1,z2,z3,z4,z5,z6⟩:=HR2.out.ans
        obtain⟨⟨p0,p1,p2,p3,p4,p5,p6⟩,y0,y1,y2,y3,y4,y5,y6⟩:=HR1.out.ans
        have hx12:X1≠X2:=by omega
        go_wp2_with fail
        refine bodyPost_ret (v:=ansV (.err 2)) (res_act rfl HF.out) rfl ?_
        exact retA (.err 2) ⟨rfl,rfl⟩ HM.out HB1.out (HM.out.below HB1.out) (Went.refl w1 B nm) (by repeat with_reducible (first|exact Chg.refl _ _|refine chgS ?_ (by first|(simp;done)|(simp;omega))))
      · clear ht
        go_enter Try.func66,Try.ntmps66
        go_upto_region 6 with (go_at_call 74;refine (HR.out _).mono ?_;rintro e w1 ⟨rfl,hb1⟩;obtain⟨HA,HR1,HR2,HB1,hz1⟩:=rows3 hb1;clear hb1;obtain⟨a0,a1,a2,a3,a4⟩:=HA.out.act)
        obtain⟨X2,hX2⟩:∃X2,X2=w.heap.size+1+1:=⟨_,rfl⟩
        rw[<- hX2] at HR2 ⊢
        obtain⟨X1,hX1⟩:∃X1,X1=w.heap.size+1:=⟨_,rfl⟩
        rw[<- hX1] at HR1 ⊢
        have hx:w.heap.size<X1/\X1<X2/\X2<w1.heap.size:=by omega
        clear hX1 hX2 hz1
        have HF:Hid (RowAt ((((((((w1.setCell ⟨X2,0,none⟩ (.int .i64 2)).setCell ⟨X1,0,none⟩ (.int .i64 2)).setCell ⟨X1,1,none⟩ (.bool AnsM.nil.is)).setCell ⟨X1,2,none⟩ (.int .i64 AnsM.nil.number)).setCell ⟨X1,3,none⟩ (.bool AnsM.nil.yes)).setCell ⟨X1,4,none⟩ (.int .i64 AnsM.nil.words)).setCell ⟨X1,5,none⟩ (.bool AnsM.nil.going)).setCell ⟨X1,6,none⟩ (.int .i64 AnsM.nil.freed)) X1 (ansL (.err 2))) :=
          ((((((((HR1.out.setFar _ _ (by simp;omega)).set 0 _).set 1 _).set 2 _).set 3 _).set 4 _).set 5 _).set 6 _)
        obtain⟨⟨o0,o1,o2,o3,o4,o5,o6⟩,z0,z1,z2,z3,z4,z5,z6⟩:=HR2.out.ans
        obtain⟨⟨p0,p1,p2,p3,p4,p5,p6⟩,y0,y1,y2,y3,y4,y5,y6⟩:=HR1.out.ans
        have hx12:X1≠X2:=by omega
        go_wp2_with fail
        refine bodyPost_ret (v:=ansV (.err 2)) (res_act rfl HF.out) rfl ?_
        exact retA (.err 2) ⟨rfl,rfl⟩ HM.out HB1.out (HM.out.below HB1.out) (Went.refl w1 B nm) (by repeat with_reducible (first|exact Chg.refl _ _|refine chgS ?_ (by first|(simp;done)|(simp;omega))))
end Go.Proofs.Ytbeilcaadpopmab
