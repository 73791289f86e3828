/- Texts put together: Tp, Ry, Tq, Tv. -/
import Derived.Test.YtbeilcaadpopmacYl
import Derived.Test.YtbeilcaadpopmacYq
import Derived.Test.YtbeilcaadpopmacYp
set_option linter.unusedVariables false
set_option linter.unusedSimpArgs false
namespace Go.Proofs.Ytbeilcaadpopmac
open Go.RowKit Go.Maps Go.Deep
theorem step_append_Act {ops:Array Oper} {o:Oper} {a:Act} {w:World} {K:Act->World->Prop} {Q:Exit->Act->World->Prop} {E:Prop} (hg:o.guard=none) (s x:Operand)
    (ho:o.op = .call { callee:=.builtin .append,args:=#[s,x],argTypes:=#[23,23] }) (base:Nat) (v:Value) (us:List ActM) (hs:a.eval s=v) (hown:OwnAct w base v us)
    (sv:Value) (ys:List ActM) (hx:a.eval x=sv) (hy:Row w sv ys.length 5 (cellsAct ys)) (hlen:us.length+ys.length<900000) (hbase:base<=w.heap.size)
    (h:∀v' w',OwnAct w' base v' (us++ys)->w.grownBy w' v.ownBlock->(v'.ownBlock=v.ownBlock\/∀k,v'.ownBlock=some k->w.heap.size<=k)->K (a.put o.dst v') w') :
    if Region.wanted o (yielded ops a.tmps)=true then Oper.wp Try.prog o a w K Q else E:=by
  have hw:Region.wanted o (yielded ops a.tmps)=true:=by simp[Region.wanted,hg]
  rw[if_pos hw]
  obtain⟨i,hi,hz,h4,h5⟩:=info_parts Try.infoAct
  obtain⟨v',w',hrun,h1,h2,h3,h6⟩:=run_append_row (P:=Try.prog) w base 23 o.type 27 i (.agg #[.int .i64 0,.int .i64 0,.int .i64 0,.int .i64 0,.int .i64 0]) 5 40 Try.underlying23 hi hz h4 h5 rfl (by decide) v us.length _ hown.2 sv ys.length _ hy (by
      intro u' hu
      unfold cellsAct at hu
      obtain⟨r,_,hr⟩:=List.mem_flatMap.1 hu
      simp only [List.mem_cons,List.not_mem_nil,or_false] at hr
      rcases hr with rfl|rfl|rfl|rfl|rfl <;> rfl) (by omega) (by decide) hbase
  unfold Oper.wp
  simp[execOp,ho,resolve,invoke,builtin,hs,hx,hrun,Result.andThen]
  refine h v' w' ⟨by simp;omega,?_⟩ h2 ?_
  · have e:cellsAct (us++ys)=cellsAct us++cellsAct ys:=by simp[cellsAct]
    rw[e]
    simpa using h1
  · rcases h6 with h6|⟨h6,_⟩
    · exact .inl h6
    · exact .inr λk hk=>(h6.lt k hk).1
theorem step_append_Ans {ops:Array Oper} {o:Oper} {a:Act} {w:World} {K:Act->World->Prop} {Q:Exit->Act->World->Prop} {E:Prop} (hg:o.guard=none) (s x:Operand)
    (ho:o.op = .call { callee:=.builtin .append,args:=#[s,x],argTypes:=#[28,28] }) (base:Nat) (v:Value) (us:List AnsM) (hs:a.eval s=v) (hown:OwnAns w base v us)
    (sv:Value) (ys:List AnsM) (hx:a.eval x=sv) (hy:Row w sv ys.length 7 (cellsAns ys)) (hlen:us.length+ys.length<900000) (hbase:base<=w.heap.size)
    (h:∀v' w',OwnAns w' base v' (us++ys)->w.grownBy w' v.ownBlock->(v'.ownBlock=v.ownBlock\/∀k,v'.ownBlock=some k->w.heap.size<=k)->K (a.put o.dst v') w') :
    if Region.wanted o (yielded ops a.tmps)=true then Oper.wp Try.prog o a w K Q else E:=by
  have hw:Region.wanted o (yielded ops a.tmps)=true:=by simp[Region.wanted,hg]
  rw[if_pos hw]
  obtain⟨i,hi,hz,h4,h5⟩:=info_parts Try.infoAns
  obtain⟨v',w',hrun,h1,h2,h3,h6⟩:=run_append_row (P:=Try.prog) w base 28 o.type 36 i (.agg #[.int .i64 0,.bool false,.int .i64 0,.bool false,.int .i64 0,.bool false,.int .i64 0]) 7 56 Try.underlying28 hi hz h4 h5 rfl (by decide) v us.length _ hown.2 sv ys.length _ hy (by
      intro u' hu
      unfold cellsAns at hu
      obtain⟨r,_,hr⟩:=List.mem_flatMap.1 hu
      simp only [List.mem_cons,List.not_mem_nil,or_false] at hr
      rcases hr with rfl|rfl|rfl|rfl|rfl|rfl|rfl <;> rfl) (by omega) (by decide) hbase
  unfold Oper.wp
  simp[execOp,ho,resolve,invoke,builtin,hs,hx,hrun,Result.andThen]
  refine h v' w' ⟨by simp;omega,?_⟩ h2 ?_
  · have e:cellsAns (us++ys)=cellsAns us++cellsAns ys:=by simp[cellsAns]
    rw[e]
    simpa using h1
  · rcases h6 with h6|⟨h6,_⟩
    · exact .inl h6
    · exact .inr λk hk=>(h6.lt k hk).1
def natsI (l:List Nat):List Int:=l.map Int.ofNat
theorem natsI_len (l:List Nat):(natsI l).length=l.length:=by simp[natsI]
theorem natsI_append (a b:List Nat):natsI (a++b)=natsI a++natsI b:=by simp[natsI]
structure Ps (w0 wr:World) (A:List ActM) (X:List AnsM) (s:PS Nat) (pv:Nat->Value):Prop where
  bel:Below w0.heap.size w0 wr
  size:w0.heap.size+4<=wr.heap.size
  ser:RowAt wr w0.heap.size [pv 4]
  want:RowAt wr (w0.heap.size+1) [pv 5]
  parts:RowAt wr (w0.heap.size+2) [pv 0,pv 1,pv 2,pv 3]
  op:RowAt wr (w0.heap.size+3) [.int .i64 (s.op 0:Nat),.int .i64 (s.op 1:Nat),.int .i64 (s.op 2:Nat),.int .i64 (s.op 3:Nat)]
  own4:OwnAct wr (w0.heap.size+4) (pv 4) (s.ser.map λi=>A.getD i nilAct)
  own5:OwnAns wr (w0.heap.size+4) (pv 5) (s.ser.map λi=>X.getD i .nil)
  own:∀t,t<4->OwnInts wr (w0.heap.size+4) (pv t) (natsI (s.parts t))
  inj:∀i,i<6->∀j,j<6->∀k,(pv i).ownBlock=some k->(pv j).ownBlock=some k->i=j
theorem Ps.lt {w0 wr:World} {A:List ActM} {X:List AnsM} {s:PS Nat} {pv:Nat->Value} (h:Ps w0 wr A X s pv) {i:Nat} (hi:i<6) {k:Nat} (hk:(pv i).ownBlock=some k):w0.heap.size+4<=k/\k<wr.heap.size:=by
  rcases (show i=4\/i=5\/i<4 by omega) with rfl|rfl|h4
  · exact h.own4.lt hk
  · exact h.own5.lt hk
  · exact (h.own i h4).lt hk
theorem Ps.below {w0 wr w':World} {A:List ActM} {X:List AnsM} {s:PS Nat} {pv:Nat->Value} (h:Ps w0 wr A X s pv) (hb:Below wr.heap.size wr w'):Ps w0 w' A X s pv:=by
  have hz:=h.size
  exact⟨h.bel.trans (hb.mono (by omega)),Nat.le_trans hz hb.size,h.ser.below hb,h.want.below hb,h.parts.below hb,h.op.below hb,h.own4.below hb,h.own5.below hb,λt ht=>(h.own t ht).below hb,h.inj⟩
theorem Ps.part {w0 wr w2:World} {A:List ActM} {X:List AnsM} {s:PS Nat} {pv:Nat->Value} (h:Ps w0 wr A X s pv) {t:Nat} (ht:t<4) {v:Value} {xs:List Nat}
    (hc:Chg (λj=>(pv t).ownBlock=some j) wr w2) (hv:OwnInts w2 (w0.heap.size+4) v (natsI xs)) (hm:v.ownBlock=(pv t).ownBlock\/∀k,v.ownBlock=some k->wr.heap.size<=k) :
    Ps w0 (w2.setCell ⟨w0.heap.size+2,t,none⟩ v) A X { s with parts:=put1 s.parts t xs } (put1 pv t v):=by
  have hz:=h.size
  have hlt:=λk hk=>h.lt (i:=t) (k:=k) (by omega) hk
  have hno:∀j,j<w0.heap.size+4->¬ (pv t).ownBlock=some j:=λj hj e=>by have:=hlt j e;omega
  have hset:∀b,b≠w0.heap.size+2->(w2.setCell ⟨w0.heap.size+2,t,none⟩ v).heap[b]? = w2.heap[b]?:=λb hb=>Below.heap_setCell _ ⟨w0.heap.size+2,t,none⟩ _ _ hb
  have hs2:(w2.setCell ⟨w0.heap.size+2,t,none⟩ v).heap.size=w2.heap.size:=by simp[World.setCell]
  have hother:∀i,i<6->i≠t->∀b,(pv i).ownBlock=some b->(w2.setCell ⟨w0.heap.size+2,t,none⟩ v).heap[b]? = wr.heap[b]?:=λi hi hne b hb=>by
    have h1:=h.lt hi hb
    rw[hset b (by omega)]
    exact hc.block b h1.2 (λe=>hne (h.inj i hi t (by omega) b hb e))
  have hp:∀i,i≠t->put1 pv t v i=pv i:=λi hi=>put1_other _ _ _ hi
  refine⟨?_,?_,?_,?_,?_,?_,?_,?_,λu hu=>?_,λi hi j hj k h1 h2=>?_⟩
  · exact h.bel.trans (((hc.below (B:=w0.heap.size) (by omega) (λi _ e=>by have:=hlt i e;omega))).setCell (by simp) _)
  · rw[hs2];have:=hc.size;omega
  · rw[hp 4 (by omega)];exact (h.ser.chg hc (hno _ (by omega))).setFar _ _ (by simp)
  · rw[hp 5 (by omega)];exact (h.want.chg hc (hno _ (by omega))).setFar _ _ (by simp)
  · have:=(h.parts.chg hc (hno _ (by omega))).set t v
    rcases four ht with rfl|rfl|rfl|rfl <;> exact this
  · exact (h.op.chg hc (hno _ (by omega))).setFar _ _ (by simp)
  · rw[hp 4 (by omega)];exact h.own4.keep (hother 4 (by omega) (by omega))
  · rw[hp 5 (by omega)];exact h.own5.keep (hother 5 (by omega) (by omega))
  · by_cases e:u=t
    · subst e
      dsimp only
      rw[put1_same,put1_same]
      exact hv.keep λb hb=>hset b (by have:=(hv.lt hb).1;omega)
    · dsimp only
      rw[hp u e,put1_other _ _ _ e]
      exact (h.own u hu).keep (hother u (by omega) e)
  · by_cases e1:i=t
    · by_cases e2:j=t
      · rw[e1,e2]
      · rw[e1,put1_same] at h1
        rw[hp j e2] at h2
        rcases hm with hm|hm
        · rw[hm] at h1
          rw[e1];exact h.inj t (by omega) j hj k h1 h2
        · have:=hm k h1;have:=(h.lt hj h2).2;omega
    · rw[hp i e1] at h1
      by_cases e2:j=t
      · rw[e2,put1_same] at h2
        rcases hm with hm|hm
        · rw[hm] at h2
          rw[e2];exact h.inj i hi t (by omega) k h1 h2
        · have:=hm k h2;have:=(h.lt hi h1).2;omega
      · rw[hp j e2] at h2
        exact h.inj i hi j hj k h1 h2
theorem Ps.opens {w0 wr:World} {A:List ActM} {X:List AnsM} {s:PS Nat} {pv:Nat->Value} (h:Ps w0 wr A X s pv) {t:Nat} (ht:t<4) (n:Nat) :
    Ps w0 (wr.setCell ⟨w0.heap.size+3,t,none⟩ (.int .i64 (n:Nat))) A X { s with op:=put1 s.op t n } pv:=by
  have hz:=h.size
  have hset:∀b,b≠w0.heap.size+3->(wr.setCell ⟨w0.heap.size+3,t,none⟩ (.int .i64 (n:Nat))).heap[b]? = wr.heap[b]?:=λb hb=>Below.heap_setCell _ ⟨w0.heap.size+3,t,none⟩ _ _ hb
  have hs2:(wr.setCell ⟨w0.heap.size+3,t,none⟩ (.int .i64 (n:Nat))).heap.size=wr.heap.size:=by simp[World.setCell]
  refine⟨h.bel.setCell (by simp) _,by rw[hs2];exact hz,h.ser.setFar _ _ (by simp),h.want.setFar _ _ (by simp),h.parts.setFar _ _ (by simp),?_,?_,?_,λu hu=>?_,h.inj⟩
  · have:=h.op.set t (.int .i64 (n:Nat))
    rcases four ht with rfl|rfl|rfl|rfl <;> exact this
  · exact h.own4.keep λb hb=>hset b (by have:=(h.own4.lt hb).1;omega)
  · exact h.own5.keep λb hb=>hset b (by have:=(h.own5.lt hb).1;omega)
  · exact (h.own u hu).keep λb hb=>hset b (by have:=((h.own u hu).lt hb).1;omega)
theorem Ps.more {w0 wr w2:World} {A:List ActM} {X:List AnsM} {s:PS Nat} {pv:Nat->Value} (h:Ps w0 wr A X s pv) {i:Nat} {v4 v5:Value}
    (hc:Chg (λj=>(pv 4).ownBlock=some j\/(pv 5).ownBlock=some j) wr w2) (h4:OwnAct w2 (w0.heap.size+4) v4 (s.ser.map (λi=>A.getD i nilAct)++[A.getD i nilAct])) (h5:OwnAns w2 (w0.heap.size+4) v5 (s.ser.map (λi=>X.getD i .nil)++[X.getD i .nil]))
    (m4:v4.ownBlock=(pv 4).ownBlock\/∀k,v4.ownBlock=some k->wr.heap.size<=k) (m5:v5.ownBlock=(pv 5).ownBlock\/∀k,v5.ownBlock=some k->wr.heap.size<=k) (hne:∀k,v4.ownBlock=some k->v5.ownBlock≠some k) :
    Ps w0 ((w2.setCell ⟨w0.heap.size,0,none⟩ v4).setCell ⟨w0.heap.size+1,0,none⟩ v5) A X { s with ser:=s.ser++[i] } (put1 (put1 pv 4 v4) 5 v5):=by
  have hz:=h.size
  have hno:∀j,j<w0.heap.size+4->¬ ((pv 4).ownBlock=some j\/(pv 5).ownBlock=some j):=λj hj e=>by
    rcases e with e|e
    · have:=(h.lt (i:=4) (by omega) e).1;omega
    · have:=(h.lt (i:=5) (by omega) e).1;omega
  have hset:∀b,b≠w0.heap.size->b≠w0.heap.size+1->((w2.setCell ⟨w0.heap.size,0,none⟩ v4).setCell ⟨w0.heap.size+1,0,none⟩ v5).heap[b]? = w2.heap[b]?:=λb hb hb2 =>
    (Below.heap_setCell _ ⟨w0.heap.size+1,0,none⟩ _ _ hb2).trans (Below.heap_setCell _ ⟨w0.heap.size,0,none⟩ _ _ hb)
  have hs2:((w2.setCell ⟨w0.heap.size,0,none⟩ v4).setCell ⟨w0.heap.size+1,0,none⟩ v5).heap.size=w2.heap.size:=by simp[World.setCell]
  have hp:∀j,j<4->put1 (put1 pv 4 v4) 5 v5 j=pv j:=λj hj=>by rw[put1_other _ _ _ (by omega),put1_other _ _ _ (by omega)]
  have hp4:put1 (put1 pv 4 v4) 5 v5 4=v4:=by rw[put1_other _ _ _ (by omega),put1_same]
  have hp5:put1 (put1 pv 4 v4) 5 v5 5=v5:=put1_same _ _ _
  refine⟨?_,?_,?_,?_,?_,?_,?_,?_,λu hu=>?_,?_⟩
  · exact h.bel.trans (((hc.below (B:=w0.heap.size) (by omega) (λi _ e=>by
      rcases e with e|e
      · have:=(h.lt (i:=4) (by omega) e).1;omega
      · have:=(h.lt (i:=5) (by omega) e).1;omega)).setCell (by simp) _).setCell (by simp) _)
  · rw[hs2];have:=hc.size;omega
  · rw[hp4];exact ((h.ser.chg hc (hno _ (by omega))).set 0 v4).setFar _ _ (by simp)
  · rw[hp5];exact ((h.want.chg hc (hno _ (by omega))).setFar ⟨w0.heap.size,0,none⟩ v4 (by simp)).set 0 v5
  · rw[hp 0 (by omega),hp 1 (by omega),hp 2 (by omega),hp 3 (by omega)];exact ((h.parts.chg hc (hno _ (by omega))).setFar _ _ (by simp)).setFar _ _ (by simp)
  · exact ((h.op.chg hc (hno _ (by omega))).setFar _ _ (by simp)).setFar _ _ (by simp)
  · rw[hp4]
    dsimp only
    rw[List.map_append,List.map_cons,List.map_nil]
    exact h4.keep λb hb=>hset b (by have:=(h4.lt hb).1;omega) (by have:=(h4.lt hb).1;omega)
  · rw[hp5]
    dsimp only
    rw[List.map_append,List.map_cons,List.map_nil]
    exact h5.keep λb hb=>hset b (by have:=(h5.lt hb).1;omega) (by have:=(h5.lt hb).1;omega)
  · rw[hp u hu]
    refine (h.own u hu).keep λb hb=>?_
    have h1:=h.lt (i:=u) (by omega) hb
    rw[hset b (by omega) (by omega)]
    refine hc.block b h1.2 (λe=>?_)
    rcases e with e|e
    · have:=h.inj u (by omega) 4 (by omega) b hb e;omega
    · have:=h.inj u (by omega) 5 (by omega) b hb e;omega
  · -- the slices lie apart
    have old:∀r,r<6->∀k,(put1 (put1 pv 4 v4) 5 v5 r).ownBlock=some k->(pv r).ownBlock=some k\/((r=4\/r=5)/\wr.heap.size<=k):=λr hr k e=>by
      rcases (show r=4\/r=5\/r<4 by omega) with rfl|rfl|h4'
      · rw[hp4] at e
        rcases m4 with m|m
        · exact .inl (m ▸ e)
        · exact .inr ⟨.inl rfl,m k e⟩
      · rw[hp5] at e
        rcases m5 with m|m
        · exact .inl (m ▸ e)
        · exact .inr ⟨.inr rfl,m k e⟩
      · rw[hp r h4'] at e;exact .inl e
    intro a ha b hb k e1 e2
    by_cases h45:(a=4/\b=5)\/(a=5/\b=4)
    · exfalso
      rcases h45 with ⟨rfl,rfl⟩|⟨rfl,rfl⟩
      · rw[hp4] at e1;rw[hp5] at e2;exact hne k e1 e2
      · rw[hp5] at e1;rw[hp4] at e2;exact hne k e2 e1
    · rcases old a ha k e1 with o1|⟨o1,o1'⟩
      · rcases old b hb k e2 with o2|⟨o2,o2'⟩
        · exact h.inj a ha b hb k o1 o2
        · have:=(h.lt ha o1).2;omega
      · rcases old b hb k e2 with o2|⟨o2,o2'⟩
        · have:=(h.lt hb o2).2;omega
        · omega
def PsStatic (w0:World) (A:List ActM) (X:List AnsM) (AB XB:Nat) (va vx:Value):Prop:=∀W,Below w0.heap.size w0 W->W.cell? ⟨AB,0,none⟩=some va/\Acts W va A/\W.cell? ⟨XB,0,none⟩=some vx/\AnsRow W vx X
theorem Ps.cellP {w0 wr:World} {A:List ActM} {X:List AnsM} {s:PS Nat} {pv:Nat->Value} (h:Ps w0 wr A X s pv) {t:Nat} (ht:t<4):wr.cell? ⟨w0.heap.size+2,t,none⟩=some (pv t)/\wr.frozen? ⟨w0.heap.size+2,t,none⟩=false:=by
  have:=h.parts.2 t (by simpa using ht)
  rcases four ht with rfl|rfl|rfl|rfl <;> exact this
theorem Ps.cellO {w0 wr:World} {A:List ActM} {X:List AnsM} {s:PS Nat} {pv:Nat->Value} (h:Ps w0 wr A X s pv) {t:Nat} (ht:t<4):wr.cell? ⟨w0.heap.size+3,t,none⟩=some (.int .i64 (s.op t:Nat))/\wr.frozen? ⟨w0.heap.size+3,t,none⟩=false:=by
  have:=h.op.2 t (by simpa using ht)
  rcases four ht with rfl|rfl|rfl|rfl <;> exact this
theorem Ps.cellS {w0 wr:World} {A:List ActM} {X:List AnsM} {s:PS Nat} {pv:Nat->Value} (h:Ps w0 wr A X s pv):(wr.cell? ⟨w0.heap.size,0,none⟩=some (pv 4)/\wr.frozen? ⟨w0.heap.size,0,none⟩=false)/\wr.cell? ⟨w0.heap.size+1,0,none⟩=some (pv 5)/\wr.frozen? ⟨w0.heap.size+1,0,none⟩=false :=
  ⟨h.ser.2 0 (by simp),h.want.2 0 (by simp)⟩
theorem row_keep {w w':World} {b o n c size:Nat} {cs:List Value} (h:Row w (.slice (some ⟨b,o,none⟩) n c) n size cs) (hb:b<w'.heap.size) (k:w'.heap[b]? = w.heap[b]?):Row w' (.slice (some ⟨b,o,none⟩) n c) n size cs:=by
  obtain⟨h1,h2,a,cap,h3,h4,h5,h6,h7⟩:=h
  refine⟨h1,h2,a,cap,h3,h4,h5,h6,λhn=>?_⟩
  obtain⟨b',o',ha,hbs,hc⟩:=h7 hn
  have e:(some ⟨b,o,none⟩:Option Addr)=some ⟨b',o',none⟩:=by
    simp only [Value.slice.injEq] at h3
    rw[h3.1];exact ha
  simp only [Option.some.injEq,Addr.mk.injEq,and_true] at e
  obtain⟨rfl,rfl⟩:=e
  exact⟨b,o,ha,hb,λi hi=>(World.cell?_of_block (w:=w) (a:=⟨b,o+i,none⟩) k).trans (hc i hi)⟩
end Go.Proofs.Ytbeilcaadpopmac
namespace Go.Proofs.Ytbeilcaadpopmac
section
variable {P:Program} {ops:Array Oper} {Q:Exit->Act->World->Prop} {md:Region.Mode} {S T:World->Prop} {N M:List Nat}
def wpAnyM (P:Program) (md:Region.Mode) (ops:Array Oper) (Q:Exit->Act->World->Prop) (S T:World->Prop) (N M:List Nat):Nat->Array Bool->Act->World->Prop
  | 0,listed,a,w=>Region.ready md ops listed=[]/\Q .normal a w
  | fuel+1,listed,a,w =>
    (Region.ready md ops listed=[]->Q .normal a w) /\
    ∀i ∈ Region.ready md ops listed,wpOp P ops Q i (λa' w'=>((i ∉ N->S w->S w')/\(i ∉ M->T w->T w'))/\wpAnyM P md ops Q S T N M fuel (listed.setIfInBounds i true) a' w') a w
theorem wpAny_of_M:∀(fuel:Nat) (listed:Array Bool) (a:Act) (w:World),wpAnyM P md ops Q S T N M fuel listed a w->wpAny P md ops Q fuel listed a w
  | 0,_,_,_,h=>h
  | fuel+1,_,_,_,h=>⟨h.1,λi hi=>wpOp_mono (λa' w' h'=>wpAny_of_M fuel _ a' w' h'.2) (h.2 i hi)⟩
theorem wpAnyM_first {i:Nat} {oi:Oper} {v:Value} {U:World->Prop} (hi:ops[i]? = some oi) (hsel:∀(j:Nat) (o:Oper) cs b,ops[j]? = some o->o.op≠.select cs b)
    (hQ:∀c a w,Q (.panic c) (a.put oi.dst v) w->Q (.panic c) a w) (hT:(∀w,U w)\/(U=S/\∀n ∈ N,Region.waitsFor md ops n i=true)\/(U=T/\∀n ∈ M,Region.waitsFor md ops n i=true)) :
    ∀ (fuel : Nat) (listed : Array Bool) (a : Act) (w : World),
      (∀j oj,ops[j]? = some oj->j≠i->listed.getD j true=false->(∀e ∈ oj.after,Region.binds md e=true->e.on≠i)->oi.apart ops oj=true) ->
      i ∈ Region.ready md ops listed->YieldsIf P ops U oi v a->U w ->
      wpAnyM P md ops Q S T N M fuel (listed.setIfInBounds i true) (a.put oi.dst v) w->wpAnyM P md ops Q S T N M (fuel+1) listed a w:=by
  intro fuel
  induction fuel with
  | zero =>
    intro listed a w _ hr hy hS H
    refine⟨λh=>(by rw[h] at hr;cases hr),λj hj=>?_⟩
    by_cases hji:j=i
    · subst hji;exact hy.wpOp hi hS ⟨⟨λ_ h=>h,λ_ h=>h⟩,H⟩
    · have:=ready_mono hj hji
      rw[H.1] at this
      cases this
  | succ fuel ih =>
    intro listed a w hfree hr hy hS H
    refine⟨λh=>(by rw[h] at hr;cases hr),λj hj=>?_⟩
    by_cases hji:j=i
    · subst hji;exact hy.wpOp hi hS ⟨⟨λ_ h=>h,λ_ h=>h⟩,H⟩
    · have h1:=H.2 j (ready_mono hj hji)
      obtain⟨hjun,oj,hoj,hall⟩:=mem_ready.1 hj
      have hnot:∀e ∈ oj.after,Region.binds md e=true->e.on≠i:=λe he hb heq=>by
        have h1:=hall e he hb
        have h0:=(mem_ready.1 hr).1
        rw[heq] at h1
        rcases Nat.lt_or_ge i listed.size with h'|h'
        · simp[h'] at h0 h1;rw[h0] at h1;cases h1
        · simp[Array.getElem?_eq_none h'] at h1
      have hjT:∀w',(j ∉ N->S w->S w')/\(j ∉ M->T w->T w')->U w':=λw' hw=>by
        rcases hT with hT|⟨rfl,hT⟩|⟨rfl,hT⟩
        · exact hT w'
        · refine hw.1 (λe=>?_) hS
          obtain⟨on,hon,e',he',hb,hei⟩:=Region.waitsFor_spec (hT j e)
          have:on=oj:=Option.some.inj (hon.symm.trans hoj)
          subst this
          exact hnot e' he' hb hei
        · refine hw.2 (λe=>?_) hS
          obtain⟨on,hon,e',he',hb,hei⟩:=Region.waitsFor_spec (hT j e)
          have:on=oj:=Option.some.inj (hon.symm.trans hoj)
          subst this
          exact hnot e' he' hb hei
      have h2:=wpOp_putIf hoj (hfree j oj hoj hji hjun hnot) (λcs b=>hsel i oi cs b hi) (λcs b=>hsel j oj cs b hoj) hQ hy h1
      have hfree':∀k ok,ops[k]? = some ok->k≠i->(listed.setIfInBounds j true).getD k true=false ->
          (∀e ∈ ok.after,Region.binds md e=true->e.on≠i)->oi.apart ops ok=true:=λk ok hk hki hun hno=>by
        refine hfree k ok hk hki ?_ hno
        by_cases hjk:j=k
        · subst hjk;exact hjun
        · rw[getD_set_ne true hjk] at hun;exact hun
      refine wpOp_mono (λa' w' h3=>⟨h3.2.1,ih (listed.setIfInBounds j true) a' w' hfree' (ready_mono hr (Ne.symm hji)) h3.1 (hjT w' h3.2.1) ?_⟩) h2
      rw[Array.setIfInBounds_comm _ _ hji]
      exact h3.2.2
theorem wpAnyM_take (i:Nat) {oi:Oper} {v:Value} {fuel:Nat} {listed:Array Bool} {a:Act} {w:World} (hi:ops[i]? = some oi)
    (hs:Region.noSelect ops=true) (hf:Region.free md ops listed i=true) (hr:(Region.ready md ops listed).contains i=true) (hN:N.all (λn=>Region.waitsFor md ops n i)=true)
    (hQ:∀c a w,Q (.panic c) (a.put oi.dst v) w->Q (.panic c) a w) (hS:S w) (hy:YieldsIf P ops S oi v a)
    (h:wpAnyM P md ops Q S T N M fuel (listed.setIfInBounds i true) (a.put oi.dst v) w):wpAnyM P md ops Q S T N M (fuel+1) listed a w :=
  wpAnyM_first (U:=S) hi (Region.noSelect_spec hs) hQ (.inr (.inl ⟨rfl,λn hn=>by simpa using List.all_eq_true.1 hN n hn⟩)) fuel listed a w (Region.free_spec hi hf) (by simpa using hr) hy hS h
theorem wpAnyM_takeT (i:Nat) {oi:Oper} {v:Value} {fuel:Nat} {listed:Array Bool} {a:Act} {w:World} (hi:ops[i]? = some oi)
    (hs:Region.noSelect ops=true) (hf:Region.free md ops listed i=true) (hr:(Region.ready md ops listed).contains i=true) (hM:M.all (λn=>Region.waitsFor md ops n i)=true)
    (hQ:∀c a w,Q (.panic c) (a.put oi.dst v) w->Q (.panic c) a w) (hS:T w) (hy:YieldsIf P ops T oi v a)
    (h:wpAnyM P md ops Q S T N M fuel (listed.setIfInBounds i true) (a.put oi.dst v) w):wpAnyM P md ops Q S T N M (fuel+1) listed a w :=
  wpAnyM_first (U:=T) hi (Region.noSelect_spec hs) hQ (.inr (.inr ⟨rfl,λn hn=>by simpa using List.all_eq_true.1 hM n hn⟩)) fuel listed a w (Region.free_spec hi hf) (by simpa using hr) hy hS h
theorem wpAnyM_pure (i:Nat) {oi:Oper} {v:Value} {fuel:Nat} {listed:Array Bool} {a:Act} {w:World} (hi:ops[i]? = some oi)
    (hs:Region.noSelect ops=true) (hf:Region.free md ops listed i=true) (hr:(Region.ready md ops listed).contains i=true)
    (hQ:∀c a w,Q (.panic c) (a.put oi.dst v) w->Q (.panic c) a w) (hy:YieldsIf P ops (λ_=>True) oi v a)
    (h:wpAnyM P md ops Q S T N M fuel (listed.setIfInBounds i true) (a.put oi.dst v) w):wpAnyM P md ops Q S T N M (fuel+1) listed a w :=
  wpAnyM_first (U:=λ_=>True) hi (Region.noSelect_spec hs) hQ (.inl λ_=>trivial) fuel listed a w (Region.free_spec hi hf) (by simpa using hr) hy trivial h
theorem wpAnyM_one (i:Nat) {o:Oper} {fuel:Nat} {listed:Array Bool} {a:Act} {w:World} (hi:ops[i]? = some o) (hr:Region.ready md ops listed=[i])
    (h:∀K:Act->World->Prop,Go.Shut (∀a' w',((i ∉ N->S w->S w')/\(i ∉ M->T w->T w'))->(((i ∉ N->S w->S w')/\(i ∉ M->T w->T w'))->wpAnyM P md ops Q S T N M fuel (listed.setIfInBounds i true) a' w')->K a' w') ->
      (if Region.wanted o (yielded ops a.tmps) then o.wp P a w K Q else K (a.put o.dst undef) w)):wpAnyM P md ops Q S T N M (fuel+1) listed a w:=by
  refine⟨λh0=>(by rw[hr] at h0;cases h0),λj hj=>?_⟩
  rw[hr,List.mem_singleton] at hj
  subst hj
  have h2:=h (λa' w'=>((j ∉ N->S w->S w')/\(j ∉ M->T w->T w'))/\wpAnyM P md ops Q S T N M fuel (listed.setIfInBounds j true) a' w') (λa' w' h1 h3=>⟨h1,h3 h1⟩)
  unfold wpOp
  rw[hi]
  simp only
  split
  · rename_i hw;rw[if_pos hw] at h2;exact .inl h2
  · rename_i hw;rw[if_neg hw] at h2;exact h2
theorem wpAnyM_done {listed:Array Bool} {a:Act} {w:World} (hr:Region.ready md ops listed=[]) (h:Q .normal a w) :
    ∀fuel,wpAnyM P md ops Q S T N M fuel listed a w
  | 0=>⟨hr,h⟩
  | _+1=>⟨λ_=>h,by rw[hr];simp⟩
theorem wp_region_M {id:Nat} {a:Act} {w w2:World} (N M:List Nat) (S T:World->Prop) (hm:P.follows .mixedOrders=true) (hw:w2=w.drew)
    (h:wpAnyM P .any ops Q S T N M ops.size (Array.replicate ops.size false) a w2):(Code.region id ops true).wp P Q a w:=by
  subst hw
  exact wp_region_any hm (wpAny_of_M _ _ _ _ h)
theorem wpAnyM_two (i j:Nat) {oi oj:Oper} {fuel:Nat} {listed:Array Bool} {a:Act} {w:World} (hi:ops[i]? = some oi) (hj:ops[j]? = some oj) (hr:Region.ready md ops listed=[i,j])
    (h1:∀K:Act->World->Prop,Go.Shut (∀a' w',((i ∉ N->S w->S w')/\(i ∉ M->T w->T w'))->(((i ∉ N->S w->S w')/\(i ∉ M->T w->T w'))->wpAnyM P md ops Q S T N M fuel (listed.setIfInBounds i true) a' w')->K a' w') ->
      (if Region.wanted oi (yielded ops a.tmps) then oi.wp P a w K Q else K (a.put oi.dst undef) w))
    (h2:∀K:Act->World->Prop,Go.Shut (∀a' w',((j ∉ N->S w->S w')/\(j ∉ M->T w->T w'))->(((j ∉ N->S w->S w')/\(j ∉ M->T w->T w'))->wpAnyM P md ops Q S T N M fuel (listed.setIfInBounds j true) a' w')->K a' w') ->
      (if Region.wanted oj (yielded ops a.tmps) then oj.wp P a w K Q else K (a.put oj.dst undef) w)):wpAnyM P md ops Q S T N M (fuel+1) listed a w:=by
  refine⟨λh0=>(by rw[hr] at h0;cases h0),λl hl=>?_⟩
  rw[hr] at hl
  rcases List.mem_cons.1 hl with rfl|hl
  · have h3:=h1 (λa' w'=>((l ∉ N->S w->S w')/\(l ∉ M->T w->T w'))/\wpAnyM P md ops Q S T N M fuel (listed.setIfInBounds l true) a' w') (λa' w' k1 k3=>⟨k1,k3 k1⟩)
    unfold wpOp
    rw[hi]
    simp only
    split
    · rename_i hw;rw[if_pos hw] at h3;exact .inl h3
    · rename_i hw;rw[if_neg hw] at h3;exact h3
  · rw[List.mem_singleton] at hl
    subst hl
    have h3:=h2 (λa' w'=>((l ∉ N->S w->S w')/\(l ∉ M->T w->T w'))/\wpAnyM P md ops Q S T N M fuel (listed.setIfInBounds l true) a' w') (λa' w' k1 k3=>⟨k1,k3 k1⟩)
    unfold wpOp
    rw[hj]
    simp only
    split
    · rename_i hw;rw[if_pos hw] at h3;exact .inl h3
    · rename_i hw;rw[if_neg hw] at h3;exact h3
end
end Go.Proofs.Ytbeilcaadpopmac
namespace Go.Proofs.Ytbeilcaadpopmac
open Go.RowKit Go.Maps Go.Deep
set_option maxRecDepth 100000 in
set_option maxHeartbeats 4000000 in
theorem place_any (w0 wr:World) (A:List ActM) (X:List AnsM) (s:PS Nat) (pv:Nat->Value) (AB XB:Nat) (la xa:Option Addr) (lc xc:Nat) (hst:PsStatic w0 A X AB XB (.slice la A.length lc) (.slice xa X.length xc)) (hX:X.length=A.length) (hA:A.length<=100)
    (h:Ps w0 wr A X s pv) {t:Nat} (ht:t<4) (hall:∀i ∈ s.parts t,i<A.length) (hsz:s.ser.length+(s.parts t).length<=100) :
    Calls Try.prog 10 #[.int .i64 t,.pointer (some ⟨w0.heap.size+2,0,none⟩),.pointer (some ⟨w0.heap.size,0,none⟩),.pointer (some ⟨AB,0,none⟩),.pointer (some ⟨w0.heap.size+1,0,none⟩),.pointer (some ⟨XB,0,none⟩)] wr λe w'=>e = .returned (.tuple #[])/\∃pv',Ps w0 w' A X (s.place t) pv':=by
  have HST:=Lib.hid hst;have H:=Lib.hid h;have HALL:=Lib.hid hall
  obtain⟨pa,pc,hpt⟩:=(h.own t ht).shape
  rw[natsI_len] at hpt
  obtain⟨n,hn⟩:∃n,n=(s.parts t).length:=⟨_,rfl⟩
  have HN:=Lib.hid hn
  rw[<- hn] at hpt hsz
  obtain⟨d0,d1⟩:=h.cellP ht
  rw[hpt] at d0
  have HPT:=Lib.hid hpt
  obtain⟨P,hP⟩:∃P,P=w0.heap.size+2:=⟨_,rfl⟩
  obtain⟨S,hS⟩:∃S,S=w0.heap.size:=⟨_,rfl⟩
  obtain⟨Wb,hWb⟩:∃W,W=w0.heap.size+1:=⟨_,rfl⟩
  have HP:=Lib.hid hP;have HS:=Lib.hid hS;have HW:=Lib.hid hWb
  rw[<- hP] at d0 d1
  rw[<- hP,<- hWb,<- hS]
  have ht4:(t:Int)<4:=by omega
  have ht0:0<=(t:Int):=by omega
  have HST0:Hid (Ps w0 wr A X { s with ser:=s.ser++(s.parts t).take 0 } pv):=by
    rw[Hid,List.take_zero,List.append_nil];exact h
  clear hst h hall hpt hP hS hWb hn
  go_enter Try.func10,Try.ntmps10
  go_wp2_with fail
  go_loopw [13] (λu wk=>∃(k:Nat) (pk:Nat->Value),u = .int .i64 k/\k<=n/\Ps w0 wk A X { s with ser:=s.ser++(s.parts t).take k } pk/\pk t=pv t) (λu _=>n - (intOf u).toNat)
  case atStart=>exact⟨0,pv,rfl,Nat.zero_le _,HST0.out,rfl⟩
  case round =>
    obtain⟨k,pk,rfl,hk,hps,hpk⟩:=hrel
    have HPS:=Lib.hid hps;have HPK:=Lib.hid hpk
    clear hps hpk HST0 H
    by_cases hlt:k<n
    · have hlt':(k:Int)<(n:Int):=by omega
      have hO:=HPS.out.own t ht
      rw[HPK.out,HPT.out] at hO
      obtain⟨b,o,rfl,hbz,hat⟩:=hO.ints.at (by rw[natsI_len];show 0<(s.parts t).length;rw[<- HN.out];omega)
      have hkp:k<(s.parts t).length:=by rw[<- HN.out];exact hlt
      have hel:=hat k (by rw[natsI_len];exact hkp)
      obtain⟨i,hi⟩:∃i,i=(s.parts t)[k]:=⟨_,rfl⟩
      have hge:(natsI (s.parts t)).getD k 0=(i:Int):=by
        rw[hi,natsI,List.getD_eq_getElem?_getD,List.getElem?_map,List.getElem?_eq_getElem hkp];rfl
      rw[hge] at hel
      have hiA:i<A.length:=HALL.out i (by rw[hi];exact List.getElem_mem hkp)
      have HTK:Hid ((s.parts t).take (k+1)=(s.parts t).take k++[i]):=by rw[Hid,hi,List.take_succ_eq_append_getElem hkp]
      clear hat hO hge hi hbz
      obtain⟨sa,hsa,sx,hsx⟩:=HST.out wr HPS.out.bel
      obtain⟨lb,lo,rfl,_,hla⟩:=hsa.at (by omega)
      obtain⟨xb,xo,rfl,_,hxa⟩:=ansRow_at hsx (by omega)
      obtain⟨⟨a0,a1,a2,a3,a4⟩,_⟩:=hla i hiA
      obtain⟨n0,n1,n2,n3,n4,n5,n6⟩:=hxa i (by omega)
      obtain⟨r,hr⟩:∃r,r=A[i]:=⟨_,rfl⟩
      have hiX:i<X.length:=by omega
      obtain⟨an,han⟩:∃an,an=X[i]:=⟨_,rfl⟩
      rw[<- hr] at a0 a1 a2 a3 a4
      rw[<- han] at n0 n1 n2 n3 n4 n5 n6
      have HRA:Hid (A.getD i nilAct=r/\X.getD i .nil=an):=by
        rw[Hid,hr,han,List.getD_eq_getElem?_getD,List.getD_eq_getElem?_getD,List.getElem?_eq_getElem hiA,List.getElem?_eq_getElem hiX];exact⟨rfl,rfl⟩
      obtain⟨⟨c4,f4⟩,c5,f5⟩:=HPS.out.cellS
      rw[<- HS.out] at c4 f4
      rw[<- HW.out] at c5 f5
      have hiI:(i:Int)<(A.length:Int):=by omega
      have hiJ:(i:Int)<(X.length:Int):=by omega
      clear hla hxa hsa hsx hr han
      go_upto_region 3 with fail
      obtain⟨Y,hY⟩:∃Y:Nat->Prop,Y=λj=>(pk 4).ownBlock=some j\/(pk 5).ownBlock=some j:=⟨_,rfl⟩
      have HYN:Hid (∀W,Chg Y wr W->Below w0.heap.size w0 W):=λW hW=>HPS.out.bel.trans (hW.below (by have:=HPS.out.size;omega) (λj _ e=>by
        rw[hY] at e
        rcases e with e|e
        · have:=(HPS.out.lt (i:=4) (by omega) e).1;omega
        · have:=(HPS.out.lt (i:=5) (by omega) e).1;omega))
      have HYB:Hid (∀j,j<w0.heap.size+4->¬ Y j):=λj hj e=>by
        rw[hY] at e
        rcases e with e|e
        · have:=(HPS.out.lt (i:=4) (by omega) e).1;omega
        · have:=(HPS.out.lt (i:=5) (by omega) e).1;omega
      have HBOX:Hid (∀W,Chg Y wr W->(W.cell? ⟨S,0,none⟩=some (pk 4)/\W.frozen? ⟨S,0,none⟩=false)/\W.cell? ⟨Wb,0,none⟩=some (pk 5)/\W.frozen? ⟨Wb,0,none⟩=false):=λW hW=>by
        have g1:=(HPS.out.ser.chg hW (HYB.out _ (by omega))).2 0 (by simp)
        have g2:=(HPS.out.want.chg hW (HYB.out _ (by omega))).2 0 (by simp)
        rw[<- HS.out] at g1
        rw[<- HW.out] at g2
        exact⟨g1,g2⟩
      have HO4:Hid (∀W,Chg (λ_=>False) wr W->OwnAct W (w0.heap.size+4) (pk 4) ((s.ser++(s.parts t).take k).map λi=>A.getD i nilAct)):=λW hW=>HPS.out.own4.keep λb hb=>hW.block b (HPS.out.lt (i:=4) (by omega) hb).2 (λe=>e)
      have HO5:Hid (∀W,Chg (λj=>(pk 4).ownBlock=some j) wr W->OwnAns W (w0.heap.size+4) (pk 5) ((s.ser++(s.parts t).take k).map λi=>X.getD i .nil)):=λW hW=>HPS.out.own5.keep λb hb=>hW.block b (HPS.out.lt (i:=5) (by omega) hb).2 (λe=>by have:=HPS.out.inj 4 (by omega) 5 (by omega) b e hb;omega)
      have HLS:Hid ((s.ser++(s.parts t).take k).length<=100):=by
        rw[Hid,List.length_append,List.length_take];omega
      have HYE:=Lib.hid hY
      have HBZ:Hid (w0.heap.size+4<=wr.heap.size):=HPS.out.size
      refine Code.wp_mono (Q:=λe a W=>e = .normal/\(∃pk2,Ps w0 W A X { s with ser:=s.ser++(s.parts t).take (k+1) } pk2/\pk2 t=pv t)/\∃x17 x18 x19 x20 x21 x22 x23 x24 x25 x26 x27 x28 x29 x30:Value,a={ tmps:=#[.int .i64 (t:Int),.pointer (some ⟨P,0,none⟩),.pointer (some ⟨S,0,none⟩),.pointer (some ⟨AB,0,none⟩),.pointer (some ⟨Wb,0,none⟩),.pointer (some ⟨XB,0,none⟩),undef,undef,.int .i64 (i:Int),.int .i64 (t:Int),.pointer (some ⟨P,t,none⟩),.slice (some ⟨b,o,none⟩) n pc,.int .i64 (n:Int),.int .i64 (k:Int),.bool true,.pointer (some ⟨b,o+k,none⟩),.int .i64 (i:Int),x17,x18,x19,x20,x21,x22,x23,x24,x25,x26,x27,x28,x29,x30,u31,undef,undef],defers:=[] }) ?_ ?_
      · rintro e a W ⟨rfl,⟨pk2,hps2,hpk2⟩,x17,x18,x19,x20,x21,x22,x23,x24,x25,x26,x27,x28,x29,x30,rfl⟩
        have HP2:=Lib.hid hps2;have HPK2:=Lib.hid hpk2
        clear hps2 hpk2
        go_wp2_with fail
        exact⟨⟨k+1,pk2,by go_num,by omega,HP2.out,HPK2.out⟩,by simp[intOf];omega⟩
      clear a0 a1 a2 a3 a4 n0 n1 n2 n3 n4 n5 n6 c4 c5
      obtain⟨w8,hw8⟩:∃w8,w8=wr.drew:=⟨_,rfl⟩
      have HC8:Hid (∀Z,Chg Z wr w8):=by rw[Hid,hw8];exact λZ=>Chg.drew Z _
      have HKT:Hid (∀W,Below w0.heap.size w0 W->W.cell? ⟨Wb,0,none⟩=some (pk 5)->(W.cell? ⟨Wb,0,none⟩=some (pk 5)/\W.cell? ⟨AB,0,none⟩=some (.slice (some ⟨lb,lo,none⟩) A.length lc)/\W.cell? ⟨XB,0,none⟩=some (.slice (some ⟨xb,xo,none⟩) X.length xc))/\(W.cell? ⟨lb,lo+i * 5,none⟩=some (.int .i64 r.kind)/\W.cell? ⟨lb,lo+i * 5+1,none⟩=some (.int .i64 r.t)/\W.cell? ⟨lb,lo+i * 5+2,none⟩=some (.int .i64 r.a)/\W.cell? ⟨lb,lo+i * 5+3,none⟩=some (.int .i64 r.b)/\W.cell? ⟨lb,lo+i * 5+4,none⟩=some (.int .i64 r.n))/\(W.cell? ⟨xb,xo+i * 7,none⟩=some (.int .i64 an.code)/\W.cell? ⟨xb,xo+i * 7+1,none⟩=some (.bool an.is)/\W.cell? ⟨xb,xo+i * 7+2,none⟩=some (.int .i64 an.number)/\W.cell? ⟨xb,xo+i * 7+3,none⟩=some (.bool an.yes)/\W.cell? ⟨xb,xo+i * 7+4,none⟩=some (.int .i64 an.words)/\W.cell? ⟨xb,xo+i * 7+5,none⟩=some (.bool an.going)/\W.cell? ⟨xb,xo+i * 7+6,none⟩=some (.int .i64 an.freed))):=λW hB hWb=>by
        obtain⟨sa,hsa,sx,hsx⟩:=HST.out W hB
        obtain⟨lb',lo',e1,_,hla⟩:=hsa.at (by omega)
        obtain⟨xb',xo',e2,_,hxa⟩:=ansRow_at hsx (by omega)
        simp only [Option.some.injEq,Addr.mk.injEq,and_true] at e1 e2
        obtain⟨rfl,rfl⟩:=e1
        obtain⟨rfl,rfl⟩:=e2
        have g1:=(hla i hiA).1
        have g2:=hxa i hiX
        have r1:=HRA.out.1;have r2:=HRA.out.2
        rw[List.getD_eq_getElem?_getD,List.getElem?_eq_getElem hiA,Option.getD_some] at r1
        rw[List.getD_eq_getElem?_getD,List.getElem?_eq_getElem hiX,Option.getD_some] at r2
        rw[r1] at g1
        rw[r2] at g2
        exact⟨⟨hWb,sa,sx⟩,g1,g2⟩
      have HKS:Hid (∀W,Chg Y wr W->W.cell? ⟨S,0,none⟩=some (pk 4)):=λW hW=>(HBOX.out W hW).1.1
      have HKT2:Hid (∀W,Chg Y wr W->(W.cell? ⟨Wb,0,none⟩=some (pk 5)/\W.cell? ⟨AB,0,none⟩=some (.slice (some ⟨lb,lo,none⟩) A.length lc)/\W.cell? ⟨XB,0,none⟩=some (.slice (some ⟨xb,xo,none⟩) X.length xc))/\(W.cell? ⟨lb,lo+i * 5,none⟩=some (.int .i64 r.kind)/\W.cell? ⟨lb,lo+i * 5+1,none⟩=some (.int .i64 r.t)/\W.cell? ⟨lb,lo+i * 5+2,none⟩=some (.int .i64 r.a)/\W.cell? ⟨lb,lo+i * 5+3,none⟩=some (.int .i64 r.b)/\W.cell? ⟨lb,lo+i * 5+4,none⟩=some (.int .i64 r.n))/\(W.cell? ⟨xb,xo+i * 7,none⟩=some (.int .i64 an.code)/\W.cell? ⟨xb,xo+i * 7+1,none⟩=some (.bool an.is)/\W.cell? ⟨xb,xo+i * 7+2,none⟩=some (.int .i64 an.number)/\W.cell? ⟨xb,xo+i * 7+3,none⟩=some (.bool an.yes)/\W.cell? ⟨xb,xo+i * 7+4,none⟩=some (.int .i64 an.words)/\W.cell? ⟨xb,xo+i * 7+5,none⟩=some (.bool an.going)/\W.cell? ⟨xb,xo+i * 7+6,none⟩=some (.int .i64 an.freed))):=λW hW=>HKT.out W (HYN.out W hW) (HBOX.out W hW).2.1
      have hS8:(λW:World=>W.cell? ⟨S,0,none⟩=some (pk 4)) w8:=HKS.out w8 (HC8.out _)
      have hT8:(λW:World=>(W.cell? ⟨Wb,0,none⟩=some (pk 5)/\W.cell? ⟨AB,0,none⟩=some (.slice (some ⟨lb,lo,none⟩) A.length lc)/\W.cell? ⟨XB,0,none⟩=some (.slice (some ⟨xb,xo,none⟩) X.length xc))/\(W.cell? ⟨lb,lo+i * 5,none⟩=some (.int .i64 r.kind)/\W.cell? ⟨lb,lo+i * 5+1,none⟩=some (.int .i64 r.t)/\W.cell? ⟨lb,lo+i * 5+2,none⟩=some (.int .i64 r.a)/\W.cell? ⟨lb,lo+i * 5+3,none⟩=some (.int .i64 r.b)/\W.cell? ⟨lb,lo+i * 5+4,none⟩=some (.int .i64 r.n))/\(W.cell? ⟨xb,xo+i * 7,none⟩=some (.int .i64 an.code)/\W.cell? ⟨xb,xo+i * 7+1,none⟩=some (.bool an.is)/\W.cell? ⟨xb,xo+i * 7+2,none⟩=some (.int .i64 an.number)/\W.cell? ⟨xb,xo+i * 7+3,none⟩=some (.bool an.yes)/\W.cell? ⟨xb,xo+i * 7+4,none⟩=some (.int .i64 an.words)/\W.cell? ⟨xb,xo+i * 7+5,none⟩=some (.bool an.going)/\W.cell? ⟨xb,xo+i * 7+6,none⟩=some (.int .i64 an.freed))) w8:=HKT2.out w8 (HC8.out _)
      refine wp_region_M [14,15] [15] (λW=>W.cell? ⟨S,0,none⟩=some (pk 4)) (λW=>(W.cell? ⟨Wb,0,none⟩=some (pk 5)/\W.cell? ⟨AB,0,none⟩=some (.slice (some ⟨lb,lo,none⟩) A.length lc)/\W.cell? ⟨XB,0,none⟩=some (.slice (some ⟨xb,xo,none⟩) X.length xc))/\(W.cell? ⟨lb,lo+i * 5,none⟩=some (.int .i64 r.kind)/\W.cell? ⟨lb,lo+i * 5+1,none⟩=some (.int .i64 r.t)/\W.cell? ⟨lb,lo+i * 5+2,none⟩=some (.int .i64 r.a)/\W.cell? ⟨lb,lo+i * 5+3,none⟩=some (.int .i64 r.b)/\W.cell? ⟨lb,lo+i * 5+4,none⟩=some (.int .i64 r.n))/\(W.cell? ⟨xb,xo+i * 7,none⟩=some (.int .i64 an.code)/\W.cell? ⟨xb,xo+i * 7+1,none⟩=some (.bool an.is)/\W.cell? ⟨xb,xo+i * 7+2,none⟩=some (.int .i64 an.number)/\W.cell? ⟨xb,xo+i * 7+3,none⟩=some (.bool an.yes)/\W.cell? ⟨xb,xo+i * 7+4,none⟩=some (.int .i64 an.words)/\W.cell? ⟨xb,xo+i * 7+5,none⟩=some (.bool an.going)/\W.cell? ⟨xb,xo+i * 7+6,none⟩=some (.int .i64 an.freed))) (by kernel_rfl) hw8 ?_
      clear hw8
      refine wpAnyM_take (v:=?_) 0 rfl (by kernel_rfl) (by kernel_rfl) (by kernel_rfl) (by kernel_rfl) (λ_ _ _ h=>nomatch h.1) hS8 (.inl ⟨by rfl,?_⟩) ?_
      rotate_left
      · (intro W hW;go_simp;try with_reducible rfl)
      try simp only [Act.put,List.setIfInBounds_toArray,List.set_cons_zero,List.set_cons_succ]
      refine wpAnyM_takeT (v:=?_) 1 rfl (by kernel_rfl) (by kernel_rfl) (by kernel_rfl) (by kernel_rfl) (λ_ _ _ h=>nomatch h.1) hT8 (.inl ⟨by rfl,?_⟩) ?_
      rotate_left
      · (intro W hW;obtain⟨⟨k2,k3,k4⟩,⟨k5,k6,k7,k8,k9⟩,m1,m2,m3,m4,m5,m6,m7⟩:=hW;go_simp;try with_reducible rfl)
      try simp only [Act.put,List.setIfInBounds_toArray,List.set_cons_zero,List.set_cons_succ]
      refine wpAnyM_takeT (v:=?_) 2 rfl (by kernel_rfl) (by kernel_rfl) (by kernel_rfl) (by kernel_rfl) (λ_ _ _ h=>nomatch h.1) hT8 (.inl ⟨by rfl,?_⟩) ?_
      rotate_left
      · (intro W hW;obtain⟨⟨k2,k3,k4⟩,⟨k5,k6,k7,k8,k9⟩,m1,m2,m3,m4,m5,m6,m7⟩:=hW;go_simp;try with_reducible rfl)
      try simp only [Act.put,List.setIfInBounds_toArray,List.set_cons_zero,List.set_cons_succ]
      refine wpAnyM_takeT (v:=?_) 3 rfl (by kernel_rfl) (by kernel_rfl) (by kernel_rfl) (by kernel_rfl) (λ_ _ _ h=>nomatch h.1) hT8 (.inl ⟨by rfl,?_⟩) ?_
      rotate_left
      · (intro W hW;obtain⟨⟨k2,k3,k4⟩,⟨k5,k6,k7,k8,k9⟩,m1,m2,m3,m4,m5,m6,m7⟩:=hW;go_simp;try with_reducible rfl)
      try simp only [Act.put,List.setIfInBounds_toArray,List.set_cons_zero,List.set_cons_succ]
      refine wpAnyM_takeT (v:=?_) 4 rfl (by kernel_rfl) (by kernel_rfl) (by kernel_rfl) (by kernel_rfl) (λ_ _ _ h=>nomatch h.1) hT8 (.inl ⟨by rfl,?_⟩) ?_
      rotate_left
      · (intro W hW;obtain⟨⟨k2,k3,k4⟩,⟨k5,k6,k7,k8,k9⟩,m1,m2,m3,m4,m5,m6,m7⟩:=hW;go_simp;try with_reducible rfl)
      try simp only [Act.put,List.setIfInBounds_toArray,List.set_cons_zero,List.set_cons_succ]
      refine wpAnyM_takeT (v:=?_) 7 rfl (by kernel_rfl) (by kernel_rfl) (by kernel_rfl) (by kernel_rfl) (λ_ _ _ h=>nomatch h.1) hT8 (.inl ⟨by rfl,?_⟩) ?_
      rotate_left
      · (intro W hW;obtain⟨⟨k2,k3,k4⟩,⟨k5,k6,k7,k8,k9⟩,m1,m2,m3,m4,m5,m6,m7⟩:=hW;go_simp;try with_reducible rfl)
      try simp only [Act.put,List.setIfInBounds_toArray,List.set_cons_zero,List.set_cons_succ]
      refine wpAnyM_takeT (v:=?_) 8 rfl (by kernel_rfl) (by kernel_rfl) (by kernel_rfl) (by kernel_rfl) (λ_ _ _ h=>nomatch h.1) hT8 (.inl ⟨by rfl,?_⟩) ?_
      rotate_left
      · (intro W hW;obtain⟨⟨k2,k3,k4⟩,⟨k5,k6,k7,k8,k9⟩,m1,m2,m3,m4,m5,m6,m7⟩:=hW;go_simp;try with_reducible rfl)
      try simp only [Act.put,List.setIfInBounds_toArray,List.set_cons_zero,List.set_cons_succ]
      refine wpAnyM_takeT (v:=?_) 9 rfl (by kernel_rfl) (by kernel_rfl) (by kernel_rfl) (by kernel_rfl) (λ_ _ _ h=>nomatch h.1) hT8 (.inl ⟨by rfl,?_⟩) ?_
      rotate_left
      · (intro W hW;obtain⟨⟨k2,k3,k4⟩,⟨k5,k6,k7,k8,k9⟩,m1,m2,m3,m4,m5,m6,m7⟩:=hW;go_simp;try with_reducible rfl)
      try simp only [Act.put,List.setIfInBounds_toArray,List.set_cons_zero,List.set_cons_succ]
      refine wpAnyM_takeT (v:=?_) 10 rfl (by kernel_rfl) (by kernel_rfl) (by kernel_rfl) (by kernel_rfl) (λ_ _ _ h=>nomatch h.1) hT8 (.inl ⟨by rfl,?_⟩) ?_
      rotate_left
      · (intro W hW;obtain⟨⟨k2,k3,k4⟩,⟨k5,k6,k7,k8,k9⟩,m1,m2,m3,m4,m5,m6,m7⟩:=hW;go_simp;try with_reducible rfl)
      try simp only [Act.put,List.setIfInBounds_toArray,List.set_cons_zero,List.set_cons_succ]
      refine wpAnyM_takeT (v:=?_) 11 rfl (by kernel_rfl) (by kernel_rfl) (by kernel_rfl) (by kernel_rfl) (λ_ _ _ h=>nomatch h.1) hT8 (.inl ⟨by rfl,?_⟩) ?_
      rotate_left
      · (intro W hW;obtain⟨⟨k2,k3,k4⟩,⟨k5,k6,k7,k8,k9⟩,m1,m2,m3,m4,m5,m6,m7⟩:=hW;go_simp;try with_reducible rfl)
      try simp only [Act.put,List.setIfInBounds_toArray,List.set_cons_zero,List.set_cons_succ]
      refine wpAnyM_two 5 12 rfl rfl (by kernel_rfl) (λK hK=>?_) (λK hK=>?_)
      · skip
        go_simp
        obtain⟨nwa,hnwa⟩:∃n,n=w8.heap.size:=⟨_,rfl⟩
        have HRAwa:Hid (Row (w8.alloc (.cells #[.int .i64 r.kind,.int .i64 r.t,.int .i64 r.a,.int .i64 r.b,.int .i64 r.n] 27)) (.slice (some ⟨nwa,0,none⟩) 1 1) 1 5 (cellsAct [r])):=row_Act w8 r hnwa
        obtain⟨wa,hwa⟩:∃W,W=w8.alloc (.cells #[.int .i64 r.kind,.int .i64 r.t,.int .i64 r.a,.int .i64 r.b,.int .i64 r.n] 27):=⟨_,rfl⟩
        have HCwa:Hid (∀Z,Chg Z wr wa):=by rw[Hid,hwa];exact λZ=>(HC8.out Z).trans (Chg.alloc _ _ _)
        have HBBwa:Hid (Below w8.heap.size w8 wa/\nwa<wa.heap.size/\wr.heap.size<=nwa):=by rw[Hid,hwa,hnwa];exact⟨(Below.refl _ _).alloc (Nat.le_refl _) _,by simp,(HC8.out (λ_=>False)).size⟩
        rw[<- hwa] at HRAwa
        rw[<- hwa,<- hnwa]
        clear hwa hnwa
        refine hK.out _ _ ⟨λ_ _=>HKS.out _ (HCwa.out _),λ_ _=>HKT2.out _ (HCwa.out _)⟩ (λ_=>?_)
        clear hK K
        try simp only [Act.put,List.setIfInBounds_toArray,List.set_cons_zero,List.set_cons_succ]
        refine wpAnyM_two 6 12 rfl rfl (by kernel_rfl) (λK hK=>?_) (λK hK=>?_)
        · skip
          refine step_append_Act rfl _ _ rfl (w0.heap.size+4) (pk 4) _ rfl (HO4.out _ (HCwa.out _)) _ [r] rfl HRAwa.out (by have:=HLS.out;simp only [List.length_map,List.length_singleton];omega) (by have:=HBZ.out;have:=(HCwa.out (λ_=>False)).size;omega) ?_
          intro v7 w7 hv7 hg7 hm7
          obtain⟨l7,x7,c7,rfl⟩:∃l a c,v7 = .slice a l c:=by obtain⟨a,c,e⟩:=hv7.shape;exact⟨_,a,c,e⟩
          have HV7:=Lib.hid hv7;have HG7:=Lib.hid hg7;have HM7:=Lib.hid hm7
          have HCw7:Hid (Chg (λj=>(pk 4).ownBlock=some j) wr w7):=(HCwa.out _).trans (Chg.ofGrown _ hg7 (λj hj=>hj))
          have HM7':Hid ((Value.slice x7 l7 c7).ownBlock=(pk 4).ownBlock\/∀k,(Value.slice x7 l7 c7).ownBlock=some k->wr.heap.size<=k):=hm7.imp id (λh k e=>Nat.le_trans (HCwa.out (λ_=>False)).size (h k e))
          clear hv7 hg7 hm7 HM7
          refine hK.out _ _ ⟨λ_ _=>HKS.out _ (HCw7.out.mono (λj _ hj=>by rw[HYE.out];exact .inl hj)),λ_ _=>HKT2.out _ (HCw7.out.mono (λj _ hj=>by rw[HYE.out];exact .inl hj))⟩ (λ_=>?_)
          clear hK K
          try simp only [Act.put,List.setIfInBounds_toArray,List.set_cons_zero,List.set_cons_succ]
          have HN7:Hid (∀j,(Value.slice x7 l7 c7).ownBlock=some j->(pk 5).ownBlock≠some j):=λj h7 h9=>by rcases HM7'.out with m|m;(rw[m] at h7;have:=HPS.out.inj 4 (by omega) 5 (by omega) j h7 h9;omega);(have:=m j h7;have:=(HPS.out.lt (i:=5) (by omega) h9).2;omega)
          refine wpAnyM_one 12 rfl (by kernel_rfl) λK hK=>?_
          go_simp
          obtain⟨nwb,hnwb⟩:∃n,n=w7.heap.size:=⟨_,rfl⟩
          have HRBwb:Hid (Row (w7.alloc (.cells #[.int .i64 an.code,.bool an.is,.int .i64 an.number,.bool an.yes,.int .i64 an.words,.bool an.going,.int .i64 an.freed] 36)) (.slice (some ⟨nwb,0,none⟩) 1 1) 1 7 (cellsAns [an])):=row_Ans w7 an hnwb
          obtain⟨wb,hwb⟩:∃W,W=w7.alloc (.cells #[.int .i64 an.code,.bool an.is,.int .i64 an.number,.bool an.yes,.int .i64 an.words,.bool an.going,.int .i64 an.freed] 36):=⟨_,rfl⟩
          have HCwb:Hid (Chg (λj=>(pk 4).ownBlock=some j) wr wb):=by rw[Hid,hwb];exact HCw7.out.trans (Chg.alloc _ _ _)
          have HBBwb:Hid (Below w7.heap.size w7 wb/\nwb<wb.heap.size/\wr.heap.size<=nwb):=by rw[Hid,hwb,hnwb];exact⟨(Below.refl _ _).alloc (Nat.le_refl _) _,by simp,HCw7.out.size⟩
          rw[<- hwb] at HRBwb
          rw[<- hwb,<- hnwb]
          clear hwb hnwb
          refine hK.out _ _ ⟨λ_ _=>HKS.out _ (HCwb.out.mono (λj _ hj=>by rw[HYE.out];exact .inl hj)),λ_ _=>HKT2.out _ (HCwb.out.mono (λj _ hj=>by rw[HYE.out];exact .inl hj))⟩ (λ_=>?_)
          clear hK K
          try simp only [Act.put,List.setIfInBounds_toArray,List.set_cons_zero,List.set_cons_succ]
          have HV7':Hid (OwnAct wb (w0.heap.size+4) (.slice x7 l7 c7) _):=HV7.out.below HBBwb.out.1
          refine wpAnyM_one 13 rfl (by kernel_rfl) λK hK=>?_
          refine step_append_Ans rfl _ _ rfl (w0.heap.size+4) (pk 5) _ rfl (HO5.out _ HCwb.out) _ [an] rfl HRBwb.out (by have:=HLS.out;simp only [List.length_map,List.length_singleton];omega) (by have:=HBZ.out;have:=HCwb.out.size;omega) ?_
          intro v9 w9 hv9 hg9 hm9
          obtain⟨l9,x9,c9,rfl⟩:∃l a c,v9 = .slice a l c:=by obtain⟨a,c,e⟩:=hv9.shape;exact⟨_,a,c,e⟩
          have HC9:Hid (Chg Y wr w9):=(HCwb.out.mono (λj _ hj=>by rw[HYE.out];exact .inl hj)).trans (Chg.ofGrown _ hg9 (λj hj=>by rw[HYE.out];exact .inr hj))
          have HV79:Hid (OwnAct w9 (w0.heap.size+4) (.slice x7 l7 c7) _):=HV7'.out.keep λj hj=>hg9.block j (HV7'.out.lt hj).2 (λe=>HN7.out j hj e.symm)
          have HEND:Hid (∃pk2,Ps w0 ((w9.setCell ⟨w0.heap.size,0,none⟩ (.slice x7 l7 c7)).setCell ⟨w0.heap.size+1,0,none⟩ (.slice x9 l9 c9)) A X { s with ser:=s.ser++(s.parts t).take (k+1) } pk2/\pk2 t=pv t):=by
            rw[Hid,HTK.out,<- List.append_assoc]
            refine⟨_,HPS.out.more (i:=i) (by have:=HC9.out;rw[HYE.out] at this;exact this) (by rw[HRA.out.1];exact HV79.out) (by rw[HRA.out.2];exact hv9) HM7'.out (hm9.imp id (λh k e=>Nat.le_trans HCwb.out.size (h k e))) (λj h7 h9=>?_),?_⟩
            · rcases hm9 with m|m
              · rw[m] at h9;exact HN7.out j h7 h9
              · have:=m j h9;have:=(HV7'.out.lt h7).2;omega
            · rw[put1_other _ _ _ (by omega),put1_other _ _ _ (by omega)];exact HPK.out
          clear hv9 hg9 hm9
          obtain⟨⟨cc4,ff4⟩,cc5,ff5⟩:=HBOX.out w9 HC9.out
          refine hK.out _ _ ⟨λ_ _=>HKS.out _ HC9.out,λ_ _=>HKT2.out _ HC9.out⟩ (λ_=>?_)
          clear hK K
          try simp only [Act.put,List.setIfInBounds_toArray,List.set_cons_zero,List.set_cons_succ]
          rw[<- HW.out,<- HS.out] at HEND
          have hSW:S≠Wb:=by have:=HS.out;have:=HW.out;omega
          have hWS:Wb≠S:=λe=>hSW e.symm
          refine wpAnyM_one 14 rfl (by kernel_rfl) λK hK=>?_
          go_simp
          refine hK.out _ _ ⟨λh=>absurd (by simp) h,λ_ _=>HKT.out _ ((HYN.out w9 HC9.out).setCell (by rw[HS.out];exact Nat.le_refl _) _) ((World.cell?_setCell_other _ _ _ _ (by simp only [ne_eq,Addr.mk.injEq];omega)).trans cc5)⟩ (λ_=>?_)
          clear hK K
          try simp only [Act.put,List.setIfInBounds_toArray,List.set_cons_zero,List.set_cons_succ]
          refine wpAnyM_one 15 rfl (by kernel_rfl) λK hK=>?_
          go_simp
          refine hK.out _ _ ⟨λh=>absurd (by simp) h,λh=>absurd (by simp) h⟩ (λ_=>?_)
          clear hK K
          try simp only [Act.put,List.setIfInBounds_toArray,List.set_cons_zero,List.set_cons_succ]
          refine wpAnyM_done (by kernel_rfl) ⟨rfl,HEND.out,?_⟩ _
          exact⟨_,_,_,_,_,_,_,_,_,_,_,_,_,_,rfl⟩
        · skip
          go_simp
          obtain⟨nwb,hnwb⟩:∃n,n=wa.heap.size:=⟨_,rfl⟩
          have HRBwb:Hid (Row (wa.alloc (.cells #[.int .i64 an.code,.bool an.is,.int .i64 an.number,.bool an.yes,.int .i64 an.words,.bool an.going,.int .i64 an.freed] 36)) (.slice (some ⟨nwb,0,none⟩) 1 1) 1 7 (cellsAns [an])):=row_Ans wa an hnwb
          obtain⟨wb,hwb⟩:∃W,W=wa.alloc (.cells #[.int .i64 an.code,.bool an.is,.int .i64 an.number,.bool an.yes,.int .i64 an.words,.bool an.going,.int .i64 an.freed] 36):=⟨_,rfl⟩
          have HCwb:Hid (∀Z,Chg Z wr wb):=by rw[Hid,hwb];exact λZ=>(HCwa.out Z).trans (Chg.alloc _ _ _)
          have HBBwb:Hid (Below wa.heap.size wa wb/\nwb<wb.heap.size/\wr.heap.size<=nwb):=by rw[Hid,hwb,hnwb];exact⟨(Below.refl _ _).alloc (Nat.le_refl _) _,by simp,(HCwa.out (λ_=>False)).size⟩
          rw[<- hwb] at HRBwb
          rw[<- hwb,<- hnwb]
          clear hwb hnwb
          refine hK.out _ _ ⟨λ_ _=>HKS.out _ (HCwb.out _),λ_ _=>HKT2.out _ (HCwb.out _)⟩ (λ_=>?_)
          clear hK K
          try simp only [Act.put,List.setIfInBounds_toArray,List.set_cons_zero,List.set_cons_succ]
          refine wpAnyM_one 6 rfl (by kernel_rfl) λK hK=>?_
          refine step_append_Act rfl _ _ rfl (w0.heap.size+4) (pk 4) _ rfl (HO4.out _ (HCwb.out _)) _ [r] rfl (HRAwa.out.below (Nat.le_refl _) HBBwb.out.1) (by have:=HLS.out;simp only [List.length_map,List.length_singleton];omega) (by have:=HBZ.out;have:=(HCwb.out (λ_=>False)).size;omega) ?_
          intro v7 w7 hv7 hg7 hm7
          obtain⟨l7,x7,c7,rfl⟩:∃l a c,v7 = .slice a l c:=by obtain⟨a,c,e⟩:=hv7.shape;exact⟨_,a,c,e⟩
          have HV7:=Lib.hid hv7;have HG7:=Lib.hid hg7;have HM7:=Lib.hid hm7
          have HCw7:Hid (Chg (λj=>(pk 4).ownBlock=some j) wr w7):=(HCwb.out _).trans (Chg.ofGrown _ hg7 (λj hj=>hj))
          have HM7':Hid ((Value.slice x7 l7 c7).ownBlock=(pk 4).ownBlock\/∀k,(Value.slice x7 l7 c7).ownBlock=some k->wr.heap.size<=k):=hm7.imp id (λh k e=>Nat.le_trans (HCwb.out (λ_=>False)).size (h k e))
          clear hv7 hg7 hm7 HM7
          refine hK.out _ _ ⟨λ_ _=>HKS.out _ (HCw7.out.mono (λj _ hj=>by rw[HYE.out];exact .inl hj)),λ_ _=>HKT2.out _ (HCw7.out.mono (λj _ hj=>by rw[HYE.out];exact .inl hj))⟩ (λ_=>?_)
          clear hK K
          try simp only [Act.put,List.setIfInBounds_toArray,List.set_cons_zero,List.set_cons_succ]
          have HN7:Hid (∀j,(Value.slice x7 l7 c7).ownBlock=some j->(pk 5).ownBlock≠some j):=λj h7 h9=>by rcases HM7'.out with m|m;(rw[m] at h7;have:=HPS.out.inj 4 (by omega) 5 (by omega) j h7 h9;omega);(have:=m j h7;have:=(HPS.out.lt (i:=5) (by omega) h9).2;omega)
          have HV7':=HV7
          refine wpAnyM_one 13 rfl (by kernel_rfl) λK hK=>?_
          refine step_append_Ans rfl _ _ rfl (w0.heap.size+4) (pk 5) _ rfl (HO5.out _ HCw7.out) _ [an] rfl (row_keep HRBwb.out (Nat.lt_of_lt_of_le HBBwb.out.2.1 HG7.out.size) (HG7.out.block _ HBBwb.out.2.1 (λe=>by have:=(HPS.out.lt (i:=4) (by omega) e.symm).2;have:=HBBwb.out.2.2;omega))) (by have:=HLS.out;simp only [List.length_map,List.length_singleton];omega) (by have:=HBZ.out;have:=HCw7.out.size;omega) ?_
          intro v9 w9 hv9 hg9 hm9
          obtain⟨l9,x9,c9,rfl⟩:∃l a c,v9 = .slice a l c:=by obtain⟨a,c,e⟩:=hv9.shape;exact⟨_,a,c,e⟩
          have HC9:Hid (Chg Y wr w9):=(HCw7.out.mono (λj _ hj=>by rw[HYE.out];exact .inl hj)).trans (Chg.ofGrown _ hg9 (λj hj=>by rw[HYE.out];exact .inr hj))
          have HV79:Hid (OwnAct w9 (w0.heap.size+4) (.slice x7 l7 c7) _):=HV7'.out.keep λj hj=>hg9.block j (HV7'.out.lt hj).2 (λe=>HN7.out j hj e.symm)
          have HEND:Hid (∃pk2,Ps w0 ((w9.setCell ⟨w0.heap.size,0,none⟩ (.slice x7 l7 c7)).setCell ⟨w0.heap.size+1,0,none⟩ (.slice x9 l9 c9)) A X { s with ser:=s.ser++(s.parts t).take (k+1) } pk2/\pk2 t=pv t):=by
            rw[Hid,HTK.out,<- List.append_assoc]
            refine⟨_,HPS.out.more (i:=i) (by have:=HC9.out;rw[HYE.out] at this;exact this) (by rw[HRA.out.1];exact HV79.out) (by rw[HRA.out.2];exact hv9) HM7'.out (hm9.imp id (λh k e=>Nat.le_trans HCw7.out.size (h k e))) (λj h7 h9=>?_),?_⟩
            · rcases hm9 with m|m
              · rw[m] at h9;exact HN7.out j h7 h9
              · have:=m j h9;have:=(HV7'.out.lt h7).2;omega
            · rw[put1_other _ _ _ (by omega),put1_other _ _ _ (by omega)];exact HPK.out
          clear hv9 hg9 hm9
          obtain⟨⟨cc4,ff4⟩,cc5,ff5⟩:=HBOX.out w9 HC9.out
          refine hK.out _ _ ⟨λ_ _=>HKS.out _ HC9.out,λ_ _=>HKT2.out _ HC9.out⟩ (λ_=>?_)
          clear hK K
          try simp only [Act.put,List.setIfInBounds_toArray,List.set_cons_zero,List.set_cons_succ]
          rw[<- HW.out,<- HS.out] at HEND
          have hSW:S≠Wb:=by have:=HS.out;have:=HW.out;omega
          have hWS:Wb≠S:=λe=>hSW e.symm
          refine wpAnyM_one 14 rfl (by kernel_rfl) λK hK=>?_
          go_simp
          refine hK.out _ _ ⟨λh=>absurd (by simp) h,λ_ _=>HKT.out _ ((HYN.out w9 HC9.out).setCell (by rw[HS.out];exact Nat.le_refl _) _) ((World.cell?_setCell_other _ _ _ _ (by simp only [ne_eq,Addr.mk.injEq];omega)).trans cc5)⟩ (λ_=>?_)
          clear hK K
          try simp only [Act.put,List.setIfInBounds_toArray,List.set_cons_zero,List.set_cons_succ]
          refine wpAnyM_one 15 rfl (by kernel_rfl) λK hK=>?_
          go_simp
          refine hK.out _ _ ⟨λh=>absurd (by simp) h,λh=>absurd (by simp) h⟩ (λ_=>?_)
          clear hK K
          try simp only [Act.put,List.setIfInBounds_toArray,List.set_cons_zero,List.set_cons_succ]
          refine wpAnyM_done (by kernel_rfl) ⟨rfl,HEND.out,?_⟩ _
          exact⟨_,_,_,_,_,_,_,_,_,_,_,_,_,_,rfl⟩
      · skip
        go_simp
        obtain⟨nwb,hnwb⟩:∃n,n=w8.heap.size:=⟨_,rfl⟩
        have HRBwb:Hid (Row (w8.alloc (.cells #[.int .i64 an.code,.bool an.is,.int .i64 an.number,.bool an.yes,.int .i64 an.words,.bool an.going,.int .i64 an.freed] 36)) (.slice (some ⟨nwb,0,none⟩) 1 1) 1 7 (cellsAns [an])):=row_Ans w8 an hnwb
        obtain⟨wb,hwb⟩:∃W,W=w8.alloc (.cells #[.int .i64 an.code,.bool an.is,.int .i64 an.number,.bool an.yes,.int .i64 an.words,.bool an.going,.int .i64 an.freed] 36):=⟨_,rfl⟩
        have HCwb:Hid (∀Z,Chg Z wr wb):=by rw[Hid,hwb];exact λZ=>(HC8.out Z).trans (Chg.alloc _ _ _)
        have HBBwb:Hid (Below w8.heap.size w8 wb/\nwb<wb.heap.size/\wr.heap.size<=nwb):=by rw[Hid,hwb,hnwb];exact⟨(Below.refl _ _).alloc (Nat.le_refl _) _,by simp,(HC8.out (λ_=>False)).size⟩
        rw[<- hwb] at HRBwb
        rw[<- hwb,<- hnwb]
        clear hwb hnwb
        refine hK.out _ _ ⟨λ_ _=>HKS.out _ (HCwb.out _),λ_ _=>HKT2.out _ (HCwb.out _)⟩ (λ_=>?_)
        clear hK K
        try simp only [Act.put,List.setIfInBounds_toArray,List.set_cons_zero,List.set_cons_succ]
        refine wpAnyM_one 5 rfl (by kernel_rfl) λK hK=>?_
        go_simp
        obtain⟨nwa,hnwa⟩:∃n,n=wb.heap.size:=⟨_,rfl⟩
        have HRAwa:Hid (Row (wb.alloc (.cells #[.int .i64 r.kind,.int .i64 r.t,.int .i64 r.a,.int .i64 r.b,.int .i64 r.n] 27)) (.slice (some ⟨nwa,0,none⟩) 1 1) 1 5 (cellsAct [r])):=row_Act wb r hnwa
        obtain⟨wa,hwa⟩:∃W,W=wb.alloc (.cells #[.int .i64 r.kind,.int .i64 r.t,.int .i64 r.a,.int .i64 r.b,.int .i64 r.n] 27):=⟨_,rfl⟩
        have HCwa:Hid (∀Z,Chg Z wr wa):=by rw[Hid,hwa];exact λZ=>(HCwb.out Z).trans (Chg.alloc _ _ _)
        have HBBwa:Hid (Below wb.heap.size wb wa/\nwa<wa.heap.size/\wr.heap.size<=nwa):=by rw[Hid,hwa,hnwa];exact⟨(Below.refl _ _).alloc (Nat.le_refl _) _,by simp,(HCwb.out (λ_=>False)).size⟩
        rw[<- hwa] at HRAwa
        rw[<- hwa,<- hnwa]
        clear hwa hnwa
        refine hK.out _ _ ⟨λ_ _=>HKS.out _ (HCwa.out _),λ_ _=>HKT2.out _ (HCwa.out _)⟩ (λ_=>?_)
        clear hK K
        try simp only [Act.put,List.setIfInBounds_toArray,List.set_cons_zero,List.set_cons_succ]
        refine wpAnyM_one 6 rfl (by kernel_rfl) λK hK=>?_
        refine step_append_Act rfl _ _ rfl (w0.heap.size+4) (pk 4) _ rfl (HO4.out _ (HCwa.out _)) _ [r] rfl HRAwa.out (by have:=HLS.out;simp only [List.length_map,List.length_singleton];omega) (by have:=HBZ.out;have:=(HCwa.out (λ_=>False)).size;omega) ?_
        intro v7 w7 hv7 hg7 hm7
        obtain⟨l7,x7,c7,rfl⟩:∃l a c,v7 = .slice a l c:=by obtain⟨a,c,e⟩:=hv7.shape;exact⟨_,a,c,e⟩
        have HV7:=Lib.hid hv7;have HG7:=Lib.hid hg7;have HM7:=Lib.hid hm7
        have HCw7:Hid (Chg (λj=>(pk 4).ownBlock=some j) wr w7):=(HCwa.out _).trans (Chg.ofGrown _ hg7 (λj hj=>hj))
        have HM7':Hid ((Value.slice x7 l7 c7).ownBlock=(pk 4).ownBlock\/∀k,(Value.slice x7 l7 c7).ownBlock=some k->wr.heap.size<=k):=hm7.imp id (λh k e=>Nat.le_trans (HCwa.out (λ_=>False)).size (h k e))
        clear hv7 hg7 hm7 HM7
        refine hK.out _ _ ⟨λ_ _=>HKS.out _ (HCw7.out.mono (λj _ hj=>by rw[HYE.out];exact .inl hj)),λ_ _=>HKT2.out _ (HCw7.out.mono (λj _ hj=>by rw[HYE.out];exact .inl hj))⟩ (λ_=>?_)
        clear hK K
        try simp only [Act.put,List.setIfInBounds_toArray,List.set_cons_zero,List.set_cons_succ]
        have HN7:Hid (∀j,(Value.slice x7 l7 c7).ownBlock=some j->(pk 5).ownBlock≠some j):=λj h7 h9=>by rcases HM7'.out with m|m;(rw[m] at h7;have:=HPS.out.inj 4 (by omega) 5 (by omega) j h7 h9;omega);(have:=m j h7;have:=(HPS.out.lt (i:=5) (by omega) h9).2;omega)
        have HV7':=HV7
        have HRB2:Hid (Row wa (.slice (some ⟨nwb,0,none⟩) 1 1) 1 7 (cellsAns [an])):=HRBwb.out.below (Nat.le_refl _) HBBwa.out.1
        have HLB:Hid (nwb<wa.heap.size):=Nat.lt_of_lt_of_le HBBwb.out.2.1 HBBwa.out.1.size
        refine wpAnyM_one 13 rfl (by kernel_rfl) λK hK=>?_
        refine step_append_Ans rfl _ _ rfl (w0.heap.size+4) (pk 5) _ rfl (HO5.out _ HCw7.out) _ [an] rfl (row_keep HRB2.out (Nat.lt_of_lt_of_le HLB.out HG7.out.size) (HG7.out.block _ HLB.out (λe=>by have:=(HPS.out.lt (i:=4) (by omega) e.symm).2;have:=HBBwb.out.2.2;omega))) (by have:=HLS.out;simp only [List.length_map,List.length_singleton];omega) (by have:=HBZ.out;have:=HCw7.out.size;omega) ?_
        intro v9 w9 hv9 hg9 hm9
        obtain⟨l9,x9,c9,rfl⟩:∃l a c,v9 = .slice a l c:=by obtain⟨a,c,e⟩:=hv9.shape;exact⟨_,a,c,e⟩
        have HC9:Hid (Chg Y wr w9):=(HCw7.out.mono (λj _ hj=>by rw[HYE.out];exact .inl hj)).trans (Chg.ofGrown _ hg9 (λj hj=>by rw[HYE.out];exact .inr hj))
        have HV79:Hid (OwnAct w9 (w0.heap.size+4) (.slice x7 l7 c7) _):=HV7'.out.keep λj hj=>hg9.block j (HV7'.out.lt hj).2 (λe=>HN7.out j hj e.symm)
        have HEND:Hid (∃pk2,Ps w0 ((w9.setCell ⟨w0.heap.size,0,none⟩ (.slice x7 l7 c7)).setCell ⟨w0.heap.size+1,0,none⟩ (.slice x9 l9 c9)) A X { s with ser:=s.ser++(s.parts t).take (k+1) } pk2/\pk2 t=pv t):=by
          rw[Hid,HTK.out,<- List.append_assoc]
          refine⟨_,HPS.out.more (i:=i) (by have:=HC9.out;rw[HYE.out] at this;exact this) (by rw[HRA.out.1];exact HV79.out) (by rw[HRA.out.2];exact hv9) HM7'.out (hm9.imp id (λh k e=>Nat.le_trans HCw7.out.size (h k e))) (λj h7 h9=>?_),?_⟩
          · rcases hm9 with m|m
            · rw[m] at h9;exact HN7.out j h7 h9
            · have:=m j h9;have:=(HV7'.out.lt h7).2;omega
          · rw[put1_other _ _ _ (by omega),put1_other _ _ _ (by omega)];exact HPK.out
        clear hv9 hg9 hm9
        obtain⟨⟨cc4,ff4⟩,cc5,ff5⟩:=HBOX.out w9 HC9.out
        refine hK.out _ _ ⟨λ_ _=>HKS.out _ HC9.out,λ_ _=>HKT2.out _ HC9.out⟩ (λ_=>?_)
        clear hK K
        try simp only [Act.put,List.setIfInBounds_toArray,List.set_cons_zero,List.set_cons_succ]
        rw[<- HW.out,<- HS.out] at HEND
        have hSW:S≠Wb:=by have:=HS.out;have:=HW.out;omega
        have hWS:Wb≠S:=λe=>hSW e.symm
        refine wpAnyM_one 14 rfl (by kernel_rfl) λK hK=>?_
        go_simp
        refine hK.out _ _ ⟨λh=>absurd (by simp) h,λ_ _=>HKT.out _ ((HYN.out w9 HC9.out).setCell (by rw[HS.out];exact Nat.le_refl _) _) ((World.cell?_setCell_other _ _ _ _ (by simp only [ne_eq,Addr.mk.injEq];omega)).trans cc5)⟩ (λ_=>?_)
        clear hK K
        try simp only [Act.put,List.setIfInBounds_toArray,List.set_cons_zero,List.set_cons_succ]
        refine wpAnyM_one 15 rfl (by kernel_rfl) λK hK=>?_
        go_simp
        refine hK.out _ _ ⟨λh=>absurd (by simp) h,λh=>absurd (by simp) h⟩ (λ_=>?_)
        clear hK K
        try simp only [Act.put,List.setIfInBounds_toArray,List.set_cons_zero,List.set_cons_succ]
        refine wpAnyM_done (by kernel_rfl) ⟨rfl,HEND.out,?_⟩ _
        exact⟨_,_,_,_,_,_,_,_,_,_,_,_,_,_,rfl⟩
    · have hke:k=n:=by omega
      subst hke
      obtain⟨e0,e1⟩:=HPS.out.cellP ht
      rw[<- HP.out] at e0 e1
      go_wp2_with fail
      refine bodyPost_end (results_none rfl _ _ _) rfl ⟨rfl,put1 pk t (.slice none 0 0),?_⟩
      have h1:=HPS.out.part ht (v:=.slice none 0 0) (xs:=[]) (Chg.refl _ _) ⟨⟨by simp[natsI],by simp[natsI]⟩,World.ownsRow_nil _ _ _ _⟩ (.inr λk hk=>by cases hk)
      have e2:(s.parts t).take k=s.parts t:=List.take_of_length_le (by rw[<- HN.out];omega)
      rw[e2,<- HP.out] at h1
      exact h1
end Go.Proofs.Ytbeilcaadpopmac
namespace Go.Proofs.Ytbeilcaadpopmac
open Go.RowKit Go.Maps Go.Deep
theorem thr_ok {r:ActM} (h:OkAct r) (hn:r.kind=8->0<=r.n/\r.n<4) (hc:cleaning r=false):ThrAct r:=by
  have:=h.t
  refine⟨hc,by omega,by omega,?_,?_⟩
  · by_cases e:r.kind=8
    · have:=hn e;exact .inl (by omega)
    · exact .inr e
  · unfold takes
    split
    · rename_i e;have:=h.new e.1;omega
    · omega
theorem shared_thr:∀r ∈ sharedL,ThrAct r:=by
  intro r hr
  have h:=shared_ok r hr
  refine thr_ok h (λe=>?_) ((by decide:∀r ∈ sharedL,cleaning r=false) r hr)
  exact (by decide:∀r ∈ sharedL,r.kind=8->0<=r.n/\r.n<4) r hr e
theorem shut_thr:∀r ∈ shutAll,OkAct r/\ThrAct r:=by
  intro r hr
  have h:OkAct r:=by
    simp only [shutAll,List.mem_cons,List.not_mem_nil,or_false] at hr
    rcases hr with rfl|rfl|rfl|rfl <;> constructor <;> simp only [abortA] <;> omega
  refine⟨h,thr_ok h (λe=>?_) ((by decide:∀r ∈ shutAll,cleaning r=false) r hr)⟩
  exact absurd e ((by decide:∀r ∈ shutAll,r.kind≠8) r hr)
def PS.placed {α:Type} (s:PS α):Nat->PS α
  | 0=>s
  | t+1=>(s.placed t).place t
theorem placed_cnt {α:Type} (s:PS α):∀t,t<=4->(s.placed t).cnt=s.cnt
  | 0,_=>rfl
  | t+1,h=>by rw[PS.placed,PS.cnt_place _ (by omega),placed_cnt s t (by omega)]
theorem placed_all {α:Type} {Q:α->Prop} {s:PS α} (h:AllIn Q s):∀t,AllIn Q (s.placed t)
  | 0=>h
  | t+1=>(placed_all h t).place t
theorem kcnt_le {α:Type} (s:PS α) {t:Nat} (ht:t<4):s.ser.length+(s.parts t).length<=s.cnt:=by
  unfold PS.cnt
  rcases four ht with rfl|rfl|rfl|rfl <;> omega
theorem Ps.start (w0:World) (L:List ActM) (X:List AnsM) (t1 t2 t3 t4:TypeId) :
    Ps w0 ((((w0.alloc (.cells #[.slice none 0 0] t1)).alloc (.cells #[.slice none 0 0] t2)).alloc (.cells #[.slice none 0 0,.slice none 0 0,.slice none 0 0,.slice none 0 0] t3)).alloc (.cells #[.int .i64 0,.int .i64 0,.int .i64 0,.int .i64 0] t4)) L X ps0 (λ_=>.slice none 0 0):=by
  have b1:Below w0.heap.size w0 (w0.alloc (.cells #[.slice none 0 0] t1)):=(Below.refl _ _).alloc (Nat.le_refl _) _
  have r1:=RowAt.alloc w0 #[.slice none 0 0] t1
  generalize hw1:w0.alloc (.cells #[.slice none 0 0] t1)=w1 at b1 r1 ⊢
  have z1:w1.heap.size=w0.heap.size+1:=by rw[<- hw1];simp
  have b2:Below w1.heap.size w1 (w1.alloc (.cells #[.slice none 0 0] t2)):=(Below.refl _ _).alloc (Nat.le_refl _) _
  have r2:=RowAt.alloc w1 #[.slice none 0 0] t2
  generalize hw2:w1.alloc (.cells #[.slice none 0 0] t2)=w2 at b2 r2 ⊢
  have z2:w2.heap.size=w0.heap.size+2:=by rw[<- hw2];simp[z1]
  have b3:Below w2.heap.size w2 (w2.alloc (.cells #[.slice none 0 0,.slice none 0 0,.slice none 0 0,.slice none 0 0] t3)):=(Below.refl _ _).alloc (Nat.le_refl _) _
  have r3:=RowAt.alloc w2 #[.slice none 0 0,.slice none 0 0,.slice none 0 0,.slice none 0 0] t3
  generalize hw3:w2.alloc (.cells #[.slice none 0 0,.slice none 0 0,.slice none 0 0,.slice none 0 0] t3)=w3 at b3 r3 ⊢
  have z3:w3.heap.size=w0.heap.size+3:=by rw[<- hw3];simp[z2]
  have b4:Below w3.heap.size w3 (w3.alloc (.cells #[.int .i64 0,.int .i64 0,.int .i64 0,.int .i64 0] t4)):=(Below.refl _ _).alloc (Nat.le_refl _) _
  have r4:=RowAt.alloc w3 #[.int .i64 0,.int .i64 0,.int .i64 0,.int .i64 0] t4
  generalize hw4:w3.alloc (.cells #[.int .i64 0,.int .i64 0,.int .i64 0,.int .i64 0] t4)=w4 at b4 r4 ⊢
  have z4:w4.heap.size=w0.heap.size+4:=by rw[<- hw4];simp[z3]
  rw[z1] at r2;rw[z2] at r3;rw[z3] at r4
  have b12:=b1.trans (b2.mono (by omega));have b13:=b12.trans (b3.mono (by omega));have b14:=b13.trans (b4.mono (by omega))
  exact⟨b14,by omega,((r1.below b2).below b3).below b4,(r2.below b3).below b4,r3.below b4,r4,OwnAct.nil _ _,OwnAns.nil _ _,λt _=>⟨⟨by simp[natsI,ps0],by simp[natsI,ps0]⟩,World.ownsRow_nil _ _ _ _⟩,λi _ j _ k h=>by cases h⟩
set_option maxRecDepth 100000 in
set_option maxHeartbeats 8000000 in
theorem topSerial_any (v:Value) (rs:List Raw4) (w:World) (h:Raws w v rs):Calls Try.prog 3 #[v] w λe w'=>e = .returned (.bool true)/\Below w.heap.size w w':=by
  have HR:Hid (∀W,Below w.heap.size w W->Raws W v rs):=λW hW=>h.below (Nat.le_refl _) hW
  clear h
  go_enter Try.func3,Try.ntmps3
  go_upto_region 2 with (first
    | (go_at_call 7;refine (shared_any _).mono ?_;rintro e w1 ⟨hb1,a1,c1,rfl,hv1⟩;have HS1:Hid (Sofar w w1 (.slice a1 12 c1) sharedL):=⟨hv1,hb1,shared_ok⟩;clear hb1 hv1)
    | (go_at_call 8;refine (plain_any v rs 45 4 w1 (HR.out _ HS1.out.2.1) (by omega) (by omega)).mono ?_;rintro e w2 ⟨hb2,l,a2,c2,rfl,hv2,hl,hok,hpl⟩;have HS2:=Lib.hid (HS1.out.below hb2);have HV2:=Lib.hid hv2;have HOK:=Lib.hid hok;have HPL:=Lib.hid hpl;clear hb2 hv2 hok hpl)
    | (at_builtin;refine wpl_append_So rfl _ _ rfl (.slice a1 12 c1) sharedL rfl HS2.out _ l rfl HV2.out.row (λr hr=>(HOK.out r hr).1) (by rw[sharedL_len];omega) ?_;intro v3 w3 hs3 hg3;obtain⟨a3,c3,rfl⟩:=hs3.shape;have HS3:=Lib.hid hs3;clear hs3 hg3))
  obtain⟨A,hA⟩:∃A,A=sharedL++l:=⟨_,rfl⟩
  have hAl:A.length<=57:=by rw[hA,List.length_append,sharedL_len];omega
  have HTA:Hid (∀r ∈ A,ThrAct r):=λr hr=>by
    rw[hA] at hr
    rcases List.mem_append.1 hr with hr|hr
    · exact shared_thr r hr
    · exact thr_ok (HOK.out r hr).1 (λe=>by have:=(HOK.out r hr).2.2 e;omega) (HPL.out r hr)
  have HNA:Hid (∀r ∈ A,r.kind=8->0<=r.n/\r.n<4):=λr hr=>by
    rw[hA] at hr
    rcases List.mem_append.1 hr with hr|hr
    · exact (by decide:∀r ∈ sharedL,r.kind=8->0<=r.n/\r.n<4) r hr
    · exact λe=>by have:=(HOK.out r hr).2.2 e;omega
  have hAL:sharedL.length+l.length=A.length:=by rw[hA,List.length_append]
  rw[<- hA] at HS3
  rw[hAL]
  clear hAL hA HS2 HV2 HOK HR HS1 HPL
  obtain⟨AB,hAB⟩:∃X,X=w3.heap.size:=⟨_,rfl⟩
  obtain⟨w4,hw4⟩:∃w4,w4=w3.alloc (.cells #[.slice a3 A.length c3] 23):=⟨_,rfl⟩
  have HB4:Hid (Below w3.heap.size w3 w4):=by rw[Hid,hw4];exact (by repeat (first|exact Below.refl _ _|with_reducible refine below_drewN ?_ _|with_reducible refine Below.drew ?_|with_reducible refine Below.alloc ?_ (by first|exact Nat.le_refl _|(simp;done)|omega|(simp;omega)) _|with_reducible refine Below.setCell ?_ (by first|exact Nat.le_refl _|(simp;done)|omega|(simp;omega)) _))
  have HR4:Hid (RowAt w4 AB [.slice a3 A.length c3]):=by rw[Hid,hw4,hAB];exact RowAt.alloc _ _ _
  have HABE:=Lib.hid hAB
  rw[<- hAB,<- hw4]
  have HWA:Hid (w.heap.size<=AB):=by rw[Hid,hAB];exact HS3.out.2.1.size
  have HST:Hid (∃vv,RowAt w4 AB [vv]/\Sofar w w4 vv (A++shutAll.take 0)/\∀j,vv.ownBlock=some j->j≠AB):=by
    refine⟨_,HR4.out,?_,λj hj=>?_⟩
    · rw[List.take_zero,List.append_nil];exact HS3.out.below HB4.out
    · have:=(HS3.out.1.lt hj).2;have:=HABE.out;omega
  clear hAB hw4 HR4 HB4 HS3 HABE
  go_wp2_with fail
  go_loopw [22] (λu wr=>∃k:Nat,k<=4/\u = .int .i64 k/\∃vv,RowAt wr AB [vv]/\Sofar w wr vv (A++shutAll.take k)/\∀j,vv.ownBlock=some j->j≠AB) (λu _=>4 - (intOf u).toNat)
  case atStart=>exact⟨0,by omega,rfl,HST.out⟩
  case round =>
    obtain⟨k,hk4,rfl,vv,hrow,hs,hne⟩:=hrel
    have HRW:=Lib.hid hrow;have HS:=Lib.hid hs;have HNE:=Lib.hid hne
    obtain⟨va,vc,rfl⟩:=hs.shape
    have c0:=(hrow.2 0 (by simp)).1
    have f0:=(hrow.2 0 (by simp)).2
    dsimp only [List.getElem_cons_zero] at c0
    clear hs hrow hne HST
    by_cases hk:k<4
    · have hk':(k:Int)<4:=by omega
      have HN:Hid (A++shutAll.take k++[abortA k]=A++shutAll.take (k+1)/\OkAct (abortA k)/\(A++shutAll.take k).length<800):=by
        refine⟨?_,?_,?_⟩
        · rw[List.append_assoc];rcases (show k=0\/k=1\/k=2\/k=3 by omega) with rfl|rfl|rfl|rfl <;> rfl
        · constructor <;> simp only [abortA] <;> omega
        · rw[List.length_append,List.length_take];omega
      obtain⟨N,hN⟩:∃N,N=(A++shutAll.take k).length:=⟨_,rfl⟩
      rw[<- hN] at c0
      have HNE2:=Lib.hid hN
      clear hN
      go_wp2_with (at_builtin;refine wpl_append_Act rfl _ _ rfl w.heap.size (.slice va N vc) (A++shutAll.take k) rfl (by rw[HNE2.out];exact (HS.out.1.below (by repeat (first|exact Below.refl _ _|with_reducible refine below_drewN ?_ _|with_reducible refine Below.drew ?_|with_reducible refine Below.alloc ?_ (by first|exact Nat.le_refl _|(simp;done)|omega|(simp;omega)) _|with_reducible refine Below.setCell ?_ (by first|exact Nat.le_refl _|(simp;done)|omega|(simp;omega)) _)))) _ [abortA k] rfl (row_Act _ (abortA k) rfl) (by have:=HN.out.2.2;simp only [List.length_singleton];omega) (by have:=HS.out.2.1.size;simp;omega) ?_;intro v9 w9 hv9 hg9 hm9;obtain⟨n9,a9,c9,rfl⟩:∃n a c,v9 = .slice a n c:=(by obtain⟨a,c,e⟩:=hv9.shape;exact⟨_,a,c,e⟩);have HC9:Hid (Chg (λj=>(Value.slice va N vc).ownBlock=some j) wr w9):=(Chg.alloc _ _ _).trans (Chg.ofGrown _ hg9 (λj hj=>hj));have HR9:Hid (RowAt w9 AB [.slice va N vc]):=(by have:=HRW.out.chg HC9.out (λe=>by rw[HNE2.out] at e;exact HNE.out AB e rfl);rw[<- HNE2.out] at this;exact this);have d0:=(HR9.out.2 0 (by simp)).1;have d1:=(HR9.out.2 0 (by simp)).2;dsimp only [List.getElem_cons_zero] at d0;have HV9:=Lib.hid hv9;have HG9:=Lib.hid hg9;have HM9:=Lib.hid hm9;clear hv9 hg9 hm9)
      rw[HN.out.1] at HV9
      refine⟨⟨k+1,by omega,by go_num,.slice a9 n9 c9,HR9.out.set 0 _,⟨?_,?_,?_⟩,λj hj=>?_⟩,by simp[intOf];omega⟩
      · refine HV9.out.keep λj hj=>Below.heap_setCell _ ⟨AB,0,none⟩ _ _ (λe=>?_)
        rcases HM9.out with m|m
        · rw[m,HNE2.out] at hj;exact HNE.out j hj e
        · have h1:=m j hj;have h2:=HRW.out.1;have e2:j=AB:=e;simp at h1;omega
      · refine Below.setCell ?_ HWA.out _
        exact HS.out.2.1.trans (HC9.out.below HS.out.2.1.size (λj _ e=>by rw[HNE2.out] at e;exact (HS.out.1.lt e).1))
      · intro r hr
        rw[<- HN.out.1] at hr
        rcases List.mem_append.1 hr with hr|hr
        · exact HS.out.2.2 r hr
        · rw[List.mem_singleton.1 hr];exact HN.out.2.1
      · rcases HM9.out with m|m
        · rw[m,HNE2.out] at hj;exact HNE.out j hj
        · have h1:=m j hj;have h2:=HRW.out.1;simp at h1;omega
    · have:k=4:=by omega
      subst this
      obtain⟨L,hL⟩:∃L,L=A++shutAll:=⟨_,rfl⟩
      have HL:Hid (L=A++shutAll):=hL
      have hLl:L.length<=61/\4<=L.length:=by rw[hL,List.length_append];have:shutAll.length=4:=rfl;omega
      have HNL:Hid (∀c ∈ L,c.kind=8->0<=c.n/\c.n<4):=λc hc=>by
        rw[hL] at hc
        rcases List.mem_append.1 hc with h|h
        · exact HNA.out c h
        · exact λe=>absurd e ((by decide:∀r ∈ shutAll,r.kind≠8) c h)
      have HTL:Hid (∀c ∈ L,ThrAct c):=λc hc=>by
        rw[hL] at hc
        exact (List.mem_append.1 hc).elim (HTA.out c) (λh=>(shut_thr c h).2)
      rw[show A++shutAll.take 4=L from hL.symm] at HS HRW HNE c0
      clear hL HTA
      rename World=>w5
      go_upto_region 8 with (go_at_call 9;refine (trun_any _ L _ HS.out.acts (by omega)).mono ?_;rintro e w6 ⟨hb6,a6,c6,rfl,hv6⟩;have HB6:=Lib.hid hb6;have HV6:=Lib.hid hv6;clear hb6 hv6)
      obtain⟨XB,hXB⟩:∃X,X=w6.heap.size:=⟨_,rfl⟩
      obtain⟨w7,hw7⟩:∃w7,w7=w6.alloc (.cells #[.slice a6 L.length c6] 28):=⟨_,rfl⟩
      have HB7:Hid (Below w6.heap.size w6 w7):=by rw[Hid,hw7];exact (by repeat (first|exact Below.refl _ _|with_reducible refine below_drewN ?_ _|with_reducible refine Below.drew ?_|with_reducible refine Below.alloc ?_ (by first|exact Nat.le_refl _|(simp;done)|omega|(simp;omega)) _|with_reducible refine Below.setCell ?_ (by first|exact Nat.le_refl _|(simp;done)|omega|(simp;omega)) _))
      have HR7:Hid (RowAt w7 XB [.slice a6 L.length c6]):=by rw[Hid,hw7,hXB];exact RowAt.alloc _ _ _
      rw[<- hXB,<- hw7]
      clear hXB hw7
      obtain⟨X,hX⟩:∃X,X=(hall0 400).answers L:=⟨_,rfl⟩
      have hXl:X.length=L.length:=by rw[hX,answers_len]
      have HX:=Lib.hid hX
      rw[<- hX] at HV6
      clear hX
      have HB57:Hid (Below w5.heap.size w5 w7):=HB6.out.trans (HB7.out.mono HB6.out.size)
      have HST:Hid (PsStatic w7 L X AB XB (.slice va L.length vc) (.slice a6 X.length c6)):=λW hW=>by
        refine⟨?_,?_,?_,?_⟩
        · exact ((HRW.out.below (HB57.out.trans (hW.mono HB57.out.size))).2 0 (by simp)).1
        · exact (HS.out.below (HB57.out.trans (hW.mono HB57.out.size))).acts
        · rw[hXl];exact ((HR7.out.below hW).2 0 (by simp)).1
        · have:=(HV6.out.below HB7.out).below hW
          rw[hXl];exact this.ansRow
      have HBW7:Hid (Below w.heap.size w w7):=HS.out.2.1.trans (HB57.out.mono HS.out.2.1.size)
      have HOKL:Hid (∀r ∈ L,OkAct r):=HS.out.2.2
      have s7:=HST.out w7 (Below.refl _ _)
      obtain⟨s71,s72,s73,s74⟩:=s7
      rw[hXl] at s73
      have S74:=Lib.hid s74
      clear HS HRW HNE HB6 HV6 HB7 HR7 HB57 c0 f0 s72 s74
      go_upto_region 15 with fail
      obtain⟨w8,hw8⟩:∃w8,w8=(((w7.alloc (.cells #[.slice none 0 0] 23)).alloc (.cells #[.slice none 0 0] 28)).alloc (.cells #[.slice none 0 0,.slice none 0 0,.slice none 0 0,.slice none 0 0] 32)).alloc (.cells #[.int .i64 0,.int .i64 0,.int .i64 0,.int .i64 0] 33):=⟨_,rfl⟩
      have HPS:Hid (Ps w7 w8 L X (keptPS L X 0) (λ_=>.slice none 0 0)):=by rw[Hid,hw8];exact Ps.start w7 L X _ _ _ _
      have HPL:Hid (∀(W:World) (s:PS Nat) (pv:Nat->Value) (t:Nat),Ps w7 W L X s pv->t<4->AllIn (· < L.length) s->s.cnt<=100 ->
          Calls Try.prog 10 #[.int .i64 t,.pointer (some ⟨w7.heap.size+1+1,0,none⟩),.pointer (some ⟨w7.heap.size,0,none⟩),.pointer (some ⟨AB,0,none⟩),.pointer (some ⟨w7.heap.size+1,0,none⟩),.pointer (some ⟨XB,0,none⟩)] W λe w'=>e = .returned (.tuple #[])/\∃pv',Ps w7 w' L X (s.place t) pv'):=λW s pv t hp ht ha hc =>
        place_any w7 W L X s pv AB XB va _ vc _ HST.out hXl (by omega) hp ht (λi hi=>ha.parts t i hi) (Nat.le_trans (kcnt_le s ht) hc)
      obtain⟨S,hS⟩:∃S,S=w7.heap.size:=⟨_,rfl⟩
      obtain⟨Wb,hWb⟩:∃S,S=w7.heap.size+1:=⟨_,rfl⟩
      obtain⟨P,hP⟩:∃S,S=w7.heap.size+1+1:=⟨_,rfl⟩
      obtain⟨O,hO⟩:∃S,S=w7.heap.size+1+1+1:=⟨_,rfl⟩
      rw[<- hw8,<- hO]
      rw[<- hP] at HPL
      rw[<- hP]
      rw[<- hWb] at HPL
      rw[<- hWb]
      rw[<- hS] at HPL
      rw[<- hS]
      have HSE:=Lib.hid hS;have HWE:=Lib.hid hWb;have HPE:=Lib.hid hP;have HOE:=Lib.hid hO
      clear hw8 hS hWb hP hO
      have HCP:Hid (∀(W:World) (s:PS Nat) (pv:Nat->Value) (t:Nat),Ps w7 W L X s pv->t<4->(W.cell? ⟨P,t,none⟩=some (pv t)/\W.frozen? ⟨P,t,none⟩=false)/\(W.cell? ⟨O,t,none⟩=some (.int .i64 (s.op t:Nat))/\W.frozen? ⟨O,t,none⟩=false)):=λW s pv t hp ht=>by
        rw[HPE.out,HOE.out];exact⟨hp.cellP ht,hp.cellO ht⟩
      have HCH:Hid (∀(W W2:World) (s:PS Nat) (pv:Nat->Value) (t:Nat),Ps w7 W L X s pv->t<4->Chg (λj=>(pv t).ownBlock=some j) W W2->W2.cell? ⟨P,t,none⟩=some (pv t)/\W2.frozen? ⟨P,t,none⟩=false):=λW W2 s pv t hp ht hc=>by
        have:=(hp.parts.chg hc (λe=>by have:=(hp.lt (i:=t) (by omega) e).1;omega)).2 t (by simpa using ht)
        rw[HPE.out]
        rcases four ht with rfl|rfl|rfl|rfl <;> exact this
      have HPART:Hid (∀(W W2:World) (s:PS Nat) (pv:Nat->Value) (t:Nat) (v:Value) (xs:List Nat),Ps w7 W L X s pv->t<4->Chg (λj=>(pv t).ownBlock=some j) W W2->OwnInts W2 (w7.heap.size+4) v (natsI xs)->(v.ownBlock=(pv t).ownBlock\/∀k,v.ownBlock=some k->W.heap.size<=k)->Ps w7 (W2.setCell ⟨P,t,none⟩ v) L X { s with parts:=put1 s.parts t xs } (put1 pv t v)):=λW W2 s pv t v xs hp ht h1 h2 h3=>by
        rw[HPE.out];exact hp.part ht h1 h2 h3
      have HOPEN:Hid (∀(W:World) (s:PS Nat) (pv:Nat->Value) (t n:Nat),Ps w7 W L X s pv->t<4->Ps w7 (W.setCell ⟨O,t,none⟩ (.int .i64 (n:Nat))) L X { s with op:=put1 s.op t n } pv):=λW s pv t n hp ht=>by
        rw[HOE.out];exact hp.opens ht n
      have hl61:=hLl.1
      have s81:=(HST.out w8 HPS.out.bel).1
      have HXL:=Lib.hid hXl
      clear s71 s73 hXl
      go_wp2_with fail
      go_loopw [41] (λu wr=>∃(k:Nat) (pv:Nat->Value),u = .int .i64 k/\k<=L.length/\Ps w7 wr L X (keptPS L X k) pv) (λu _=>L.length - (intOf u).toNat)
      case atStart=>exact⟨0,_,rfl,Nat.zero_le _,HPS.out⟩
      case round =>
        obtain⟨k,pv,rfl,hk,hps⟩:=hrel
        have HP0:=Lib.hid hps
        clear hps HPS
        by_cases hlt:k<L.length
        · have hlt':(k:Int)<(L.length:Int):=by omega
          obtain⟨sa,hsa,sx,hsx⟩:=HST.out wr HP0.out.bel
          obtain⟨lb,lo,rfl,_,hla⟩:=hsa.at (by omega)
          obtain⟨xb,xo,rfl,_,hxa⟩:=ansRow_at hsx (by rw[HXL.out];omega)
          obtain⟨⟨a0,a1,a2,a3,a4⟩,_⟩:=hla k hlt
          rw[HXL.out] at sx
          have hkX2:k<X.length:=by rw[HXL.out];exact hlt
          have n0:=(hxa k hkX2).1
          obtain⟨r,hr⟩:∃r,r=L[k]:=⟨_,rfl⟩
          obtain⟨an,han⟩:∃an,an=X[k]:=⟨_,rfl⟩
          rw[<- hr] at a0 a1 a2 a3 a4
          rw[<- han] at n0
          have HOKR:Hid (OkAct r/\ThrAct r):=by rw[Hid,hr];exact⟨HOKL.out _ (List.getElem_mem hlt),HTL.out _ (List.getElem_mem hlt)⟩
          obtain⟨t,ht⟩:=Int.eq_ofNat_of_zero_le HOKR.out.1.t.1
          have ht4:t<4:=by have:=HOKR.out.1.t.2;omega
          have HRT:Hid (r.t=(t:Int)):=ht
          have HNN:Hid (r.kind=8->0<=r.n/\r.n<4):=by rw[Hid,hr];exact HNL.out _ (List.getElem_mem hlt)
          have HSTP:Hid (keptPS L X (k+1)=(keptPS L X k).step k r an):=by
            rw[Hid,keptPS,hr,han,List.getD_eq_getElem?_getD,List.getD_eq_getElem?_getD,List.getElem?_eq_getElem hlt,List.getElem?_eq_getElem hkX2];rfl
          have HOPL:Hid ((r.kind=3/\an.code=0)\/an.code=6->(keptPS L X k).op t<((keptPS L X k).parts t).length):=λhe=>by
            have e1:L.getD k nilAct=r:=by rw[hr,List.getD_eq_getElem?_getD,List.getElem?_eq_getElem hlt];rfl
            have e2:X.getD k .nil=an:=by rw[han,List.getD_eq_getElem?_getD,List.getElem?_eq_getElem hkX2];rfl
            have:=kept_op L (λc hc=>(HTL.out c hc).1) hlt ht4 (by rw[e1];exact ht) (by rw[e1,<- HX.out,e2];exact he)
            rw[<- HX.out] at this
            exact this
          have HCNT:Hid ((keptPS L X k).cnt<=k):=kept_cnt L X HTL.out k hk
          have HALL:Hid (AllIn (· < L.length) (keptPS L X k)):=⟨λx hx=>Nat.lt_of_lt_of_le ((kept_all L X k).ser x hx) hk,λt x hx=>Nat.lt_of_lt_of_le ((kept_all L X k).parts t x hx) hk⟩
          generalize keptPS L X k=s at HP0 HSTP HOPL HCNT HALL
          rw[ht] at a1
          clear hla hxa hsa hsx hr han ht
          go_upto_region 18 with fail
          obtain⟨Z,hZ⟩:∃Z,Z=wr.heap.size:=⟨_,rfl⟩
          obtain⟨w9,hw9⟩:∃w9,w9=wr.alloc (.cells #[.int .i64 r.kind,.int .i64 (t:Int),.int .i64 r.a,.int .i64 r.b,.int .i64 r.n] 27):=⟨_,rfl⟩
          have HB9:Hid (Below wr.heap.size wr w9):=by rw[Hid,hw9];exact (by repeat (first|exact Below.refl _ _|with_reducible refine below_drewN ?_ _|with_reducible refine Below.drew ?_|with_reducible refine Below.alloc ?_ (by first|exact Nat.le_refl _|(simp;done)|omega|(simp;omega)) _|with_reducible refine Below.setCell ?_ (by first|exact Nat.le_refl _|(simp;done)|omega|(simp;omega)) _))
          have hz9:RowAt w9 Z [.int .i64 r.kind,.int .i64 (t:Int),.int .i64 r.a,.int .i64 r.b,.int .i64 r.n]:=by rw[hw9,hZ];exact RowAt.alloc _ _ _
          rw[<- hZ,<- hw9]
          have HP9:=Lib.hid (HP0.out.below HB9.out)
          have z0:=(hz9.2 0 (by simp)).1;have z1:=(hz9.2 1 (by simp)).1;have z4:=(hz9.2 4 (by simp)).1
          dsimp only [List.getElem_cons_zero,List.getElem_cons_succ] at z0 z1 z4
          have y0:=(HB9.out.cell (p:=⟨XB,0,none⟩) (World.block_lt_of_cell? wr _ sx)).trans sx
          have y1:=(HB9.out.cell (p:=⟨xb,xo+k * 7,none⟩) (World.block_lt_of_cell? wr _ n0)).trans n0
          have HZ9:=Lib.hid hz9
          have HZO:Hid (∀j,(pv t).ownBlock=some j->j≠Z):=λj hj e=>by have:=(HP0.out.lt (i:=t) (by omega) hj).2;omega
          have hPZ:P≠Z:=by have:=HP0.out.size;have:=HPE.out;omega
          have hZP:Z≠P:=λe=>hPZ e.symm
          have hOZ:O≠Z:=by have:=HP0.out.size;have:=HOE.out;omega
          clear a0 a1 a2 a3 a4 n0 sa sx hZ hw9 hz9 HP0 HB9
          have e10:r.kind=3->an.code=0->(r.kind=3/\an.code=0)\/an.code=6:=λh1 h2=>.inl ⟨h1,h2⟩
          by_cases he:(r.kind=3/\an.code=0)\/an.code=6
          · have hop:=HOPL.out he
            have HSC:Hid (keptPS L X (k+1)=s.cut t):=by rw[Hid,HSTP.out];exact step_cut s k HRT.out he
            obtain⟨pa,pc,hpt⟩:=(HP9.out.own t ht4).shape
            rw[natsI_len] at hpt
            have hown:=HP9.out.own t ht4
            rw[hpt] at hown
            obtain⟨g,rfl,_,_⟩:=hown.spot (by rw[natsI_len];omega)
            obtain⟨n,hn⟩:∃n,n=(s.parts t).length:=⟨_,rfl⟩
            rw[<- hn] at hpt hown hop
            have hnc:(s.parts t).length<=pc:=by obtain⟨_,c',ec,h1,_⟩:=hown.ints.len;simp only [Value.slice.injEq] at ec;rw[natsI_len] at h1;omega
            have hop1:(s.op t:Int)<=(pc:Int):=by omega
            have HOWN:=Lib.hid hown;have HPT:=Lib.hid hpt;have HN:=Lib.hid hn
            have HTAKE:Hid (natsI ((s.parts t).take (s.op t))=(natsI (s.parts t)).take (s.op t)):=by rw[Hid,natsI,natsI,List.map_take]
            have HOPLE:Hid (s.op t<=(natsI (s.parts t)).length):=by rw[Hid,natsI_len,<- hn];omega
            clear hown hpt hn hnc
            have h36:(r.kind=3/\an.code=0)\/(r.kind=3/\an.code=6)\/(r.kind≠3/\an.code=6):=by omega
            have htI:(t:Int)<4:=by omega
            have htI0:0<=(t:Int):=by omega
            clear he e10
            rcases h36 with ⟨h1,h2⟩|⟨h1,h2⟩|⟨h1,h2⟩
            · rw[h1] at z0;rw[h2] at y1
              go_upto_region 24 with fail
              obtain⟨w10,hw10⟩:∃w10,w10=w9.drew:=⟨_,rfl⟩
              have HP10:Hid (Ps w7 w10 L X s pv):=by rw[Hid,hw10];exact HP9.out.below (Below.refl _ _).drew
              have q0:=(HCP.out w10 s pv t HP10.out ht4).1.1;have q3:=(HCP.out w10 s pv t HP10.out ht4).1.2;have q1:=(HCP.out w10 s pv t HP10.out ht4).2.1
              rw[HPT.out] at q0
              refine still_tail_at 9 (by kernel_rfl) (by kernel_rfl) hw10 ?_;simp only [List.take_succ_cons,List.take_zero,List.drop_succ_cons,List.drop_zero];clear hw10;(repeat still_step);refine wpStill_nil ?_
              go_wp2_with fail
              refine⟨⟨k+1,put1 pv t (.slice (some ⟨g,0,none⟩) (s.op t) pc),by go_num,by omega,?_⟩,by simp[intOf];omega⟩
              rw[HSC.out]
              exact HPART.out w10 w10 s pv t _ ((s.parts t).take (s.op t)) HP10.out ht4 (Chg.refl _ _) (by rw[HTAKE.out];have h3:=HP10.out.own t ht4;rw[HPT.out] at h3;exact h3.take HOPLE.out) (.inl (by rw[HPT.out];rfl))
            · rw[h1] at z0;rw[h2] at y1
              go_upto_region 24 with fail
              obtain⟨w10,hw10⟩:∃w10,w10=w9.drew:=⟨_,rfl⟩
              have HP10:Hid (Ps w7 w10 L X s pv):=by rw[Hid,hw10];exact HP9.out.below (Below.refl _ _).drew
              have q0:=(HCP.out w10 s pv t HP10.out ht4).1.1;have q3:=(HCP.out w10 s pv t HP10.out ht4).1.2;have q1:=(HCP.out w10 s pv t HP10.out ht4).2.1
              rw[HPT.out] at q0
              refine still_tail_at 9 (by kernel_rfl) (by kernel_rfl) hw10 ?_;simp only [List.take_succ_cons,List.take_zero,List.drop_succ_cons,List.drop_zero];clear hw10;(repeat still_step);refine wpStill_nil ?_
              go_wp2_with fail
              refine⟨⟨k+1,put1 pv t (.slice (some ⟨g,0,none⟩) (s.op t) pc),by go_num,by omega,?_⟩,by simp[intOf];omega⟩
              rw[HSC.out]
              exact HPART.out w10 w10 s pv t _ ((s.parts t).take (s.op t)) HP10.out ht4 (Chg.refl _ _) (by rw[HTAKE.out];have h3:=HP10.out.own t ht4;rw[HPT.out] at h3;exact h3.take HOPLE.out) (.inl (by rw[HPT.out];rfl))
            · have f3:(r.kind == 3)=false:=beq_eq_false_iff_ne.2 h1;rw[h2] at y1
              go_upto_region 24 with fail
              obtain⟨w10,hw10⟩:∃w10,w10=w9.drew:=⟨_,rfl⟩
              have HP10:Hid (Ps w7 w10 L X s pv):=by rw[Hid,hw10];exact HP9.out.below (Below.refl _ _).drew
              have q0:=(HCP.out w10 s pv t HP10.out ht4).1.1;have q3:=(HCP.out w10 s pv t HP10.out ht4).1.2;have q1:=(HCP.out w10 s pv t HP10.out ht4).2.1
              rw[HPT.out] at q0
              refine still_tail_at 9 (by kernel_rfl) (by kernel_rfl) hw10 ?_;simp only [List.take_succ_cons,List.take_zero,List.drop_succ_cons,List.drop_zero];clear hw10;(repeat still_step);refine wpStill_nil ?_
              go_wp2_with fail
              refine⟨⟨k+1,put1 pv t (.slice (some ⟨g,0,none⟩) (s.op t) pc),by go_num,by omega,?_⟩,by simp[intOf];omega⟩
              rw[HSC.out]
              exact HPART.out w10 w10 s pv t _ ((s.parts t).take (s.op t)) HP10.out ht4 (Chg.refl _ _) (by rw[HTAKE.out];have h3:=HP10.out.own t ht4;rw[HPT.out] at h3;exact h3.take HOPLE.out) (.inl (by rw[HPT.out];rfl))
          · have HNE:Hid (¬ ((r.kind=3/\an.code=0)\/an.code=6)):=he
            have f6:(an.code == 6)=false:=beq_eq_false_iff_ne.2 (λe=>he (.inr e))
            by_cases h0:an.code=0
            · have h3:¬ r.kind=3:=λe=>he (.inl ⟨e,h0⟩)
              have f3:(r.kind == 3)=false:=beq_eq_false_iff_ne.2 h3
              rw[h0] at y1
              clear he f6 e10
              by_cases h1:r.kind=1
              · rw[h1] at z0
                have HSC:Hid (keptPS L X (k+1)=s.begins t k):=by rw[Hid,HSTP.out];exact step_begin s k HRT.out h0 h1
                obtain⟨pa',pc',hpt'⟩:=(HP9.out.own t ht4).shape
                rw[natsI_len] at hpt'
                have q0:=(HCP.out w9 s pv t HP9.out ht4).1.1;have q1:=(HCP.out w9 s pv t HP9.out ht4).2.1;have q2:=(HCP.out w9 s pv t HP9.out ht4).2.2
                rw[hpt'] at q0
                clear hpt'
                go_upto_region 28 with fail
                obtain⟨w11,hw11⟩:∃W,W=w9.setCell ⟨O,t,none⟩ (.int .i64 ((s.parts t).length:Nat)):=⟨_,rfl⟩
                have HP11:Hid (Ps w7 w11 L X { s with op:=put1 s.op t (s.parts t).length } pv):=by rw[Hid,hw11];exact HOPEN.out w9 s pv t _ HP9.out ht4
                rw[<- hw11]
                clear hw11 q0 q1 q2 y0 y1 z0 z1 z4
                have HCNT2:Hid (({ s with op:=put1 s.op t (s.parts t).length }:PS Nat).cnt<=61):=by have:=HCNT.out;rw[Hid];show s.cnt<=61;omega
                obtain⟨pa,pc,hpt⟩:=(HP11.out.own t ht4).shape
                rw[natsI_len] at hpt
                have pcf:=(HCP.out w11 { s with op:=put1 s.op t (s.parts t).length } pv t HP11.out ht4).1
                obtain⟨pc0,pf0⟩:=pcf
                have hown:=HP11.out.own t ht4
                rw[hpt] at pc0 hown
                obtain⟨n,hn⟩:∃n,n=(({ s with op:=put1 s.op t (s.parts t).length }).parts t).length:=⟨_,rfl⟩
                rw[<- hn] at hpt pc0 hown
                have HOWN:=Lib.hid hown;have HPT:=Lib.hid hpt;have HN:=Lib.hid hn
                have HLN:Hid ((({ s with op:=put1 s.op t (s.parts t).length }).parts t).length<=61):=by have:=kcnt_le ({ s with op:=put1 s.op t (s.parts t).length }) ht4;have:=HCNT.out;rw[Hid];first|omega|(have h2:({ s with op:=put1 s.op t (s.parts t).length }).cnt<=61:=HCNT2.out;omega)
                have HSZ:=Lib.hid HP11.out.size
                clear hown hpt hn
                go_wp2_with (at_builtin;refine wpl_append_ints rfl _ _ rfl (w7.heap.size+4) (.slice pa n pc) (natsI (({ s with op:=put1 s.op t (s.parts t).length }).parts t)) rfl (HOWN.out.below (by repeat (first|exact Below.refl _ _|with_reducible refine below_drewN ?_ _|with_reducible refine Below.drew ?_|with_reducible refine Below.alloc ?_ (by first|exact Nat.le_refl _|(simp;done)|omega|(simp;omega)) _|with_reducible refine Below.setCell ?_ (by first|exact Nat.le_refl _|(simp;done)|omega|(simp;omega)) _))) _ [(k:Int)] rfl (built_at _ (k:Int) (by simp) (by unfold I64;omega)) (by have h:=HLN.out;rw[natsI_len,List.length_singleton];omega) (by have:=HSZ.out;simp;omega) ?_;intro v10 w10 hv10 hg10 hm10;obtain⟨l10,x10,c10,rfl⟩:∃l a c,v10 = .slice a l c:=(by obtain⟨a,c,e⟩:=hv10.shape;exact⟨_,a,c,e⟩);have HC10:Hid (Chg (λj=>(pv t).ownBlock=some j) w11 w10):=(Chg.alloc _ _ _).trans (Chg.ofGrown _ hg10 (λj hj=>by rw[HPT.out];exact hj));have dd:=HCH.out w11 w10 ({ s with op:=put1 s.op t (s.parts t).length }) pv t HP11.out ht4 HC10.out;rw[HPT.out] at dd;obtain⟨dd0,dd1⟩:=dd;have HV10:=Lib.hid hv10;have HM10:=Lib.hid hm10;clear hv10 hg10 hm10)
                have HP10:Hid (Ps w7 (w10.setCell ⟨P,t,none⟩ (.slice x10 l10 c10)) L X (({ s with op:=put1 s.op t (s.parts t).length }).add t k) (put1 pv t (.slice x10 l10 c10))):=by
                  refine HPART.out w11 w10 ({ s with op:=put1 s.op t (s.parts t).length }) pv t _ ((({ s with op:=put1 s.op t (s.parts t).length }).parts t)++[k]) HP11.out ht4 HC10.out (by rw[natsI_append];exact HV10.out) ?_
                  rcases HM10.out with m|m
                  · exact .inl (by rw[HPT.out];exact m)
                  · exact .inr λj hj=>by have:=(m.1.lt hj).1;simp at this;omega
                clear HM10 HV10
                exact⟨⟨k+1,_,by go_num,by omega,by rw[HSC.out];exact HP10.out⟩,by simp[intOf];omega⟩
              have f1:(r.kind == 1)=false:=beq_eq_false_iff_ne.2 h1
              by_cases h8:r.kind=8/\r.n≠r.t
              · obtain⟨h8,hnt⟩:=h8
                obtain⟨u,hu⟩:=Int.eq_ofNat_of_zero_le (HNN.out h8).1
                have hu4:u<4:=by have:=(HNN.out h8).2;omega
                have hut:u≠t:=λe=>hnt (by rw[hu,HRT.out,e])
                have HSC:Hid (keptPS L X (k+1)=((s.place u).add t k).place t):=by rw[Hid,HSTP.out];exact step_copy s k HRT.out hu h0 h8 hut
                rw[h8] at z0
                rw[hu] at z4
                have hutI:¬ (u:Int)=(t:Int):=by omega
                have futI:((u:Int) == (t:Int))=false:=beq_eq_false_iff_ne.2 hutI
                clear h3 f3 hnt hu h1 f1 h0
                go_upto_region 31 with (go_at_call 10;refine (HPL.out _ s pv u HP9.out hu4 HALL.out (by have:=HCNT.out;omega)).mono ?_;rintro e w11 ⟨rfl,pv2,hp2⟩;have HP11:=Lib.hid hp2;clear hp2)
                have HCNT2:Hid ((s.place u).cnt<=61):=by have:=HCNT.out;rw[Hid,PS.cnt_place _ hu4];omega
                clear y0 y1 z0 z1 z4
                obtain⟨pa,pc,hpt⟩:=(HP11.out.own t ht4).shape
                rw[natsI_len] at hpt
                have pcf:=(HCP.out w11 (s.place u) pv2 t HP11.out ht4).1
                obtain⟨pc0,pf0⟩:=pcf
                have hown:=HP11.out.own t ht4
                rw[hpt] at pc0 hown
                obtain⟨n,hn⟩:∃n,n=(((s.place u)).parts t).length:=⟨_,rfl⟩
                rw[<- hn] at hpt pc0 hown
                have HOWN:=Lib.hid hown;have HPT:=Lib.hid hpt;have HN:=Lib.hid hn
                have HLN:Hid ((((s.place u)).parts t).length<=61):=by have:=kcnt_le ((s.place u)) ht4;have:=HCNT.out;rw[Hid];first|omega|(have h2:((s.place u)).cnt<=61:=HCNT2.out;omega)
                have HSZ:=Lib.hid HP11.out.size
                clear hown hpt hn
                go_upto_region 32 with (at_builtin;refine wpl_append_ints rfl _ _ rfl (w7.heap.size+4) (.slice pa n pc) (natsI (((s.place u)).parts t)) rfl (HOWN.out.below (by repeat (first|exact Below.refl _ _|with_reducible refine below_drewN ?_ _|with_reducible refine Below.drew ?_|with_reducible refine Below.alloc ?_ (by first|exact Nat.le_refl _|(simp;done)|omega|(simp;omega)) _|with_reducible refine Below.setCell ?_ (by first|exact Nat.le_refl _|(simp;done)|omega|(simp;omega)) _))) _ [(k:Int)] rfl (built_at _ (k:Int) (by simp) (by unfold I64;omega)) (by have h:=HLN.out;rw[natsI_len,List.length_singleton];omega) (by have:=HSZ.out;simp;omega) ?_;intro v10 w10 hv10 hg10 hm10;obtain⟨l10,x10,c10,rfl⟩:∃l a c,v10 = .slice a l c:=(by obtain⟨a,c,e⟩:=hv10.shape;exact⟨_,a,c,e⟩);have HC10:Hid (Chg (λj=>(pv2 t).ownBlock=some j) w11 w10):=(Chg.alloc _ _ _).trans (Chg.ofGrown _ hg10 (λj hj=>by rw[HPT.out];exact hj));have dd:=HCH.out w11 w10 ((s.place u)) pv2 t HP11.out ht4 HC10.out;rw[HPT.out] at dd;obtain⟨dd0,dd1⟩:=dd;have HV10:=Lib.hid hv10;have HM10:=Lib.hid hm10;clear hv10 hg10 hm10)
                have HP10:Hid (Ps w7 (w10.setCell ⟨P,t,none⟩ (.slice x10 l10 c10)) L X (((s.place u)).add t k) (put1 pv2 t (.slice x10 l10 c10))):=by
                  refine HPART.out w11 w10 ((s.place u)) pv2 t _ ((((s.place u)).parts t)++[k]) HP11.out ht4 HC10.out (by rw[natsI_append];exact HV10.out) ?_
                  rcases HM10.out with m|m
                  · exact .inl (by rw[HPT.out];exact m)
                  · exact .inr λj hj=>by have:=(m.1.lt hj).1;simp at this;omega
                clear HM10 HV10
                have HCNT3:Hid (((s.place u).add t k).cnt<=100):=by rw[Hid,PS.cnt_add _ ht4];have:=HCNT2.out;omega
                have HALL3:Hid (AllIn (· < L.length) ((s.place u).add t k)):=(HALL.out.place u).add t hlt
                go_wp2_with (go_at_call 10;refine (HPL.out _ ((s.place u).add t k) _ t HP10.out ht4 HALL3.out HCNT3.out).mono ?_;rintro e w12 ⟨rfl,pv3,hp3⟩;have HP12:=Lib.hid hp3;clear hp3)
                exact⟨⟨k+1,pv3,by go_num,by omega,by rw[HSC.out];exact HP12.out⟩,by simp[intOf];omega⟩
              have h8':r.kind=8->r.n=r.t:=λe=>Classical.byContradiction λe2=>h8 ⟨e,e2⟩
              have h82:(r.kind=8/\r.n=(t:Int))\/(r.kind≠8/\r.kind=2)\/(r.kind≠8/\r.kind≠2):=by have:=HRT.out;by_cases e:r.kind=8;(exact .inl ⟨e,(h8' e).trans this⟩);(by_cases e2:r.kind=2;exact .inr (.inl ⟨e,e2⟩);exact .inr (.inr ⟨e,e2⟩))
              have HADD:Hid (r.kind≠2->keptPS L X (k+1)=s.add t k):=λh2=>by rw[HSTP.out];exact step_add s k HRT.out h0 h1 h2 h3 h8'
              have HCOM:Hid (r.kind=2->keptPS L X (k+1)=(s.add t k).place t):=λh2=>by rw[HSTP.out];exact step_commit s k HRT.out h0 h2
              have HCNT3:Hid ((s.add t k).cnt<=100):=by rw[Hid,PS.cnt_add _ ht4];have:=HCNT.out;omega
              have HALL3:Hid (AllIn (· < L.length) (s.add t k)):=HALL.out.add t hlt
              clear h8 h8' h0
              rcases h82 with ⟨e8,en⟩|⟨e8,e2⟩|⟨e8,e2⟩
              · have e2:r.kind≠2:=by omega
                rw[en] at z4
                have HK8:Hid (r.kind=8):=e8
                rw[e8] at z0
                clear h3 f3 h1 f1
                go_upto_region 20 with fail
                obtain⟨pa,pc,hpt⟩:=(HP9.out.own t ht4).shape
                rw[natsI_len] at hpt
                have pcf:=(HCP.out w9 s pv t HP9.out ht4).1
                obtain⟨pc0,pf0⟩:=pcf
                have hown:=HP9.out.own t ht4
                rw[hpt] at pc0 hown
                obtain⟨n,hn⟩:∃n,n=((s).parts t).length:=⟨_,rfl⟩
                rw[<- hn] at hpt pc0 hown
                have HOWN:=Lib.hid hown;have HPT:=Lib.hid hpt;have HN:=Lib.hid hn
                have HLN:Hid (((s).parts t).length<=61):=by have:=kcnt_le (s) ht4;have:=HCNT.out;rw[Hid];omega
                have HSZ:=Lib.hid HP9.out.size
                clear hown hpt hn
                go_upto_region 21 with (at_builtin;refine wpl_append_ints rfl _ _ rfl (w7.heap.size+4) (.slice pa n pc) (natsI ((s).parts t)) rfl (HOWN.out.below (by repeat (first|exact Below.refl _ _|with_reducible refine below_drewN ?_ _|with_reducible refine Below.drew ?_|with_reducible refine Below.alloc ?_ (by first|exact Nat.le_refl _|(simp;done)|omega|(simp;omega)) _|with_reducible refine Below.setCell ?_ (by first|exact Nat.le_refl _|(simp;done)|omega|(simp;omega)) _))) _ [(k:Int)] rfl (built_at _ (k:Int) (by simp) (by unfold I64;omega)) (by have h:=HLN.out;rw[natsI_len,List.length_singleton];omega) (by have:=HSZ.out;simp;omega) ?_;intro v10 w10 hv10 hg10 hm10;obtain⟨l10,x10,c10,rfl⟩:∃l a c,v10 = .slice a l c:=(by obtain⟨a,c,e⟩:=hv10.shape;exact⟨_,a,c,e⟩);have HC10:Hid (Chg (λj=>(pv t).ownBlock=some j) w9 w10):=(Chg.alloc _ _ _).trans (Chg.ofGrown _ hg10 (λj hj=>by rw[HPT.out];exact hj));have dd:=HCH.out w9 w10 (s) pv t HP9.out ht4 HC10.out;rw[HPT.out] at dd;obtain⟨dd0,dd1⟩:=dd;have zz:=((HZ9.out.chg HC10.out (λe=>HZO.out _ e rfl)).2 0 (by simp)).1;dsimp only [List.getElem_cons_zero] at zz;have HV10:=Lib.hid hv10;have HM10:=Lib.hid hm10;clear hv10 hg10 hm10)
                have HP10:Hid (Ps w7 (w10.setCell ⟨P,t,none⟩ (.slice x10 l10 c10)) L X ((s).add t k) (put1 pv t (.slice x10 l10 c10))):=by
                  refine HPART.out w9 w10 (s) pv t _ (((s).parts t)++[k]) HP9.out ht4 HC10.out (by rw[natsI_append];exact HV10.out) ?_
                  rcases HM10.out with m|m
                  · exact .inl (by rw[HPT.out];exact m)
                  · exact .inr λj hj=>by have:=(m.1.lt hj).1;simp at this;omega
                clear HM10 HV10
                rw[HK8.out] at zz
                go_wp2_with fail
                exact⟨⟨k+1,_,by go_num,by omega,by rw[HADD.out e2];exact HP10.out⟩,by simp[intOf];omega⟩
              · have HK2:Hid (r.kind=2):=e2
                rw[e2] at z0
                clear h3 f3 h1 f1
                go_upto_region 20 with fail
                obtain⟨pa,pc,hpt⟩:=(HP9.out.own t ht4).shape
                rw[natsI_len] at hpt
                have pcf:=(HCP.out w9 s pv t HP9.out ht4).1
                obtain⟨pc0,pf0⟩:=pcf
                have hown:=HP9.out.own t ht4
                rw[hpt] at pc0 hown
                obtain⟨n,hn⟩:∃n,n=((s).parts t).length:=⟨_,rfl⟩
                rw[<- hn] at hpt pc0 hown
                have HOWN:=Lib.hid hown;have HPT:=Lib.hid hpt;have HN:=Lib.hid hn
                have HLN:Hid (((s).parts t).length<=61):=by have:=kcnt_le (s) ht4;have:=HCNT.out;rw[Hid];omega
                have HSZ:=Lib.hid HP9.out.size
                clear hown hpt hn
                go_upto_region 21 with (at_builtin;refine wpl_append_ints rfl _ _ rfl (w7.heap.size+4) (.slice pa n pc) (natsI ((s).parts t)) rfl (HOWN.out.below (by repeat (first|exact Below.refl _ _|with_reducible refine below_drewN ?_ _|with_reducible refine Below.drew ?_|with_reducible refine Below.alloc ?_ (by first|exact Nat.le_refl _|(simp;done)|omega|(simp;omega)) _|with_reducible refine Below.setCell ?_ (by first|exact Nat.le_refl _|(simp;done)|omega|(simp;omega)) _))) _ [(k:Int)] rfl (built_at _ (k:Int) (by simp) (by unfold I64;omega)) (by have h:=HLN.out;rw[natsI_len,List.length_singleton];omega) (by have:=HSZ.out;simp;omega) ?_;intro v10 w10 hv10 hg10 hm10;obtain⟨l10,x10,c10,rfl⟩:∃l a c,v10 = .slice a l c:=(by obtain⟨a,c,e⟩:=hv10.shape;exact⟨_,a,c,e⟩);have HC10:Hid (Chg (λj=>(pv t).ownBlock=some j) w9 w10):=(Chg.alloc _ _ _).trans (Chg.ofGrown _ hg10 (λj hj=>by rw[HPT.out];exact hj));have dd:=HCH.out w9 w10 (s) pv t HP9.out ht4 HC10.out;rw[HPT.out] at dd;obtain⟨dd0,dd1⟩:=dd;have zz:=((HZ9.out.chg HC10.out (λe=>HZO.out _ e rfl)).2 0 (by simp)).1;dsimp only [List.getElem_cons_zero] at zz;have HV10:=Lib.hid hv10;have HM10:=Lib.hid hm10;clear hv10 hg10 hm10)
                have HP10:Hid (Ps w7 (w10.setCell ⟨P,t,none⟩ (.slice x10 l10 c10)) L X ((s).add t k) (put1 pv t (.slice x10 l10 c10))):=by
                  refine HPART.out w9 w10 (s) pv t _ (((s).parts t)++[k]) HP9.out ht4 HC10.out (by rw[natsI_append];exact HV10.out) ?_
                  rcases HM10.out with m|m
                  · exact .inl (by rw[HPT.out];exact m)
                  · exact .inr λj hj=>by have:=(m.1.lt hj).1;simp at this;omega
                clear HM10 HV10
                rw[HK2.out] at zz
                go_wp2_with (go_at_call 10;refine (HPL.out _ (s.add t k) _ t HP10.out ht4 HALL3.out HCNT3.out).mono ?_;rintro e w12 ⟨rfl,pv3,hp3⟩;have HP12:=Lib.hid hp3;clear hp3)
                exact⟨⟨k+1,pv3,by go_num,by omega,by rw[HCOM.out e2];exact HP12.out⟩,by simp[intOf];omega⟩
              · have f8:(r.kind == 8)=false:=beq_eq_false_iff_ne.2 e8
                have f2:(r.kind == 2)=false:=beq_eq_false_iff_ne.2 e2
                go_upto_region 20 with fail
                obtain⟨pa,pc,hpt⟩:=(HP9.out.own t ht4).shape
                rw[natsI_len] at hpt
                have pcf:=(HCP.out w9 s pv t HP9.out ht4).1
                obtain⟨pc0,pf0⟩:=pcf
                have hown:=HP9.out.own t ht4
                rw[hpt] at pc0 hown
                obtain⟨n,hn⟩:∃n,n=((s).parts t).length:=⟨_,rfl⟩
                rw[<- hn] at hpt pc0 hown
                have HOWN:=Lib.hid hown;have HPT:=Lib.hid hpt;have HN:=Lib.hid hn
                have HLN:Hid (((s).parts t).length<=61):=by have:=kcnt_le (s) ht4;have:=HCNT.out;rw[Hid];omega
                have HSZ:=Lib.hid HP9.out.size
                clear hown hpt hn
                go_upto_region 21 with (at_builtin;refine wpl_append_ints rfl _ _ rfl (w7.heap.size+4) (.slice pa n pc) (natsI ((s).parts t)) rfl (HOWN.out.below (by repeat (first|exact Below.refl _ _|with_reducible refine below_drewN ?_ _|with_reducible refine Below.drew ?_|with_reducible refine Below.alloc ?_ (by first|exact Nat.le_refl _|(simp;done)|omega|(simp;omega)) _|with_reducible refine Below.setCell ?_ (by first|exact Nat.le_refl _|(simp;done)|omega|(simp;omega)) _))) _ [(k:Int)] rfl (built_at _ (k:Int) (by simp) (by unfold I64;omega)) (by have h:=HLN.out;rw[natsI_len,List.length_singleton];omega) (by have:=HSZ.out;simp;omega) ?_;intro v10 w10 hv10 hg10 hm10;obtain⟨l10,x10,c10,rfl⟩:∃l a c,v10 = .slice a l c:=(by obtain⟨a,c,e⟩:=hv10.shape;exact⟨_,a,c,e⟩);have HC10:Hid (Chg (λj=>(pv t).ownBlock=some j) w9 w10):=(Chg.alloc _ _ _).trans (Chg.ofGrown _ hg10 (λj hj=>by rw[HPT.out];exact hj));have dd:=HCH.out w9 w10 (s) pv t HP9.out ht4 HC10.out;rw[HPT.out] at dd;obtain⟨dd0,dd1⟩:=dd;have zz:=((HZ9.out.chg HC10.out (λe=>HZO.out _ e rfl)).2 0 (by simp)).1;dsimp only [List.getElem_cons_zero] at zz;have HV10:=Lib.hid hv10;have HM10:=Lib.hid hm10;clear hv10 hg10 hm10)
                have HP10:Hid (Ps w7 (w10.setCell ⟨P,t,none⟩ (.slice x10 l10 c10)) L X ((s).add t k) (put1 pv t (.slice x10 l10 c10))):=by
                  refine HPART.out w9 w10 (s) pv t _ (((s).parts t)++[k]) HP9.out ht4 HC10.out (by rw[natsI_append];exact HV10.out) ?_
                  rcases HM10.out with m|m
                  · exact .inl (by rw[HPT.out];exact m)
                  · exact .inr λj hj=>by have:=(m.1.lt hj).1;simp at this;omega
                clear HM10 HV10
                go_wp2_with fail
                exact⟨⟨k+1,_,by go_num,by omega,by rw[HADD.out e2];exact HP10.out⟩,by simp[intOf];omega⟩
            · have HSC:Hid (keptPS L X (k+1)=s):=by rw[Hid,HSTP.out];exact step_skip s k h0 (λe=>he (.inr e))
              have f0:(an.code == 0)=false:=beq_eq_false_iff_ne.2 h0
              have g0:(an.code != 0)=true:=by simp[h0]
              by_cases h3:r.kind=3
              · rw[h3] at z0
                clear he e10
                go_wp2_with fail
                exact⟨⟨k+1,pv,by go_num,by omega,by rw[HSC.out];exact HP9.out⟩,by simp[intOf];omega⟩
              · have f3:(r.kind == 3)=false:=beq_eq_false_iff_ne.2 h3
                clear he e10
                go_wp2_with fail
                exact⟨⟨k+1,pv,by go_num,by omega,by rw[HSC.out];exact HP9.out⟩,by simp[intOf];omega⟩
        · have hke:k=L.length:=by omega
          subst hke
          have HST3:Hid (Ps w7 wr L X ((keptPS L X L.length).placed 0) pv):=HP0.out
          have HCE:Hid ((keptPS L X L.length).cnt<=61):=Nat.le_trans (kept_cnt L X HTL.out _ (Nat.le_refl _)) hl61
          have HAE:Hid (AllIn (· < L.length) (keptPS L X L.length)):=kept_all L X L.length
          clear HP0
          go_wp2_with fail
          go_loopw [143] (λu wr=>∃(t:Nat) (pv:Nat->Value),u = .int .i64 t/\t<=4/\Ps w7 wr L X ((keptPS L X L.length).placed t) pv) (λu _=>4 - (intOf u).toNat)
          case atStart=>exact⟨0,_,rfl,by omega,HST3.out⟩
          case round =>
            obtain⟨t,pv2,rfl,ht,hps⟩:=hrel
            have HP1:=Lib.hid hps
            clear hps HST3
            by_cases ht4:t<4
            · have ht4':(t:Int)<4:=by omega
              have HC1:Hid (((keptPS L X L.length).placed t).cnt<=100):=by rw[Hid,placed_cnt _ _ ht];have:=HCE.out;omega
              go_wp2_with (go_at_call 10;refine (HPL.out _ ((keptPS L X L.length).placed t) _ t HP1.out ht4 (placed_all HAE.out t) HC1.out).mono ?_;rintro e w12 ⟨rfl,pv3,hp3⟩;have HP12:=Lib.hid hp3;clear hp3)
              exact⟨⟨t+1,pv3,by go_num,by omega,HP12.out⟩,by simp[intOf];omega⟩
            · have:t=4:=by omega
              subst this
              obtain⟨ser,hser⟩:∃l,l=(keptPS L X L.length).ends.ser:=⟨_,rfl⟩
              obtain⟨hs1,hs2⟩:=serial_same A (by rw[<- HL.out];exact HTL.out) (by rw[<- HL.out];omega) (X:=X) (by rw[<- HL.out];exact HX.out)
              rw[<- HL.out,<- hser] at hs1 hs2
              have ho4:OwnAct _ (w7.heap.size+4) (pv2 4) (((keptPS L X L.length).ends.ser).map λi=>L.getD i nilAct):=HP1.out.own4
              have ho5:OwnAns _ (w7.heap.size+4) (pv2 5) (((keptPS L X L.length).ends.ser).map λi=>X.getD i .nil):=HP1.out.own5
              have hall:=(AllIn.ends HAE.out).ser
              rw[<- hser] at ho4 ho5 hall
              obtain⟨Q,hQ⟩:∃Q,Q=ser.map λi=>L.getD i nilAct:=⟨_,rfl⟩
              obtain⟨Y,hY⟩:∃Y,Y=ser.map λi=>X.getD i .nil:=⟨_,rfl⟩
              rw[<- hQ] at ho4 hs2
              rw[<- hY] at ho5 hs2
              have hQI:∀r ∈ Q,I64 r.kind/\I64 r.t/\I64 r.a/\I64 r.b/\I64 r.n:=λr hr=>by
                rw[hQ] at hr
                obtain⟨i,hi,rfl⟩:=List.mem_map.1 hr
                have hil:=hall i hi
                rw[List.getD_eq_getElem?_getD,List.getElem?_eq_getElem hil]
                exact (HOKL.out _ (List.getElem_mem hil)).I
              have hQl:Q.length<=61:=by rw[hQ,List.length_map];omega
              have hQY:Y.length=Q.length:=by rw[hQ,hY,List.length_map,List.length_map]
              obtain⟨qa,qc,hq4⟩:=ho4.shape
              obtain⟨ya,yc,hq5⟩:=ho5.shape
              rw[hQY] at hq5
              obtain⟨⟨g4,_⟩,g5,_⟩:=HP1.out.cellS
              rw[hq4,<- HSE.out] at g4
              rw[hq5,<- HWE.out] at g5
              rw[hq4] at ho4
              rw[hq5] at ho5
              have HO4:=Lib.hid ho4;have HO5:=Lib.hid ho5;have HQI:=Lib.hid hQI;have HS2:=Lib.hid hs2
              have HBE:Hid (Below w.heap.size w wr):=HBW7.out.trans (HP1.out.bel.mono HBW7.out.size)
              clear ho4 ho5 hQI hs2 hs1 hall hQ hY hser hq4 hq5 hQY
              have hsw:wr.cell? ⟨Wb,0,none⟩=some (.slice ya Q.length yc):=g5
              have hzw:=World.block_lt_of_cell? wr _ g5
              go_wp2_with (first
                | (go_at_call 9;refine (trun_any _ Q _ (HO4.out.acts HQI.out) (by omega)).mono ?_;rintro e w12 ⟨hb12,a12,c12,rfl,hv12⟩;rw[HS2.out] at hv12;have g6:=(hb12.cell (p:=⟨Wb,0,none⟩) hzw).trans g5;have HB12:=Lib.hid hb12;have HV12:=Lib.hid hv12;clear hb12 hv12)
                | (go_at_call 11;refine (equalAns_same (.slice a12 Q.length c12) (.slice ya Q.length yc) Y _ HV12.out.ansRow (HO5.out.below HB12.out).ansRow).mono ?_;rintro e w13 ⟨rfl,hb13⟩;have HB13:=Lib.hid hb13;clear hb13))
              refine bodyPost_ret (v:=.bool true) (by simp[results,Try.results3,go_sem, *]) rfl ⟨rfl,?_⟩
              have h1:Below w.heap.size w w12:=HBE.out.trans (HB12.out.mono HBE.out.size)
              exact h1.trans (HB13.out.mono h1.size)
end Go.Proofs.Ytbeilcaadpopmac
