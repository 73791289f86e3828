/- Texts put together: Mb, Gp, Rg, Gl, Gk, Gq, Df. -/
import Derived.Test.YtbeilcaadpopmabY1
import Derived.Maps.OwnOps
import Derived.Maps.OwnSet
import Derived.Maps.Views
import Derived.StillTailTactics
import Derived.Deep.QuietTactic
import Derived.Shelf.Abstract
import Derived.Lib.SliceRun
set_option linter.unusedVariables false
set_option linter.unusedSimpArgs false
namespace Go.Proofs.Ytbeilcaadpopmab
open Go.RowKit Go.Maps
theorem lawI:Keyed Try.prog 3:=int_keyed Try.underlying3
theorem zeroB (w:World):(zeroValue 4).run Try.prog w = .ok (.bool false) w:=by kernel_rfl
theorem zeroI (w:World):(zeroValue 3).run Try.prog w = .ok (.int .i64 0) w:=by kernel_rfl
theorem wf_of_i64 {x:Int} (h:I64 x):(Lit.int .i64 x).wf=true:=by
  unfold I64 at h
  simp only [Lit.wf,IntKind.min,IntKind.max,IntKind.signed,IntKind.bits,Bool.and_eq_true,decide_eq_true_eq,if_true]
  omega
theorem plainElem_bool_inv {H:Type} {P:Program} {e:TypeId} (he:P.underlying e=some .bool) {v:Value} {z:DataW H × List MemPlace} (h:plainElem P e v=some z):∃x,v = .bool x/\z=(.lit (.bool x),[]):=by
  unfold plainElem at h
  rw[he] at h
  cases v <;> simp at h
  exact⟨_,rfl,h.symm⟩
theorem litKey_int (x:Int):WideAt.IsKeyLit (.int .i64 x):=by simp[WideAt.IsKeyLit]
def SetMap (w:World) (b n:Nat) (S:List Int):Prop :=
  ∃D:DataW Unit,w.ownsMap Try.prog 3 (plainElem Try.prog 4) b n D/\IsMap D/\∀x,D.atKey (.int .i64 x) (.lit (.bool false)) = .lit (.bool (decide (x ∈ S)))
theorem setMap_made (w:World):SetMap (w.alloc (.map #[] 0)) w.heap.size 0 []:=⟨.map [],World.ownsMap_made _ _ _ _,isMap_empty,λx=>by simp[DataW.atKey]⟩
theorem SetMap.below {w w':World} {b n:Nat} {S:List Int} (h:SetMap w b n S) (hb:Below w.heap.size w w'):SetMap w' b n S:=by
  obtain⟨D,h1,h2,h3⟩:=h
  exact⟨D,h1.kept (grownBy_of_below (B:=0) hb none) (by simp),h2,h3⟩
theorem SetMap.setCell {w:World} {b n:Nat} {S:List Int} (h:SetMap w b n S) {a:Addr} (ha:b≠a.block) (u:Value):SetMap (w.setCell a u) b n S:=by
  obtain⟨D,h1,h2,h3⟩:=h
  exact⟨D,h1.setCell ha u,h2,h3⟩
theorem SetMap.grown {w w':World} {row:Option Nat} {b n:Nat} {S:List Int} (h:SetMap w b n S) (hg:w.grownBy w' row) (hne:some b≠row):SetMap w' b n S:=by
  obtain⟨D,h1,h2,h3⟩:=h
  exact⟨D,h1.kept hg hne,h2,h3⟩
theorem SetMap.lt {w:World} {b n:Nat} {S:List Int} (h:SetMap w b n S):b<w.heap.size:=by obtain⟨D,h1,_⟩:=h;exact h1.lt
theorem wpl_setLook {ops:Array Oper} {rest:List Oper} {o:Oper} {a:Act} {Q:Exit->Act->World->Prop} {w:World} (hg:o.guard=none) (m x:Operand)
    (hop:o.op=Op.lookup 99 m x false) (b n:Nat) (S:List Int) (hm:a.eval m = .map (some b)) (hS:SetMap w b n S) (X:Int) (hx:a.eval x = .int .i64 X) (hX:I64 X)
    (hK:wpList Try.prog ops Q rest (a.put o.dst (.bool (decide (X ∈ S)))) w):wpList Try.prog ops Q (o :: rest) a w:=by
  refine wpList_plain hg λK' hK'=>?_
  obtain⟨D,h1,h2,h3⟩:=hS
  obtain⟨v,ps,hrun,hv⟩:=h1.lookup lawI Try.underlying99 (zeroB w) (plainElem_bool Try.underlying4 false) (keyOf_int_mk Try.underlying3 (wf_of_i64 hX))
  obtain⟨c,rfl,hc⟩:=plainElem_bool_inv Try.underlying4 hv
  rw[h3] at hc
  simp only [Prod.mk.injEq,DataW.lit.injEq,Lit.bool.injEq] at hc
  rw[<- hc.1] at hrun
  unfold Oper.wp
  simp[execOp,hop,hm,hx,hrun,Result.andThen]
  exact hK' _ _ hK
theorem wpl_setAdd {ops:Array Oper} {rest:List Oper} {o:Oper} {a:Act} {Q:Exit->Act->World->Prop} {w:World} (hg:o.guard=none) (m x v:Operand)
    (hop:o.op=Op.mapUpdate 99 m x v) (b n:Nat) (S:List Int) (hm:a.eval m = .map (some b)) (hS:SetMap w b n S) (hn:n<1000000) (X:Int) (hx:a.eval x = .int .i64 X) (hX:I64 X) (hv:a.eval v = .bool true)
    (hK:∀w',SetMap w' b (n+1) (X :: S)->w.grownBy w' (some b)->wpList Try.prog ops Q rest (a.put o.dst undef) w'):wpList Try.prog ops Q (o :: rest) a w:=by
  obtain⟨D,h1,h2,h3⟩:=hS
  refine wpList_mapUpdate_own _ hg m x v 99 hop _ _ lawI Try.underlying99 _ b n D hm h1 (by unfold maxLen;omega) _ _ (.int .i64 X) hx hv (keyOf_int_mk Try.underlying3 (wf_of_i64 hX)) _ [] (plainElem_bool Try.underlying4 true) ?_
  intro w' h1' hgr
  refine hK w' ⟨_,h1',h2.put _ _,λy=>?_⟩ hgr
  by_cases e:y=X
  · subst e
    rw[atKey_put_same h2 (litKey_int _)]
    simp
  · rw[atKey_put_other (by simpa using e),h3]
    simp[e]
def FunMap (w:World) (b n:Nat) (f:Int->Option Int):Prop :=
  ∃D:DataW Unit,w.ownsMap Try.prog 3 (plainElem Try.prog 3) b n D/\IsMap D/\∀x,has D (.int .i64 x)=(f x).isSome/\D.atKey (.int .i64 x) (.lit (.int .i64 0)) = .lit (.int .i64 ((f x).getD 0))
theorem funMap_made (w:World):FunMap (w.alloc (.map #[] 0)) w.heap.size 0 (λ_=>none):=⟨.map [],World.ownsMap_made _ _ _ _,isMap_empty,λx=>by simp[DataW.atKey,has_eq]⟩
theorem FunMap.below {w w':World} {b n:Nat} {f:Int->Option Int} (h:FunMap w b n f) (hb:Below w.heap.size w w'):FunMap w' b n f:=by
  obtain⟨D,h1,h2,h3⟩:=h
  exact⟨D,h1.kept (grownBy_of_below (B:=0) hb none) (by simp),h2,h3⟩
theorem FunMap.setCell {w:World} {b n:Nat} {f:Int->Option Int} (h:FunMap w b n f) {a:Addr} (ha:b≠a.block) (u:Value):FunMap (w.setCell a u) b n f:=by
  obtain⟨D,h1,h2,h3⟩:=h
  exact⟨D,h1.setCell ha u,h2,h3⟩
theorem FunMap.grown {w w':World} {row:Option Nat} {b n:Nat} {f:Int->Option Int} (h:FunMap w b n f) (hg:w.grownBy w' row) (hne:some b≠row):FunMap w' b n f:=by
  obtain⟨D,h1,h2,h3⟩:=h
  exact⟨D,h1.kept hg hne,h2,h3⟩
theorem FunMap.lt {w:World} {b n:Nat} {f:Int->Option Int} (h:FunMap w b n f):b<w.heap.size:=by obtain⟨D,h1,_⟩:=h;exact h1.lt
theorem wpl_funLook {ops:Array Oper} {rest:List Oper} {o:Oper} {a:Act} {Q:Exit->Act->World->Prop} {w:World} (hg:o.guard=none) (m x:Operand)
    (hop:o.op=Op.lookup 71 m x false) (b n:Nat) (f:Int->Option Int) (hm:a.eval m = .map (some b)) (hS:FunMap w b n f) (X:Int) (hx:a.eval x = .int .i64 X) (hX:I64 X)
    (hK:wpList Try.prog ops Q rest (a.put o.dst (.int .i64 ((f X).getD 0))) w):wpList Try.prog ops Q (o :: rest) a w:=by
  obtain⟨D,h1,h2,h3⟩:=hS
  refine wpList_lookup_own_int _ hg m x _ hop _ _ .i64 lawI Try.underlying71 Try.underlying3 (zeroI w) b n D hm h1 _ _ hx (keyOf_int_mk Try.underlying3 (wf_of_i64 hX)) ?_
  intro c hc _
  rw[(h3 X).2] at hc
  simp only [DataW.lit.injEq,Lit.int.injEq,true_and] at hc
  rw[<- hc];exact hK
theorem wpl_funLookOk {ops:Array Oper} {rest:List Oper} {o:Oper} {a:Act} {Q:Exit->Act->World->Prop} {w:World} (hg:o.guard=none) (m x:Operand)
    (hop:o.op=Op.lookup 71 m x true) (b n:Nat) (f:Int->Option Int) (hm:a.eval m = .map (some b)) (hS:FunMap w b n f) (X:Int) (hx:a.eval x = .int .i64 X) (hX:I64 X)
    (hK:wpList Try.prog ops Q rest (a.put o.dst (.tuple #[.int .i64 ((f X).getD 0),.bool (f X).isSome])) w):wpList Try.prog ops Q (o :: rest) a w:=by
  obtain⟨D,h1,h2,h3⟩:=hS
  refine wpList_lookup_own_ok_int _ hg m x _ hop _ _ .i64 lawI Try.underlying71 Try.underlying3 (zeroI w) b n D hm h1 _ _ hx (keyOf_int_mk Try.underlying3 (wf_of_i64 hX)) ?_
  intro c hc _
  rw[(h3 X).2] at hc
  simp only [DataW.lit.injEq,Lit.int.injEq,true_and] at hc
  rw[<- hc,(h3 X).1];exact hK
theorem wpl_funPut {ops:Array Oper} {rest:List Oper} {o:Oper} {a:Act} {Q:Exit->Act->World->Prop} {w:World} (hg:o.guard=none) (m x v:Operand)
    (hop:o.op=Op.mapUpdate 71 m x v) (b n:Nat) (f:Int->Option Int) (hm:a.eval m = .map (some b)) (hS:FunMap w b n f) (hn:n<1000000) (X Y:Int) (hx:a.eval x = .int .i64 X) (hX:I64 X) (hv:a.eval v = .int .i64 Y) (hY:I64 Y)
    (hK:∀w',FunMap w' b (n+1) (λz=>if z=X then some Y else f z)->w.grownBy w' (some b)->wpList Try.prog ops Q rest (a.put o.dst undef) w'):wpList Try.prog ops Q (o :: rest) a w:=by
  obtain⟨D,h1,h2,h3⟩:=hS
  refine wpList_mapUpdate_own _ hg m x v 71 hop _ _ lawI Try.underlying71 _ b n D hm h1 (by unfold maxLen;omega) _ _ (.int .i64 X) hx hv (keyOf_int_mk Try.underlying3 (wf_of_i64 hX)) _ [] (plainElem_int Try.underlying3 (wf_of_i64 hY)) ?_
  intro w' h1' hgr
  refine hK w' ⟨_,h1',h2.put _ _,λy=>?_⟩ hgr
  by_cases e:y=X
  · subst e
    rw[atKey_put_same h2 (litKey_int _),has_put_same h2 (litKey_int _)]
    simp
  · rw[atKey_put_other (by simpa using e),has_put_other (by simpa using e),(h3 y).1,(h3 y).2]
    simp[e]
end Go.Proofs.Ytbeilcaadpopmab
namespace Go.Proofs.Ytbeilcaadpopmab
open Go.RowKit Go.Maps
theorem SetMap.run {w:World} {b n:Nat} {S:List Int} (hS:SetMap w b n S) {X:Int} (hX:I64 X):(Instr.lookup 99 (.map (some b)) (.int .i64 X) false).run Try.prog w = .ok (.bool (decide (X ∈ S))) w:=by
  obtain⟨D,h1,h2,h3⟩:=hS
  obtain⟨v,ps,hrun,hv⟩:=h1.lookup lawI Try.underlying99 (zeroB w) (plainElem_bool Try.underlying4 false) (keyOf_int_mk Try.underlying3 (wf_of_i64 hX))
  obtain⟨c,rfl,hc⟩:=plainElem_bool_inv Try.underlying4 hv
  rw[h3] at hc
  simp only [Prod.mk.injEq,DataW.lit.injEq,Lit.bool.injEq] at hc
  rw[<- hc.1] at hrun
  exact hrun
def Mk (w0 w:World) (M o B base:Nat) (gv:Value) (gray S:List Int):Prop :=
  w0.heap.size<=B/\w0.heap.size<=M/\B≠M/\w0.heap.size<=base/\base<=w.heap.size/\gv.ownBlock≠some B/\gv.ownBlock≠some M/\w.cell? ⟨M,o,none⟩=some gv/\w.cell? ⟨M,o+1,none⟩=some (.map (some B))/\w.frozen? ⟨M,o,none⟩=false/\w.frozen? ⟨M,o+1,none⟩=false /\
    OwnInts w base gv gray/\SetMap w B S.length S/\Below w0.heap.size w0 w
def pushG (p:Int) (gray S:List Int):List Int:=if p=0\/p ∈ S then gray else gray++[p]
def pushS (p:Int) (S:List Int):List Int:=if p=0\/p ∈ S then S else p :: S
def Turned (w w':World) (M o B:Nat) (gv gv':Value):Prop :=
  w.heap.size<=w'.heap.size/\(∀k,k<w.heap.size->k≠M->k≠B->gv.ownBlock≠some k->w'.heap[k]? = w.heap[k]?)/\(∀k,k<w.heap.size->gv.ownBlock≠some k->gv'.ownBlock≠some k) /\
    (∀i,i≠o->w'.cell? ⟨M,i,none⟩=w.cell? ⟨M,i,none⟩)/\(∀i,w'.frozen? ⟨M,i,none⟩=w.frozen? ⟨M,i,none⟩)
theorem Turned.refl (w:World) (M o B:Nat) (gv:Value):Turned w w M o B gv gv:=⟨Nat.le_refl _,λ_ _ _ _ _=>rfl,λ_ _ h=>h,λ_ _=>rfl,λ_=>rfl⟩
theorem Turned.trans {w1 w2 w3:World} {M o B:Nat} {g1 g2 g3:Value} (h:Turned w1 w2 M o B g1 g2) (k:Turned w2 w3 M o B g2 g3):Turned w1 w3 M o B g1 g3:=by
  obtain⟨a1,a2,a3,a4,a5⟩:=h
  obtain⟨b1,b2,b3,b4,b5⟩:=k
  refine⟨Nat.le_trans a1 b1,λk hk h1 h2 h3=>(b2 k (Nat.lt_of_lt_of_le hk a1) h1 h2 (a3 k hk h3)).trans (a2 k hk h1 h2 h3),λk hk h3=>b3 k (Nat.lt_of_lt_of_le hk a1) (a3 k hk h3),λi hi=>(b4 i hi).trans (a4 i hi),λi=>(b5 i).trans (a5 i)⟩
def RetPush (w0 w:World) (M o B base:Nat) (gv:Value) (gray S:List Int) (p:Int) (e:Ending) (w':World):Prop :=
  e = .returned (.tuple #[])/\∃gv',Mk w0 w' M o B base gv' (pushG p gray S) (pushS p S)/\Turned w w' M o B gv gv'
theorem grown_cell {w w':World} {row:Option Nat} (hg:w.grownBy w' row) {M i:Nat} (hM:M<w.heap.size) (hr:some M≠row):w'.cell? ⟨M,i,none⟩=w.cell? ⟨M,i,none⟩/\w'.frozen? ⟨M,i,none⟩=w.frozen? ⟨M,i,none⟩:=by
  have:=hg.5 M hM hr
  simp[World.cell?,World.frozen?,this]
theorem OwnInts.setFar {w:World} {base:Nat} {v:Value} {xs:List Int} (h:OwnInts w base v xs) {a:Addr} (ha:v.ownBlock≠some a.block) (u:Value):OwnInts (w.setCell a u) base v xs:=by
  refine⟨h.1,h.2.1,?_⟩
  rcases h.2.2 with h2|⟨g,cap,cur,hv,hg,hh,r⟩
  · exact .inl h2
  · exact .inr ⟨g,cap,cur,hv,hg,by rw[Below.heap_setCell _ _ _ _ (by rintro rfl;exact ha (by rw[hv];rfl))];exact hh,r⟩
theorem frozen_setCell_any (w:World) (p q:Addr) (u:Value):(w.setCell p u).frozen? q=w.frozen? q:=by
  simp[go_sem]
set_option maxRecDepth 100000 in
set_option maxHeartbeats 1000000 in
theorem push_any (w0 w:World) (M o B base:Nat) (gv:Value) (gray S:List Int) (p:Int) (h:Mk w0 w M o B base gv gray S) (hp:I64 p) (hn:S.length<900000) (hl:gray.length<900000) :
    Calls Try.prog 60 #[.pointer (some ⟨M,o,none⟩),.int .i64 p] w (RetPush w0 w M o B base gv gray S p):=by
  obtain⟨m1,m2,m3,m4,m6,hGM,hGM2,c0,c1,z0,z1,hG,hS,hb⟩:=h
  have HP:=Lib.hid hp
  obtain⟨hp1,hp2⟩:=hp
  have HG:=Lib.hid hG;have HS:=Lib.hid hS;have HB:=Lib.hid hb
  have HGM:=Lib.hid hGM;have HGM2:=Lib.hid hGM2
  clear hG hS hb hGM hGM2
  by_cases h0:p=0
  · subst h0
    go_enter Try.func60,Try.ntmps60
    go_wp2
    refine bodyPost_end (results_none rfl _ _ _) rfl ⟨rfl,gv,?_,Turned.refl _ _ _ _ _⟩
    have e1:pushG 0 gray S=gray:=by simp[pushG]
    have e2:pushS 0 S=S:=by simp[pushS]
    rw[e1,e2]
    exact⟨m1,m2,m3,m4,m6,HGM.out,HGM2.out,c0,c1,z0,z1,HG.out,HS.out,HB.out⟩
  · have h0':(p != 0)=true:=by simpa using h0
    by_cases hs:p ∈ S
    · have hd:decide (p ∈ S)=true:=decide_eq_true hs
      have HE:Hid (pushG p gray S=gray/\pushS p S=S):=⟨by simp[pushG,hs],by simp[pushS,hs]⟩
      clear hs
      have hrun:=HS.out.run HP.out
      rw[hd] at hrun
      go_enter Try.func60,Try.ntmps60
      go_wp2
      refine bodyPost_end (results_none rfl _ _ _) rfl ⟨rfl,gv,?_,Turned.refl _ _ _ _ _⟩
      rw[HE.out.1,HE.out.2]
      exact⟨m1,m2,m3,m4,m6,HGM.out,HGM2.out,c0,c1,z0,z1,HG.out,HS.out,HB.out⟩
    · have hd:decide (p ∈ S)=false:=decide_eq_false hs
      have HE:Hid (pushG p gray S=gray++[p]/\pushS p S=p :: S):=⟨by simp[pushG,hs,h0],by simp[pushS,hs,h0]⟩
      clear hs
      have hMs:M<w.heap.size:=World.block_lt_of_cell? w _ c0
      have hBs:B<w.heap.size:=HS.out.lt
      have hrun:=HS.out.run HP.out
      rw[hd] at hrun
      go_enter Try.func60,Try.ntmps60
      go_wp2_with (first|(at_mapUpdate;refine wpl_setAdd rfl _ _ _ rfl B S.length S rfl HS.out (by omega) p rfl HP.out rfl ?_;intro w1 hs1 hg1;obtain⟨d0,f0⟩:=grown_cell hg1 (i:=o) hMs (by simp;omega);obtain⟨d1,f1⟩:=grown_cell hg1 (i:=o+1) hMs (by simp;omega);have HS1:=Lib.hid hs1;have HG1:=Lib.hid hg1;clear hs1 hg1)|(at_builtin;refine wpl_append_ints rfl _ _ rfl base gv gray rfl ((HG.out.grown HG1.out (.inr HGM.out)).below (Below.alloc (Below.refl _ _) (Nat.le_refl _) _)) _ [p] rfl (built_one _ _ HP.out) (by simp;omega) (by have:=HG1.out.size;simp;omega) ?_;intro v2 w2 hv2 hg2 hm2;obtain⟨d2,f2⟩:=grown_cell hg2 (i:=o) (M:=M) (by have:=HG1.out.size;simp;omega) (λe=>HGM2.out e.symm);obtain⟨d3,f3⟩:=grown_cell hg2 (i:=o+1) (M:=M) (by have:=HG1.out.size;simp;omega) (λe=>HGM2.out e.symm);obtain⟨a2,c2,hvv⟩:=hv2.shape;rw[show (gray++[p]).length=gray.length+1 by simp] at hvv;subst hvv;have hsz1:=HG1.out.size;have HV2:=Lib.hid hv2;have HG2:=Lib.hid hg2;have HM2:=Lib.hid hm2;clear hv2 hg2 hm2;simp[go_sem,hMs,Nat.lt_of_lt_of_le hMs hsz1] at d2 f2 d3 f3))
      have hb1:Below w0.heap.size w0 w1:=HB.out.grown HG1.out HB.out.size (λj hj=>by cases hj;exact m1)
      have hb2:Below w0.heap.size w0 w2:=(hb1.alloc hb1.size _).grown HG2.out (by simp;have:=hb1.size;omega) (λj hj=>by have:=(HG.out.lt hj).1;omega)
      have hsz2:=HG2.out.size
      rw[World.size_alloc] at hsz2
      have hn2:Value.ownBlock (.slice a2 (gray.length+1) c2)≠some M:=moved_ne HM2.out (by rw[World.size_alloc];omega) HGM2.out
      have hn1:Value.ownBlock (.slice a2 (gray.length+1) c2)≠some B:=moved_ne HM2.out (by rw[World.size_alloc];omega) HGM.out
      refine bodyPost_end (results_none rfl _ _ _) rfl ⟨rfl,_,⟨m1,m2,m3,m4,by simp[World.setCell];omega,hn1,hn2,World.cell?_setCell_same _ _ _ (d2.trans (d0.trans c0)),?_,?_,?_,?_,?_,hb2.setCell (by exact m2) _⟩,by simp[World.setCell];omega,?_,?_,?_,?_⟩
      · rw[World.cell?_setCell_other _ _ _ _ (by simp),d3,d1];exact c1
      · simp[go_sem];rw[f2,f0];exact z0
      · simp[go_sem];rw[f3,f1];exact z1
      · rw[HE.out.1];exact HV2.out.setFar (a:=⟨M,o,none⟩) hn2 _
      · rw[HE.out.2]
        exact (((HS1.out.below (Below.alloc (Below.refl _ _) (Nat.le_refl _) _)).grown HG2.out (λe=>HGM.out e.symm)).setCell (by exact m3) _)
      · intro k hk h1 h2 h3
        have e1:(w2.setCell ⟨M,o,none⟩ (.slice a2 (gray.length+1) c2)).heap[k]? = w2.heap[k]?:=by
          simp only [World.setCell,Array.getElem?_modify]
          rw[if_neg (by omega)]
        rw[e1,HG2.out.block k (by simp;omega) (λe=>h3 e.symm),World.alloc]
        simp only [Array.getElem?_push]
        rw[if_neg (by omega)]
        exact HG1.out.block k hk (by simpa using h2)
      · intro k hk h1
        exact moved_ne HM2.out (by rw[World.size_alloc];omega) h1
      · intro i hi
        rw[World.cell?_setCell_other _ _ _ _ (by simp only [ne_eq,Addr.mk.injEq];omega),(grown_cell HG2.out (i:=i) (M:=M) (by rw[World.size_alloc];omega) (λe=>HGM2.out e.symm)).1]
        rw[Below.cell ((Below.refl w1.heap.size w1).alloc (Nat.le_refl _) _) (by exact Nat.lt_of_lt_of_le hMs hsz1)]
        exact (grown_cell HG1.out (i:=i) hMs (by simp;omega)).1
      · intro i
        rw[frozen_setCell_any,(grown_cell HG2.out (i:=i) (M:=M) (by rw[World.size_alloc];omega) (λe=>HGM2.out e.symm)).2]
        rw[Below.frozen ((Below.refl w1.heap.size w1).alloc (Nat.le_refl _) _) (by exact Nat.lt_of_lt_of_le hMs hsz1)]
        exact (grown_cell HG1.out (i:=i) hMs (by simp;omega)).2
end Go.Proofs.Ytbeilcaadpopmab
namespace Go.Proofs.Ytbeilcaadpopmab
open Go.RowKit
theorem still_tail_at {P:Program} {id:Nat} {Q:Exit->Act->World->Prop} {a:Act} {w w2:World} {l:List Oper} (n:Nat) (hm:P.follows .mixedOrders=true) (hB:Region.lexTailB .any l.toArray n=true) (hw:w2=w.drew)
    (h:wpStill P l.toArray w2 (λa'=>wpList P l.toArray Q (l.drop n) a' w2) (l.take n) a):(Code.region id l.toArray true).wp P Q a w:=by
  subst hw
  exact wp_region_still_tail n hm hB h
theorem quiet_left {P:Program} {f:FuncId} {args:Array Value} {w:World} {n:Nat} {v:Value}
    (h:Calls P f args (w.drewN n) λe w'=>e = .returned v/\w.drewN n=w'):Calls P f args (w.drewN n) λe w''=>e = .returned v/\∃m,w'' = w.drewN m :=
  h.mono λ_ _ ⟨he,hm⟩=>⟨he,n,hm.symm⟩
end Go.Proofs.Ytbeilcaadpopmab
namespace Go.Proofs.Ytbeilcaadpopmab
open Go.RowKit
def seeW (s:List Int × List Int) (x:Int):List Int × List Int:=if x % 2=1 then (pushG (x / 2) s.1 s.2,pushS (x / 2) s.2) else s
def fieldsOf (xs:List Int) (p:Nat):List Int:=(xs.drop (p+2)).take (nf xs p)
def lookF (xs:List Int):Nat->List Int × List Int->List Int × List Int
  | 0,s=>s
  | f+1,s=>if s.1=[] then s else lookF xs f ((fieldsOf xs (s.1.getLastD 0).toNat).foldl seeW (s.1.dropLast,s.2))
theorem lookF_nil {xs:List Int} {S:List Int}:∀f,lookF xs f ([],S)=([],S)
  | 0=>rfl
  | f+1=>by simp[lookF]
end Go.Proofs.Ytbeilcaadpopmab
namespace Go.Proofs.Ytbeilcaadpopmab
open Go.RowKit
theorem Turned.ints {w w':World} {M o B:Nat} {g g' v:Value} {xs:List Int} (h:Turned w w' M o B g g') (hv:Ints w v xs) (h1:v.ownBlock≠some M) (h2:v.ownBlock≠some B) (h3:∀k,v.ownBlock=some k->g.ownBlock≠some k):Ints w' v xs:=by
  refine⟨hv.1,hv.2.1,hv.2.2.1,?_⟩
  obtain⟨a,cap,e,q1,q2,q3,q4⟩:=hv.2.2.2
  refine⟨a,cap,e,q1,q2,q3,λhn=>?_⟩
  obtain⟨b,o',ea,hb,hc⟩:=q4 hn
  subst ea
  subst e
  have e1:w'.heap[b]? = w.heap[b]?:=h.2.1 b hb (λe=>h1 (by rw[<- e];rfl)) (λe=>h2 (by rw[<- e];rfl)) (h3 b rfl)
  refine⟨b,o',rfl,Nat.lt_of_lt_of_le hb h.1,λi hi=>?_⟩
  rw[World.cell?_of_block (w:=w) (a:=⟨b,o' + i,none⟩) e1]
  exact hc i hi
theorem Mk.draw {w0 w:World} {M o B base:Nat} {gv:Value} {gray S:List Int} (h:Mk w0 w M o B base gv gray S) (k:Nat):Mk w0 (w.drewN k) M o B base gv gray S:=by
  obtain⟨m1,m2,m3,m4,m6,m7,m8,c0,c1,z0,z1,hG,hS,hb⟩:=h
  exact⟨m1,m2,m3,m4,m6,m7,m8,c0,c1,z0,z1,hG,hS,below_drewN hb k⟩
theorem Mk.below {w0 w w':World} {M o B base:Nat} {gv:Value} {gray S:List Int} (h:Mk w0 w M o B base gv gray S) (k:Below w.heap.size w w'):Mk w0 w' M o B base gv gray S:=by
  obtain⟨m1,m2,m3,m4,m6,m7,m8,c0,c1,z0,z1,hG,hS,hb⟩:=h
  have hM:=World.block_lt_of_cell? w _ c0
  exact⟨m1,m2,m3,m4,Nat.le_trans m6 k.size,m7,m8,(k.cell (p:=⟨M,o,none⟩) hM).trans c0,(k.cell (p:=⟨M,o+1,none⟩) hM).trans c1,(k.frozen (p:=⟨M,o,none⟩) hM).trans z0,(k.frozen (p:=⟨M,o+1,none⟩) hM).trans z1,
    hG.below k,hS.below k,hb.trans (k.mono hb.size)⟩
theorem Turned.below {w w' w'':World} {M o B:Nat} {g g':Value} (h:Turned w w' M o B g g') (k:Below w'.heap.size w' w'') (hM:M<w'.heap.size):Turned w w'' M o B g g':=by
  obtain⟨a1,a2,a3,a4,a5⟩:=h
  exact⟨Nat.le_trans a1 k.size,λi hi h1 h2 h3=>(k.block i (by omega)).trans (a2 i hi h1 h2 h3),a3,λi hi=>(k.cell (p:=⟨M,i,none⟩) hM).trans (a4 i hi),λi=>(k.frozen (p:=⟨M,i,none⟩) hM).trans (a5 i)⟩
theorem Mk.popped {w0 w:World} {M o B base k c g:Nat} {gray S:List Int} {p:Int} (h:Mk w0 w M o B base (.slice (some ⟨g,0,none⟩) k c) (gray++[p]) S) :
    Mk w0 (w.setCell ⟨M,o,none⟩ (.slice (some ⟨g,0,none⟩) gray.length c)) M o B base (.slice (some ⟨g,0,none⟩) gray.length c) gray S /\
      Turned w (w.setCell ⟨M,o,none⟩ (.slice (some ⟨g,0,none⟩) gray.length c)) M o B (.slice (some ⟨g,0,none⟩) k c) (.slice (some ⟨g,0,none⟩) gray.length c):=by
  obtain⟨m1,m2,m3,m4,m6,m7,m8,c0,c1,z0,z1,hG,hS,hb⟩:=h
  have hG2:=hG.take (k:=gray.length) (by simp)
  rw[show (gray++[p]).take gray.length=gray by simp] at hG2
  refine⟨⟨m1,m2,m3,m4,by simp[World.setCell];exact m6,m7,m8,World.cell?_setCell_same _ _ _ c0,?_,?_,?_,hG2.setFar (a:=⟨M,o,none⟩) m8 _,hS.setCell (by exact m3) _,hb.setCell (by exact m2) _⟩,by simp[World.setCell],?_,λ_ _ h=>h,?_,λi=>frozen_setCell_any _ _ _ _⟩
  · rw[World.cell?_setCell_other _ _ _ _ (by simp)];exact c1
  · rw[frozen_setCell_any];exact z0
  · rw[frozen_setCell_any];exact z1
  · intro i hi h1 h2 h3
    exact Below.heap_setCell _ _ _ _ (by exact h1)
  · intro i hi
    rw[World.cell?_setCell_other _ _ _ _ (by simp only [ne_eq,Addr.mk.injEq];omega)]
theorem Turned.draw {w w':World} {M o B:Nat} {g g':Value} (h:Turned w w' M o B g g') (k:Nat):Turned w (w'.drewN k) M o B g g':=h
theorem OwnInts.draw {w:World} {base:Nat} {v:Value} {xs:List Int} (h:OwnInts w base v xs) (k:Nat):OwnInts (w.drewN k) base v xs:=h
def LookInv (w0 w:World) (M o B base:Nat) (gv0 hv:Value) (t m:Nat) (xs:List Int) (l:List Nat) (s:List Int × List Int) (u:Value) (wr:World):Prop :=
  ∃ gv gray S r, u = .int .i64 (r : Nat) ∧ r ≤ m ∧ Mk w0 wr M o B base gv gray S ∧ lookF xs r (gray, S) = s ∧ gray.length + 6 * r ≤ 1000 + 6 * m ∧ S.length + 6 * r ≤ 1000 + 6 * m ∧ (∀ x ∈ gray, ∃ q ∈ l, x = (q : Int)) ∧
    Turned (w.alloc (.cells #[hv,.int .i64 (t:Int)] 25)) wr M o B gv0 gv
def RetLook (w0 w:World) (M o B base:Nat) (gv:Value) (s:List Int × List Int) (e:Ending) (w':World):Prop :=
  e = .returned (.tuple #[])/\∃gv',Mk w0 w' M o B base gv' s.1 s.2/\Turned w w' M o B gv gv'
set_option maxRecDepth 100000 in
set_option maxHeartbeats 1000000 in
theorem look_any (w0 w:World) (M o B base:Nat) (gv0 hv:Value) (xs gray0 S0:List Int) (t m:Nat) (l:List Nat) (h:Mk w0 w M o B base gv0 gray0 S0) (hx:Ints w hv xs) (his:HeapIs xs t l)
    (hg:∀x ∈ gray0,∃q ∈ l,x=(q:Int)) (hm:m<=400) (hn:S0.length<=1000) (hl:gray0.length<=1000) (hs1:hv.ownBlock≠some M) (hs2:hv.ownBlock≠some B) (hs3:∀k,hv.ownBlock=some k->gv0.ownBlock≠some k) :
    Calls Try.prog 61 #[.pointer (some ⟨M,o,none⟩),.agg #[hv,.int .i64 t],.int .i64 m] w (RetLook w0 w M o B base gv0 (lookF xs m (gray0,S0))):=by
  have HX:Hid (∀wr gv,Turned (w.alloc (.cells #[hv,.int .i64 (t:Int)] 25)) wr M o B gv0 gv->Ints wr hv xs):=λwr gv ht=>ht.ints (hx.below (Nat.le_refl _) ((Below.refl _ _).alloc (Nat.le_refl _) _)) hs1 hs2 hs3
  obtain⟨a,c,rfl,hc,hcm,_⟩:=hx.len
  have i1:=his.1
  have i3:=his.2.2.1
  have HIS:=Lib.hid his
  have hMs0:M<w.heap.size:=World.block_lt_of_cell? w _ h.2.2.2.2.2.2.2.1
  have hBs0:B<w.heap.size:=h.2.2.2.2.2.2.2.2.2.2.2.2.1.lt
  have hgH:gv0.ownBlock≠some w.heap.size:=λe=>by have:=(h.2.2.2.2.2.2.2.2.2.2.2.1.lt e).2;omega
  have HGH:=Lib.hid hgH
  have HST:Hid (Turned w (w.alloc (.cells #[.slice a xs.length c,.int .i64 (t:Int)] 25)) M o B gv0 gv0):=by
    refine⟨by simp,λk hk _ _ _=>Below.heap_alloc _ _ _ hk,λ_ _ h=>h,λi _=>?_,λi=>?_⟩
    · exact Below.cell ((Below.refl w.heap.size w).alloc (Nat.le_refl _) _) hMs0
    · exact Below.frozen ((Below.refl w.heap.size w).alloc (Nat.le_refl _) _) hMs0
  have HSTART:Hid (LookInv w0 w M o B base gv0 (.slice a xs.length c) t m xs l (lookF xs m (gray0,S0)) (.int .i64 (m:Int)) (w.alloc (.cells #[.slice a xs.length c,.int .i64 (t:Int)] 25))):=by
    obtain⟨m1,m2,m3,m4,m6,m7,m8,c0,c1,z0,z1,hG,hS,hb⟩:=h
    refine⟨gv0,gray0,S0,m,rfl,Nat.le_refl _,⟨m1,m2,m3,m4,by simp;omega,m7,m8,?_,?_,?_,?_,hG.below (Below.alloc (Below.refl _ _) (Nat.le_refl _) _),hS.below (Below.alloc (Below.refl _ _) (Nat.le_refl _) _),hb.alloc hb.size _⟩,rfl,by omega,by omega,hg,Turned.refl _ _ _ _ _⟩
    · simp[go_sem,hMs0];exact c0
    · simp[go_sem,hMs0];exact c1
    · simp[go_sem,hMs0];exact z0
    · simp[go_sem,hMs0];exact z1
  clear h hx his hs1 hs2 hs3 hgH hg
  go_enter Try.func61,Try.ntmps61
  go_wp2_with fail
  go_loopw [2] (λu wr=>LookInv w0 w M o B base gv0 (.slice a xs.length c) t m xs l (lookF xs m (gray0,S0)) u wr) (λu _=>(intOf u).toNat)
  case atStart=>exact HSTART.out
  case round =>
    obtain⟨gv,gray,S,r,rfl,hrm,hMk,hF,k1,k2,hg,hT⟩:=hrel
    have hsz:=hT.1
    rw[World.size_alloc] at hsz
    have hMs:M<wr.heap.size:=by omega
    have HMK:=Lib.hid hMk;have HF:=Lib.hid hF;have HGR:=Lib.hid hg;have HT:=Lib.hid hT
    obtain⟨m1,m2,m3,m4,m6,m7,m8,c0,c1,z0,z1,hG,hS,hb⟩:=hMk
    obtain⟨ga,gc,rfl⟩:=hG.shape
    have HG:=Lib.hid hG;have HS:=Lib.hid hS;have HB:=Lib.hid hb
    have x0:wr.cell? ⟨w.heap.size,0,none⟩=some (.slice a xs.length c):=(World.cell?_of_block (a:=⟨w.heap.size,0,none⟩) (hT.2.1 w.heap.size (by simp) (by omega) (by omega) HGH.out)).trans (by simp)
    have x1:wr.cell? ⟨w.heap.size,1,none⟩=some (.int .i64 (t:Int)):=(World.cell?_of_block (a:=⟨w.heap.size,1,none⟩) (hT.2.1 w.heap.size (by simp) (by omega) (by omega) HGH.out)).trans (by simp)
    have HM7:=Lib.hid m7;have HM8:=Lib.hid m8
    clear hG hS hb hF hg hT m1 m2 m3 m4 m6 m7 m8
    by_cases hr:0<r
    · by_cases hgl:0<gray.length
      · obtain ⟨g', p, hp, rfl⟩ : ∃ (g' : List Int) (p : Nat), p ∈ l ∧ gray = g' ++ [(p : Int)] := by
          rcases List.eq_nil_or_concat gray with e|⟨g',x,e⟩
          · rw[e] at hgl;simp at hgl
          · rw[List.concat_eq_append] at e
            obtain⟨q,hq,e2⟩:=HGR.out x (by rw[e];simp)
            exact⟨g',q,hq,by rw[e,e2]⟩
        obtain⟨r,rfl⟩:∃k,r=k+1:=⟨r - 1,by omega⟩
        obtain⟨ho1,ho2,ho3,ho4⟩:=places_obj HIS.out.2.2.2.1 p hp
        have hxi:=HX.out wr _ HT.out
        obtain⟨b,bo,rfl,hbs,hcell⟩:=hxi.at (by omega)
        clear hxi
        obtain⟨g,rfl,hg1,hg2,hgc,_⟩:=HG.out.spot (by simp)
        have hgl:=hgc g'.length (by simp)
        rw[show (g'++[(p:Int)]).getD g'.length 0=(p:Int) by simp[List.getD]] at hgl
        clear hgc
        obtain⟨ga',gc',e',hgc1,hgc2,_⟩:=HG.out.ints.len
        simp only [Value.slice.injEq] at e'
        obtain⟨e1,e2,rfl⟩:=e'
        clear e1 e2
        rw[show (g'++[(p:Int)]).length=g'.length+1 by simp] at c0 k1 HG hgc1 HM7 HM8 HT
        have hcn:=hcell (p+1) (by omega)
        rw[ho2] at hcn
        obtain⟨d,hd⟩:∃d,d=nf xs p:=⟨_,rfl⟩
        rw[<- hd] at ho3 ho4 hcn
        have HD:=Lib.hid hd;have HP:=Lib.hid hp
        clear hd hp ho2 hcell
        rw[show ((r+1:Nat):Int)=(r:Int)+1 by omega]
        go_wp2_with fail
        go_quiet (fail)
        go_wp2_with fail
        have HMK2:=Lib.hid (HMK.out.draw (nq+1));have HT2:=Lib.hid (HT.out.draw (nq+1));have HG2:=Lib.hid (HG.out.draw (nq+1))
        have c0':(wr.drewN (nq+1)).cell? ⟨M,o,none⟩=some (.slice (some ⟨g,0,none⟩) (g'.length+1) gc):=c0
        have z0':(wr.drewN (nq+1)).frozen? ⟨M,o,none⟩=false:=z0
        have x0':(wr.drewN (nq+1)).cell? ⟨w.heap.size,0,none⟩=some (.slice (some ⟨b,bo,none⟩) xs.length c):=x0
        have hcn':(wr.drewN (nq+1)).cell? ⟨b,bo+(p+1),none⟩=some (.int .i64 (d:Int)):=hcn
        have hgc3:g'.length<=gc:=by omega
        have hwr:IntKind.i64.wrap (g'.length:Int)=(g'.length:Int):=IntWalk.i64_in _ (by omega)
        clear c0 c1 z0 z1 x0 x1 hcn hgl HMK HT HG HS HB hg2 hbs hMs hsz
        obtain⟨w2,hw2⟩:∃w2,w2=wr.drewN (nq+1):=⟨_,rfl⟩
        rw[<- hw2] at HMK2 HT2 HG2 c0' z0' x0' hcn'
        refine still_tail_at 14 (by kernel_rfl) (by kernel_rfl) hw2 ?_
        simp only [List.take_succ_cons,List.take_zero,List.drop_succ_cons,List.drop_zero]
        clear hw2
        repeat still_step
        refine wpStill_nil ?_
        go_wp2_with fail
        obtain⟨w3,hw3⟩:∃w3,w3=w2.setCell ⟨M,o,none⟩ (.slice (some ⟨g,0,none⟩) g'.length gc):=⟨_,rfl⟩
        obtain⟨hMK3,hT3⟩:=HMK2.out.popped
        rw[<- hw3] at hMK3 hT3
        have HMK3:=Lib.hid hMK3;have HT3:=Lib.hid (HT2.out.trans hT3)
        rw[<- hw3]
        clear hMK3 hT3 hw3 HMK2 HT2 c0' z0' x0' hcn' HM7 HM8 HG2 hg1 hgc1 hgc2 hgc3 hwr
        have HCELL:Hid (∀wr gv,Turned (w.alloc (.cells #[.slice (some ⟨b,bo,none⟩) xs.length c,.int .i64 (t:Int)] 25)) wr M o B gv0 gv->wr.cell? ⟨w.heap.size,0,none⟩=some (.slice (some ⟨b,bo,none⟩) xs.length c)) :=
          λwr gv hT=>(World.cell?_of_block (a:=⟨w.heap.size,0,none⟩) (hT.2.1 w.heap.size (by simp) (by omega) (by omega) HGH.out)).trans (by simp)
        have HWORD:Hid (∀wr gv,Turned (w.alloc (.cells #[.slice (some ⟨b,bo,none⟩) xs.length c,.int .i64 (t:Int)] 25)) wr M o B gv0 gv->∀i,i<xs.length->wr.cell? ⟨b,bo+i,none⟩=some (.int .i64 (xs.getD i 0))):=by
          intro wr gv hT i hi
          obtain⟨b',bo',e,_,hc⟩:=(HX.out wr gv hT).at (by omega)
          simp only [Option.some.injEq,Addr.mk.injEq] at e
          obtain⟨rfl,rfl,_⟩:=e
          exact hc i hi
        have x0:=HCELL.out w3 _ HT3.out
        have hcn:=HWORD.out w3 _ HT3.out (p+1) (by omega)
        rw[(places_obj HIS.out.2.2.2.1 p HP.out).2.1,<- HD.out] at hcn
        have b1:p+2+d<=c:=by omega
        have b2:p+2<=c:=by omega
        have b3:p+1<xs.length:=by omega
        have HFL:Hid (fieldsOf xs p=(xs.drop (p+2)).take d):=by rw[Hid,fieldsOf,HD.out]
        have HROUND:Hid (∀wq gv2 gray2 S2,Mk w0 wq M o B base gv2 gray2 S2->Turned (w.alloc (.cells #[.slice (some ⟨b,bo,none⟩) xs.length c,.int .i64 (t:Int)] 25)) wq M o B gv0 gv2->(fieldsOf xs p).foldl seeW (g',S)=(gray2,S2)->gray2.length<=g'.length+d->S2.length<=S.length+d->(∀x ∈ gray2,∃q ∈ l,x=(q:Int)) ->
            LookInv w0 w M o B base gv0 (.slice (some ⟨b,bo,none⟩) xs.length c) t m xs l (lookF xs m (gray0,S0)) (.int .i64 (r:Int)) wq):=by
          intro wq gv2 gray2 S2 q1 q2 q3 q4 q5 q6
          refine⟨gv2,gray2,S2,r,rfl,by omega,q1,?_,by omega,by omega,q6,q2⟩
          rw[<- HF.out,lookF,if_neg (by simp)]
          show lookF xs r (gray2,S2)=lookF xs r ((fieldsOf xs ((g'++[(p:Int)]).getLastD 0).toNat).foldl seeW ((g'++[(p:Int)]).dropLast,S))
          rw[show (g'++[(p:Int)]).getLastD 0=(p:Int) by simp,show (g'++[(p:Int)]).dropLast=g' by simp,Int.toNat_natCast,q3]
        have HGR3:Hid (∀x ∈ g',∃q ∈ l,x=(q:Int)):=λx hx=>HGR.out x (by simp[hx])
        by_cases hcp:c=p+2
        · have hd0:d=0:=by omega
          subst hd0
          have HEND:=Lib.hid (HROUND.out w3 _ _ _ HMK3.out HT3.out (by rw[HFL.out];simp) (by omega) (by omega) HGR3.out)
          subst hcp
          go_quiet (fail)
          go_wp2_with fail
          go_loop [63] (λu=>u = .int .i64 0) (λ_=>0)
          case atStart=>rfl
          case round =>
            subst hrel
            go_wp2_with fail
            go_roundw
            case rel =>
              obtain⟨gv2,gray2,S2,r2,e1,q1,q2,q3,q4,q5,q6,q7⟩:=HEND.out
              exact⟨gv2,gray2,S2,r2,e1,q1,q2.draw _,q3,q4,q5,q6,q7⟩
            case measure=>simp[intOf]
        · go_quiet (fail)
          go_wp2_with fail
          rw[Nat.add_sub_cancel_left]
          go_loopw [63] (λu wq=>∃(j:Nat) (gv2:Value) (gray2 S2:List Int),u = .int .i64 j/\j<=d/\Mk w0 wq M o B base gv2 gray2 S2/\Turned (w.alloc (.cells #[.slice (some ⟨b,bo,none⟩) xs.length c,.int .i64 (t:Int)] 25)) wq M o B gv0 gv2/\((fieldsOf xs p).take j).foldl seeW (g',S)=(gray2,S2)/\gray2.length<=g'.length+j/\S2.length<=S.length+j/\(∀x ∈ gray2,∃q ∈ l,x=(q:Int))) (λu _=>d - (intOf u).toNat)
          case atStart=>exact⟨0,_,_,_,rfl,Nat.zero_le _,HMK3.out.draw _,HT3.out,by simp,by omega,by omega,HGR3.out⟩
          case round =>
            obtain⟨j,gv2,gray2,S2,rfl,hj,hMK4,hT4,hf4,q4,q5,hg4⟩:=hrel
            have HMK4:=Lib.hid hMK4;have HT4:=Lib.hid hT4;have HF4:=Lib.hid hf4;have HG4:=Lib.hid hg4
            clear hMK4 hT4 hf4 hg4 x0 hcn
            by_cases hjd:j<d
            · have hw0:=HWORD.out wr gv2 HT4.out (p+2+j) (by omega)
              rw[show bo+(p+2+j)=bo+(p+2)+j by omega] at hw0
              have hrng:=(HX.out wr gv2 HT4.out).range (p+2+j)
              obtain⟨x,hx⟩:∃x,x=xs.getD (p+2+j) 0:=⟨_,rfl⟩
              rw[<- hx] at hw0 hrng
              obtain⟨hr1,hr2⟩:=hrng
              have HSNOC:Hid ((fieldsOf xs p).take (j+1)=(fieldsOf xs p).take j++[x]):=by
                rw[Hid,HFL.out,List.take_take,List.take_take,Nat.min_eq_left (by omega),Nat.min_eq_left (by omega),List.take_succ_eq_append_getElem (by simp;omega)]
                congr 2
                rw[hx,List.getElem_drop,List.getD_eq_getElem?_getD,List.getElem?_eq_getElem (by omega)]
                rfl
              have HFX:Hid (((fieldsOf xs p).take (j+1)).foldl seeW (g',S)=seeW (gray2,S2) x):=by rw[Hid,HSNOC.out,List.foldl_append,HF4.out];rfl
              have HWK:Hid (WordOk l x):=by rw[Hid,hx];exact (HIS.out.2.2.2.2.1 p HP.out).2.2 j (by rw[<- HD.out];exact hjd)
              clear hx
              have hMw:M<wr.heap.size:=World.block_lt_of_cell? wr _ HMK4.out.2.2.2.2.2.2.2.1
              by_cases hodd:x % 2=1
              · have hk:ofK x=1:=hodd
                have hk2:(ofK x == 1)=true:=by rw[hk];rfl
                have HWO:Hid (x / 2≠0->∃q ∈ l,x / 2=(q:Int)):=λh=>HWK.out.2 hodd (by omega)
                have HFX2:Hid (seeW (gray2,S2) x=(pushG (ofN x) gray2 S2,pushS (ofN x) S2)):=by rw[Hid,seeW,if_pos hodd];rfl
                have HN:Hid (ofN x=x / 2):=rfl
                have HI:Hid (I64 (ofN x)):=by unfold Hid ofN I64;omega
                have HODD:=Lib.hid hodd
                clear hodd hk
                go_wp2_with (first|(go_at_call 37;refine (of_any x _ hr1 hr2).mono ?_;rintro e w4 ⟨rfl,hb4⟩;have HB4:=Lib.hid hb4;clear hb4)|(go_at_call 60;refine (push_any w0 _ M o B base gv2 gray2 S2 _ (HMK4.out.below (by ((repeat first|exact bR _ _|with_reducible first|refine bT ?_ HB4.out ?_|refine bN ?_|refine bD ?_|refine bA ?_ ?_|refine bS ?_ ?_);all_goals first|exact Nat.le_refl _|(simp;done)|omega|(simp;omega)|(have z0:=Below.size HB4.out;omega)|(have z0:=Below.size HB4.out;simp at *;omega)))) HI.out (by omega) (by omega)).mono ?_;rintro e w5 ⟨rfl,gv5,hM5,hT5⟩;have HM5:=Lib.hid hM5;have HT5:=Lib.hid hT5;clear hM5 hT5))
                go_roundw
                case rel =>
                  refine⟨j+1,gv5,_,_,by go_num,by omega,HM5.out,(HT4.out.below (by ((repeat first|exact bR _ _|with_reducible first|refine bT ?_ HB4.out ?_|refine bN ?_|refine bD ?_|refine bA ?_ ?_|refine bS ?_ ?_);all_goals first|exact Nat.le_refl _|(simp;done)|omega|(simp;omega)|(have z0:=Below.size HB4.out;omega)|(have z0:=Below.size HB4.out;simp at *;omega))) hMw).trans HT5.out,by rw[HFX.out,HFX2.out],?_,?_,?_⟩
                  · unfold pushG;split <;> (try rw[List.length_append,List.length_singleton]) <;> omega
                  · unfold pushS;split <;> (try rw[List.length_cons]) <;> omega
                  · intro y hy
                    unfold pushG at hy
                    split at hy
                    · exact HG4.out y hy
                    · rename_i hno
                      rcases List.mem_append.1 hy with hy|hy
                      · exact HG4.out y hy
                      · simp at hy
                        subst hy
                        exact HWO.out (λe=>hno (.inl e))
                case measure=>simp[intOf];omega
              · have hk:ofK x=0:=by unfold ofK;omega
                have hk2:(ofK x == 1)=false:=by rw[hk];rfl
                have HFX2:Hid (seeW (gray2,S2) x=(gray2,S2)):=by rw[Hid,seeW,if_neg hodd]
                clear hodd hk
                go_wp2_with (go_at_call 37;refine (of_any x _ hr1 hr2).mono ?_;rintro e w4 ⟨rfl,hb4⟩;have HB4:=Lib.hid hb4;clear hb4)
                go_roundw
                case rel =>
                  exact⟨j+1,gv2,_,_,by go_num,by omega,(HMK4.out.below (by ((repeat first|exact bR _ _|with_reducible first|refine bT ?_ HB4.out ?_|refine bN ?_|refine bD ?_|refine bA ?_ ?_|refine bS ?_ ?_);all_goals first|exact Nat.le_refl _|(simp;done)|omega|(simp;omega)|(have z0:=Below.size HB4.out;omega)|(have z0:=Below.size HB4.out;simp at *;omega)))),HT4.out.below (by ((repeat first|exact bR _ _|with_reducible first|refine bT ?_ HB4.out ?_|refine bN ?_|refine bD ?_|refine bA ?_ ?_|refine bS ?_ ?_);all_goals first|exact Nat.le_refl _|(simp;done)|omega|(simp;omega)|(have z0:=Below.size HB4.out;omega)|(have z0:=Below.size HB4.out;simp at *;omega))) hMw,by rw[HFX.out,HFX2.out],by omega,by omega,HG4.out⟩
                case measure=>simp[intOf];omega
            · have HEND:=Lib.hid (HROUND.out wr _ _ _ HMK4.out HT4.out (by rw[<- HF4.out,List.take_of_length_le (by rw[HFL.out];simp;omega)]) (by omega) (by omega) HG4.out)
              go_wp2_with fail
              go_roundw
              case rel=>exact HEND.out
              case measure=>simp[intOf]
      · have HE:Hid (gray=[]):=List.length_eq_zero_iff.1 (by omega)
        have HEND:Hid (RetLook w0 w M o B base gv0 (lookF xs m (gray0,S0)) (.returned (.tuple #[])) wr):=by
          refine⟨rfl,.slice ga gray.length gc,?_,HST.out.trans HT.out⟩
          rw[<- HF.out]
          have h2:=HMK.out
          rw[HE.out] at h2 ⊢
          rw[lookF_nil]
          exact h2
        clear HMK
        go_wp2
        exact bodyPost_end (results_none rfl _ _ _) rfl HEND.out
    · have HE:Hid (r=0):=by show r=0;omega
      have HEND:Hid (RetLook w0 w M o B base gv0 (lookF xs m (gray0,S0)) (.returned (.tuple #[])) wr):=by
        refine⟨rfl,.slice ga gray.length gc,?_,HST.out.trans HT.out⟩
        rw[<- HF.out,HE.out]
        exact HMK.out
      clear HMK
      go_wp2
      exact bodyPost_end (results_none rfl _ _ _) rfl HEND.out
end Go.Proofs.Ytbeilcaadpopmab
namespace Go.Proofs.Ytbeilcaadpopmab
open Go.RowKit
theorem nodup_rev {l:List Int} (h:l.Nodup):l.reverse.Nodup:=(List.reverse_perm l).nodup_iff.2 h
def leads (ws:List Int) (x:Int):Prop:=∃w ∈ ws,w % 2=1/\x=w / 2/\x≠0
theorem seeW_one (g S:List Int) (x:Int):∃n:List Int,seeW (g,S) x=(g++n,n.reverse++S)/\n.Nodup/\(∀y ∈ n,y ∉ S)/\(∀y,y ∈ n++S ↔ y ∈ S\/leads [x] y):=by
  unfold seeW
  by_cases h:x % 2=1
  · rw[if_pos h]
    unfold pushG pushS
    by_cases h2:x / 2=0\/x / 2 ∈ S
    · refine⟨[],by simp[h2],by simp,by simp,λy=>?_⟩
      constructor
      · intro hy;exact .inl (by simpa using hy)
      · rintro (hy|⟨w,hw,h3,rfl,h4⟩)
        · simpa using hy
        · simp at hw;subst hw
          rcases h2 with h2|h2
          · exact absurd h2 h4
          · simpa using h2
    · refine⟨[x / 2],by simp[h2],by simp,?_,λy=>?_⟩
      · intro y hy;simp at hy;subst hy;exact λhh=>h2 (.inr hh)
      · constructor
        · intro hy
          simp at hy
          rcases hy with rfl|hy
          · exact .inr ⟨x,by simp,h,rfl,λe=>h2 (.inl e)⟩
          · exact .inl hy
        · rintro (hy|⟨w,hw,h3,rfl,h4⟩)
          · simp[hy]
          · simp at hw;subst hw;simp
  · rw[if_neg h]
    refine⟨[],by simp,by simp,by simp,λy=>?_⟩
    constructor
    · intro hy;exact .inl (by simpa using hy)
    · rintro (hy|⟨w,hw,h3,rfl,h4⟩)
      · simpa using hy
      · simp at hw;subst hw;exact absurd h3 h
theorem seeAll:∀(ws g S:List Int),∃n:List Int,ws.foldl seeW (g,S)=(g++n,n.reverse++S)/\n.Nodup/\(∀y ∈ n,y ∉ S)/\(∀y,y ∈ n++S ↔ y ∈ S\/leads ws y)
  | [],g,S=>⟨[],by simp,by simp,by simp,λy=>by simp[leads]⟩
  | x :: ws,g,S=>by
    obtain⟨n,h1,h2,h3,h4⟩:=seeW_one g S x
    obtain⟨m,k1,k2,k3,k4⟩:=seeAll ws (g++n) (n.reverse++S)
    refine⟨n++m,?_,?_,?_,λy=>?_⟩
    · rw[List.foldl_cons,h1,k1];simp
    · rw[List.nodup_append]
      exact⟨h2,k2,λa ha b hb e=>k3 b hb (by subst e;simp[ha])⟩
    · intro y hy
      rcases List.mem_append.1 hy with hy|hy
      · exact h3 y hy
      · exact λhh=>k3 y hy (by simp[hh])
    · have e1:y ∈ n++m++S ↔ y ∈ m++(n.reverse++S):=by
        simp only [List.mem_append,List.mem_reverse];constructor
        · rintro ((h|h)|h)
          · exact .inr (.inl h)
          · exact .inl h
          · exact .inr (.inr h)
        · rintro (h|h|h)
          · exact .inl (.inr h)
          · exact .inl (.inl h)
          · exact .inr h
      rw[e1,k4]
      have e2:y ∈ n.reverse++S ↔ y ∈ S\/leads [x] y:=by rw[<- h4];simp
      rw[e2]
      constructor
      · rintro ((h|⟨w,hw,r⟩)|⟨w,hw,r⟩)
        · exact .inl h
        · exact .inr ⟨w,by simp at hw;simp[hw],r⟩
        · exact .inr ⟨w,by simp[hw],r⟩
      · rintro (h|⟨w,hw,r⟩)
        · exact .inl (.inl h)
        · rcases List.mem_cons.1 hw with rfl|hw
          · exact .inl (.inr ⟨w,by simp,r⟩)
          · exact .inr ⟨w,hw,r⟩
theorem lookF_step (xs:List Int) (k:Nat) (g S:List Int) (p:Int) :
    ∃n:List Int,lookF xs (k+1) (g++[p],S)=lookF xs k (g++n,n.reverse++S)/\n.Nodup/\(∀y ∈ n,y ∉ S)/\(∀y,y ∈ n++S ↔ y ∈ S\/leads (fieldsOf xs p.toNat) y):=by
  obtain⟨n,h1,h2⟩:=seeAll (fieldsOf xs p.toNat) g S
  refine⟨n,?_,h2⟩
  rw[lookF,if_neg (by simp)]
  have e1:(g++[p]).getLastD 0=p:=by simp
  have e2:(g++[p]).dropLast=g:=by simp
  show lookF xs k ((fieldsOf xs ((g++[p]).getLastD 0).toNat).foldl seeW ((g++[p]).dropLast,S))=_
  rw[e1,e2,h1]
inductive Reached (xs:List Int) (roots:List Int):Int->Prop
  | root {p:Int}:p ∈ roots->p≠0->Reached xs roots p
  | step {p x:Int}:Reached xs roots p->leads (fieldsOf xs p.toNat) x->Reached xs roots x
def seenB (s:List Int) (p:Nat):Bool:=decide ((p:Int) ∈ s)
def cnt (l:List Nat) (seen:List Int):Nat:=l.countP (seenB seen)
theorem cnt_le (l:List Nat) (s:List Int):cnt l s<=l.length:=List.countP_le_length
end Go.Proofs.Ytbeilcaadpopmab
namespace Go.Proofs.Ytbeilcaadpopmab
open Go.RowKit
def Says (F:Nat) (cap:Array Value) (w:World) (row:Option Nat) (xs:List Int) (pr:Int->Bool):Prop :=
  ∀w' x,w.grownBy w' row->x ∈ xs->Calls Try.prog F (#[.int .i64 x]++cap) w' (λe w''=>e = .returned (.bool (pr x))/\w' = w'')
def firstAt (pr:Int->Bool) (xs:List Int):Int:=if xs.any pr then (xs.findIdx pr:Int) else -1
theorem firstAt_none {pr:Int->Bool} {xs:List Int} (h:∀j,j<xs.length->pr (xs.getD j 0)=false):firstAt pr xs = -1:=by
  unfold firstAt
  rw[if_neg]
  intro hh
  obtain⟨x,hx,hp⟩:=List.any_eq_true.1 hh
  obtain⟨j,hj,e⟩:=List.mem_iff_getElem.1 hx
  have:=h j hj
  rw[List.getD_eq_getElem?_getD,List.getElem?_eq_getElem hj] at this
  simp only [Option.getD_some] at this
  rw[e,hp] at this
  cases this
theorem firstAt_some {pr:Int->Bool} {xs:List Int} {k:Nat} (hk:k<xs.length) (h:∀j,j<k->pr (xs.getD j 0)=false) (hy:pr (xs.getD k 0)=true):firstAt pr xs=(k:Int):=by
  have e:∀j (hj:j<xs.length),xs.getD j 0=xs[j]:=λj hj=>by rw[List.getD_eq_getElem?_getD,List.getElem?_eq_getElem hj];rfl
  rw[e k hk] at hy
  unfold firstAt
  rw[if_pos (List.any_eq_true.2 ⟨_,List.getElem_mem hk,hy⟩)]
  congr 1
  rw[List.findIdx_eq hk]
  exact⟨hy,λj hj=>by rw[<- e j (by omega)];exact h j hj⟩
set_option maxHeartbeats 400000 in
theorem indexFunc_any (F:Nat) (cap:Array Value) (eg:∀args w,(callFunc F args).run Try.prog w = .ok (.enter F args) w) (pr:Int->Bool) (v:Value) (xs:List Int) (w:World) (h:Ints w v xs) (hs:Says F cap w none xs pr) :
    Calls Try.prog 73 #[v,.func (.func F) #[] cap] w (λe w'=>e = .returned (.int .i64 (firstAt pr xs))/\w=w'):=by
  obtain⟨a,c,rfl,hc,hcm,_⟩:=h.len
  have hle:=h.le
  have HH:=Lib.hid h
  have HS:Hid (∀x,x ∈ xs->Calls Try.prog F (#[.int .i64 x]++cap) w (λe w''=>e = .returned (.bool (pr x))/\w=w'')):=λx hx=>hs w x (World.grownBy.refl _ _) hx
  clear h hs
  go_enter Try.func73,Try.ntmps73
  go_wp2
  go_loop [8] (λu=>∃k:Nat,u = .int .i64 k/\k<=xs.length/\∀j,j<k->pr (xs.getD j 0)=false) (λu=>xs.length - (intOf u).toNat)
  case atStart=>exact⟨0,rfl,Nat.zero_le _,by omega⟩
  case round =>
    obtain⟨k,rfl,hk,hall⟩:=hrel
    have HALL:=Lib.hid hall;clear hall
    by_cases hlt:k<xs.length
    · obtain⟨b,o,rfl,hb,hcell⟩:=HH.out.at (by omega)
      have hck:=hcell k hlt
      have hmem:xs.getD k 0 ∈ xs:=by rw[List.getD_eq_getElem?_getD,List.getElem?_eq_getElem hlt];exact List.getElem_mem hlt
      have hcall:=HS.out _ hmem
      have HX:Hid (pr (xs.getD k 0)=true->firstAt pr xs=(k:Int)):=λhy=>firstAt_some hlt HALL.out hy
      have HY:Hid (pr (xs.getD k 0)=false->∀j,j<k+1->pr (xs.getD j 0)=false):=λhn j hj=>by
        by_cases e:j=k
        · rw[e];exact hn
        · exact HALL.out j (by omega)
      clear hcell hmem
      generalize xs.getD k 0=x at hck hcall HX HY
      cases hq:pr x with
      | true =>
        rw[hq] at hcall
        have HE:=Lib.hid (HX.out hq)
        clear hq HX HY
        have HC:=Lib.hid hcall;clear hcall
        go_wp2_with (go_at_fn F;refine HC.out.mono ?_;rintro e w' ⟨rfl,rfl⟩)
        go_ret
        exact⟨ret_int HE.out.symm,rfl⟩
      | false =>
        rw[hq] at hcall
        have HE:=Lib.hid (HY.out hq)
        clear hq HX HY
        have HC:=Lib.hid hcall;clear hcall
        go_wp2_with (go_at_fn F;refine HC.out.mono ?_;rintro e w' ⟨rfl,rfl⟩)
        go_round
        case rel=>exact⟨k+1,by go_num,by omega,HE.out⟩
        case measure=>simp[intOf];omega
    · have HE:Hid (firstAt pr xs = -1):=firstAt_none (λj hj=>HALL.out j (by omega))
      go_wp2
      go_ret
      exact⟨ret_int HE.out.symm,rfl⟩
theorem grown_set (w:World) (g i:Nat) (u:Value):w.grownBy (w.setCell ⟨g,i,none⟩ u) (some g):=⟨rfl,rfl,rfl,by simp[World.setCell],λk _ hne=>Below.heap_setCell _ _ _ _ (λe=>hne (by rw[e]))⟩
theorem grown_tr {a b c:World} {row:Option Nat} (h:a.grownBy b row) (k:b.grownBy c row):a.grownBy c row :=
  ⟨k.os.trans h.os,k.tape.trans h.tape,k.output.trans h.output,Nat.le_trans h.size k.size,λi hi hne=>(k.block i (Nat.lt_of_lt_of_le hi h.size) hne).trans (h.block i hi hne)⟩
theorem OwnInts.zeros {base g c n:Nat}:∀(m o:Nat) (w:World) (ys:List Int),OwnInts w base (.slice (some ⟨g,0,none⟩) n c) ys->o+m<=ys.length ->
    ∃ys',OwnInts (w.setCells g o (List.replicate m (.int .i64 0))) base (.slice (some ⟨g,0,none⟩) n c) ys'/\ys'.length=ys.length/\ys'.take o=ys.take o/\w.grownBy (w.setCells g o (List.replicate m (.int .i64 0))) (some g)
  | 0,o,w,ys,h,_=>⟨ys,h,rfl,rfl,World.grownBy.refl _ _⟩
  | m+1,o,w,ys,h,hm=>by
    obtain⟨ys',h1,h2,h3,h4⟩:=OwnInts.zeros m (o+1) _ _ (h.set (i:=o) (by omega) (x:=0) (by unfold I64;omega)) (by simp;omega)
    refine⟨ys',h1,by rw[h2];simp,?_,grown_tr (grown_set w g o _) h4⟩
    have:=congrArg (List.take o) h3
    rw[List.take_take,List.take_take,Nat.min_eq_left (by omega),List.take_set_of_le (by omega)] at this
    exact this
def KeptAt (pr:Int->Bool) (xs ys:List Int) (i j:Nat):Prop:=ys.length=xs.length/\i<j/\j<=xs.length/\ys.take i=(xs.take j).filter (λx=>!pr x)/\ys.drop j=xs.drop j
theorem take_one {xs:List Int} {j:Nat} (h:j<xs.length):xs.take (j+1)=xs.take j++[xs.getD j 0]:=by
  rw[List.take_succ_eq_append_getElem h,List.getD_eq_getElem?_getD,List.getElem?_eq_getElem h];rfl
theorem KeptAt.skip {pr:Int->Bool} {xs ys:List Int} {i j:Nat} (h:KeptAt pr xs ys i j) (hj:j<xs.length) (hp:pr (xs.getD j 0)=true):KeptAt pr xs ys i (j+1):=by
  obtain⟨h1,h2,h3,h4,h5⟩:=h
  refine⟨h1,by omega,by omega,?_,?_⟩
  · rw[h4,take_one hj,List.filter_append];simp only [List.filter_cons,hp,Bool.not_true,List.filter_nil];simp
  · have:=congrArg (List.drop 1) h5
    rw[List.drop_drop,List.drop_drop] at this
    exact this
theorem KeptAt.keep {pr:Int->Bool} {xs ys:List Int} {i j:Nat} (h:KeptAt pr xs ys i j) (hj:j<xs.length) (hp:pr (xs.getD j 0)=false):KeptAt pr xs (ys.set i (xs.getD j 0)) (i+1) (j+1):=by
  obtain⟨h1,h2,h3,h4,h5⟩:=h
  refine⟨by simp[h1],by omega,by omega,?_,?_⟩
  · rw[take_one hj,List.filter_append,<- h4,take_one (by simp;omega),List.take_set_of_le (by omega)]
    simp only [List.filter_cons,hp,Bool.not_false,List.filter_nil,if_true]
    congr 2
    rw[List.getD_eq_getElem?_getD,List.getElem?_set_self (by omega)];rfl
  · rw[List.drop_set_of_lt (by omega)]
    have:=congrArg (List.drop 1) h5
    rw[List.drop_drop,List.drop_drop] at this
    exact this
theorem KeptAt.at {pr:Int->Bool} {xs ys:List Int} {i j:Nat} (h:KeptAt pr xs ys i j) (hj:j<xs.length):ys.getD j 0=xs.getD j 0:=by
  obtain⟨h1,h2,h3,h4,h5⟩:=h
  have:=congrArg (λl=>l[0]?) h5
  simp only [List.getElem?_drop,Nat.add_zero] at this
  rw[List.getD_eq_getElem?_getD,List.getD_eq_getElem?_getD,this]
theorem KeptAt.first {pr:Int->Bool} {xs:List Int} {k:Nat} (hk:k<xs.length) (h:∀j,j<k->pr (xs.getD j 0)=false) (hy:pr (xs.getD k 0)=true):KeptAt pr xs xs k (k+1):=by
  refine⟨rfl,by omega,by omega,?_,rfl⟩
  rw[take_one hk,List.filter_append]
  simp only [List.filter_cons,hy,Bool.not_true,List.filter_nil]
  have:(xs.take k).filter (λx=>!pr x)=xs.take k:=by
    rw[List.filter_eq_self]
    intro x hx
    obtain⟨j,hj,e⟩:=List.mem_iff_getElem.1 hx
    simp at hj
    have:=h j (by omega)
    rw[List.getD_eq_getElem?_getD,List.getElem?_eq_getElem (by omega)] at this
    simp only [Option.getD_some] at this
    rw[List.getElem_take] at e
    rw[<- e,this];rfl
  rw[this];simp
theorem firstAt_cases (pr:Int->Bool) (xs:List Int):(firstAt pr xs = -1/\xs.filter (λx=>!pr x)=xs)\/∃k:Nat,firstAt pr xs=(k:Int)/\k<xs.length/\KeptAt pr xs xs k (k+1):=by
  by_cases h:xs.any pr=true
  · right
    have hk:=List.findIdx_lt_length_of_exists (p:=pr) (List.any_eq_true.1 h)
    refine⟨xs.findIdx pr,by unfold firstAt;rw[if_pos h],hk,KeptAt.first hk (λj hj=>?_) ?_⟩
    · have:=List.not_of_lt_findIdx (p:=pr) hj
      rw[List.getD_eq_getElem?_getD,List.getElem?_eq_getElem (by omega)]
      simpa using this
    · have:=List.findIdx_getElem (p:=pr) (w:=hk)
      rw[List.getD_eq_getElem?_getD,List.getElem?_eq_getElem hk]
      simpa using this
  · left
    refine⟨by unfold firstAt;rw[if_neg h],?_⟩
    rw[List.filter_eq_self]
    intro x hx
    simp only [List.any_eq_true,not_exists,not_and,Bool.not_eq_true] at h
    rw[h x hx];rfl
def RetDel (w:World) (base:Nat) (v:Value) (ys:List Int) (e:Ending) (w':World):Prop :=
  ∃v',e = .returned v'/\OwnInts w' base v' ys/\w.grownBy w' v.ownBlock/\(v'.ownBlock=v.ownBlock)
set_option maxRecDepth 100000 in
set_option maxHeartbeats 1000000 in
theorem deleteFunc_any (F:Nat) (cap:Array Value) (eg:∀args w,(callFunc F args).run Try.prog w = .ok (.enter F args) w) (pr:Int->Bool) (base:Nat) (v:Value) (xs:List Int) (w:World) (h:OwnInts w base v xs) (hs:Says F cap w v.ownBlock xs pr) :
    Calls Try.prog 62 #[v,.func (.func F) #[] cap] w (RetDel w base v (xs.filter λx=>!pr x)):=by
  have hif:=indexFunc_any F cap eg pr v xs w h.ints (λw' x hg hx=>hs w' x ⟨hg.os,hg.tape,hg.output,hg.size,λk hk _=>hg.block k hk (by simp)⟩ hx)
  rcases firstAt_cases pr xs with ⟨e1,e2⟩|⟨k,e1,hk,hkept⟩
  · rw[e1] at hif
    have HIF:=Lib.hid hif
    have HE:Hid (RetDel w base v (xs.filter λx=>!pr x) (.returned v) w):=⟨v,rfl,by rw[e2];exact h,World.grownBy.refl _ _,rfl⟩
    clear hif e1 e2 h hs
    go_enter Try.func62,Try.ntmps62
    go_wp2_with (go_at_call 73;refine HIF.out.mono ?_;rintro e w' ⟨rfl,rfl⟩)
    go_ret
    exact HE.out
  · rw[e1] at hif
    obtain⟨g,c,rfl,hcn,hcm⟩:∃g c,v = .slice (some ⟨g,0,none⟩) xs.length c/\xs.length<=c/\c<=9223372036854775807:=by
      obtain⟨a,c,rfl,h1,h2,_⟩:=h.ints.len
      obtain⟨g,rfl,_⟩:=h.spot (by omega)
      exact⟨g,c,rfl,h1,h2⟩
    have hle:=h.ints.le
    have HIF:=Lib.hid hif;have HO:=Lib.hid h;have HK:=Lib.hid hkept;have HSY:=Lib.hid hs
    have hk1:((k:Int) == -1)=false:=beq_eq_false_iff_ne.2 (by omega)
    clear hif e1 h hs hkept
    go_enter Try.func62,Try.ntmps62
    go_wp2_with (go_at_call 73;refine HIF.out.mono ?_;rintro e w' ⟨rfl,rfl⟩)
    go_loopw [5,6] (λu u6 wr=>∃(i j:Nat) (ys:List Int),u = .int .i64 i/\u6 = .int .i64 j/\KeptAt pr xs ys i j/\OwnInts wr base (.slice (some ⟨g,0,none⟩) xs.length c) ys/\w.grownBy wr (some g)) (λ_ u6 _=>xs.length - (intOf u6).toNat)
    case atStart=>exact⟨k,k+1,xs,rfl,by go_num,HK.out,HO.out,World.grownBy.refl _ _⟩
    case round =>
      obtain⟨i,j,ys,rfl,rfl,hka,how,hgr⟩:=hrel
      have HKA:=Lib.hid hka;have HOW:=Lib.hid how;have HGR:=Lib.hid hgr
      obtain⟨q1,q2,q3,_,_⟩:=hka
      obtain⟨g2,e,hg1,hg2,hcell,hfz⟩:=how.spot (by omega)
      simp only [Option.some.injEq,Addr.mk.injEq] at e
      obtain⟨rfl,_⟩:=e
      by_cases hlt:j<xs.length
      · have cj:=hcell j (by omega)
        rw[HKA.out.at hlt] at cj
        have ci:=hcell i (by omega)
        have zi:=hfz i
        have hmem:xs.getD j 0 ∈ xs:=by rw[List.getD_eq_getElem?_getD,List.getElem?_eq_getElem hlt];exact List.getElem_mem hlt
        have hcall:=HSY.out wr _ hgr hmem
        have HI:Hid (I64 (xs.getD j 0)):=HO.out.1.1 _ hmem
        obtain⟨x,hx⟩:∃x,x=xs.getD j 0:=⟨_,rfl⟩
        rw[<- hx] at cj hcall HI
        have HX:=Lib.hid hx
        generalize ys.getD i 0=old at ci
        cases hq:pr x with
        | true =>
          rw[hq] at hcall
          have HN:Hid (KeptAt pr xs ys i (j+1)):=HKA.out.skip hlt (by rw[<- HX.out];exact hq)
          have HC:=Lib.hid hcall;clear hcall hq hx hcell hfz how hgr ci zi hmem
          go_wp2_with (go_at_fn F;refine HC.out.mono ?_;rintro e w' ⟨rfl,rfl⟩)
          go_roundw
          case rel=>exact⟨i,j+1,ys,rfl,by go_num,HN.out,HOW.out,HGR.out⟩
          case measure=>simp[intOf];omega
        | false =>
          rw[hq] at hcall
          have HN:Hid (KeptAt pr xs (ys.set i x) (i+1) (j+1)):=by rw[Hid,HX.out];exact HKA.out.keep hlt (by rw[<- HX.out];exact hq)
          have HC:=Lib.hid hcall;clear hcall hq hx hcell hfz how hgr hmem
          go_wp2_with (go_at_fn F;refine HC.out.mono ?_;rintro e w' ⟨rfl,rfl⟩)
          go_roundw
          case rel=>exact⟨i+1,j+1,_,by go_num,by go_num,HN.out,HOW.out.set (by omega) HI.out,grown_tr HGR.out (grown_set _ _ _ _)⟩
          case measure=>simp[intOf];omega
      · obtain rfl:j=xs.length:=by omega
        have hcl:∀ty,(Builtin.clear_ #[23] ty #[.slice (some ⟨g,i,none⟩) (xs.length - i) (c - i)]).run Try.prog wr = .ok (.tuple #[]) (wr.setCells g i (List.replicate (xs.length - i) (.int .i64 0))):=λty =>
          Lib.run_clear_slice wr _ _ ty _ Try.underlying23 (λw=>by kernel_rfl) rfl rfl g i _ _ (by omega) (λt ht=>by rw[hcell (i+t) (by omega)];rfl) (λt ht=>hfz (i+t))
        obtain⟨ys',y1,y2,y3,y4⟩:=HOW.out.zeros (xs.length - i) i wr ys (by omega)
        have HEND:Hid (RetDel w base (.slice (some ⟨g,0,none⟩) xs.length c) (xs.filter λx=>!pr x) (.returned (.slice (some ⟨g,0,none⟩) i c)) (wr.setCells g i (List.replicate (xs.length - i) (.int .i64 0)))):=by
          refine⟨_,rfl,?_,grown_tr HGR.out y4,rfl⟩
          have:=y1.take (k:=i) (by omega)
          have e:=HKA.out.2.2.2.1
          rw[List.take_length] at e
          rw[y3,e] at this
          exact this
        have hne:(c=i)=False:=by simp;omega
        have hic:i<=c:=by omega
        have hil:i<=xs.length:=by omega
        clear hcell hfz how hgr y1 y2 y3 y4
        go_wp2
        go_ret
        exact HEND.out
end Go.Proofs.Ytbeilcaadpopmab
