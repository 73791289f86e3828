/- Texts put together: Un. -/
import Derived.Test.YtbeilcaadpopmacY4
set_option linter.unusedVariables false
set_option linter.unusedSimpArgs false
namespace Go.Proofs.Ytbeilcaadpopmac
theorem modify_more {α : Type} (f : α -> α) (ex : List α) : ∀ (l : List α) (i : Nat),i < l.length -> (l ++ ex).modify i f=l.modify i f ++ ex
  | [],i,h=>by simp at h
  | x :: l,0,h=>by simp
  | x :: l,i+1,h=>by simpa using modify_more f ex l i (by simpa using h)
theorem modify_twice {α : Type} (f g : α -> α) : ∀ (l : List α) (i : Nat),(l.modify i f).modify i g=l.modify i fun x=>g (f x)
  | [],i=>by simp
  | x :: l,0=>by simp
  | x :: l,i+1=>by simpa using modify_twice f g l i
theorem modify_same {α : Type} (f : α -> α) : ∀ (l : List α) (i : Nat),(∀ x,l[i]? = some x -> f x=x) -> l.modify i f=l
  | [],i,_=>by simp
  | x :: l,0,h=>by simp [h x (by simp)]
  | x :: l,i+1,h=>by simpa using modify_same f l i (fun y hy=>h y (by simpa using hy))
theorem modify_comm {α : Type} {f g : α -> α} (h : ∀ x,f (g x)=g (f x)) : ∀ (l : List α) (i j : Nat),(l.modify i f).modify j g=(l.modify j g).modify i f
  | [],i,j=>by simp
  | x :: l,0,0=>by simp [h]
  | x :: l,0,j+1=>by simp
  | x :: l,i+1,0=>by simp
  | x :: l,i+1,j+1=>by simpa using modify_comm h l i j
theorem th_more (l ex : List Thing) {i : Nat} (h1 : 1 <= i) (h2 : i <= l.length) : th (l ++ ex) i=th l i:=by
  unfold th
  rw [List.getD_eq_getElem?_getD,List.getD_eq_getElem?_getD,List.getElem?_append_left (by omega)]
theorem turn_more (l ex : List Thing) (f : Thing -> Thing) {n : Nat} (h1 : 1 <= n) (h2 : n <= l.length) : turnT (l ++ ex) n f=turnT l n f ++ ex:=modify_more f ex l _ (by omega)
theorem backF_more (l ex : List Thing) : ∀ cs : List (Nat × Nat × V),(∀ c ∈ cs,1 <= c.1 /\ c.1 <= l.length) -> backF (l ++ ex) cs=backF l cs ++ ex
  | [],_=>rfl
  | c :: cs,h=>by
    have hc:=h c (by simp)
    rw [backF,backF,backF_more l ex cs (fun d hd=>h d (by simp [hd]))]
    exact turn_more _ _ _ hc.1 (by rw [back_len];exact hc.2)
theorem freeF_more (ex : List Thing) : ∀ (cs : List (Nat × Nat)) (l : List Thing),(∀ c ∈ cs,1 <= c.1 /\ c.1 <= l.length) -> freeF (l ++ ex) cs=freeF l cs ++ ex
  | [],l,_=>rfl
  | c :: cs,l,h=>by
    have hc:=h c (by simp)
    rw [freeF,freeF,turn_more _ _ _ hc.1 hc.2]
    exact freeF_more ex cs _ (fun d hd=>by rw [turn_len];exact h d (by simp [hd]))
theorem backF_snoc (l : List Thing) (c : Nat × Nat × V) : ∀ cs,backF l (cs ++ [c])=backF (setF l c.1 c.2.1 c.2.2) cs
  | []=>rfl
  | d :: cs=>by rw [List.cons_append,backF,backF,backF_snoc l c cs]
theorem freeF_snoc (c : Nat × Nat) : ∀ (cs : List (Nat × Nat)) (l : List Thing),freeF l (cs ++ [c])=turnT (freeF l cs) c.1 freeT
  | [],l=>rfl
  | d :: cs,l=>by rw [List.cons_append,freeF,freeF,freeF_snoc c cs]
theorem backF_turn (n : Nat) (f : Thing -> Thing) (h : ∀ k v x,setT k v (f x)=f (setT k v x)) (l : List Thing) : ∀ cs,backF (turnT l n f) cs=turnT (backF l cs) n f
  | []=>rfl
  | c :: cs=>by
    rw [backF,backF,backF_turn n f h l cs]
    exact (modify_comm (fun x=>h _ _ x) _ _ _).symm
theorem freeF_turn (n : Nat) : ∀ (cs : List (Nat × Nat)) (l : List Thing),freeF (turnT l n freeT) cs=turnT (freeF l cs) n freeT
  | [],l=>rfl
  | c :: cs,l=>by
    rw [freeF,freeF,<- freeF_turn n cs]
    congr 1
    exact modify_comm (fun x=>rfl) _ _ _
theorem setF_back (l : List Thing) (n k : Nat) (v : V) : setF (setF l n k v) n k ((th l n).fields.getD k (.num 0))=l:=by
  unfold setF turnT
  rw [modify_twice]
  refine modify_same _ _ _ fun x hx=>?_
  have e : th l n=x:=by unfold th;rw [List.getD_eq_getElem?_getD,hx];rfl
  rw [e]
  simp only [setT,List.set_set]
  cases x with
  | mk fields version owner gone fresh kept =>
    simp only [Thing.mk.injEq,and_self,and_true]
    by_cases hk : k < fields.length
    · rw [List.getD_eq_getElem?_getD,List.getElem?_eq_getElem hk]
      exact List.set_getElem_self hk
    · exact List.set_eq_of_length_le (by omega)
structure Good (H : Hall) : Prop where
  deals : DealsOk H
  cl : Cl (fun f=>f.2.2=false) H
  own : OwnOk H
theorem Good.act {H : Hall} (h : Good H) (c : ActM) (hc : cleaning c=false) : Good (H.act c).1 :=
  ⟨act_deals H c h.deals,h.cl.act (Q:=fun f=>f.2.2=false) (by simp) rfl c hc,h.own.act h.cl h.deals c⟩
theorem Good.start (w : Nat) : Good (hall0 w) :=
  ⟨deals_start w,⟨fun _ _ _ _=>trivial,fun _ _ _ _=>trivial,fun _ _ c hc=>(by cases hc),fun _ _ c hc=>(by cases hc),fun _ _ c hc=>(by cases hc),fun i hi v hv=>(by have:=PI.le (by simp) hi;simp [hall0] at this;omega)⟩,
    ⟨fun _ _ c hc=>(by cases hc),fun i _ t h=>(by cases h),fun _ _=>List.nodup_nil,fun _ _ c hc=>(by cases hc),fun _ _=>List.nodup_nil,fun _ _ c hc=>(by cases hc)⟩⟩
theorem Good.runs : ∀ (l : List ActM) {H : Hall},Good H -> (∀ c ∈ l,cleaning c=false) -> Good (H.runs l)
  | [],H,h,_=>h
  | c :: l,H,h,hl=>Good.runs l (h.act c (hl c (by simp))) (fun d hd=>hl d (by simp [hd]))
theorem Good.was_le {H : Hall} (h : Good H) {t : Nat} (ht : t < 4) : ∀ c ∈ (H.deals t).changes,1 <= c.1 /\ c.1 <= H.things.length:=fun c hc=>PI.le (by simp) (h.cl.was t ht c hc).1
theorem Good.own_le {H : Hall} (h : Good H) {t : Nat} (ht : t < 4) : ∀ c ∈ (H.deals t).owned,1 <= c.1 /\ c.1 <= H.things.length:=fun c hc=>PI.le (by simp) (h.cl.owned t ht c hc)
theorem Good.reg_le {H : Hall} (h : Good H) {t r : Nat} (ht : t < 4) (hr : r < 4) (h0 : (H.regs t r).id ≠ 0) : 1 <= (H.regs t r).id /\ (H.regs t r).id <= H.things.length:=PI.le (by simp) ((h.cl.regs t ht r hr).id h0)
def Hall.more (H : Hall) (ex : List Thing) : Hall:={ H with things:=H.things ++ ex }
theorem undone_more {H : Hall} (h : Good H) (ex : List Thing) {t : Nat} (ht : t < 4) : (H.more ex).undone t=(H.undone t).more ex:=by
  have e : (H.more ex).deals=H.deals:=rfl
  have e2 : freeF (backF (H.things ++ ex) (H.deals t).changes) (H.deals t).owned=freeF (backF H.things (H.deals t).changes) (H.deals t).owned ++ ex:=by
    rw [backF_more _ _ _ (h.was_le ht),freeF_more _ _ _ (fun c hc=>by rw [back_len];exact h.own_le ht c hc)]
  simp only [Hall.undone,Hall.more,e2]
theorem thing_more (H : Hall) (ex : List Thing) {i : Nat} (h1 : 1 <= i) (h2 : i <= H.things.length) : (H.more ex).thing i=H.thing i:=th_more _ _ h1 h2
theorem acc_more {H : Hall} (h : Good H) (ex : List Thing) {t r : Nat} (ht : t < 4) (hr : r < 4) (f : Int) : (H.more ex).acc t r f=H.acc t r f:=by
  unfold Hall.acc
  have e : (H.more ex).deals=H.deals:=rfl
  have e2 : (H.more ex).regs=H.regs:=rfl
  rw [e,e2]
  have hl:=h.reg_le (t:=t) (r:=r) ht hr
  split
  · rfl
  · cases hv : H.regs t r with
    | num n=>rfl
    | ref n =>
      rw [hv] at hl
      by_cases h0 : n=0
      · simp only [if_pos h0]
      · have:=hl h0
        have e5 : (H.more ex).thing n=H.thing n:=thing_more H ex this.1 this.2
        simp only [e5]
def beginA (t : Nat) : ActM:=⟨1,t,0,0,0⟩
def getA (t r : Nat) (n : Int) : ActM:=⟨5,t,3,r,n⟩
theorem act_beginA (H : Hall) {t : Nat} (ht : t < 4) : H.act (beginA t)=H.begin t:=by
  have h1 : (beginA t).okR=true:=by simp [ActM.okR,beginA,in3];omega
  simp [Hall.act,beginA] at *
  simp [h1]
theorem act_getA (H : Hall) {t r : Nat} (ht : t < 4) (hr : r < 4) (n : Int) : H.act (getA t r n)=H.get t 3 r n:=by
  have h1 : (getA t r n).okR=true:=by simp [ActM.okR,getA,in3];omega
  simp [Hall.act,getA] at *
  simp [h1]
def ReadAct (c : ActM) : Prop:=∃ t,t < 4 /\ (c=beginA t \/ c=abortA t \/ ∃ r n,r < 4 /\ c=getA t r n)
theorem ReadAct.clean {c : ActM} (h : ReadAct c) : cleaning c=false:=by
  obtain ⟨t,_,rfl | rfl | ⟨r,n,_,rfl⟩⟩:=h <;> rfl
theorem read_more {H : Hall} (h : Good H) (ex : List Thing) {c : ActM} (hc : ReadAct c) : (H.act c).2=((H.more ex).act c).2 /\ ((H.more ex).act c).1=(H.act c).1.more ex:=by
  have e : (H.more ex).deals=H.deals:=rfl
  have e2 : (H.more ex).regs=H.regs:=rfl
  obtain ⟨t,ht,rfl | rfl | ⟨r,n,hr,rfl⟩⟩:=hc
  · rw [act_beginA _ ht,act_beginA _ ht]
    unfold Hall.begin
    rw [e,e2]
    split
    · exact ⟨rfl,rfl⟩
    · exact ⟨rfl,rfl⟩
  · rw [act_abortA _ ht,act_abortA _ ht]
    unfold Hall.abort
    rw [e]
    split
    · exact ⟨rfl,rfl⟩
    · exact ⟨rfl,undone_more h ex ht⟩
  · rw [act_getA _ ht hr,act_getA _ ht hr]
    unfold Hall.get
    rw [acc_more h ex ht hr,e2]
    split
    · rename_i hk
      obtain ⟨_,k0,_,_,_,_⟩:=acc_ok hk
      have hl:=h.reg_le ht hr k0
      have e3 : (H.more ex).readD t (H.regs t r).id=H.readD t (H.regs t r).id:=by unfold Hall.readD;rw [e,thing_more _ _ hl.1 hl.2]
      rw [thing_more _ _ hl.1 hl.2,e3]
      exact ⟨rfl,rfl⟩
    · refine ⟨rfl,?_⟩
      show (if H.acc t r n=6 then (H.more ex).undone t else H.more ex)=_
      dsimp only
      split
      · exact undone_more h ex ht
      · rfl
theorem reads_more : ∀ (l : List ActM) {H : Hall} (ex : List Thing),Good H -> (∀ c ∈ l,ReadAct c) -> H.answers l=(H.more ex).answers l
  | [],H,ex,_,_=>rfl
  | c :: l,H,ex,h,hl=>by
    have hc:=hl c (by simp)
    obtain ⟨a,b⟩:=read_more h ex hc
    rw [Hall.answers,Hall.answers,a,b,reads_more l ex (h.act c hc.clean) (fun d hd=>hl d (by simp [hd]))]
def und (G : Hall) : List Thing:=freeF (backF G.things (G.deals 0).changes) (G.deals 0).owned
structure InTx (H G : Hall) : Prop where
  good : Good G
  things : ∃ ex,und G=H.things ++ ex /\ ∀ x ∈ ex,x.owner=none
  op : (G.deals 0).isOpen=true
  saved : (G.deals 0).saved=H.regs 0
  deals : ∀ u,u ≠ 0 -> G.deals u=H.deals u
  regs : ∀ u,u ≠ 0 -> G.regs u=H.regs u
  words : G.words=H.words
  going : G.going=H.going
  left : G.left=H.left
theorem InTx.ends {H G : Hall} (h : InTx H G) (hs : Shut H) : ∃ ex,(G.act (abortA 0)).1=H.more ex:=by
  obtain ⟨ex,e,_⟩:=h.things
  refine ⟨ex,?_⟩
  rw [act_abortA _ (by omega)]
  unfold Hall.abort
  rw [if_neg (by rw [h.op];simp)]
  show G.undone 0=_
  have e1 : put1 G.regs 0 (G.deals 0).saved=H.regs:=by
    funext u
    by_cases hu : u=0
    · rw [hu,put1_same,h.saved]
    · rw [put1_other _ _ _ hu,h.regs u hu]
  have e2 : put1 G.deals 0 noDeal=H.deals:=by
    funext u
    by_cases hu : u=0
    · rw [hu,put1_same,hs 0 (by omega)]
    · rw [put1_other _ _ _ hu,h.deals u hu]
  cases H with
  | mk words things regs deals going left =>
    cases G with
    | mk w2 t2 r2 d2 g2 l2 =>
      simp only [und] at e
      have a1:=h.words;have a2:=h.going;have a3:=h.left
      dsimp only at e e1 e2 a1 a2 a3
      simp only [Hall.undone,Hall.more,e,e1,e2,a1,a2,a3]
def MidAct (c : ActM) : Prop:=c.t=0 /\ c.kind ≠ 1 /\ c.kind ≠ 2 /\ c.kind ≠ 3 /\ cleaning c=false /\ (c.kind=8 -> c.n=0)
theorem InTx.begins {H : Hall} (h : Good H) (hs : Shut H) : InTx H (H.act (beginA 0)).1:=by
  have hg:=h.act (beginA 0) rfl
  rw [act_beginA _ (by omega)] at hg ⊢
  unfold Hall.begin at hg ⊢
  rw [hs 0 (by omega)] at hg ⊢
  rw [if_neg (by simp [noDeal])] at hg ⊢
  refine ⟨hg,⟨[],by simp [und,put1,backF,freeF],by simp⟩,by simp [put1],by simp [put1],fun u hu=>by simp [put1,hu],fun u hu=>rfl,rfl,rfl,rfl⟩
theorem InTx.owner {H G : Hall} (h : InTx H G) (hs : Shut H) {i : Nat} (hi : 1 <= i) : (th G.things i).owner=none \/ (th G.things i).owner=some 0:=by
  cases e : (th G.things i).owner with
  | none=>exact .inl rfl
  | some u =>
    by_cases hu : u=0
    · rw [hu];exact .inr rfl
    · obtain ⟨h4,c,hc,_⟩:=h.good.own.own i hi u e
      rw [h.deals u hu,hs u h4] at hc
      cases hc
theorem acc_six {H : Hall} {t r : Nat} {f : Int} (h : H.acc t r f=6) : (H.regs t r).id ≠ 0 /\ (H.thing (H.regs t r).id).owner ≠ none /\ (H.thing (H.regs t r).id).owner ≠ some t:=by
  unfold Hall.acc at h
  split at h
  · cases h
  cases hv : H.regs t r with
  | num n=>rw [hv] at h;cases h
  | ref n =>
    rw [hv] at h
    simp only at h
    split at h
    · cases h
    rename_i h0
    split at h
    · cases h
    split at h
    · cases h
    · rename_i how
      exact ⟨h0,fun e=>how (.inl e),fun e=>how (.inr e)⟩
theorem InTx.no_six {H G : Hall} (h : InTx H G) (hs : Shut H) (r : Nat) (f : Int) : G.acc 0 r f ≠ 6:=fun e=>by
  obtain ⟨a,b,c⟩:=acc_six e
  rcases h.owner hs (i:=(G.regs 0 r).id) (by omega) with k | k
  · exact b k
  · exact c k
theorem und_free {H G : Hall} {ex : List Thing} (hH : ∀ x ∈ H.things,x.owner=none) (e : und G=H.things ++ ex) (hex : ∀ x ∈ ex,x.owner=none) (n : Nat) : turnT (und G) n freeT=und G:=by
  refine modify_same _ _ _ fun x hx=>?_
  have : x.owner=none:=by
    have:=List.mem_of_getElem? hx
    rw [e] at this
    rcases List.mem_append.1 this with m | m
    · exact hH x m
    · exact hex x m
  cases x
  dsimp only at this
  subst this
  rfl
theorem und_own {H G : Hall} {ex : List Thing} (hH : ∀ x ∈ H.things,x.owner=none) (e : und G=H.things ++ ex) (hex : ∀ x ∈ ex,x.owner=none) (n : Nat) : und (G.own 0 n)=und G:=by
  unfold Hall.own
  split
  · rfl
  · show freeF (backF (turnT G.things n (ownT 0)) (put1 G.deals 0 ((G.deals 0).addO (n,(G.thing n).version)) 0).changes) (put1 G.deals 0 ((G.deals 0).addO (n,(G.thing n).version)) 0).owned=_
    rw [put1_same]
    show freeF (backF (turnT G.things n (ownT 0)) (G.deals 0).changes) ((G.deals 0).owned ++ [(n,(G.thing n).version)])=_
    rw [freeF_snoc,backF_turn n (ownT 0) (fun _ _ _=>rfl),<- freeF_turn]
    have e3 : turnT (turnT (backF G.things (G.deals 0).changes) n (ownT 0)) n freeT=turnT (backF G.things (G.deals 0).changes) n freeT:=by
      unfold turnT
      rw [modify_twice]
      rfl
    rw [e3,freeF_turn]
    exact und_free hH e hex n
theorem und_write (G : Hall) (n k : Nat) (v : V) : und (G.write 0 n k v)=und G:=by
  show freeF (backF (setF G.things n k v) (put1 G.deals 0 ((G.deals 0).addC (n,k,(G.thing n).fields.getD k (.num 0))) 0).changes) (put1 G.deals 0 ((G.deals 0).addC (n,k,(G.thing n).fields.getD k (.num 0))) 0).owned=_
  rw [put1_same]
  show freeF (backF (setF G.things n k v) ((G.deals 0).changes ++ [(n,k,(G.thing n).fields.getD k (.num 0))])) (G.deals 0).owned=_
  rw [backF_snoc]
  show freeF (backF (setF (setF G.things n k v) n k ((th G.things n).fields.getD k (.num 0))) (G.deals 0).changes) (G.deals 0).owned=_
  rw [setF_back]
  rfl
theorem put2_other {α : Type} (f : Nat -> Nat -> α) (t r : Nat) (v : α) {u : Nat} (h : u ≠ t) : put2 f t r v u=f u:=by
  funext i
  simp [put2,h]
theorem InTx.reg {H G : Hall} (h : InTx H G) {rs : Nat -> Nat -> V} (hr : ∀ u,u ≠ 0 -> rs u=G.regs u) (hg : Good { G with regs:=rs }) : InTx H { G with regs:=rs } :=
  ⟨hg,h.things,h.op,h.saved,h.deals,fun u hu=>(hr u hu).trans (h.regs u hu),h.words,h.going,h.left⟩
theorem InTx.act {H G : Hall} (h : InTx H G) (hs : Shut H) (hH : ∀ x ∈ H.things,x.owner=none) {c : ActM} (hc : MidAct c) : InTx H (G.act c).1:=by
  obtain ⟨c0,c1,c2,c3,c4,c8⟩:=hc
  have hg:=h.good.act c c4
  revert hg
  simp only [cleaning,Bool.or_eq_false_iff,beq_eq_false_iff_ne] at c4
  refine act_ind (P:=fun p=>Good p.1 -> InTx H p.1) G c ?_ ?_ ?_ ?_ ?_ ?_ ?_ ?_ ?_ ?_ ?_ ?_ ?_
  · intro e _ _;exact h
  · intro k;exact absurd k c1
  · intro k;exact absurd k c2
  · intro k;exact absurd k c3
  · intro _ t a _ _ et _ hg
    have e0 : t=0:=by omega
    subst e0
    revert hg
    unfold Hall.new
    refine iteP (P:=fun p : Hall × AnsM=>Good p.1 -> InTx H p.1) (fun _ _=>h) fun _=>?_
    refine iteP (P:=fun p : Hall × AnsM=>Good p.1 -> InTx H p.1) (fun _ _=>h) fun _=>?_
    refine iteP (P:=fun p : Hall × AnsM=>Good p.1 -> InTx H p.1) (fun _ _=>h) fun _ hg=>?_
    obtain ⟨ex,e,hex⟩:=h.things
    refine ⟨hg,⟨ex ++ [⟨List.replicate c.n.toNat (.num 0),0,none,false,true,false⟩],?_,?_⟩,h.op,h.saved,h.deals,fun u hu=>?_,h.words,h.going,h.left⟩
    · show freeF (backF (G.things ++ _) (G.deals 0).changes) (G.deals 0).owned=_
      rw [backF_more _ _ _ (h.good.was_le (by omega)),freeF_more _ _ _ (fun c hc=>by rw [back_len];exact h.good.own_le (by omega) c hc)]
      unfold und at e
      rw [e,List.append_assoc]
    · intro x hx
      rcases List.mem_append.1 hx with hx | hx
      · exact hex x hx
      · rw [List.mem_singleton.1 hx]
    · exact (put2_other _ _ _ _ hu).trans (h.regs u hu)
  · intro _ t a b _ _ _ et _ _ hg
    have e0 : t=0:=by omega
    subst e0
    revert hg
    unfold Hall.get
    refine iteP (P:=fun p : Hall × AnsM=>Good p.1 -> InTx H p.1) (fun hk hg=>?_) fun _=>?_
    · refine ⟨hg,?_,?_,?_,fun u hu=>?_,fun u hu=>?_,h.words,h.going,h.left⟩
      · obtain ⟨ex,e,hex⟩:=h.things
        refine ⟨ex,?_,hex⟩
        rw [<- e]
        show freeF (backF G.things (G.readD 0 (G.regs 0 b).id 0).changes) (G.readD 0 (G.regs 0 b).id 0).owned=_
        rcases readD_cases G 0 (G.regs 0 b).id with e | ⟨_,_,e⟩ <;> rw [e]
        · rfl
        · rw [put1_same];rfl
      · show (G.readD 0 (G.regs 0 b).id 0).isOpen=true
        rcases readD_cases G 0 (G.regs 0 b).id with e | ⟨_,_,e⟩ <;> rw [e]
        · exact h.op
        · rw [put1_same];exact h.op
      · show (G.readD 0 (G.regs 0 b).id 0).saved=_
        rcases readD_cases G 0 (G.regs 0 b).id with e | ⟨_,_,e⟩ <;> rw [e]
        · exact h.saved
        · rw [put1_same];exact h.saved
      · show G.readD 0 (G.regs 0 b).id u=_
        rcases readD_cases G 0 (G.regs 0 b).id with e | ⟨_,_,e⟩ <;> rw [e]
        · exact h.deals u hu
        · rw [put1_other _ _ _ hu];exact h.deals u hu
      · exact (put2_other _ _ _ _ hu).trans (h.regs u hu)
    · intro _
      show InTx H (if G.acc 0 b c.n=6 then G.undone 0 else G)
      rw [if_neg (h.no_six hs _ _)]
      exact h
  · intro _ t a b _ _ _ et _ _ hg
    have e0 : t=0:=by omega
    subst e0
    revert hg
    unfold Hall.put
    refine iteP (P:=fun p : Hall × AnsM=>Good p.1 -> InTx H p.1) (fun hk hg=>?_) fun _=>?_
    · have ow : (G.own 0 (G.regs 0 a).id).regs=G.regs /\ (G.own 0 (G.regs 0 a).id).words=G.words /\ (G.own 0 (G.regs 0 a).id).going=G.going /\ (G.own 0 (G.regs 0 a).id).left=G.left /\ (∀ u,u ≠ 0 -> (G.own 0 (G.regs 0 a).id).deals u=G.deals u) /\ ((G.own 0 (G.regs 0 a).id).deals 0).isOpen=(G.deals 0).isOpen /\ ((G.own 0 (G.regs 0 a).id).deals 0).saved=(G.deals 0).saved:=by
        unfold Hall.own
        split
        · exact ⟨rfl,rfl,rfl,rfl,fun _ _=>rfl,rfl,rfl⟩
        · refine ⟨rfl,rfl,rfl,rfl,fun u hu=>put1_other _ _ _ hu,?_,?_⟩
          · show (put1 G.deals 0 _ 0).isOpen=_
            rw [put1_same];rfl
          · show (put1 G.deals 0 _ 0).saved=_
            rw [put1_same];rfl
      obtain ⟨o1,o2,o3,o4,o5,o6,o7⟩:=ow
      obtain ⟨ex,e,hex⟩:=h.things
      refine ⟨hg,⟨ex,?_,hex⟩,?_,?_,fun u hu=>?_,fun u hu=>?_,o2.trans h.words,o3.trans h.going,o4.trans h.left⟩
      · dsimp only
        rw [und_write,und_own hH e hex,e]
      · refine (congrArg Deal.isOpen (put1_same (G.own 0 (G.regs 0 a).id).deals 0 _)).trans ?_
        exact o6.trans h.op
      · refine (congrArg Deal.saved (put1_same (G.own 0 (G.regs 0 a).id).deals 0 _)).trans ?_
        exact o7.trans h.saved
      · show put1 _ 0 _ u=_
        rw [put1_other _ _ _ hu,o5 u hu,h.deals u hu]
      · show (G.own 0 (G.regs 0 a).id).regs u=_
        rw [o1,h.regs u hu]
    · intro _
      show InTx H (if G.acc 0 a c.n=6 then G.undone 0 else G)
      rw [if_neg (h.no_six hs _ _)]
      exact h
  · intro _ t a _ _ et _ hg
    have e0 : t=0:=by omega
    subst e0
    revert hg
    unfold Hall.set
    exact iteP (P:=fun p : Hall × AnsM=>Good p.1 -> InTx H p.1) (fun _ hg=>h.reg (fun u hu=>put2_other _ _ _ _ hu) hg) fun _ _=>h
  · intro k8 t a b u _ _ _ _ et _ _ eu hg
    have e0 : t=0:=by omega
    subst e0
    revert hg
    unfold Hall.copy
    exact iteP (P:=fun p : Hall × AnsM=>Good p.1 -> InTx H p.1) (fun _ _=>h) fun _ hg=>h.reg (fun u hu=>put2_other _ _ _ _ hu) hg
  · intro _ t a b _ _ _ _ _ _ _;exact h
  · intro k;omega
  · intro k;omega
  · intro k;omega
theorem InTx.acts : ∀ (l : List ActM) {H G : Hall},InTx H G -> Shut H -> (∀ x ∈ H.things,x.owner=none) -> (∀ c ∈ l,MidAct c) -> InTx H (G.runs l)
  | [],H,G,h,_,_,_=>h
  | c :: l,H,G,h,hs,hH,hl=>InTx.acts l (h.act hs hH (hl c (by simp))) hs hH (fun d hd=>hl d (by simp [hd]))
theorem shut_free {H : Hall} (h : Good H) (hs : Shut H) : ∀ x ∈ H.things,x.owner=none:=fun x hx=>by
  obtain ⟨i,hi,rfl⟩:=List.mem_iff_getElem.1 hx
  have e : th H.things (i+1)=H.things[i]:=by unfold th;rw [List.getD_eq_getElem?_getD,Nat.add_sub_cancel,List.getElem?_eq_getElem hi];rfl
  cases ho : H.things[i].owner with
  | none=>rfl
  | some u =>
    obtain ⟨h4,c,hc,_⟩:=h.own.own (i+1) (by omega) u (by rw [e];exact ho)
    rw [hs u h4] at hc
    cases hc
theorem undone_reads (A M gets : List ActM) (hA : ∀ c ∈ A,cleaning c=false) (hM : ∀ c ∈ M,MidAct c) (hg : ∀ c ∈ gets,ReadAct c) :
    ((hall0 400).runs (A ++ shutAll)).answers gets=(((hall0 400).runs (A ++ shutAll)).runs (beginA 0 :: (M ++ [abortA 0]))).answers gets:=by
  have g1 : Good ((hall0 400).runs A):=Good.runs A (Good.start 400) hA
  have g2 : Good ((hall0 400).runs (A ++ shutAll)):=by
    rw [runs_append]
    exact Good.runs shutAll g1 (by decide)
  have s2 : Shut ((hall0 400).runs (A ++ shutAll)):=by
    rw [runs_append]
    exact shut_all g1.deals
  generalize (hall0 400).runs (A ++ shutAll)=H at g2 s2
  have i1:=InTx.acts M (InTx.begins g2 s2) s2 (shut_free g2 s2) hM
  obtain ⟨ex,e⟩:=i1.ends s2
  rw [runs_one,runs_append,runs_one,e]
  exact reads_more gets ex g2 hg
theorem undone_ends (A M gets : List ActM) (hA : ∀ c ∈ A,cleaning c=false) (hM : ∀ c ∈ M,MidAct c) (hg : ∀ c ∈ gets,ReadAct c) :
    ((hall0 400).answers ((A ++ shutAll) ++ gets)).drop (A ++ shutAll).length=((hall0 400).answers ((A ++ shutAll) ++ (beginA 0 :: (M ++ [abortA 0])) ++ gets)).drop ((A ++ shutAll) ++ (beginA 0 :: (M ++ [abortA 0]))).length:=by
  rw [answers_append,answers_append _ ((A ++ shutAll) ++ (beginA 0 :: (M ++ [abortA 0])))]
  rw [List.drop_append_of_le_length (by rw [answers_len];omega),List.drop_append_of_le_length (by rw [answers_len];omega)]
  rw [List.drop_of_length_le (by rw [answers_len];omega),List.drop_of_length_le (by rw [answers_len];omega),List.nil_append,List.nil_append,runs_append _ (A ++ shutAll) (beginA 0 :: (M ++ [abortA 0]))]
  exact undone_reads A M gets hA hM hg
end Go.Proofs.Ytbeilcaadpopmac
