/- Texts put together: Ss, Se, Sp, Sv. -/
import Derived.Test.YtbeilcaadpopmacYo
set_option linter.unusedVariables false
set_option linter.unusedSimpArgs false
namespace Go.Proofs.Ytbeilcaadpopmac
structure Sig where
  st:Nat->Option (List V)
  rg:Nat->Nat->V
  cur:Option Nat
inductive SAct:Sig->ActM->Nat->AnsM->Sig->Prop
  | begin {S:Sig} {c:ActM} {l t:Nat} (hk:c.kind=1) (ht:t<4) (et:c.t=(t:Int)) (hc:S.cur=none):SAct S c l .nil { S with cur:=some t }
  | commit {S:Sig} {c:ActM} {l t:Nat} (hk:c.kind=2) (ht:t<4) (et:c.t=(t:Int)) (hc:S.cur=some t):SAct S c l .nil { S with cur:=none }
  | new {S:Sig} {c:ActM} {l t a:Nat} (hk:c.kind=4) (ht:t<4) (ha:a<4) (et:c.t=(t:Int)) (ea:c.a=(a:Int)) (hc:S.cur=some t) (hn:0<=c.n/\c.n<=6) (hl:1<=l) (hs:S.st l=none) :
      SAct S c l .nil { S with st:=put1 S.st l (some (List.replicate c.n.toNat (.num 0))),rg:=put2 S.rg t a (.ref l) }
  | get {S:Sig} {c:ActM} {l t a b i:Nat} {fs:List V} (hk:c.kind=5) (ht:t<4) (ha:a<4) (hb:b<4) (et:c.t=(t:Int)) (ea:c.a=(a:Int)) (eb:c.b=(b:Int)) (hc:S.cur=some t)
      (hr:S.rg t b = .ref i) (hi:i≠0) (hs:S.st i=some fs) (hn:0<=c.n/\c.n<fs.length):SAct S c l (told (fs.getD c.n.toNat (.num 0))) { S with rg:=put2 S.rg t a (fs.getD c.n.toNat (.num 0)) }
  | put {S:Sig} {c:ActM} {l t a b i:Nat} {fs:List V} (hk:c.kind=6) (ht:t<4) (ha:a<4) (hb:b<4) (et:c.t=(t:Int)) (ea:c.a=(a:Int)) (eb:c.b=(b:Int)) (hc:S.cur=some t)
      (hr:S.rg t a = .ref i) (hi:i≠0) (hs:S.st i=some fs) (hn:0<=c.n/\c.n<fs.length):SAct S c l .nil { S with st:=put1 S.st i (some (fs.set c.n.toNat (S.rg t b))) }
  | set {S:Sig} {c:ActM} {l t a:Nat} (hk:c.kind=7) (ht:t<4) (ha:a<4) (et:c.t=(t:Int)) (ea:c.a=(a:Int)) (hn : -1099511627776<=c.n/\c.n<=1099511627776) :
      SAct S c l (told (.num c.n)) { S with rg:=put2 S.rg t a (.num c.n) }
  | copy {S:Sig} {c:ActM} {l t a b u:Nat} (hk:c.kind=8) (ht:t<4) (ha:a<4) (hb:b<4) (hu:u<4) (et:c.t=(t:Int)) (ea:c.a=(a:Int)) (eb:c.b=(b:Int)) (eu:c.n=(u:Int)) (hc:u≠t->S.cur=none) :
      SAct S c l .nil { S with rg:=put2 S.rg t a (S.rg u b) }
  | same {S:Sig} {c:ActM} {l t a b:Nat} (hk:c.kind=9) (ht:t<4) (ha:a<4) (hb:b<4) (et:c.t=(t:Int)) (ea:c.a=(a:Int)) (eb:c.b=(b:Int)) :
      SAct S c l ⟨0,false,0,decide (S.rg t a=S.rg t b),0,false,0⟩ S
inductive SRun:Sig->List (ActM × Nat)->List AnsM->Sig->Prop
  | nil (S:Sig):SRun S [] [] S
  | cons {S S1 S2:Sig} {c:ActM × Nat} {l:List (ActM × Nat)} {a:AnsM} {w:List AnsM} (h:SAct S c.1 c.2 a S1) (r:SRun S1 l w S2):SRun S (c :: l) (a :: w) S2
theorem SRun.append {S S1 S2:Sig} {a b:List (ActM × Nat)} {v w:List AnsM} (h:SRun S a v S1) (k:SRun S1 b w S2):SRun S (a++b) (v++w) S2:=by
  induction h with
  | nil=>exact k
  | cons h _ ih=>exact .cons h (ih k)
theorem SRun.snoc {S S1 S2:Sig} {a:List (ActM × Nat)} {c:ActM × Nat} {v:List AnsM} {w:AnsM} (h:SRun S a v S1) (k:SAct S1 c.1 c.2 w S2):SRun S (a++[c]) (v++[w]) S2:=h.append (.cons k (.nil _))
def ren (f:Nat->Nat):V->V
  | .num n=>.num n
  | .ref i=>.ref (f i)
def RefIn (P:Nat->Prop):V->Prop
  | .num _=>True
  | .ref i=>P i
theorem RefIn.mono {P Q:Nat->Prop} (h:∀i,P i->Q i) {v:V} (hv:RefIn P v):RefIn Q v:=by
  cases v with
  | num _=>trivial
  | ref i=>exact h i hv
theorem ren_congr {f g:Nat->Nat} {P:Nat->Prop} (h:∀i,P i->f i=g i) {v:V} (hv:RefIn P v):ren f v=ren g v:=by
  cases v with
  | num _=>rfl
  | ref i=>exact congrArg V.ref (h i hv)
theorem ren_inj {f:Nat->Nat} {P:Nat->Prop} (h:∀i j,P i->P j->f i=f j->i=j) {v w:V} (hv:RefIn P v) (hw:RefIn P w):ren f v=ren f w ↔ v=w:=by
  refine⟨λe=>?_,λe=>by rw[e]⟩
  cases v with
  | num n=>cases w with
    | num m=>simpa [ren] using e
    | ref j=>simp[ren] at e
  | ref i=>cases w with
    | num m=>simp[ren] at e
    | ref j =>
      simp only [ren,V.ref.injEq] at e
      rw[h i j hv hw e]
theorem told_ren (f:Nat->Nat) (v:V):told (ren f v)=told v:=by cases v <;> rfl
def Sig.dom (S:Sig) (i:Nat):Prop:=S.st i≠none
structure Ser (f:Nat->Nat) (H:Hall) (S:Sig):Prop where
  good:Good H
  th:∀i fs,S.st i=some fs->1<=i/\1<=f i/\f i<=H.things.length/\(th H.things (f i)).fields=fs.map (ren f)/\∀v ∈ fs,RefIn S.dom v
  inj:∀i j,S.dom i->S.dom j->f i=f j->i=j
  regs:∀t,t<4->∀r,r<4->H.regs t r=ren f (S.rg t r)/\RefIn S.dom (S.rg t r)
  op:∀t,t<4->((H.deals t).isOpen=true ↔ S.cur=some t)
  rds:∀t,t<4->∀c ∈ (H.deals t).reads,(Go.Proofs.Ytbeilcaadpopmac.th H.things c.1).version=c.2
theorem Ser.owner {f:Nat->Nat} {H:Hall} {S:Sig} (h:Ser f H S) {i t:Nat} (hi:1<=i) (hc:S.cur=some t):(Go.Proofs.Ytbeilcaadpopmac.th H.things i).owner=none\/(Go.Proofs.Ytbeilcaadpopmac.th H.things i).owner=some t:=by
  cases e:(Go.Proofs.Ytbeilcaadpopmac.th H.things i).owner with
  | none=>exact .inl rfl
  | some u =>
    obtain⟨h4,c,hcm,_⟩:=h.good.own.own i hi u e
    have ho:(H.deals u).isOpen=true:=by
      cases e2:(H.deals u).isOpen with
      | true=>rfl
      | false=>rw[h.good.deals u e2] at hcm;cases hcm
    have:=(h.op u h4).1 ho
    rw[hc] at this
    exact .inr this.symm
theorem Ser.shutd {f:Nat->Nat} {H:Hall} {S:Sig} (h:Ser f H S) (hc:S.cur=none) {t:Nat} (ht:t<4):(H.deals t).isOpen=false:=by
  cases e:(H.deals t).isOpen with
  | false=>rfl
  | true=>have:=(h.op t ht).1 e;rw[hc] at this;cases this
theorem Ser.acc {f:Nat->Nat} {H:Hall} {S:Sig} (h:Ser f H S) {t r i:Nat} {fs:List V} {n:Int} (ht:t<4) (hr4:r<4) (hc:S.cur=some t) (hr:S.rg t r = .ref i) (hi:i≠0) (hs:S.st i=some fs) (hn:0<=n/\n<fs.length) :
    H.acc t r n=0/\H.regs t r = .ref (f i)/\(H.thing (f i)).fields=fs.map (ren f)/\1<=f i:=by
  obtain⟨h1,h2,h3,h4,_⟩:=h.th i fs hs
  have hrr:=(h.regs t ht r hr4).1
  rw[hr] at hrr
  have ho:=(h.op t ht).2 hc
  refine⟨?_,hrr,h4,h2⟩
  unfold Hall.acc
  rw[if_neg (by rw[ho];simp),hrr]
  simp only [ren]
  rw[if_neg (by omega)]
  have e4:(H.thing (f i)).fields=fs.map (ren f):=h4
  rw[if_neg (by rw[e4,List.length_map];omega)]
  exact if_pos (h.owner (t:=t) h2 hc)
theorem getD_ren (f:Nat->Nat) (fs:List V) (n:Nat):(fs.map (ren f)).getD n (.num 0)=ren f (fs.getD n (.num 0)):=by
  simp only [List.getD_eq_getElem?_getD,List.getElem?_map]
  cases fs[n]? <;> rfl
theorem getD_in {P:Nat->Prop} {fs:List V} (h:∀v ∈ fs,RefIn P v) (n:Nat):RefIn P (fs.getD n (.num 0)):=by
  rw[List.getD_eq_getElem?_getD]
  cases e:fs[n]? with
  | none=>trivial
  | some v=>exact h v (List.mem_of_getElem? e)
theorem okR_of {c:ActM} (ht:c.kind<=9->in3 c.t=true) (ha:4<=c.kind->c.kind<=9->in3 c.a=true) (hb:5<=c.kind->c.kind<=9->c.kind≠7->in3 c.b=true) (hn:c.kind=8->in3 c.n=true):c.okR=true:=by
  unfold ActM.okR
  simp only [Bool.and_eq_true,Bool.or_eq_true,decide_eq_true_eq]
  refine⟨⟨⟨?_,?_⟩,?_⟩,?_⟩
  · by_cases h:10<=c.kind
    · exact .inl h
    · exact .inr (ht (by omega))
  · by_cases h:c.kind<=3\/10<=c.kind
    · exact .inl h
    · exact .inr (ha (by omega) (by omega))
  · by_cases h:c.kind<=4\/c.kind=7\/10<=c.kind
    · exact .inl h
    · exact .inr (hb (by omega) (by omega) (by omega))
  · by_cases h:c.kind=8
    · exact .inr (hn h)
    · exact .inl h
theorem in3_nat {x:Int} {t:Nat} (h:x=(t:Int)) (ht:t<4):in3 x=true:=by
  unfold in3
  rw[decide_eq_true_eq];omega
theorem toNat_of {x:Int} {t:Nat} (h:x=(t:Int)):x.toNat=t:=by omega
theorem hact_begin {H:Hall} {c:ActM} {t:Nat} (hk:c.kind=1) (ht:t<4) (et:c.t=(t:Int)):H.act c=H.begin t:=by
  have hR:c.okR=true:=okR_of (λ_=>in3_nat et ht) (λ_ _=>by omega) (λ_ _ _=>by omega) (λ_=>by omega)
  unfold Hall.act
  rw[if_neg (by omega),if_neg (by rw[hR];simp),if_pos hk,toNat_of et]
theorem hact_commit {H:Hall} {c:ActM} {t:Nat} (hk:c.kind=2) (ht:t<4) (et:c.t=(t:Int)):H.act c=H.commit t:=by
  have hR:c.okR=true:=okR_of (λ_=>in3_nat et ht) (λ_ _=>by omega) (λ_ _ _=>by omega) (λ_=>by omega)
  unfold Hall.act
  rw[if_neg (by omega),if_neg (by rw[hR];simp),if_neg (by omega),if_pos hk,toNat_of et]
theorem hact_new {H:Hall} {c:ActM} {t a:Nat} (hk:c.kind=4) (ht:t<4) (ha:a<4) (et:c.t=(t:Int)) (ea:c.a=(a:Int)):H.act c=H.new t a c.n:=by
  have hR:c.okR=true:=okR_of (λ_=>in3_nat et ht) (λ_ _=>in3_nat ea ha) (λ_ _ _=>by omega) (λ_=>by omega)
  unfold Hall.act
  rw[if_neg (by omega),if_neg (by rw[hR];simp),if_neg (by omega),if_neg (by omega),if_neg (by omega),if_pos hk,toNat_of et,toNat_of ea]
theorem hact_get {H:Hall} {c:ActM} {t a b:Nat} (hk:c.kind=5) (ht:t<4) (ha:a<4) (hb:b<4) (et:c.t=(t:Int)) (ea:c.a=(a:Int)) (eb:c.b=(b:Int)):H.act c=H.get t a b c.n:=by
  have hR:c.okR=true:=okR_of (λ_=>in3_nat et ht) (λ_ _=>in3_nat ea ha) (λ_ _ _=>in3_nat eb hb) (λ_=>by omega)
  unfold Hall.act
  rw[if_neg (by omega),if_neg (by rw[hR];simp),if_neg (by omega),if_neg (by omega),if_neg (by omega),if_neg (by omega),if_pos hk,toNat_of et,toNat_of ea,toNat_of eb]
theorem hact_put {H:Hall} {c:ActM} {t a b:Nat} (hk:c.kind=6) (ht:t<4) (ha:a<4) (hb:b<4) (et:c.t=(t:Int)) (ea:c.a=(a:Int)) (eb:c.b=(b:Int)):H.act c=H.put t a b c.n:=by
  have hR:c.okR=true:=okR_of (λ_=>in3_nat et ht) (λ_ _=>in3_nat ea ha) (λ_ _ _=>in3_nat eb hb) (λ_=>by omega)
  unfold Hall.act
  rw[if_neg (by omega),if_neg (by rw[hR];simp),if_neg (by omega),if_neg (by omega),if_neg (by omega),if_neg (by omega),if_neg (by omega),if_pos hk,toNat_of et,toNat_of ea,toNat_of eb]
theorem hact_set {H:Hall} {c:ActM} {t a:Nat} (hk:c.kind=7) (ht:t<4) (ha:a<4) (et:c.t=(t:Int)) (ea:c.a=(a:Int)):H.act c=H.set t a c.n:=by
  have hR:c.okR=true:=okR_of (λ_=>in3_nat et ht) (λ_ _=>in3_nat ea ha) (λ_ _ h=>absurd hk h) (λ_=>by omega)
  unfold Hall.act
  rw[if_neg (by omega),if_neg (by rw[hR];simp),if_neg (by omega),if_neg (by omega),if_neg (by omega),if_neg (by omega),if_neg (by omega),if_neg (by omega),if_pos hk,toNat_of et,toNat_of ea]
theorem hact_copy {H:Hall} {c:ActM} {t a b u:Nat} (hk:c.kind=8) (ht:t<4) (ha:a<4) (hb:b<4) (hu:u<4) (et:c.t=(t:Int)) (ea:c.a=(a:Int)) (eb:c.b=(b:Int)) (eu:c.n=(u:Int)):H.act c=H.copy t a b u:=by
  have hR:c.okR=true:=okR_of (λ_=>in3_nat et ht) (λ_ _=>in3_nat ea ha) (λ_ _ _=>in3_nat eb hb) (λ_=>in3_nat eu hu)
  unfold Hall.act
  rw[if_neg (by omega),if_neg (by rw[hR];simp),if_neg (by omega),if_neg (by omega),if_neg (by omega),if_neg (by omega),if_neg (by omega),if_neg (by omega),if_neg (by omega),if_pos hk,toNat_of et,toNat_of ea,toNat_of eb,toNat_of eu]
theorem hact_same {H:Hall} {c:ActM} {t a b:Nat} (hk:c.kind=9) (ht:t<4) (ha:a<4) (hb:b<4) (et:c.t=(t:Int)) (ea:c.a=(a:Int)) (eb:c.b=(b:Int)):H.act c=H.same t a b:=by
  have hR:c.okR=true:=okR_of (λ_=>in3_nat et ht) (λ_ _=>in3_nat ea ha) (λ_ _ _=>in3_nat eb hb) (λ_=>by omega)
  unfold Hall.act
  rw[if_neg (by omega),if_neg (by rw[hR];simp),if_neg (by omega),if_neg (by omega),if_neg (by omega),if_neg (by omega),if_neg (by omega),if_neg (by omega),if_neg (by omega),if_neg (by omega),if_pos hk,toNat_of et,toNat_of ea,toNat_of eb]
theorem put1_op {d:Nat->Deal} {t:Nat} {x:Deal} {cur cur':Option Nat} (h:∀u,u<4->((d u).isOpen=true ↔ cur=some u)) (ho:x.isOpen=true ↔ cur' = some t) (hu:∀u,u≠t->(cur=some u ↔ cur' = some u)) :
    ∀u,u<4->((put1 d t x u).isOpen=true ↔ cur' = some u):=λu h4=>by
  by_cases e:u=t
  · subst e;rw[put1_same];exact ho
  · rw[put1_other _ _ _ e,h u h4];exact hu u e
theorem Ser.reg {f:Nat->Nat} {H:Hall} {S:Sig} (h:Ser f H S) {t a:Nat} {v:V} (hv:RefIn S.dom v) (hg:Good { H with regs:=put2 H.regs t a (ren f v) }):Ser f { H with regs:=put2 H.regs t a (ren f v) } { S with rg:=put2 S.rg t a v } :=
  ⟨hg,h.th,h.inj,λu hu r hr=>by
    show put2 H.regs t a (ren f v) u r=ren f (put2 S.rg t a v u r)/\RefIn S.dom (put2 S.rg t a v u r)
    unfold put2
    split
    · exact⟨rfl,hv⟩
    · exact h.regs u hu r hr,h.op,h.rds⟩
theorem version_turn (l:List Thing) (n i:Nat) (f:Thing->Thing) (h:∀x,(f x).version=x.version):(th (turnT l n f) i).version=(th l i).version:=th_keep (·.version) f h l n i
theorem ser_act {f:Nat->Nat} {H:Hall} {S S':Sig} {c:ActM} {l:Nat} {w:AnsM} (h:Ser f H S) (k:SAct S c l w S') (hr:Room H c):∃g,Ser g (H.act c).1 S'/\(H.act c).2=w:=by
  have hgo:cleaning c=false->Good (H.act c).1:=h.good.act c
  have hcl:c.kind<=9->cleaning c=false:=λhk=>by simp[cleaning];omega
  cases k with
  | @begin t hk ht et hc =>
    have hg:=hgo (hcl (by omega))
    rw[hact_begin hk ht et] at hg ⊢
    unfold Hall.begin at hg ⊢
    rw[if_neg (by rw[h.shutd hc ht];simp)] at hg ⊢
    refine⟨f,⟨hg,h.th,h.inj,h.regs,?_,?_⟩,rfl⟩
    · exact put1_op h.op (by simp) (λu hu=>by rw[hc];simp;omega)
    · exact all_put1 (P:=λ_ (d:Deal)=>∀c ∈ d.reads,(th H.things c.1).version=c.2) h.rds (λc hc=>by cases hc)
  | @commit t hk ht et hc =>
    have hg:=hgo (hcl (by omega))
    rw[hact_commit hk ht et] at hg ⊢
    unfold Hall.commit at hg ⊢
    have ho:=(h.op t ht).2 hc
    have hf:H.fits t=true:=by
      unfold Hall.fits
      rw[List.all_eq_true]
      intro d hd
      have h1:=(h.good.own.rds t ht d hd).1
      have h2:=h.rds t ht d hd
      have h3:=h.owner (t:=t) h1 hc
      simp only [Bool.and_eq_true,Bool.or_eq_true,beq_iff_eq]
      exact⟨h3,h2⟩
    rw[if_neg (by rw[ho];simp),if_pos hf] at hg ⊢
    refine⟨f,⟨hg,λi fs hs=>?_,h.inj,h.regs,?_,?_⟩,rfl⟩
    · obtain⟨a1,a2,a3,a4,a5⟩:=h.th i fs hs
      refine⟨a1,a2,?_,?_,a5⟩
      · show f i<=(bumpF H.things (H.deals t).owned).length
        rw[bump_len];exact a3
      · show (Go.Proofs.Ytbeilcaadpopmac.th (bumpF H.things (H.deals t).owned) (f i)).fields=_
        rw[fields_bumpF];exact a4
    · exact put1_op h.op (by simp[noDeal]) (λu hu=>by rw[hc];simp;omega)
    · intro u hu
      show ∀d ∈ (put1 H.deals t noDeal u).reads,(Go.Proofs.Ytbeilcaadpopmac.th (bumpF H.things (H.deals t).owned) d.1).version=d.2
      by_cases e:u=t
      · subst e;rw[put1_same];intro d hd;cases hd
      · rw[put1_other _ _ _ e]
        intro d hd
        have:(H.deals u).isOpen=true:=by
          cases e2:(H.deals u).isOpen with
          | true=>rfl
          | false=>rw[h.good.deals u e2] at hd;cases hd
        have:=(h.op u hu).1 this
        rw[hc] at this
        exact absurd (Option.some.inj this).symm e
  | @new t a hk ht ha et ea hc hn hl hs =>
    have hg:=hgo (hcl (by omega))
    rw[hact_new hk ht ha et ea] at hg ⊢
    unfold Hall.new at hg ⊢
    have ho:=(h.op t ht).2 hc
    have hu:=used_le H.things
    have hroom:=hr
    unfold Room takes at hroom
    rw[if_pos ⟨hk,hn.1,hn.2⟩] at hroom
    rw[if_neg (by rw[ho];simp),if_neg (by simpa using hn),if_neg (by unfold Hall.used;omega)] at hg ⊢
    have hd:∀i,S.dom i->put1 f l (H.things.length+1) i=f i:=λi hi=>put1_other _ _ _ (λe=>by rw[e] at hi;exact hi hs)
    have hdm:∀i,S.dom i->Sig.dom { S with st:=put1 S.st l (some (List.replicate c.n.toNat (.num 0))),rg:=put2 S.rg t a (.ref l) } i:=λi hi=>by
      show put1 S.st l (some (List.replicate c.n.toNat (.num 0))) i≠none
      by_cases e:i=l
      · subst e;rw[put1_same];simp
      · rw[put1_other _ _ _ e];exact hi
    have hdl:Sig.dom { S with st:=put1 S.st l (some (List.replicate c.n.toNat (.num 0))),rg:=put2 S.rg t a (.ref l) } l:=by
      show put1 S.st l (some (List.replicate c.n.toNat (.num 0))) l≠none
      rw[put1_same];simp
    refine⟨put1 f l (H.things.length+1),⟨hg,λi fs hi=>?_,λi j hi hj e=>?_,λu hu r hr=>?_,h.op,λu hu d hd2=>?_⟩,rfl⟩
    · have hi':put1 S.st l (some (List.replicate c.n.toNat (.num 0))) i=some fs:=hi
      by_cases e:i=l
      · subst e
        rw[put1_same] at hi'
        rw[put1_same]
        cases hi'
        refine⟨hl,by omega,by simp,?_,λv hv=>?_⟩
        · dsimp only
          rw[th_append_new]
          simp[ren]
        · rw[List.eq_of_mem_replicate hv];trivial
      · rw[put1_other _ _ _ e] at hi'
        rw[put1_other _ _ _ e]
        obtain⟨a1,a2,a3,a4,a5⟩:=h.th i fs hi'
        refine⟨a1,a2,by simp;omega,?_,λv hv=>(a5 v hv).mono hdm⟩
        dsimp only
        rw[th_append_old _ _ _ a3 a2,a4]
        refine List.map_congr_left λv hv=>(ren_congr (P:=S.dom) (λj hj=>(hd j hj).symm) (a5 v hv))
    · have key:∀i,Sig.dom { S with st:=put1 S.st l (some (List.replicate c.n.toNat (.num 0))),rg:=put2 S.rg t a (.ref l) } i->i≠l->S.dom i:=λi hi e=>by
        have hi':put1 S.st l (some (List.replicate c.n.toNat (.num 0))) i≠none:=hi
        rw[put1_other _ _ _ e] at hi';exact hi'
      have low:∀i,S.dom i->f i<=H.things.length:=λi hi=>by
        obtain⟨fs,e⟩:=Option.ne_none_iff_exists'.1 hi
        exact (h.th i fs e).2.2.1
      by_cases e1:i=l
      · by_cases e2:j=l
        · rw[e1,e2]
        · rw[e1,put1_same,put1_other _ _ _ e2] at e
          have:=low j (key j hj e2);omega
      · by_cases e2:j=l
        · rw[e2,put1_same,put1_other _ _ _ e1] at e
          have:=low i (key i hi e1);omega
        · rw[put1_other _ _ _ e1,put1_other _ _ _ e2] at e
          exact h.inj i j (key i hi e1) (key j hj e2) e
    · show put2 H.regs t a (.ref (H.things.length+1)) u r=ren (put1 f l (H.things.length+1)) (put2 S.rg t a (.ref l) u r)/\RefIn _ (put2 S.rg t a (.ref l) u r)
      unfold put2
      split
      · refine⟨?_,hdl⟩
        show _=V.ref (put1 f l (H.things.length+1) l)
        rw[put1_same]
      · obtain⟨b1,b2⟩:=h.regs u hu r hr
        exact⟨b1.trans (ren_congr (P:=S.dom) (λj hj=>(hd j hj).symm) b2),b2.mono hdm⟩
    · have h1:=h.good.own.rds u hu d hd2
      dsimp only
      rw[th_append_old _ _ _ h1.2.1 h1.1]
      exact h.rds u hu d hd2
  | @get t a b i fs hk ht ha hb et ea eb hc hrg hi hs hn =>
    have hg:=hgo (hcl (by omega))
    rw[hact_get hk ht ha hb et ea eb] at hg ⊢
    obtain⟨x1,x2,x3,x4⟩:=h.acc ht hb hc hrg hi hs hn
    unfold Hall.get at hg ⊢
    rw[if_pos x1,x2] at hg ⊢
    simp only [V.id,x3,getD_ren] at hg ⊢
    obtain⟨_,_,_,_,a5⟩:=h.th i fs hs
    refine⟨f,⟨hg,h.th,h.inj,λu hu r hr=>?_,λu hu=>?_,λu hu=>?_⟩,told_ren _ _⟩
    · show put2 H.regs t a (ren f (fs.getD c.n.toNat (.num 0))) u r=ren f (put2 S.rg t a (fs.getD c.n.toNat (.num 0)) u r)/\RefIn S.dom (put2 S.rg t a (fs.getD c.n.toNat (.num 0)) u r)
      unfold put2
      split
      · exact⟨rfl,getD_in a5 _⟩
      · exact h.regs u hu r hr
    · show (H.readD t (f i) u).isOpen=true ↔ S.cur=some u
      rcases readD_cases H t (f i) with e|⟨_,_,e⟩ <;> rw[e]
      · exact h.op u hu
      · exact put1_op (x:=(H.deals t).addR (f i,(H.thing (f i)).version)) h.op (show (H.deals t).isOpen=true ↔ _ from h.op t ht) (λ_ _=>Iff.rfl) u hu
    · show ∀d ∈ (H.readD t (f i) u).reads,(Go.Proofs.Ytbeilcaadpopmac.th H.things d.1).version=d.2
      rcases readD_cases H t (f i) with e|⟨_,_,e⟩ <;> rw[e]
      · exact h.rds u hu
      · refine all_put1 (P:=λ_ (d:Deal)=>∀c ∈ d.reads,(Go.Proofs.Ytbeilcaadpopmac.th H.things c.1).version=c.2) h.rds (λd hd=>?_) u hu
        rcases List.mem_append.1 hd with hd|hd
        · exact h.rds t ht d hd
        · rw[List.mem_singleton.1 hd];rfl
  | @put t a b i fs hk ht ha hb et ea eb hc hrg hi hs hn =>
    have hg:=hgo (hcl (by omega))
    rw[hact_put hk ht ha hb et ea eb] at hg ⊢
    obtain⟨x1,x2,x3,x4⟩:=h.acc ht ha hc hrg hi hs hn
    obtain⟨a1,a2,a3,a4,a5⟩:=h.th i fs hs
    unfold Hall.put at hg ⊢
    rw[if_pos x1,x2,(h.regs t ht b hb).1] at hg ⊢
    simp only [V.id] at hg ⊢
    have hown:(H.own t (f i)).regs=H.regs/\(H.own t (f i)).things.length=H.things.length/\(∀j,(Go.Proofs.Ytbeilcaadpopmac.th (H.own t (f i)).things j).fields=(Go.Proofs.Ytbeilcaadpopmac.th H.things j).fields/\(Go.Proofs.Ytbeilcaadpopmac.th (H.own t (f i)).things j).version=(Go.Proofs.Ytbeilcaadpopmac.th H.things j).version) /\
        (∀u,u<4->((H.own t (f i)).deals u).isOpen=(H.deals u).isOpen/\((H.own t (f i)).deals u).reads=(H.deals u).reads):=by
      unfold Hall.own
      split
      · exact⟨rfl,rfl,λ_=>⟨rfl,rfl⟩,λ_ _=>⟨rfl,rfl⟩⟩
      · refine⟨rfl,turn_len _ _ _,λj=>⟨th_keep (·.fields) (ownT t) (λ_=>rfl) _ _ _,th_keep (·.version) (ownT t) (λ_=>rfl) _ _ _⟩,λu hu=>?_⟩
        by_cases e:u=t
        · subst e;dsimp only;rw[put1_same];exact⟨rfl,rfl⟩
        · dsimp only;rw[put1_other _ _ _ e];exact⟨rfl,rfl⟩
    obtain⟨o1,o2,o3,o4⟩:=hown
    generalize H.own t (f i)=O at hg o1 o2 o3 o4
    have hwd:∀u,u<4->((O.write t (f i) c.n.toNat (ren f (S.rg t b))).deals u).isOpen=(H.deals u).isOpen/\((O.write t (f i) c.n.toNat (ren f (S.rg t b))).deals u).reads=(H.deals u).reads:=λu hu=>by
      show (put1 O.deals t _ u).isOpen=_/\(put1 O.deals t _ u).reads=_
      by_cases e:u=t
      · subst e;rw[put1_same];exact o4 u hu
      · rw[put1_other _ _ _ e];exact o4 u hu
    have hdm:∀j,S.dom j ↔ Sig.dom { S with st:=put1 S.st i (some (fs.set c.n.toNat (S.rg t b))) } j:=λj=>by
      show S.st j≠none ↔ put1 S.st i (some (fs.set c.n.toNat (S.rg t b))) j≠none
      by_cases e:j=i
      · subst e;rw[put1_same,hs];simp
      · rw[put1_other _ _ _ e]
    have hfi:S.dom i:=by unfold Sig.dom;rw[hs];simp
    refine⟨f,⟨hg,λj gs hj=>?_,λj k hj hk e=>h.inj j k ((hdm j).2 hj) ((hdm k).2 hk) e,λu hu r hr=>?_,λu hu=>?_,λu hu d hd=>?_⟩,by first|rfl|trivial⟩
    · have hj':put1 S.st i (some (fs.set c.n.toNat (S.rg t b))) j=some gs:=hj
      have ht1:∀j,1<=f j->f j<=H.things.length->(Go.Proofs.Ytbeilcaadpopmac.th (setF O.things (f i) c.n.toNat (ren f (S.rg t b))) (f j)).fields=if f j=f i then ((Go.Proofs.Ytbeilcaadpopmac.th H.things (f j)).fields).set c.n.toNat (ren f (S.rg t b)) else (Go.Proofs.Ytbeilcaadpopmac.th H.things (f j)).fields:=λj h1 h2=>by
        have hm:=th_modify O.things (f i) (f j) (setT c.n.toNat (ren f (S.rg t b))) a2 h1
        unfold setF
        rw[hm]
        by_cases e:f j=f i
        · rw[if_pos ⟨e,by omega⟩,if_pos e]
          simp only [setT,(o3 (f j)).1]
        · rw[if_neg (λq=>e q.1),if_neg e,(o3 (f j)).1]
      by_cases e:j=i
      · subst e
        rw[put1_same] at hj'
        cases hj'
        refine⟨a1,a2,?_,?_,λv hv=>?_⟩
        · show f j<=(setF O.things _ _ _).length
          unfold setF;rw[turn_len,o2];exact a3
        · refine (ht1 j a2 a3).trans ?_
          rw[if_pos rfl,a4,List.map_set]
        · rcases List.mem_or_eq_of_mem_set hv with hv|hv
          · exact (a5 v hv).mono (λq hq=>(hdm q).1 hq)
          · rw[hv];exact (h.regs t ht b hb).2.mono (λq hq=>(hdm q).1 hq)
      · rw[put1_other _ _ _ e] at hj'
        obtain⟨b1,b2,b3,b4,b5⟩:=h.th j gs hj'
        refine⟨b1,b2,?_,?_,λv hv=>(b5 v hv).mono (λq hq=>(hdm q).1 hq)⟩
        · show f j<=(setF O.things _ _ _).length
          unfold setF;rw[turn_len,o2];exact b3
        · refine (ht1 j b2 b3).trans ?_
          rw[if_neg (λq=>e (h.inj j i (by unfold Sig.dom;rw[hj'];simp) hfi q)),b4]
    · show O.regs u r=_/\_
      rw[o1]
      exact⟨(h.regs u hu r hr).1,(h.regs u hu r hr).2.mono (λq hq=>(hdm q).1 hq)⟩
    · rw[(hwd u hu).1];exact h.op u hu
    · rw[(hwd u hu).2] at hd
      show (Go.Proofs.Ytbeilcaadpopmac.th (setF O.things _ _ _) d.1).version=d.2
      unfold setF
      rw[version_turn _ _ _ (setT _ _) (λ_=>rfl),(o3 d.1).2]
      exact h.rds u hu d hd
  | @set t a hk ht ha et ea hn =>
    have hg:=hgo (hcl (by omega))
    rw[hact_set hk ht ha et ea] at hg ⊢
    unfold Hall.set at hg ⊢
    rw[if_pos hn] at hg ⊢
    exact⟨f,h.reg (v:=.num c.n) trivial hg,rfl⟩
  | @copy t a b u hk ht ha hb hu et ea eb eu hc =>
    have hg:=hgo (hcl (by omega))
    rw[hact_copy hk ht ha hb hu et ea eb eu] at hg ⊢
    unfold Hall.copy at hg ⊢
    have hno:¬ (u≠t/\((H.deals t).isOpen=true\/(H.deals u).isOpen=true)):=λ⟨e,o⟩=>by
      have h1:=h.shutd (hc e) ht
      have h2:=h.shutd (hc e) hu
      rcases o with o|o
      · rw[h1] at o;cases o
      · rw[h2] at o;cases o
    rw[if_neg hno,(h.regs u hu b hb).1] at hg ⊢
    exact⟨f,h.reg (h.regs u hu b hb).2 hg,rfl⟩
  | @same t a b hk ht ha hb et ea eb =>
    rw[hact_same hk ht ha hb et ea eb]
    unfold Hall.same
    refine⟨f,h,?_⟩
    obtain⟨p1,p2⟩:=h.regs t ht a ha
    obtain⟨q1,q2⟩:=h.regs t ht b hb
    rw[p1,q1]
    simp only [AnsM.mk.injEq,and_true,true_and,decide_eq_decide]
    exact ren_inj h.inj p2 q2
theorem ser_run {S S':Sig} {l:List (ActM × Nat)} {w:List AnsM} (k:SRun S l w S'):∀ {f:Nat->Nat} {H:Hall},Ser f H S->1+sizeOf H.things+needs (l.map (·.1))<=H.words->H.answers (l.map (·.1))=w:=by
  induction k with
  | nil=>intro f H h hr;rfl
  | @cons S S1 S2 c l a w hx _ ih =>
    intro f H h hr
    rw[List.map_cons,needs_cons] at hr
    obtain⟨g,hs,e⟩:=ser_act h hx (by unfold Room;omega)
    have hz:=act_size H c.1
    rw[List.map_cons,Hall.answers,e,ih hs (by rw[hz.1];omega)]
theorem Ser.start:Ser id (hall0 400) ⟨λ_=>none,λ_ _=>.num 0,none⟩ :=
  ⟨Good.start 400,λi fs h=>(by cases h),λi j h=>absurd rfl h,λ_ _ _ _=>⟨rfl,trivial⟩,λt _=>by simp[hall0,noDeal],λ_ _ c hc=>(by cases hc)⟩
end Go.Proofs.Ytbeilcaadpopmac
namespace Go.Proofs.Ytbeilcaadpopmac
abbrev Ent:=ActM × Nat × AnsM
def prog (e:Ent):ActM × Nat:=(e.1,e.2.1)
def ansE (e:Ent):AnsM:=e.2.2
def RunE (S:Sig) (l:List Ent) (S':Sig):Prop:=SRun S (l.map prog) (l.map ansE) S'
theorem RunE.nil (S:Sig):RunE S [] S:=SRun.nil S
theorem RunE.append {S S1 S2:Sig} {a b:List Ent} (h:RunE S a S1) (k:RunE S1 b S2):RunE S (a++b) S2:=by
  unfold RunE
  rw[List.map_append,List.map_append]
  exact SRun.append h k
theorem RunE.snoc {S S1 S2:Sig} {a:List Ent} {e:Ent} (h:RunE S a S1) (k:SAct S1 e.1 e.2.1 e.2.2 S2):RunE S (a++[e]) S2:=h.append (.cons k (.nil _))
structure PS (α:Type) where
  ser:List α
  parts:Nat->List α
  op:Nat->Nat
def PS.place {α:Type} (s:PS α) (t:Nat):PS α:={ s with ser:=s.ser++s.parts t,parts:=put1 s.parts t [] }
def PS.add {α:Type} (s:PS α) (t:Nat) (x:α):PS α:={ s with parts:=put1 s.parts t (s.parts t++[x]) }
def PS.cut {α:Type} (s:PS α) (t:Nat):PS α:={ s with parts:=put1 s.parts t ((s.parts t).take (s.op t)) }
def PS.begins {α:Type} (s:PS α) (t:Nat) (x:α):PS α:={ s with parts:=put1 s.parts t (s.parts t++[x]),op:=put1 s.op t (s.parts t).length }
def PS.step {α:Type} (s:PS α) (x:α) (c:ActM) (a:AnsM):PS α :=
  if (c.kind=3/\a.code=0)\/a.code=6 then s.cut c.t.toNat else
  if a.code≠0 then s else
  if c.kind=1 then s.begins c.t.toNat x else
  if c.kind=8/\c.n≠c.t then ((s.place c.n.toNat).add c.t.toNat x).place c.t.toNat else
  if c.kind=2 then (s.add c.t.toNat x).place c.t.toNat else
  s.add c.t.toNat x
theorem put1_put1 {α:Type} (f:Nat->α) (t:Nat) (v w:α):put1 (put1 f t v) t w=put1 f t w:=by
  funext u;unfold put1;split <;> rfl
theorem put2_put1 {α:Type} (f:Nat->Nat->α) (t r:Nat) (v:α):put2 f t r v=put1 f t (put1 (f t) r v):=by
  funext u i
  unfold put2 put1
  by_cases h:u=t
  · subst h
    by_cases h2:i=r
    · simp[h2]
    · simp[h2]
  · simp[h]
theorem back_other (l:List Thing) (i:Nat) (hi:1<=i):∀cs:List (Nat × Nat × V),(∀c ∈ cs,1<=c.1/\c.1≠i)->th (backF l cs) i=th l i
  | [],_=>rfl
  | c :: cs,h=>by
    have hc:=h c (by simp)
    rw[backF,setF,th_modify _ _ _ _ hc.1 hi,if_neg (λq=>hc.2 q.1.symm)]
    exact back_other l i hi cs (λd hd=>h d (by simp[hd]))
theorem back_at (l l':List Thing) (i:Nat) (hi:1<=i) (h1:i<=l.length) (h2:i<=l'.length) (hf:(th l i).fields=(th l' i).fields):∀cs:List (Nat × Nat × V),(∀c ∈ cs,1<=c.1)->(th (backF l cs) i).fields=(th (backF l' cs) i).fields
  | [],_=>hf
  | c :: cs,h=>by
    have hc:=h c (by simp)
    have ih:=back_at l l' i hi h1 h2 hf cs (λd hd=>h d (by simp[hd]))
    rw[backF,backF,setF,setF,th_modify _ _ _ _ hc hi,th_modify _ _ _ _ hc hi,back_len,back_len]
    by_cases e:i=c.1
    · rw[if_pos ⟨e,h1⟩,if_pos ⟨e,h2⟩]
      simp only [setT,ih]
    · rw[if_neg (λq=>e q.1),if_neg (λq=>e q.1)]
      exact ih
def Dom (s:Nat->Option (List V)) (i:Nat):Prop:=s i≠none
def Owns (H:Hall) (t i:Nat):Prop:=hasKey (H.deals t).owned i
def Touched (H:Hall) (mk:Nat->Prop) (t i:Nat):Prop:=(hasKey (H.deals t).reads i\/Owns H t i)/\¬ mk i
def Valid (H:Hall) (t:Nat):Prop:=∀c ∈ (H.deals t).reads,(th H.things c.1).version=c.2
def ClosedOk (base:Nat->V) (P:List Ent) (R:Nat->V) (t:Nat):Prop :=
  ∀S:Sig,S.rg t=base->S.cur=none->RunE S P { S with rg:=put1 S.rg t R }
theorem ClosedOk.empty (R:Nat->V) (t:Nat):ClosedOk R [] R t:=λS h _=>by
  rw[put1_self S.rg t h]
  exact RunE.nil S
theorem ClosedOk.snoc {base R R':Nat->V} {P:List Ent} {t:Nat} {e:Ent} (h:ClosedOk base P R t) (k:∀S:Sig,S.rg t=R->S.cur=none->SAct S e.1 e.2.1 e.2.2 { S with rg:=put1 S.rg t R' }):ClosedOk base (P++[e]) R' t:=λS h1 h2=>by
  have:=k { S with rg:=put1 S.rg t R } (put1_same _ _ _) h2
  dsimp only at this
  rw[put1_put1] at this
  exact (h S h1 h2).snoc this
structure BsOk (H:Hall) (s:Nat->Option (List V)) (base:Nat->V) (P:List Ent) (t:Nat) (mk:Nat->Prop) (bs:Nat->List V):Prop where
  own:∀i,Owns H t i->¬ mk i->s i=some (bs i)/\(th (backF H.things (H.deals t).changes) i).fields=bs i
  rds:∀c ∈ (H.deals t).reads,¬ mk c.1->(th H.things c.1).version=c.2->s c.1=some (bs c.1)
  run:Valid H t->∀S:Sig,S.rg t=base->S.cur=none->(∀i,Touched H mk t i->S.st i=some (bs i))->(∀i,mk i->S.st i=none) ->
    ∃st,RunE S P ⟨st,put1 S.rg t (H.regs t),some t⟩/\(∀i,Owns H t i\/mk i->st i=some (th H.things i).fields)/\(∀i,¬ Owns H t i->¬ mk i->st i=S.st i)
structure OpenOk (H:Hall) (s:Nat->Option (List V)) (base:Nat->V) (P:List Ent) (op:Nat) (t:Nat) (mk:Nat->Prop):Prop where
  pre:op<P.length/\ClosedOk base (P.take op) (H.deals t).saved t
  bs:∃bs,BsOk H s base P t mk bs
  made:∀i,mk i->s i=none/\1<=i/\i<=H.things.length/\((th H.things i).owner=none\/(th H.things i).owner=some t)
  regs:∀r,RefIn (λi=>Dom s i\/mk i) (H.regs t r)
  flds:∀i,Owns H t i\/mk i->∀v ∈ (th H.things i).fields,RefIn (λi=>Dom s i\/mk i) v
  saved:∀r,RefIn (Dom s) ((H.deals t).saved r)
def ThrOk (H:Hall) (s:Nat->Option (List V)) (base:Nat->V) (P:List Ent) (op:Nat) (t:Nat) (mk:Nat->Prop):Prop :=
  ((H.deals t).isOpen=false/\ClosedOk base P (H.regs t) t/\(∀r,RefIn (Dom s) (H.regs t r))/\∀i,¬ mk i)\/((H.deals t).isOpen=true/\OpenOk H s base P op t mk)
structure SerOk (H:Hall) (S:Sig) (P:Nat->List Ent) (op:Nat->Nat) (mk:Nat->Nat->Prop):Prop where
  good:Good H
  cur:S.cur=none
  dom:∀i fs,S.st i=some fs->1<=i/\i<=H.things.length/\(∀v ∈ fs,RefIn (Dom S.st) v)/\((th H.things i).owner=none->(th H.things i).fields=fs)
  apart:∀t,t<4->∀u,u<4->∀i,mk t i->mk u i->t=u
  thr:∀t,t<4->ThrOk H S.st (S.rg t) (P t) (op t) t (mk t)
theorem Good.owns {H:Hall} (h:Good H) {t i:Nat} (ht:t<4) (hi:1<=i):Owns H t i ↔ (th H.things i).owner=some t:=by
  constructor
  · rintro ⟨c,hc,rfl⟩;exact (h.own.ver t ht c hc).2.1
  · intro e;exact (h.own.own i hi t e).2
theorem Good.owns_in {H:Hall} (h:Good H) {t i:Nat} (ht:t<4) (k:Owns H t i):1<=i/\i<=H.things.length:=by
  obtain⟨c,hc,rfl⟩:=k
  exact h.own_le ht c hc
theorem Good.changed {H:Hall} (h:Good H) {t:Nat} (ht:t<4):∀c ∈ (H.deals t).changes,Owns H t c.1:=λc hc=>(h.own.chg t ht c hc).1
theorem SerOk.made {H:Hall} {S:Sig} {P:Nat->List Ent} {op:Nat->Nat} {mk:Nat->Nat->Prop} (h:SerOk H S P op mk) {t i:Nat} (ht:t<4) (k:mk t i):S.st i=none/\1<=i/\i<=H.things.length/\((th H.things i).owner=none\/(th H.things i).owner=some t):=by
  rcases h.thr t ht with ⟨_,_,_,e⟩|⟨_,o⟩
  · exact absurd k (e i)
  · exact o.made i k
theorem ThrOk.other {H G:Hall} (hH:Good H) {s s':Nat->Option (List V)} {base:Nat->V} {P:List Ent} {op u:Nat} {mk:Nat->Prop} (h:ThrOk H s base P op u mk) (hu:u<4)
    (hd:G.deals u=H.deals u) (hr:G.regs u=H.regs u) (hl:H.things.length<=G.things.length)
    (hth:∀i,Owns H u i\/mk i->th G.things i=th H.things i)
    (hv:∀i,1<=i->i<=H.things.length->(th H.things i).version<=(th G.things i).version)
    (hdom:∀i,Dom s i->Dom s' i) (hown:∀i,Owns H u i->¬ mk i->s' i=s i) (hmk:∀i,mk i->s' i=none)
    (hrd:∀c ∈ (H.deals u).reads,¬ mk c.1->(th G.things c.1).version=c.2->Dom s c.1->s' c.1=s c.1):ThrOk G s' base P op u mk:=by
  have hver:∀c ∈ (H.deals u).reads,(th G.things c.1).version=c.2->(th H.things c.1).version=c.2:=λc hc e=>by
    obtain⟨a1,a2,a3⟩:=hH.own.rds u hu c hc
    have:=hv c.1 a1 a2
    omega
  have hO:∀i,Owns G u i ↔ Owns H u i:=λi=>by unfold Owns;rw[hd]
  rcases h with ⟨h1,h2,h3,h4⟩|⟨h1,h2⟩
  · exact .inl ⟨by rw[hd];exact h1,by rw[hr];exact h2,λr=>by rw[hr];exact (h3 r).mono hdom,h4⟩
  · refine .inr ⟨by rw[hd];exact h1,?_⟩
    have hdm:∀i,(Dom s i\/mk i)->(Dom s' i\/mk i):=λi k=>k.imp (hdom i) id
    refine⟨by rw[hd];exact h2.pre,?_,λi k=>?_,λr=>by rw[hr];exact (h2.regs r).mono hdm,λi k v hvv=>?_,λr=>by rw[hd];exact (h2.saved r).mono hdom⟩
    · obtain⟨bs,b⟩:=h2.bs
      refine⟨bs,⟨λi k km=>?_,λc hc km e=>?_,λva S e1 e2 e3 e4=>?_⟩⟩
      · rw[hO] at k
        obtain⟨q1,q2⟩:=b.own i k km
        obtain⟨l1,l2⟩:=hH.owns_in hu k
        refine⟨(hown i k km).trans q1,?_⟩
        rw[<- q2,hd]
        exact back_at _ _ i l1 (by omega) l2 (by rw[hth i (.inl k)]) _ (λc hc=>(hH.was_le hu c hc).1)
      · rw[hd] at hc
        have q:=b.rds c hc km (hver c hc e)
        rw[hrd c hc km e (by unfold Dom;rw[q];simp)]
        exact q
      · have va':Valid H u:=λc hc=>hver c hc (va c (by rw[hd];exact hc))
        obtain⟨st,r1,r2,r3⟩:=b.run va' S e1 e2 (λi k=>e3 i (by unfold Touched Owns at *;rw[hd];exact k)) e4
        refine⟨st,by rw[hr];exact r1,λi k=>?_,λi k km=>r3 i (by rwa [hO] at k) km⟩
        rw[hO] at k
        rw[hth i k];exact r2 i k
    · obtain⟨q1,q2,q3,q4⟩:=h2.made i k
      exact⟨hmk i k,q2,by omega,by rw[hth i (.inr k)];exact q4⟩
    · rw[hO] at k
      rw[hth i k] at hvv
      exact (h2.flds i k v hvv).mono hdm
theorem undone_th {H:Hall} (h:Good H) {t i:Nat} (ht:t<4) (hi:1<=i):(Owns H t i->th (H.undone t).things i=freeT (th (backF H.things (H.deals t).changes) i))/\(¬ Owns H t i->th (H.undone t).things i=th H.things i):=by
  obtain⟨a,b⟩:=th_freeF i hi (H.deals t).owned (backF H.things (H.deals t).changes) (λc hc=>(h.own_le ht c hc).1)
  refine⟨a,λk=>?_⟩
  refine (b k).trans (back_other _ _ hi _ λc hc=>⟨(h.was_le ht c hc).1,λe=>?_⟩)
  have:=h.changed ht c hc
  rw[e] at this
  exact k this
theorem undone_version {H:Hall} (h:Good H) {t i:Nat} (ht:t<4) (hi:1<=i):(th (H.undone t).things i).version=(th H.things i).version:=by
  by_cases k:Owns H t i
  · rw[(undone_th h ht hi).1 k]
    exact back_keep (·.version) (λ_ _ _=>rfl) _ _ _
  · rw[(undone_th h ht hi).2 k]
theorem SerOk.undone {H:Hall} {S:Sig} {P:Nat->List Ent} {op:Nat->Nat} {mk:Nat->Nat->Prop} (h:SerOk H S P op mk) {t:Nat} (ht:t<4) (ho:(H.deals t).isOpen=true) (hg:Good (H.undone t)) :
    SerOk (H.undone t) S (put1 P t ((P t).take (op t))) op (put1 mk t λ_=>False):=by
  have hT:OpenOk H S.st (S.rg t) (P t) (op t) t (mk t):=by
    rcases h.thr t ht with ⟨e,_⟩|⟨_,o⟩
    · rw[ho] at e;cases e
    · exact o
  refine⟨hg,h.cur,λi fs hs=>?_,λa ha u hu i ka ku=>?_,λu hu=>?_⟩
  · obtain⟨a1,a2,a3,a4⟩:=h.dom i fs hs
    refine⟨a1,by rw[undone_len];exact a2,a3,λe=>?_⟩
    by_cases k:Owns H t i
    · obtain⟨bs,b⟩:=hT.bs
      have km:¬ mk t i:=λkm=>by have:=(hT.made i km).1;rw[hs] at this;cases this
      obtain⟨q1,q2⟩:=b.own i k km
      rw[(undone_th h.good ht a1).1 k]
      show (th (backF H.things (H.deals t).changes) i).fields=fs
      rw[q2]
      rw[hs] at q1
      exact (Option.some.inj q1).symm
    · rw[(undone_th h.good ht a1).2 k] at e ⊢
      exact a4 e
  · by_cases e1:a=t
    · rw[e1,put1_same] at ka;exact ka.elim
    · by_cases e2:u=t
      · rw[e2,put1_same] at ku;exact ku.elim
      · rw[put1_other _ _ _ e1] at ka
        rw[put1_other _ _ _ e2] at ku
        exact h.apart a ha u hu i ka ku
  · by_cases e:u=t
    · subst e
      rw[put1_same,put1_same]
      have e1:(H.undone u).deals u=noDeal:=put1_same _ _ _
      have e2:(H.undone u).regs u=(H.deals u).saved:=put1_same _ _ _
      exact .inl ⟨by rw[e1];rfl,by rw[e2];exact hT.pre.2,λr=>by rw[e2];exact hT.saved r,λi k=>k⟩
    · rw[put1_other _ _ _ e,put1_other _ _ _ e]
      refine (h.thr u hu).other h.good hu (put1_other _ _ _ e) (put1_other _ _ _ e) (by rw[undone_len];omega) (λi k=>?_) (λi h1 _=>by rw[undone_version h.good ht h1];omega) (λi k=>k) (λ_ _ _=>rfl) (λi k=>(h.made hu k).1) (λ_ _ _ _ _=>rfl)
      have hi:1<=i:=by
        rcases k with k|k
        · exact (h.good.owns_in hu k).1
        · exact (h.made hu k).2.1
      refine (undone_th h.good ht hi).2 λk2=>?_
      rw[h.good.owns ht hi] at k2
      rcases k with k|k
      · rw[h.good.owns hu hi,k2] at k
        exact e (Option.some.inj k).symm
      · rcases (h.made hu k).2.2.2 with q|q
        · rw[k2] at q;cases q
        · rw[k2] at q
          exact e (Option.some.inj q).symm
theorem SerOk.begin {H:Hall} {S:Sig} {P:Nat->List Ent} {op:Nat->Nat} {mk:Nat->Nat->Prop} (h:SerOk H S P op mk) {t:Nat} {c:ActM} {n:Nat} (hk:c.kind=1) (et:c.t=(t:Int)) (ht:t<4) (ho:(H.deals t).isOpen=false) (hg:Good { H with deals:=put1 H.deals t ⟨true,H.regs t,[],[],[]⟩ }) :
    SerOk { H with deals:=put1 H.deals t ⟨true,H.regs t,[],[],[]⟩ } S (put1 P t (P t++[(c,n,AnsM.nil)])) (put1 op t (P t).length) mk:=by
  obtain⟨_,hC,hR,hM⟩:(H.deals t).isOpen=false/\ClosedOk (S.rg t) (P t) (H.regs t) t/\(∀r,RefIn (Dom S.st) (H.regs t r))/\∀i,¬ mk t i:=by
    rcases h.thr t ht with o|⟨e,_⟩
    · exact o
    · rw[ho] at e;cases e
  refine⟨hg,h.cur,h.dom,h.apart,λu hu=>?_⟩
  by_cases e:u=t
  · subst e
    rw[put1_same,put1_same]
    refine .inr ⟨by dsimp only;rw[put1_same],?_⟩
    have hno:∀i,¬ Owns { H with deals:=put1 H.deals u ⟨true,H.regs u,[],[],[]⟩ } u i:=λi=>by
      rintro ⟨c,hc,_⟩
      dsimp only at hc
      rw[put1_same] at hc;cases hc
    refine⟨⟨by simp,?_⟩,⟨λ_=>[],⟨λi k=>absurd k (hno i),λc hc=>?_,λva T e1 e2 _ _=>?_⟩⟩,λi k=>absurd k (hM i),λr=>(hR r).mono (λi k=>.inl k),λi k=>?_,λr=>?_⟩
    · dsimp only
      rw[put1_same,List.take_left]
      exact hC
    · dsimp only at hc
      rw[put1_same] at hc;cases hc
    · refine⟨T.st,(hC T e1 e2).snoc (SAct.begin hk ht et e2),λi k=>?_,λ_ _ _=>rfl⟩
      rcases k with k|k
      · exact absurd k (hno i)
      · exact absurd k (hM i)
    · rcases k with k|k
      · exact absurd k (hno i)
      · exact absurd k (hM i)
    · dsimp only
      rw[put1_same]
      exact hR r
  · rw[put1_other _ _ _ e,put1_other _ _ _ e]
    exact (h.thr u hu).other h.good hu (put1_other _ _ _ e) rfl (Nat.le_refl _) (λ_ _=>rfl) (λ_ _ _=>Nat.le_refl _) (λi k=>k) (λ_ _ _=>rfl) (λi k=>(h.made hu k).1) (λ_ _ _ _ _=>rfl)
theorem SerOk.inner {H:Hall} {S:Sig} {P:Nat->List Ent} {op:Nat->Nat} {mk:Nat->Nat->Prop} (h:SerOk H S P op mk) {t:Nat} {e:Ent} {R:Nat->V} (ht:t<4)
    (ha:∀T:Sig,T.rg t=H.regs t->SAct T e.1 e.2.1 e.2.2 { T with rg:=put1 T.rg t R }) (hR:∀Q:Nat->Prop,(∀r,RefIn Q (H.regs t r))->∀r,RefIn Q (R r))
    (hg:Good { H with regs:=put1 H.regs t R }):SerOk { H with regs:=put1 H.regs t R } S (put1 P t (P t++[e])) op mk:=by
  refine⟨hg,h.cur,h.dom,h.apart,λu hu=>?_⟩
  by_cases eu:u=t
  · subst eu
    rw[put1_same]
    rcases h.thr u hu with ⟨h1,h2,h3,h4⟩|⟨h1,h2⟩
    · refine .inl ⟨h1,?_,?_,h4⟩
      · dsimp only;rw[put1_same]
        exact h2.snoc (λT e1 _=>ha T e1)
      · intro r;dsimp only;rw[put1_same]
        exact hR _ h3 r
    · refine .inr ⟨h1,⟨⟨by have:=h2.pre.1;simp;omega,?_⟩,?_,h2.made,λr=>?_,h2.flds,h2.saved⟩⟩
      · rw[List.take_append_of_le_length (by have:=h2.pre.1;omega)];exact h2.pre.2
      · obtain⟨bs,b⟩:=h2.bs
        refine⟨bs,⟨b.own,b.rds,λva T e1 e2 e3 e4=>?_⟩⟩
        obtain⟨st,r1,r2,r3⟩:=b.run va T e1 e2 e3 e4
        refine⟨st,?_,r2,r3⟩
        have:=ha ⟨st,put1 T.rg u (H.regs u),some u⟩ (put1_same _ _ _)
        dsimp only at this
        rw[put1_put1] at this
        dsimp only
        rw[put1_same]
        exact r1.snoc this
      · dsimp only;rw[put1_same]
        exact hR _ h2.regs r
  · rw[put1_other _ _ _ eu]
    exact (h.thr u hu).other h.good hu rfl (put1_other _ _ _ eu) (Nat.le_refl _) (λ_ _=>rfl) (λ_ _ _=>Nat.le_refl _) (λi k=>k) (λ_ _ _=>rfl) (λi k=>(h.made hu k).1) (λ_ _ _ _ _=>rfl)
theorem SerOk.place {H:Hall} {S:Sig} {P:Nat->List Ent} {op:Nat->Nat} {mk:Nat->Nat->Prop} (h:SerOk H S P op mk) {t:Nat} (ht:t<4) (ho:(H.deals t).isOpen=false) :
    RunE S (P t) { S with rg:=put1 S.rg t (H.regs t) }/\SerOk H { S with rg:=put1 S.rg t (H.regs t) } (put1 P t []) op mk:=by
  obtain⟨_,hC,hR,hM⟩:(H.deals t).isOpen=false/\ClosedOk (S.rg t) (P t) (H.regs t) t/\(∀r,RefIn (Dom S.st) (H.regs t r))/\∀i,¬ mk t i:=by
    rcases h.thr t ht with o|⟨e,_⟩
    · exact o
    · rw[ho] at e;cases e
  refine⟨hC S rfl h.cur,h.good,h.cur,h.dom,h.apart,λu hu=>?_⟩
  by_cases e:u=t
  · subst e
    dsimp only
    rw[put1_same,put1_same]
    exact .inl ⟨ho,ClosedOk.empty _ _,hR,hM⟩
  · dsimp only
    rw[put1_other _ _ _ e,put1_other _ _ _ e]
    exact h.thr u hu
end Go.Proofs.Ytbeilcaadpopmac
namespace Go.Proofs.Ytbeilcaadpopmac
theorem SerOk.opened {H:Hall} {S:Sig} {P:Nat->List Ent} {op:Nat->Nat} {mk:Nat->Nat->Prop} (h:SerOk H S P op mk) {t:Nat} (ht:t<4) (ho:(H.deals t).isOpen=true):OpenOk H S.st (S.rg t) (P t) (op t) t (mk t):=by
  rcases h.thr t ht with ⟨e,_⟩|⟨_,o⟩
  · rw[ho] at e;cases e
  · exact o
theorem bump_th {H:Hall} (h:Good H) {t i:Nat} (ht:t<4) (hi:1<=i):(Owns H t i->th (bumpF H.things (H.deals t).owned) i=bumpT (th H.things i))/\(¬ Owns H t i->th (bumpF H.things (H.deals t).owned) i=th H.things i) :=
  th_bumpF i hi (H.deals t).owned H.things (h.own_le ht) (h.own.ond t ht)
theorem SerOk.commit {H:Hall} {S:Sig} {P:Nat->List Ent} {op:Nat->Nat} {mk:Nat->Nat->Prop} (h:SerOk H S P op mk) {t:Nat} {c:ActM} {n:Nat} (hk:c.kind=2) (et:c.t=(t:Int)) (ht:t<4) (ho:(H.deals t).isOpen=true) (hf:H.fits t=true)
    (hg:Good { H with things:=bumpF H.things (H.deals t).owned,deals:=put1 H.deals t noDeal }) :
    ∃S',RunE S (P t++[(c,n,AnsM.nil)]) S'/\SerOk { H with things:=bumpF H.things (H.deals t).owned,deals:=put1 H.deals t noDeal } S' (put1 P t []) op (put1 mk t λ_=>False):=by
  have hT:=h.opened ht ho
  obtain⟨bs,b⟩:=hT.bs
  have hva:Valid H t:=λd hd=>by
    have:=(List.all_eq_true.1 hf) d hd
    simp only [Bool.and_eq_true,beq_iff_eq] at this
    exact this.2
  obtain⟨st,r1,r2,r3⟩:=b.run hva S rfl h.cur (λi k=>by
    obtain⟨k1,km⟩:=k
    rcases k1 with ⟨d,hd,rfl⟩|k1
    · exact b.rds d hd km (hva d hd)
    · exact (b.own i k1 km).1) (λi k=>(hT.made i k).1)
  have hmono:∀i,(Dom S.st i\/mk t i)->Dom st i:=λi k=>by
    unfold Dom
    by_cases k1:Owns H t i\/mk t i
    · rw[r2 i k1];simp
    · rw[r3 i (λq=>k1 (.inl q)) (λq=>k1 (.inr q))]
      rcases k with k|k
      · exact k
      · exact absurd (.inr k) k1
  refine⟨⟨st,put1 S.rg t (H.regs t),none⟩,r1.snoc (SAct.commit hk ht et rfl),hg,rfl,λi fs hs=>?_,λa ha u hu i ka ku=>?_,λu hu=>?_⟩
  · have hs':st i=some fs:=hs
    by_cases k:Owns H t i\/mk t i
    · have hin:1<=i/\i<=H.things.length:=by
        rcases k with k|k
        · exact h.good.owns_in ht k
        · exact⟨(hT.made i k).2.1,(hT.made i k).2.2.1⟩
      rw[r2 i k] at hs'
      cases hs'
      refine⟨hin.1,by dsimp only;rw[bump_len];exact hin.2,λv hv=>(hT.flds i k v hv).mono hmono,λ_=>?_⟩
      show (th (bumpF H.things (H.deals t).owned) i).fields=_
      rw[fields_bumpF]
    · rw[r3 i (λq=>k (.inl q)) (λq=>k (.inr q))] at hs'
      obtain⟨a1,a2,a3,a4⟩:=h.dom i fs hs'
      refine⟨a1,by dsimp only;rw[bump_len];exact a2,λv hv=>(a3 v hv).mono (λj q=>hmono j (.inl q)),λe=>?_⟩
      dsimp only at e ⊢
      rw[(bump_th h.good ht a1).2 (λq=>k (.inl q))] at e ⊢
      exact a4 e
  · by_cases e1:a=t
    · rw[e1,put1_same] at ka;exact ka.elim
    · by_cases e2:u=t
      · rw[e2,put1_same] at ku;exact ku.elim
      · rw[put1_other _ _ _ e1] at ka
        rw[put1_other _ _ _ e2] at ku
        exact h.apart a ha u hu i ka ku
  · by_cases e:u=t
    · subst e
      dsimp only
      rw[put1_same,put1_same,put1_same]
      refine .inl ⟨?_,ClosedOk.empty _ _,λr=>(hT.regs r).mono hmono,λi k=>k⟩
      dsimp only
      rw[put1_same];rfl
    · dsimp only
      rw[put1_other _ _ _ e,put1_other _ _ _ e,put1_other _ _ _ e]
      have hnt:∀i,Owns H u i\/mk u i->1<=i/\¬ Owns H t i:=λi k=>by
        rcases k with k|k
        · have hi:=(h.good.owns_in hu k).1
          refine⟨hi,λk2=>?_⟩
          rw[h.good.owns ht hi] at k2
          rw[h.good.owns hu hi,k2] at k
          exact e (Option.some.inj k).symm
        · obtain⟨_,hi,_,q⟩:=h.made hu k
          refine⟨hi,λk2=>?_⟩
          rw[h.good.owns ht hi] at k2
          rw[k2] at q
          rcases q with q|q
          · cases q
          · exact e (Option.some.inj q).symm
      refine (h.thr u hu).other h.good hu (put1_other _ _ _ e) rfl (by dsimp only;rw[bump_len];omega) (λi k=>(bump_th h.good ht (hnt i k).1).2 (hnt i k).2) (λi h1 _=>?_) (λi k=>hmono i (.inl k)) (λi k km=>?_) (λi k=>?_) (λd hd km e1 e2=>?_)
      · dsimp only
        by_cases k:Owns H t i
        · rw[(bump_th h.good ht h1).1 k]
          simp only [bumpT];omega
        · rw[(bump_th h.good ht h1).2 k];omega
      · refine r3 i (hnt i (.inl k)).2 (λq=>?_)
        rcases (h.made ht q).2.2.2 with q2|q2
        · rw[(h.good.owns hu (hnt i (.inl k)).1).1 k] at q2;cases q2
        · rw[(h.good.owns hu (hnt i (.inl k)).1).1 k] at q2
          exact e (Option.some.inj q2)
      · rw[r3 i (hnt i (.inr k)).2 (λq=>e (h.apart u hu t ht i k q))]
        exact (h.made hu k).1
      · have hi:=(h.good.own.rds u hu d hd).1
        have hle:=(h.good.own.rds u hu d hd).2.2
        refine r3 d.1 (λk=>?_) (λq=>e2 (h.made ht q).1)
        dsimp only at e1
        rw[(bump_th h.good ht hi).1 k] at e1
        simp only [bumpT] at e1
        omega
theorem SerOk.new {H:Hall} {S:Sig} {P:Nat->List Ent} {op:Nat->Nat} {mk:Nat->Nat->Prop} (h:SerOk H S P op mk) {t a:Nat} {c:ActM} (hk:c.kind=4) (et:c.t=(t:Int)) (ea:c.a=(a:Int)) (ht:t<4) (ha:a<4) (ho:(H.deals t).isOpen=true) (hn:0<=c.n/\c.n<=6)
    (hg:Good { H with things:=H.things++[⟨List.replicate c.n.toNat (.num 0),0,none,false,true,false⟩],regs:=put2 H.regs t a (.ref (H.things.length+1)) }) :
    SerOk { H with things:=H.things++[⟨List.replicate c.n.toNat (.num 0),0,none,false,true,false⟩],regs:=put2 H.regs t a (.ref (H.things.length+1)) } S (put1 P t (P t++[(c,H.things.length+1,AnsM.nil)])) op (put1 mk t λi=>mk t i\/i=H.things.length+1):=by
  have hT:=h.opened ht ho
  obtain⟨x,hx⟩:∃x:Thing,x=⟨List.replicate c.n.toNat (.num 0),0,none,false,true,false⟩:=⟨_,rfl⟩
  rw[<- hx] at hg ⊢
  have old:∀i,1<=i->i<=H.things.length->th (H.things++[x]) i=th H.things i:=λi h1 h2=>th_append_old _ _ _ h2 h1
  have hnew:th (H.things++[x]) (H.things.length+1)=x:=th_append_new _ _
  have hSn:S.st (H.things.length+1)=none:=by
    cases e:S.st (H.things.length+1) with
    | none=>rfl
    | some fs=>have:=(h.dom _ fs e).2.1;omega
  refine⟨hg,h.cur,λi fs hs=>?_,λb hb u hu i kb ku=>?_,λu hu=>?_⟩
  · obtain⟨a1,a2,a3,a4⟩:=h.dom i fs hs
    refine⟨a1,by simp;omega,a3,?_⟩
    dsimp only
    rw[old i a1 a2];exact a4
  · have key:∀u,u<4->put1 mk t (λi=>mk t i\/i=H.things.length+1) u i->mk u i\/(u=t/\i=H.things.length+1):=λu hu k=>by
      by_cases e:u=t
      · subst e;rw[put1_same] at k
        exact k.imp id (λq=>⟨rfl,q⟩)
      · rw[put1_other _ _ _ e] at k;exact .inl k
    rcases key b hb kb with k1|⟨e1,e1'⟩
    · rcases key u hu ku with k2|⟨e2,e2'⟩
      · exact h.apart b hb u hu i k1 k2
      · have:=(h.made hb k1).2.2.1;omega
    · rcases key u hu ku with k2|⟨e2,e2'⟩
      · have:=(h.made hu k2).2.2.1;omega
      · rw[e1,e2]
  · by_cases e:u=t
    · subst e
      rw[put1_same,put1_same]
      refine .inr ⟨ho,⟨⟨by have:=hT.pre.1;simp;omega,?_⟩,?_,λi k=>?_,λr=>?_,λi k v hv=>?_,hT.saved⟩⟩
      · rw[List.take_append_of_le_length (by have:=hT.pre.1;omega)];exact hT.pre.2
      · obtain⟨bs,b⟩:=hT.bs
        refine⟨bs,⟨λi k km=>?_,λd hd km e1=>?_,λva T e1 e2 e3 e4=>?_⟩⟩
        · obtain⟨q1,q2⟩:=b.own i k (λq=>km (.inl q))
          obtain⟨l1,l2⟩:=h.good.owns_in ht k
          refine⟨q1,?_⟩
          rw[<- q2]
          exact back_at _ _ i l1 (by simp;omega) l2 (by rw[old i l1 l2]) _ (λc hc=>(h.good.was_le ht c hc).1)
        · obtain⟨l1,l2,_⟩:=h.good.own.rds u ht d hd
          dsimp only at e1
          rw[old _ l1 l2] at e1
          exact b.rds d hd (λq=>km (.inl q)) e1
        · have va':Valid H u:=λd hd=>by
            obtain⟨l1,l2,_⟩:=h.good.own.rds u ht d hd
            have:=va d hd
            dsimp only at this
            rw[old _ l1 l2] at this
            exact this
          have hne:∀i,Touched H (mk u) u i->i≠H.things.length+1:=λi k q=>by
            rcases k.1 with ⟨d,hd,e⟩|k1
            · have:=(h.good.own.rds u ht d hd).2.1;omega
            · have:=(h.good.owns_in ht k1).2;omega
          obtain⟨st,r1,r2,r3⟩:=b.run va' T e1 e2 (λi k=>e3 i ⟨k.1,λq=>q.elim k.2 (hne i k)⟩) (λi k=>e4 i (.inl k))
          · have hln:¬ Owns H u (H.things.length+1):=λq=>by have:=(h.good.owns_in ht q).2;omega
            have hlm:¬ mk u (H.things.length+1):=λq=>by have:=(hT.made _ q).2.2.1;omega
            have hst:st (H.things.length+1)=none:=(r3 _ hln hlm).trans (e4 _ (.inr rfl))
            have act:=SAct.new (S:=⟨st,put1 T.rg u (H.regs u),some u⟩) (l:=H.things.length+1) hk ht ha et ea rfl hn (by omega) hst
            refine⟨put1 st (H.things.length+1) (some (List.replicate c.n.toNat (.num 0))),?_,λi k=>?_,λi k km=>?_⟩
            · have e5:put1 T.rg u (put2 H.regs u a (.ref (H.things.length+1)) u)=put2 (put1 T.rg u (H.regs u)) u a (.ref (H.things.length+1)):=by
                rw[put2_put1,put2_put1,put1_same,put1_same,put1_put1]
              dsimp only
              rw[e5]
              exact r1.snoc act
            · by_cases ei:i=H.things.length+1
              · subst ei
                rw[put1_same]
                dsimp only
                rw[hnew,hx]
              · rw[put1_other _ _ _ ei]
                have k':Owns H u i\/mk u i:=by
                  rcases k with k|k|k
                  · exact .inl k
                  · exact .inr k
                  · exact absurd k ei
                have hin:1<=i/\i<=H.things.length:=by
                  rcases k' with k|k
                  · exact h.good.owns_in ht k
                  · exact⟨(hT.made i k).2.1,(hT.made i k).2.2.1⟩
                dsimp only
                rw[old i hin.1 hin.2]
                exact r2 i k'
            · have ei:i≠H.things.length+1:=λq=>km (.inr q)
              rw[put1_other _ _ _ ei]
              exact r3 i k (λq=>km (.inl q))
      · rcases k with k|rfl
        · obtain⟨q1,q2,q3,q4⟩:=hT.made i k
          refine⟨q1,q2,by simp;omega,?_⟩
          dsimp only;rw[old i q2 q3];exact q4
        · refine⟨hSn,by omega,by simp,?_⟩
          dsimp only;rw[hnew,hx];exact .inl rfl
      · show RefIn _ (put2 H.regs u a _ u r)
        unfold put2
        split
        · exact .inr (.inr rfl)
        · exact (hT.regs r).mono (λi q=>q.imp id .inl)
      · by_cases ei:i=H.things.length+1
        · subst ei
          have hv':v ∈ (th (H.things++[x]) (H.things.length+1)).fields:=hv
          rw[hnew,hx] at hv'
          rw[List.eq_of_mem_replicate hv'];trivial
        · have k':Owns H u i\/mk u i:=by
            rcases k with k|k|k
            · exact .inl k
            · exact .inr k
            · exact absurd k ei
          have hin:1<=i/\i<=H.things.length:=by
            rcases k' with k|k
            · exact h.good.owns_in ht k
            · exact⟨(hT.made i k).2.1,(hT.made i k).2.2.1⟩
          have hv':v ∈ (th (H.things++[x]) i).fields:=hv
          rw[old i hin.1 hin.2] at hv'
          exact (hT.flds i k' v hv').mono (λi q=>q.imp id .inl)
    · rw[put1_other _ _ _ e,put1_other _ _ _ e]
      refine (h.thr u hu).other h.good hu rfl (put2_other _ _ _ _ e) (by simp) (λi k=>?_) (λi h1 h2=>by dsimp only;rw[old i h1 h2];omega) (λi k=>k) (λ_ _ _=>rfl) (λi k=>(h.made hu k).1) (λ_ _ _ _ _=>rfl)
      rcases k with k|k
      · exact old i (h.good.owns_in hu k).1 (h.good.owns_in hu k).2
      · exact old i (h.made hu k).2.1 (h.made hu k).2.2.1
theorem BsOk.touch {H:Hall} {s:Nat->Option (List V)} {base:Nat->V} {P:List Ent} {t:Nat} {mk:Nat->Prop} {bs:Nat->List V} (b:BsOk H s base P t mk bs) {i:Nat} (hs:s i=some (th H.things i).fields) (ho:¬ Owns H t i):BsOk H s base P t mk (put1 bs i (th H.things i).fields):=by
  refine⟨λj k km=>?_,λc hc km e=>?_,λva S e1 e2 e3 e4=>b.run va S e1 e2 (λj k=>?_) e4⟩
  · have:j≠i:=λe=>ho (e ▸ k)
    rw[put1_other _ _ _ this];exact b.own j k km
  · by_cases ei:c.1=i
    · rw[ei,put1_same];exact hs
    · rw[put1_other _ _ _ ei];exact b.rds c hc km e
  · by_cases ei:j=i
    · subst ei
      have h3:=e3 j k
      rw[put1_same] at h3
      rw[h3]
      rcases k.1 with ⟨c,hc,rfl⟩|k1
      · have:=b.rds c hc k.2 (va c hc)
        rw[hs] at this
        exact this
      · exact absurd k1 ho
    · have h3:=e3 j k
      rw[put1_other _ _ _ ei] at h3
      exact h3
theorem OpenOk.touched {H:Hall} {S:Sig} {P:Nat->List Ent} {op:Nat->Nat} {mk:Nat->Nat->Prop} (h:SerOk H S P op mk) {t r i:Nat} (ht:t<4) (ho:(H.deals t).isOpen=true) (hr:H.regs t r = .ref i) (hw:(th H.things i).owner=none\/(th H.things i).owner=some t) :
    (Dom S.st i\/mk t i)/\1<=i/\i<=H.things.length/\(∀v ∈ (th H.things i).fields,RefIn (λi=>Dom S.st i\/mk t i) v)/\∃bs,BsOk H S.st (S.rg t) (P t) t (mk t) bs/\(Owns H t i\/mk t i\/(S.st i=some (bs i)/\bs i=(th H.things i).fields)):=by
  have hT:=h.opened ht ho
  have hv:=hT.regs r
  rw[hr] at hv
  have hv':Dom S.st i\/mk t i:=hv
  obtain⟨bs,b⟩:=hT.bs
  by_cases k:Owns H t i\/mk t i
  · refine⟨hv',?_,?_,hT.flds i k,bs,b,?_⟩
    · rcases k with k|k
      · exact (h.good.owns_in ht k).1
      · exact (hT.made i k).2.1
    · rcases k with k|k
      · exact (h.good.owns_in ht k).2
      · exact (hT.made i k).2.2.1
    · rcases k with k|k
      · exact .inl k
      · exact .inr (.inl k)
  · have hd:Dom S.st i:=hv'.resolve_right (λq=>k (.inr q))
    obtain⟨fs,e⟩:=Option.ne_none_iff_exists'.1 hd
    obtain⟨a1,a2,a3,a4⟩:=h.dom i fs e
    have hn:(th H.things i).owner=none:=by
      rcases hw with q|q
      · exact q
      · exact absurd (.inl ((h.good.owns ht a1).2 q)) k
    have hf:=a4 hn
    refine⟨hv',a1,a2,λv q=>?_,put1 bs i (th H.things i).fields,b.touch (by rw[hf];exact e) (λq=>k (.inl q)),.inr (.inr ⟨?_,put1_same _ _ _⟩)⟩
    · rw[hf] at q
      exact (a3 v q).mono (λj q=>.inl q)
    · rw[put1_same,hf];exact e
theorem noted_some {l:List (Nat × Nat)} {n:Nat} (h:noted l n≠none):hasKey l n:=by
  unfold noted at h
  cases e:l.find? (λc=>c.1 == n) with
  | none=>rw[e] at h;exact absurd rfl h
  | some c =>
    have h1:=List.find?_some e
    exact⟨c,List.mem_of_find?_eq_some e,by simpa using h1⟩
theorem SerOk.get {H:Hall} {S:Sig} {P:Nat->List Ent} {op:Nat->Nat} {mk:Nat->Nat->Prop} (h:SerOk H S P op mk) {t a b:Nat} {c:ActM} {n:Nat} (hk:c.kind=5) (et:c.t=(t:Int)) (ea:c.a=(a:Int)) (eb:c.b=(b:Int)) (ht:t<4) (ha:a<4) (hb:b<4) (hacc:H.acc t b c.n=0)
    (hg:Good (H.get t a b c.n).1):SerOk (H.get t a b c.n).1 S (put1 P t (P t++[(c,n,(H.get t a b c.n).2)])) op mk:=by
  obtain⟨ho,k0,kr,k1,k2,k3⟩:=acc_ok hacc
  unfold Hall.get at hg ⊢
  rw[if_pos hacc] at hg ⊢
  obtain⟨i,hi⟩:∃i,i=(H.regs t b).id:=⟨_,rfl⟩
  rw[<- hi] at k0 kr k2 k3 hg ⊢
  obtain⟨v,hv⟩:∃v,v=(H.thing i).fields.getD c.n.toNat (.num 0):=⟨_,rfl⟩
  rw[<- hv] at hg ⊢
  obtain⟨hdi,hi1,hi2,hfl,bs,hbs,hcase⟩:=OpenOk.touched h ht ho kr k3
  have hT:=h.opened ht ho
  obtain⟨D,hD⟩:∃D,D=H.readD t i:=⟨_,rfl⟩
  rw[<- hD] at hg ⊢
  have hDo:∀u,u≠t->D u=H.deals u:=λu hu=>by
    rw[hD]
    rcases readD_cases H t i with e|⟨_,_,e⟩ <;> rw[e]
    exact put1_other _ _ _ hu
  have hDt:(D t).isOpen=true/\(D t).saved=(H.deals t).saved/\(D t).owned=(H.deals t).owned/\(D t).changes=(H.deals t).changes/\(∀d ∈ (H.deals t).reads,d ∈ (D t).reads)/\(∀d ∈ (D t).reads,d ∈ (H.deals t).reads\/(d=(i,(H.thing i).version)/\¬ Owns H t i))/\(¬ Owns H t i->hasKey (D t).reads i):=by
    rw[hD]
    rcases readD_cases H t i with e|⟨q1,q2,e⟩
    · rw[e]
      refine⟨ho,rfl,rfl,rfl,λd hd=>hd,λd hd=>.inl hd,λk=>?_⟩
      apply noted_some
      intro q
      have q3:(H.thing i).owner≠some t:=λq3=>k ((h.good.owns ht hi1).2 q3)
      unfold Hall.readD at e
      rw[if_pos ⟨q,q3⟩] at e
      have:=congrArg (λf=>(f t).reads.length) e
      simp only [put1_same,Deal.addR,List.length_append,List.length_singleton] at this
      omega
    · rw[e,put1_same]
      have q3:¬ Owns H t i:=λk=>q2 ((h.good.owns ht hi1).1 k)
      refine⟨ho,rfl,rfl,rfl,λd hd=>List.mem_append.2 (.inl hd),λd hd=>?_,λ_=>⟨(i,_),List.mem_append.2 (.inr (List.mem_singleton.2 rfl)),rfl⟩⟩
      rcases List.mem_append.1 hd with hd|hd
      · exact .inl hd
      · exact .inr ⟨List.mem_singleton.1 hd,q3⟩
  obtain⟨d1,d2,d3,d4,d5,d6,d7⟩:=hDt
  clear hD
  refine⟨hg,h.cur,h.dom,h.apart,λu hu=>?_⟩
  by_cases e:u=t
  · subst e
    rw[put1_same]
    have hO:∀j,Owns { H with regs:=put2 H.regs u a v,deals:=D } u j ↔ Owns H u j:=λj=>by unfold Owns;dsimp only;rw[d3]
    have hvR:RefIn (λi=>Dom S.st i\/mk u i) v:=by rw[hv];exact getD_in hfl _
    refine .inr ⟨d1,⟨⟨by have:=hT.pre.1;simp;omega,?_⟩,⟨bs,⟨λj k km=>?_,λd hd km e1=>?_,λva T e1 e2 e3 e4=>?_⟩⟩,hT.made,λr=>?_,λj k=>?_,λr=>?_⟩⟩
    · rw[List.take_append_of_le_length (by have:=hT.pre.1;omega)]
      dsimp only
      rw[d2];exact hT.pre.2
    · rw[hO] at k
      dsimp only
      rw[d4];exact hbs.own j k km
    · rcases d6 d hd with hd|⟨rfl,hno⟩
      · exact hbs.rds d hd km e1
      · rcases hcase with q|q|q
        · exact absurd q hno
        · exact absurd q km
        · exact q.1
    · have va':Valid H u:=λd hd=>va d (d5 d hd)
      have htr:∀j,Touched H (mk u) u j->Touched { H with regs:=put2 H.regs u a v,deals:=D } (mk u) u j:=λj k=>by
        refine⟨?_,k.2⟩
        rcases k.1 with ⟨d,hd,e⟩|k1
        · exact .inl ⟨d,d5 d hd,e⟩
        · exact .inr ((hO j).2 k1)
      obtain⟨st,r1,r2,r3⟩:=hbs.run va' T e1 e2 (λj k=>e3 j (htr j k)) e4
      have hst:st i=some (th H.things i).fields:=by
        by_cases k:Owns H u i\/mk u i
        · exact r2 i k
        · rw[r3 i (λq=>k (.inl q)) (λq=>k (.inr q))]
          have hc3:=(hcase.resolve_left (λq=>k (.inl q))).resolve_left (λq=>k (.inr q))
          rw[e3 i ⟨.inl (d7 (λq=>k (.inl q))),λq=>k (.inr q)⟩,hc3.2]
      have act:=SAct.get (S:=⟨st,put1 T.rg u (H.regs u),some u⟩) (l:=n) hk ht ha hb et ea eb rfl (by dsimp only;rw[put1_same];exact kr) k0 hst ⟨k1,k2⟩
      refine⟨st,?_,λj k=>r2 j (by rwa [hO] at k),λj k km=>r3 j (by rwa [hO] at k) km⟩
      have e5:put1 T.rg u (put2 H.regs u a v u)=put2 (put1 T.rg u (H.regs u)) u a v:=by
        rw[put2_put1,put2_put1,put1_same,put1_same,put1_put1]
      dsimp only
      rw[e5,hv]
      exact r1.snoc act
    · show RefIn _ (put2 H.regs u a v u r)
      unfold put2
      split
      · exact hvR
      · exact hT.regs r
    · rw[hO] at k;exact hT.flds j k
    · dsimp only;rw[d2];exact hT.saved r
  · rw[put1_other _ _ _ e]
    exact (h.thr u hu).other h.good hu (hDo u e) (put2_other _ _ _ _ e) (Nat.le_refl _) (λ_ _=>rfl) (λ_ _ _=>Nat.le_refl _) (λi k=>k) (λ_ _ _=>rfl) (λi k=>(h.made hu k).1) (λ_ _ _ _ _=>rfl)
theorem SerOk.put {H:Hall} {S:Sig} {P:Nat->List Ent} {op:Nat->Nat} {mk:Nat->Nat->Prop} (h:SerOk H S P op mk) {t a b:Nat} {c:ActM} {n:Nat} (hk:c.kind=6) (et:c.t=(t:Int)) (ea:c.a=(a:Int)) (eb:c.b=(b:Int)) (ht:t<4) (ha:a<4) (hb:b<4) (hacc:H.acc t a c.n=0)
    (hg:Good (H.put t a b c.n).1):SerOk (H.put t a b c.n).1 S (put1 P t (P t++[(c,n,AnsM.nil)])) op mk:=by
  obtain⟨ho,k0,kr,k1,k2,k3⟩:=acc_ok hacc
  unfold Hall.put at hg ⊢
  rw[if_pos hacc] at hg ⊢
  obtain⟨i,hi⟩:∃i,i=(H.regs t a).id:=⟨_,rfl⟩
  rw[<- hi] at k0 kr k2 k3 hg ⊢
  obtain⟨v,hv⟩:∃v,v=H.regs t b:=⟨_,rfl⟩
  rw[<- hv] at hg ⊢
  obtain⟨hdi,hi1,hi2,hfl,bs,hbs,hcase⟩:=OpenOk.touched h ht ho kr k3
  have hT:=h.opened ht ho
  obtain⟨G,hG⟩:∃G,G=(H.own t i).write t i c.n.toNat v:=⟨_,rfl⟩
  dsimp only at hg ⊢
  rw[<- hG] at hg ⊢
  have hlen:G.things.length=H.things.length:=by
    rw[hG]
    show (setF (H.own t i).things i c.n.toNat v).length=_
    unfold setF
    rw[turn_len]
    unfold Hall.own
    split
    · rfl
    · exact turn_len _ _ _
  have hregs:G.regs=H.regs:=by
    rw[hG]
    show (H.own t i).regs=_
    unfold Hall.own
    split <;> rfl
  have hth:∀j,1<=j->(j≠i->th G.things j=th H.things j)/\(th G.things j).version=(th H.things j).version/\((th G.things i).fields=(th H.things i).fields.set c.n.toNat v)/\(th G.things i).owner=some t:=λj hj=>by
    rw[hG]
    show (j≠i->th (setF (H.own t i).things i c.n.toNat v) j=_)/\(th (setF (H.own t i).things i c.n.toNat v) j).version=_/\(th (setF (H.own t i).things i c.n.toNat v) i).fields=_/\(th (setF (H.own t i).things i c.n.toNat v) i).owner=_
    unfold setF
    rw[th_modify _ _ j _ hi1 hj,th_modify _ _ i _ hi1 hi1]
    have hol:(H.own t i).things.length=H.things.length:=by
      unfold Hall.own
      split
      · rfl
      · exact turn_len _ _ _
    have hoj:∀j,1<=j->(j≠i->th (H.own t i).things j=th H.things j)/\(th (H.own t i).things j).version=(th H.things j).version/\(th (H.own t i).things i).fields=(th H.things i).fields/\(th (H.own t i).things i).owner=some t:=λj hj=>by
      unfold Hall.own
      split
      · rename_i q;exact⟨λ_=>rfl,rfl,rfl,q⟩
      · dsimp only
        rw[th_modify _ _ j _ hi1 hj,th_modify _ _ i _ hi1 hi1,if_pos (show i=i/\i<=H.things.length from ⟨rfl,hi2⟩)]
        refine⟨λq=>if_neg (λq2=>q q2.1),?_,rfl,rfl⟩
        split <;> rfl
    obtain⟨q1,q2,q3,q4⟩:=hoj j hj
    rw[if_pos (show i=i/\i<=(H.own t i).things.length from ⟨rfl,by omega⟩)]
    refine⟨λq=>(if_neg (λq2=>q q2.1)).trans (q1 q),?_,by simp only [setT,q3],q4⟩
    split
    · exact q2
    · exact q2
  have hdo:∀u,u≠t->G.deals u=H.deals u:=λu hu=>by
    rw[hG]
    show put1 (H.own t i).deals t _ u=_
    rw[put1_other _ _ _ hu]
    unfold Hall.own
    split
    · rfl
    · exact put1_other _ _ _ hu
  have hdt:(G.deals t).isOpen=true/\(G.deals t).saved=(H.deals t).saved/\(G.deals t).reads=(H.deals t).reads/\(∀j,Owns G t j ↔ Owns H t j\/j=i)/\(∀j,(th (backF G.things (G.deals t).changes) j).fields=(th (backF H.things (H.deals t).changes) j).fields):=by
    rw[hG]
    have hwd:∀O:Hall,(O.write t i c.n.toNat v).deals t=(O.deals t).addC (i,c.n.toNat,(O.thing i).fields.getD c.n.toNat (.num 0)):=λO=>put1_same _ _ _
    have hwb:∀O:Hall,backF (O.write t i c.n.toNat v).things ((O.write t i c.n.toNat v).deals t).changes=backF O.things (O.deals t).changes:=λO=>by
      rw[hwd]
      show backF (setF O.things i c.n.toNat v) ((O.deals t).changes++[_])=_
      rw[backF_snoc]
      show backF (setF (setF O.things i c.n.toNat v) i c.n.toNat ((th O.things i).fields.getD c.n.toNat (.num 0))) (O.deals t).changes=_
      rw[setF_back]
    refine⟨?_,?_,?_,λj=>?_,λj=>?_⟩
    · rw[hwd]
      show ((H.own t i).deals t).isOpen=true
      unfold Hall.own
      split
      · exact ho
      · dsimp only;rw[put1_same];exact ho
    · rw[hwd]
      show ((H.own t i).deals t).saved=_
      unfold Hall.own
      split
      · rfl
      · dsimp only;rw[put1_same];rfl
    · rw[hwd]
      show ((H.own t i).deals t).reads=_
      unfold Hall.own
      split
      · rfl
      · dsimp only;rw[put1_same];rfl
    · unfold Owns
      rw[hwd]
      show hasKey ((H.own t i).deals t).owned j ↔ _
      unfold Hall.own
      split
      · rename_i q
        refine⟨.inl,λq2=>?_⟩
        rcases q2 with q2|rfl
        · exact q2
        · exact (h.good.owns ht hi1).2 q
      · dsimp only;rw[put1_same]
        show hasKey ((H.deals t).owned++[(i,(H.thing i).version)]) j ↔ _
        rw[hasKey_snoc]
        exact or_congr Iff.rfl ⟨λq=>q.symm,λq=>q.symm⟩
    · rw[hwb]
      unfold Hall.own
      split
      · rfl
      · dsimp only;rw[put1_same]
        show (th (backF (turnT H.things i (ownT t)) (H.deals t).changes) j).fields=_
        rw[backF_turn i (ownT t) (λ_ _ _=>rfl)]
        exact th_keep (·.fields) (ownT t) (λ_=>rfl) _ _ _
  obtain⟨d1,d2,d3,d4,d5⟩:=hdt
  clear hG
  have hGi:=(hth i hi1).2.2
  refine⟨hg,h.cur,λj fs hs=>?_,h.apart,λu hu=>?_⟩
  · obtain⟨a1,a2,a3,a4⟩:=h.dom j fs hs
    refine⟨a1,by omega,a3,λe=>?_⟩
    by_cases ej:j=i
    · subst ej;rw[hGi.2] at e;cases e
    · rw[(hth j a1).1 ej] at e ⊢
      exact a4 e
  · by_cases e:u=t
    · subst e
      rw[put1_same]
      refine .inr ⟨d1,⟨⟨by have:=hT.pre.1;simp;omega,?_⟩,⟨bs,⟨λj k km=>?_,λd hd km e1=>?_,λva T e1 e2 e3 e4=>?_⟩⟩,λj k=>?_,λr=>?_,λj k w hw=>?_,λr=>?_⟩⟩
      · rw[List.take_append_of_le_length (by have:=hT.pre.1;omega),d2]
        exact hT.pre.2
      · rw[d5]
        by_cases ko:Owns H u j
        · exact hbs.own j ko km
        · have ej:=((d4 j).1 k).resolve_left ko
          subst ej
          have hc3:=(hcase.resolve_left ko).resolve_left km
          refine⟨hc3.1,?_⟩
          rw[back_other _ _ hi1 _ (λc hc=>⟨(h.good.was_le ht c hc).1,λe=>ko (e ▸ h.good.changed ht c hc)⟩)]
          exact hc3.2.symm
      · rw[d3] at hd
        obtain⟨l1,_,_⟩:=h.good.own.rds u ht d hd
        rw[(hth d.1 l1).2.1] at e1
        exact hbs.rds d hd km e1
      · have va':Valid H u:=λd hd=>by
          obtain⟨l1,_,_⟩:=h.good.own.rds u ht d hd
          have:=va d (by rw[d3];exact hd)
          rwa [(hth d.1 l1).2.1] at this
        have htr:∀j,Touched H (mk u) u j->Touched G (mk u) u j:=λj k=>by
          refine⟨?_,k.2⟩
          rcases k.1 with k1|k1
          · exact .inl (by rw[d3];exact k1)
          · exact .inr ((d4 j).2 (.inl k1))
        obtain⟨st,r1,r2,r3⟩:=hbs.run va' T e1 e2 (λj k=>e3 j (htr j k)) e4
        have hst:st i=some (th H.things i).fields:=by
          by_cases k:Owns H u i\/mk u i
          · exact r2 i k
          · rw[r3 i (λq=>k (.inl q)) (λq=>k (.inr q))]
            have hc3:=(hcase.resolve_left (λq=>k (.inl q))).resolve_left (λq=>k (.inr q))
            rw[e3 i ⟨.inr ((d4 i).2 (.inr rfl)),λq=>k (.inr q)⟩,hc3.2]
        have act:=SAct.put (S:=⟨st,put1 T.rg u (H.regs u),some u⟩) (l:=n) hk ht ha hb et ea eb rfl (by dsimp only;rw[put1_same];exact kr) k0 hst ⟨k1,k2⟩
        refine⟨put1 st i (some ((th H.things i).fields.set c.n.toNat v)),?_,λj k=>?_,λj k km=>?_⟩
        · dsimp only at act
          rw[put1_same,<- hv] at act
          rw[hregs]
          exact r1.snoc act
        · by_cases ej:j=i
          · subst ej
            rw[put1_same,hGi.1]
          · rw[put1_other _ _ _ ej]
            have k':Owns H u j\/mk u j:=by
              rcases k with k|k
              · exact .inl (((d4 j).1 k).resolve_right ej)
              · exact .inr k
            have hj:1<=j:=by
              rcases k' with k|k
              · exact (h.good.owns_in ht k).1
              · exact (hT.made j k).2.1
            rw[(hth j hj).1 ej]
            exact r2 j k'
        · have ej:j≠i:=λq=>k ((d4 j).2 (.inr q))
          rw[put1_other _ _ _ ej]
          exact r3 j (λq=>k ((d4 j).2 (.inl q))) km
      · obtain⟨q1,q2,q3,q4⟩:=hT.made j k
        refine⟨q1,q2,by omega,?_⟩
        by_cases ej:j=i
        · subst ej;exact .inr hGi.2
        · rw[(hth j q2).1 ej];exact q4
      · rw[hregs];exact hT.regs r
      · by_cases ej:j=i
        · subst ej
          rw[hGi.1] at hw
          rcases List.mem_or_eq_of_mem_set hw with hw|hw
          · exact hfl w hw
          · rw[hw,hv];exact hT.regs b
        · have k':Owns H u j\/mk u j:=by
            rcases k with k|k
            · exact .inl (((d4 j).1 k).resolve_right ej)
            · exact .inr k
          have hj:1<=j:=by
            rcases k' with k|k
            · exact (h.good.owns_in ht k).1
            · exact (hT.made j k).2.1
          rw[(hth j hj).1 ej] at hw
          exact hT.flds j k' w hw
      · rw[d2];exact hT.saved r
    · rw[put1_other _ _ _ e]
      refine (h.thr u hu).other h.good hu (hdo u e) (by rw[hregs]) (by omega) (λj k=>?_) (λj h1 h2=>by rw[(hth j h1).2.1];omega) (λi k=>k) (λ_ _ _=>rfl) (λi k=>(h.made hu k).1) (λ_ _ _ _ _=>rfl)
      have hj:1<=j:=by
        rcases k with k|k
        · exact (h.good.owns_in hu k).1
        · exact (h.made hu k).2.1
      refine (hth j hj).1 (λej=>?_)
      subst ej
      rcases k with k|k
      · have k4:(th H.things j).owner=none\/(th H.things j).owner=some t:=k3
        rw[(h.good.owns hu hj).1 k] at k4
        rcases k4 with q|q
        · cases q
        · exact e (Option.some.inj q)
      · rcases hdi with q|q
        · exact q (h.made hu k).1
        · exact e (h.apart u hu t ht j k q)
end Go.Proofs.Ytbeilcaadpopmac
namespace Go.Proofs.Ytbeilcaadpopmac
theorem step_cut {α:Type} (s:PS α) (x:α) {c:ActM} {a:AnsM} {t:Nat} (et:c.t=(t:Int)) (h:(c.kind=3/\a.code=0)\/a.code=6):s.step x c a=s.cut t:=by
  unfold PS.step
  rw[if_pos h,toNat_of et]
theorem step_skip {α:Type} (s:PS α) (x:α) {c:ActM} {a:AnsM} (h0:a.code≠0) (h6:a.code≠6):s.step x c a=s:=by
  unfold PS.step
  rw[if_neg (by omega),if_pos h0]
theorem step_begin {α:Type} (s:PS α) (x:α) {c:ActM} {a:AnsM} {t:Nat} (et:c.t=(t:Int)) (h0:a.code=0) (hk:c.kind=1):s.step x c a=s.begins t x:=by
  unfold PS.step
  rw[if_neg (by omega),if_neg (by omega),if_pos hk,toNat_of et]
theorem step_copy {α:Type} (s:PS α) (x:α) {c:ActM} {a:AnsM} {t u:Nat} (et:c.t=(t:Int)) (eu:c.n=(u:Int)) (h0:a.code=0) (hk:c.kind=8) (hne:u≠t):s.step x c a=((s.place u).add t x).place t:=by
  unfold PS.step
  rw[if_neg (by omega),if_neg (by omega),if_neg (by omega),if_pos ⟨hk,by omega⟩,toNat_of et,toNat_of eu]
theorem step_commit {α:Type} (s:PS α) (x:α) {c:ActM} {a:AnsM} {t:Nat} (et:c.t=(t:Int)) (h0:a.code=0) (hk:c.kind=2):s.step x c a=(s.add t x).place t:=by
  unfold PS.step
  rw[if_neg (by omega),if_neg (by omega),if_neg (by omega),if_neg (by omega),if_pos hk,toNat_of et]
theorem step_add {α:Type} (s:PS α) (x:α) {c:ActM} {a:AnsM} {t:Nat} (et:c.t=(t:Int)) (h0:a.code=0) (h1:c.kind≠1) (h2:c.kind≠2) (h3:c.kind≠3) (h8:c.kind=8->c.n=c.t):s.step x c a=s.add t x:=by
  unfold PS.step
  rw[if_neg (by omega),if_neg (by omega),if_neg h1,if_neg (λq=>q.2 (h8 q.1)),if_neg h2,toNat_of et]
def sig0:Sig:=⟨λ_=>none,λ_ _=>.num 0,none⟩
def Main (s:PS Ent) (H:Hall):Prop:=∃S mk,RunE sig0 s.ser S/\SerOk H S s.parts s.op mk
theorem acc_open {H:Hall} {t r:Nat} {f:Int} (h:H.acc t r f=6):(H.deals t).isOpen=true:=by
  unfold Hall.acc at h
  split at h
  · cases h
  · rename_i q;simpa using q
theorem told_code (v:V):(told v).code=0:=by cases v <;> rfl
theorem SerOk.copyIn {H:Hall} {S:Sig} {P:Nat->List Ent} {op:Nat->Nat} {mk:Nat->Nat->Prop} (h:SerOk H S P op mk) {t u a b:Nat} (ht:t<4) (hu:u<4) (ho:(H.deals t).isOpen=false) (hou:(H.deals u).isOpen=false) (hP:P t=[]) (hS:S.rg t=H.regs t)
    (hg:Good { H with regs:=put2 H.regs t a (H.regs u b) }):SerOk { H with regs:=put2 H.regs t a (H.regs u b) } { S with rg:=put2 S.rg t a (H.regs u b) } P op mk:=by
  have hc:∀v,v<4->(H.deals v).isOpen=false->(∀r,RefIn (Dom S.st) (H.regs v r))/\∀i,¬ mk v i:=λv hv hov=>by
    rcases h.thr v hv with ⟨_,_,q,q2⟩|⟨e,_⟩
    · exact⟨q,q2⟩
    · rw[hov] at e;cases e
  refine⟨hg,h.cur,h.dom,h.apart,λv hv=>?_⟩
  by_cases e:v=t
  · subst e
    dsimp only
    refine .inl ⟨ho,?_,λr=>?_,(hc v ht ho).2⟩
    · have e1:put2 S.rg v a (H.regs u b) v=put2 H.regs v a (H.regs u b) v:=by
        funext r;unfold put2;split
        · rfl
        · rw[hS]
      rw[hP]
      dsimp only
      rw[e1];exact ClosedOk.empty _ _
    · show RefIn _ (put2 H.regs v a (H.regs u b) v r)
      unfold put2
      split
      · exact (hc u hu hou).1 b
      · exact (hc v ht ho).1 r
  · have:=(h.thr v hv).other (G:={ H with regs:=put2 H.regs t a (H.regs u b) }) h.good hv rfl (put2_other _ _ _ _ e) (Nat.le_refl _) (λ_ _=>rfl) (λ_ _ _=>Nat.le_refl _) (λi k=>k) (λ_ _ _=>rfl) (λi k=>(h.made hv k).1) (λ_ _ _ _ _=>rfl)
    dsimp only
    rw[put2_other _ _ _ _ e]
    exact this
theorem Main.step {s:PS Ent} {H:Hall} (h:Main s H) (c:ActM) (hc:cleaning c=false):Main (s.step (c,H.things.length+1,(H.act c).2) c (H.act c).2) (H.act c).1:=by
  obtain⟨S,mk,hrun,h⟩:=h
  have hg:=h.good.act c hc
  revert hg
  simp only [cleaning,Bool.or_eq_false_iff,beq_eq_false_iff_ne] at hc
  have stay:∀e:Int,e≠0->e≠6->Main (s.step (c,H.things.length+1,AnsM.err e) c (AnsM.err e)) H:=λe e0 e6=>by
    rw[step_skip s _ (show (AnsM.err e).code≠0 from e0) (show (AnsM.err e).code≠6 from e6)]
    exact⟨S,mk,hrun,h⟩
  have cut:∀(t:Nat) (a:AnsM),t<4->c.t=(t:Int)->(c.kind=3/\a.code=0)\/a.code=6->(H.deals t).isOpen=true->Good (H.undone t)->Main (s.step (c,H.things.length+1,a) c a) (H.undone t):=λt a ht et k ho hg=>by
    rw[step_cut s _ et k]
    exact⟨S,_,hrun,h.undone ht ho hg⟩
  refine act_ind (P:=λp=>Good p.1->Main (s.step (c,H.things.length+1,p.2) c p.2) p.1) H c ?_ ?_ ?_ ?_ ?_ ?_ ?_ ?_ ?_ ?_ ?_ ?_ ?_
  · intro e he _
    exact stay e (by omega) (by omega)
  · intro hk t ht et
    unfold Hall.begin
    refine iteP (P:=λp:Hall × AnsM=>Good p.1->Main (s.step (c,H.things.length+1,p.2) c p.2) p.1) (λ_ _=>stay 5 (by omega) (by omega)) λho hg=>?_
    rw[step_begin s _ et rfl hk]
    exact⟨S,mk,hrun,h.begin hk et ht (by simpa using ho) hg⟩
  · intro hk t ht et
    unfold Hall.commit
    refine iteP (P:=λp:Hall × AnsM=>Good p.1->Main (s.step (c,H.things.length+1,p.2) c p.2) p.1) (λ_ _=>stay 5 (by omega) (by omega)) λho=>?_
    have ho':(H.deals t).isOpen=true:=by simpa using ho
    refine iteP (P:=λp:Hall × AnsM=>Good p.1->Main (s.step (c,H.things.length+1,p.2) c p.2) p.1) (λhf hg=>?_) λ_ hg=>cut t _ ht et (.inr rfl) ho' hg
    rw[step_commit s _ et rfl hk]
    obtain⟨S',r1,r2⟩:=h.commit (n:=H.things.length+1) hk et ht ho' hf hg
    refine⟨S',put1 mk t λ_=>False,?_,?_⟩
    · show RunE sig0 (s.ser++put1 s.parts t (s.parts t++[(c,H.things.length+1,AnsM.nil)]) t) S'
      rw[put1_same]
      exact hrun.append r1
    · show SerOk _ S' (put1 (put1 s.parts t (s.parts t++[(c,H.things.length+1,AnsM.nil)])) t []) s.op (put1 mk t λ_=>False)
      rw[put1_put1];exact r2
  · intro hk t ht et
    unfold Hall.abort
    refine iteP (P:=λp:Hall × AnsM=>Good p.1->Main (s.step (c,H.things.length+1,p.2) c p.2) p.1) (λ_ _=>stay 5 (by omega) (by omega)) λho hg=>?_
    exact cut t _ ht et (.inl ⟨hk,rfl⟩) (by simpa using ho) hg
  · intro hk t a ht ha et ea
    unfold Hall.new
    refine iteP (P:=λp:Hall × AnsM=>Good p.1->Main (s.step (c,H.things.length+1,p.2) c p.2) p.1) (λ_ _=>stay 5 (by omega) (by omega)) λho=>?_
    refine iteP (P:=λp:Hall × AnsM=>Good p.1->Main (s.step (c,H.things.length+1,p.2) c p.2) p.1) (λ_ _=>stay 2 (by omega) (by omega)) λhn=>?_
    refine iteP (P:=λp:Hall × AnsM=>Good p.1->Main (s.step (c,H.things.length+1,p.2) c p.2) p.1) (λ_ _=>stay 1 (by omega) (by omega)) λ_ hg=>?_
    rw[step_add s _ et rfl (by omega) (by omega) (by omega) (λq=>by omega)]
    exact⟨S,_,hrun,h.new hk et ea ht ha (by simpa using ho) (by omega) hg⟩
  · intro hk t a b ht ha hb et ea eb
    by_cases hacc:H.acc t b c.n=0
    · intro hg
      have hcode:(H.get t a b c.n).2.code=0:=by
        unfold Hall.get
        rw[if_pos hacc]
        exact told_code _
      rw[step_add s _ et hcode (by omega) (by omega) (by omega) (λq=>by omega)]
      exact⟨S,mk,hrun,h.get hk et ea eb ht ha hb hacc hg⟩
    · unfold Hall.get
      rw[if_neg hacc]
      intro hg
      dsimp only at hg ⊢
      by_cases h6:H.acc t b c.n=6
      · rw[if_pos h6] at hg ⊢
        exact cut t _ ht et (.inr h6) (acc_open h6) hg
      · rw[if_neg h6]
        exact stay _ hacc h6
  · intro hk t a b ht ha hb et ea eb
    by_cases hacc:H.acc t a c.n=0
    · intro hg
      have hans:(H.put t a b c.n).2=AnsM.nil:=by
        unfold Hall.put
        rw[if_pos hacc]
      rw[hans,step_add s _ et rfl (by omega) (by omega) (by omega) (λq=>by omega)]
      exact⟨S,mk,hrun,h.put hk et ea eb ht ha hb hacc hg⟩
    · unfold Hall.put
      rw[if_neg hacc]
      intro hg
      dsimp only at hg ⊢
      by_cases h6:H.acc t a c.n=6
      · rw[if_pos h6] at hg ⊢
        exact cut t _ ht et (.inr h6) (acc_open h6) hg
      · rw[if_neg h6]
        exact stay _ hacc h6
  · intro hk t a ht ha et ea
    unfold Hall.set
    refine iteP (P:=λp:Hall × AnsM=>Good p.1->Main (s.step (c,H.things.length+1,p.2) c p.2) p.1) (λhn hg=>?_) λ_ _=>stay 2 (by omega) (by omega)
    rw[step_add s _ et (told_code _) (by omega) (by omega) (by omega) (λq=>by omega)]
    rw[put2_put1] at hg ⊢
    refine⟨S,mk,hrun,h.inner ht (λT eT=>?_) (λQ hQ r=>?_) hg⟩
    · have:=SAct.set (S:=T) (l:=H.things.length+1) hk ht ha et ea hn
      rw[put2_put1,eT] at this
      exact this
    · unfold put1
      split
      · trivial
      · exact hQ r
  · intro hk t a b u ht ha hb hu et ea eb eu
    unfold Hall.copy
    refine iteP (P:=λp:Hall × AnsM=>Good p.1->Main (s.step (c,H.things.length+1,p.2) c p.2) p.1) (λ_ _=>stay 5 (by omega) (by omega)) λhno hg=>?_
    by_cases e:u=t
    · subst e
      rw[step_add s _ et rfl (by omega) (by omega) (by omega) (λ_=>by omega)]
      rw[put2_put1] at hg ⊢
      refine⟨S,mk,hrun,h.inner ht (λT eT=>?_) (λQ hQ r=>?_) hg⟩
      · have:=SAct.copy (S:=T) (l:=H.things.length+1) hk ht ha hb hu et ea eb eu (λq=>absurd rfl q)
        rw[put2_put1,eT] at this
        exact this
      · unfold put1
        split
        · exact hQ b
        · exact hQ r
    · have o1:(H.deals t).isOpen=false:=by
        cases q:(H.deals t).isOpen with
        | false=>rfl
        | true=>exact absurd ⟨e,.inl q⟩ hno
      have o2:(H.deals u).isOpen=false:=by
        cases q:(H.deals u).isOpen with
        | false=>rfl
        | true=>exact absurd ⟨e,.inr q⟩ hno
      rw[step_copy s _ et eu rfl hk e]
      obtain⟨r1,k1⟩:=h.place hu o2
      obtain⟨r2,k2⟩:=k1.place ht o1
      have et2:put1 s.parts u [] t=s.parts t:=put1_other _ _ _ (λq=>e q.symm)
      rw[et2] at r2
      have k3:=k2.copyIn (a:=a) (b:=b) ht hu o1 o2 (put1_same _ _ _) (put1_same _ _ _) hg
      refine⟨{ st:=S.st,rg:=put2 (put1 (put1 S.rg u (H.regs u)) t (H.regs t)) t a (H.regs u b),cur:=S.cur },mk,?_,?_⟩
      · have act:=SAct.copy (S:={ S with rg:=put1 (put1 S.rg u (H.regs u)) t (H.regs t) }) (l:=H.things.length+1) hk ht ha hb hu et ea eb eu (λ_=>h.cur)
        have e3:put1 (put1 S.rg u (H.regs u)) t (H.regs t) u b=H.regs u b:=by rw[put1_other _ _ _ e,put1_same]
        dsimp only at act
        rw[e3] at act
        have r3:=r2.snoc (e:=(c,H.things.length+1,AnsM.nil)) act
        have r4:=(hrun.append r1).append r3
        show RunE sig0 ((s.ser++s.parts u)++put1 (put1 s.parts u []) t (put1 s.parts u [] t++[(c,H.things.length+1,AnsM.nil)]) t) { st:=S.st,rg:=put2 (put1 (put1 S.rg u (H.regs u)) t (H.regs t)) t a (H.regs u b),cur:=S.cur }
        rw[put1_same,et2]
        exact r4
      · show SerOk { H with regs:=put2 H.regs t a (H.regs u b) } { st:=S.st,rg:=put2 (put1 (put1 S.rg u (H.regs u)) t (H.regs t)) t a (H.regs u b),cur:=S.cur } (put1 (put1 (put1 s.parts u []) t (put1 s.parts u [] t++[(c,H.things.length+1,AnsM.nil)])) t []) s.op mk
        rw[put1_put1]
        exact k3
  · intro hk t a b ht ha hb et ea eb hg
    unfold Hall.same at hg ⊢
    rw[step_add s _ et rfl (by omega) (by omega) (by omega) (λq=>by omega)]
    have e1:put1 H.regs t (H.regs t)=H.regs:=put1_self _ _ rfl
    have:=h.inner (e:=(c,H.things.length+1,⟨0,false,0,decide (H.regs t a=H.regs t b),0,false,0⟩)) (R:=H.regs t) ht (λT eT=>by
      have:=SAct.same (S:=T) (l:=H.things.length+1) hk ht ha hb et ea eb
      rw[eT] at this
      rw[put1_self T.rg t eT]
      exact this) (λQ hQ=>hQ) (by rw[e1];exact hg)
    rw[e1] at this
    exact⟨S,mk,hrun,this⟩
  · intro k;omega
  · intro k;omega
  · intro k;omega
theorem SerOk.start (w:Nat):SerOk (hall0 w) sig0 (λ_=>[]) (λ_=>0) (λ_ _=>False) :=
  ⟨Good.start w,rfl,λi fs h=>(by cases h),λ_ _ _ _ _ h=>h.elim,λt _=>.inl ⟨rfl,ClosedOk.empty _ _,λ_=>trivial,λ_ h=>h⟩⟩
def ps0 {α:Type}:PS α:=⟨[],λ_=>[],λ_=>0⟩
theorem Main.start (w:Nat):Main ps0 (hall0 w):=⟨sig0,_,RunE.nil _,SerOk.start w⟩
theorem Main.place {s:PS Ent} {H:Hall} (h:Main s H) {t:Nat} (ht:t<4) (hs:(H.deals t).isOpen=false):Main (s.place t) H:=by
  obtain⟨S,mk,r,k⟩:=h
  obtain⟨r1,k1⟩:=k.place ht hs
  exact⟨_,mk,r.append r1,k1⟩
def PS.ends {α:Type} (s:PS α):PS α:=(((s.place 0).place 1).place 2).place 3
theorem Main.ends {s:PS Ent} {H:Hall} (h:Main s H) (hs:Shut H):Main s.ends H:=by
  have:∀t,t<4->(H.deals t).isOpen=false:=λt ht=>by rw[hs t ht];rfl
  exact (((h.place (by omega) (this 0 (by omega))).place (by omega) (this 1 (by omega))).place (by omega) (this 2 (by omega))).place (by omega) (this 3 (by omega))
def PS.map {α β:Type} (f:α->β) (s:PS α):PS β:=⟨s.ser.map f,λt=>(s.parts t).map f,s.op⟩
theorem map_put1 {α β:Type} (f:α->β) (p:Nat->List α) (t:Nat) (v:List α):(λu=>(put1 p t v u).map f)=put1 (λu=>(p u).map f) t (v.map f):=by
  funext u;unfold put1;split <;> rfl
theorem PS.map_place {α β:Type} (f:α->β) (s:PS α) (t:Nat):(s.place t).map f=(s.map f).place t:=by
  simp only [PS.map,PS.place,List.map_append,map_put1,List.map_nil]
theorem PS.map_add {α β:Type} (f:α->β) (s:PS α) (t:Nat) (x:α):(s.add t x).map f=(s.map f).add t (f x):=by
  simp only [PS.map,PS.add,List.map_append,map_put1,List.map_cons,List.map_nil]
theorem PS.map_step {α β:Type} (f:α->β) (s:PS α) (x:α) (c:ActM) (a:AnsM):(s.step x c a).map f=(s.map f).step (f x) c a:=by
  unfold PS.step
  split
  · simp only [PS.map,PS.cut,map_put1,List.map_take]
  · split
    · rfl
    · split
      · simp only [PS.map,PS.begins,List.map_append,map_put1,List.map_cons,List.map_nil,List.length_map]
      · split
        · rw[PS.map_place,PS.map_add,PS.map_place]
        · split
          · rw[PS.map_place,PS.map_add]
          · rw[PS.map_add]
theorem PS.map_ends {α β:Type} (f:α->β) (s:PS α):s.ends.map f=(s.map f).ends:=by
  unfold PS.ends
  rw[PS.map_place,PS.map_place,PS.map_place,PS.map_place]
def nilAct:ActM:=⟨0,0,0,0,0⟩
def keptPS (A:List ActM) (X:List AnsM):Nat->PS Nat
  | 0=>ps0
  | k+1=>(keptPS A X k).step k (A.getD k nilAct) (X.getD k .nil)
noncomputable def entOf (A:List ActM) (i:Nat):Ent:=(A.getD i nilAct,((hall0 400).runs (A.take i)).things.length+1,((hall0 400).answers A).getD i .nil)
theorem run_at (A:List ActM) {k:Nat} (hk:k<A.length):(hall0 400).runs (A.take (k+1))=(((hall0 400).runs (A.take k)).act (A.getD k nilAct)).1/\((hall0 400).answers A).getD k .nil=(((hall0 400).runs (A.take k)).act (A.getD k nilAct)).2:=by
  have e:A.getD k nilAct=A[k]:=by rw[List.getD_eq_getElem?_getD,List.getElem?_eq_getElem hk];rfl
  rw[e]
  refine⟨by rw[List.take_succ_eq_append_getElem hk,runs_append];rfl,?_⟩
  have e2:A=A.take k++(A[k] :: A.drop (k+1)):=by rw[<- List.drop_eq_getElem_cons hk,List.take_append_drop]
  have e3:(hall0 400).answers A=(hall0 400).answers (A.take k)++(((hall0 400).runs (A.take k)).act A[k]).2 :: (((hall0 400).runs (A.take k)).act A[k]).1.answers (A.drop (k+1)):=by
    conv=>lhs;rw[e2]
    rw[answers_append];rfl
  rw[e3,List.getD_eq_getElem?_getD,List.getElem?_append_right (by rw[answers_len,List.length_take];omega),answers_len,List.length_take,Nat.min_eq_left (by omega),Nat.sub_self]
  rfl
theorem main_at (A:List ActM) (hA:∀c ∈ A,cleaning c=false):∀k,k<=A.length->Main ((keptPS A ((hall0 400).answers A) k).map (entOf A)) ((hall0 400).runs (A.take k))
  | 0,_=>by
    rw[List.take_zero]
    exact Main.start 400
  | k+1,hk=>by
    have ih:=main_at A hA k (by omega)
    obtain⟨e1,e2⟩:=run_at A (k:=k) (by omega)
    have hc:cleaning (A.getD k nilAct)=false:=by
      rw[List.getD_eq_getElem?_getD,List.getElem?_eq_getElem (by omega)]
      exact hA _ (List.getElem_mem _)
    have:=ih.step _ hc
    rw[e1]
    rw[keptPS,PS.map_step]
    have e3:entOf A k=(A.getD k nilAct,((hall0 400).runs (A.take k)).things.length+1,(((hall0 400).runs (A.take k)).act (A.getD k nilAct)).2):=by unfold entOf;rw[e2]
    rw[e3,e2]
    exact this
theorem kept_op (A:List ActM) (hA:∀c ∈ A,cleaning c=false) {k t:Nat} (hk:k<A.length) (ht:t<4) (et:(A.getD k nilAct).t=(t:Int)) (he:((A.getD k nilAct).kind=3/\(((hall0 400).answers A).getD k .nil).code=0)\/(((hall0 400).answers A).getD k .nil).code=6) :
    (keptPS A ((hall0 400).answers A) k).op t<((keptPS A ((hall0 400).answers A) k).parts t).length:=by
  obtain⟨S,mk,_,h⟩:=main_at A hA k (by omega)
  have e2:=(run_at A hk).2
  rw[e2] at he
  generalize (hall0 400).runs (A.take k)=H at h he
  have hc:cleaning (A.getD k nilAct)=false:=by
    rw[List.getD_eq_getElem?_getD,List.getElem?_eq_getElem (by omega)]
    exact hA _ (List.getElem_mem _)
  generalize A.getD k nilAct=c at he et hc
  have ho:(H.deals t).isOpen=true:=by
    have hc2:=hc
    simp only [cleaning,Bool.or_eq_false_iff,beq_eq_false_iff_ne] at hc2
    revert he
    refine act_ind (P:=λp=>(c.kind=3/\p.2.code=0)\/p.2.code=6->(H.deals t).isOpen=true) H c ?_ ?_ ?_ ?_ ?_ ?_ ?_ ?_ ?_ ?_ ?_ ?_ ?_
    · intro e he q;simp only [AnsM.err] at q;omega
    · intro hk u _ _
      unfold Hall.begin
      exact iteP (P:=λp:Hall × AnsM=>(c.kind=3/\p.2.code=0)\/p.2.code=6->(H.deals t).isOpen=true) (λ_ q=>by simp only [AnsM.err] at q;omega) λ_ q=>by simp only [AnsM.nil] at q;omega
    · intro hk u _ eu
      have:u=t:=by omega
      subst this
      unfold Hall.commit
      exact iteP (P:=λp:Hall × AnsM=>(c.kind=3/\p.2.code=0)\/p.2.code=6->(H.deals u).isOpen=true) (λ_ q=>by simp only [AnsM.err] at q;omega) λho _=>by simpa using ho
    · intro hk u _ eu
      have:u=t:=by omega
      subst this
      unfold Hall.abort
      exact iteP (P:=λp:Hall × AnsM=>(c.kind=3/\p.2.code=0)\/p.2.code=6->(H.deals u).isOpen=true) (λ_ q=>by simp only [AnsM.err] at q;omega) λho _=>by simpa using ho
    · intro hk u a _ _ _ _
      unfold Hall.new
      refine iteP (P:=λp:Hall × AnsM=>(c.kind=3/\p.2.code=0)\/p.2.code=6->(H.deals t).isOpen=true) (λ_ q=>by simp only [AnsM.err] at q;omega) λ_=>?_
      refine iteP (P:=λp:Hall × AnsM=>(c.kind=3/\p.2.code=0)\/p.2.code=6->(H.deals t).isOpen=true) (λ_ q=>by simp only [AnsM.err] at q;omega) λ_=>?_
      exact iteP (P:=λp:Hall × AnsM=>(c.kind=3/\p.2.code=0)\/p.2.code=6->(H.deals t).isOpen=true) (λ_ q=>by simp only [AnsM.err] at q;omega) λ_ q=>by simp only [AnsM.nil] at q;omega
    · intro hk u a b _ _ _ eu _ _
      have:u=t:=by omega
      subst this
      unfold Hall.get
      refine iteP (P:=λp:Hall × AnsM=>(c.kind=3/\p.2.code=0)\/p.2.code=6->(H.deals u).isOpen=true) (λha _=>(acc_ok ha).1) λha q=>?_
      simp only [AnsM.err] at q
      rcases q with q|q
      · exact absurd q.2 ha
      · exact acc_open q
    · intro hk u a b _ _ _ eu _ _
      have:u=t:=by omega
      subst this
      unfold Hall.put
      refine iteP (P:=λp:Hall × AnsM=>(c.kind=3/\p.2.code=0)\/p.2.code=6->(H.deals u).isOpen=true) (λha _=>(acc_ok ha).1) λha q=>?_
      simp only [AnsM.err] at q
      rcases q with q|q
      · exact absurd q.2 ha
      · exact acc_open q
    · intro hk u a _ _ _ _
      unfold Hall.set
      exact iteP (P:=λp:Hall × AnsM=>(c.kind=3/\p.2.code=0)\/p.2.code=6->(H.deals t).isOpen=true) (λ_ q=>by simp only [told] at q;omega) λ_ q=>by simp only [AnsM.err] at q;omega
    · intro hk u a b v _ _ _ _ _ _ _ _
      unfold Hall.copy
      exact iteP (P:=λp:Hall × AnsM=>(c.kind=3/\p.2.code=0)\/p.2.code=6->(H.deals t).isOpen=true) (λ_ q=>by simp only [AnsM.err] at q;omega) λ_ q=>by simp only [AnsM.nil] at q;omega
    · intro hk u a b _ _ _ _ _ _ q
      unfold Hall.same at q
      dsimp only at q
      omega
    · intro k;omega
    · intro k;omega
    · intro k;omega
  have:=(h.opened ht ho).pre.1
  simpa [PS.map] using this
def PS.cnt {α:Type} (s:PS α):Nat:=s.ser.length+(s.parts 0).length+(s.parts 1).length+(s.parts 2).length+(s.parts 3).length
theorem four {t:Nat} (h:t<4):t=0\/t=1\/t=2\/t=3:=by omega
theorem PS.cnt_place {α:Type} (s:PS α) {t:Nat} (ht:t<4):(s.place t).cnt=s.cnt:=by
  unfold PS.cnt PS.place put1
  rcases four ht with rfl|rfl|rfl|rfl <;> simp <;> omega
theorem PS.cnt_add {α:Type} (s:PS α) {t:Nat} (ht:t<4) (x:α):(s.add t x).cnt=s.cnt+1:=by
  unfold PS.cnt PS.add put1
  rcases four ht with rfl|rfl|rfl|rfl <;> simp <;> omega
theorem PS.cnt_cut {α:Type} (s:PS α) {t:Nat} (ht:t<4):(s.cut t).cnt<=s.cnt+1:=by
  have h:∀l:List α,(l.take (s.op t)).length<=l.length:=λl=>by rw[List.length_take];omega
  have h0:=h (s.parts 0);have h1:=h (s.parts 1);have h2:=h (s.parts 2);have h3:=h (s.parts 3)
  unfold PS.cnt PS.cut
  dsimp only
  rcases four ht with rfl|rfl|rfl|rfl
  · rw[put1_same,put1_other _ _ _ (show (1:Nat)≠0 by omega),put1_other _ _ _ (show (2:Nat)≠0 by omega),put1_other _ _ _ (show (3:Nat)≠0 by omega)];omega
  · rw[put1_same,put1_other _ _ _ (show (0:Nat)≠1 by omega),put1_other _ _ _ (show (2:Nat)≠1 by omega),put1_other _ _ _ (show (3:Nat)≠1 by omega)];omega
  · rw[put1_same,put1_other _ _ _ (show (0:Nat)≠2 by omega),put1_other _ _ _ (show (1:Nat)≠2 by omega),put1_other _ _ _ (show (3:Nat)≠2 by omega)];omega
  · rw[put1_same,put1_other _ _ _ (show (0:Nat)≠3 by omega),put1_other _ _ _ (show (1:Nat)≠3 by omega),put1_other _ _ _ (show (2:Nat)≠3 by omega)];omega
theorem PS.cnt_step {α:Type} (s:PS α) (x:α) (c:ActM) (a:AnsM) (ht:c.t.toNat<4) (hn:c.n.toNat<4\/c.kind≠8):(s.step x c a).cnt<=s.cnt+1:=by
  unfold PS.step
  refine iteP (P:=λp:PS α=>p.cnt<=s.cnt+1) (λ_=>PS.cnt_cut s ht) λ_=>?_
  refine iteP (P:=λp:PS α=>p.cnt<=s.cnt+1) (λ_=>by omega) λ_=>?_
  refine iteP (P:=λp:PS α=>p.cnt<=s.cnt+1) (λ_=>?_) λ_=>?_
  · have h:=PS.cnt_add s ht x
    have e:(s.begins c.t.toNat x).cnt=(s.add c.t.toNat x).cnt:=rfl
    omega
  refine iteP (P:=λp:PS α=>p.cnt<=s.cnt+1) (λq=>?_) λ_=>?_
  · rw[PS.cnt_place _ ht,PS.cnt_add _ ht,PS.cnt_place _ (hn.resolve_right (λe=>e q.1))]
    omega
  refine iteP (P:=λp:PS α=>p.cnt<=s.cnt+1) (λ_=>?_) λ_=>?_
  · rw[PS.cnt_place _ ht,PS.cnt_add _ ht];omega
  · rw[PS.cnt_add _ ht];omega
def ThrAct (c:ActM):Prop:=cleaning c=false/\c.t.toNat<4/\0<=c.t/\(c.n.toNat<4\/c.kind≠8)/\takes c<=5
theorem thr_at {A:List ActM} (hA:∀c ∈ A,ThrAct c) {k:Nat} (hk:k<A.length):ThrAct (A.getD k nilAct):=by
  rw[List.getD_eq_getElem?_getD,List.getElem?_eq_getElem hk]
  exact hA _ (List.getElem_mem _)
theorem kept_cnt (A:List ActM) (X:List AnsM) (hA:∀c ∈ A,ThrAct c):∀k,k<=A.length->(keptPS A X k).cnt<=k
  | 0,_=>by simp[keptPS,ps0,PS.cnt]
  | k+1,hk=>by
    have ih:=kept_cnt A X hA k (by omega)
    have h:=thr_at hA (k:=k) (by omega)
    have:=PS.cnt_step (keptPS A X k) k (A.getD k nilAct) (X.getD k .nil) h.2.1 h.2.2.2.1
    rw[keptPS];omega
structure AllIn {α:Type} (Q:α->Prop) (s:PS α):Prop where
  ser:∀x ∈ s.ser,Q x
  parts:∀t,∀x ∈ s.parts t,Q x
theorem all_put {α:Type} {Q:α->Prop} {p:Nat->List α} (h:∀t,∀x ∈ p t,Q x) (t:Nat) {v:List α} (hv:∀x ∈ v,Q x):∀u,∀x ∈ put1 p t v u,Q x:=by
  intro u;unfold put1;split
  · exact hv
  · exact h u
theorem all_snoc {α:Type} {Q:α->Prop} {v:List α} (h:∀x ∈ v,Q x) {y:α} (hy:Q y):∀x ∈ v++[y],Q x:=by
  intro x hx
  rcases List.mem_append.1 hx with hx|hx
  · exact h x hx
  · rw[List.mem_singleton.1 hx];exact hy
theorem AllIn.place {α:Type} {Q:α->Prop} {s:PS α} (h:AllIn Q s) (t:Nat):AllIn Q (s.place t) :=
  ⟨λx hx=>(List.mem_append.1 hx).elim (h.1 x) (h.2 t x),all_put h.2 t (λx hx=>by cases hx)⟩
theorem AllIn.add {α:Type} {Q:α->Prop} {s:PS α} (h:AllIn Q s) (t:Nat) {x:α} (hx:Q x):AllIn Q (s.add t x):=⟨h.1,all_put h.2 t (all_snoc (h.2 t) hx)⟩
theorem AllIn.step {α:Type} {Q:α->Prop} {s:PS α} (h:AllIn Q s) {x:α} (hx:Q x) (c:ActM) (a:AnsM):AllIn Q (s.step x c a):=by
  unfold PS.step
  split
  · exact⟨h.1,all_put h.2 _ (λx hx=>h.2 _ x (List.mem_of_mem_take hx))⟩
  · split
    · exact h
    · split
      · exact⟨h.1,all_put h.2 _ (all_snoc (h.2 _) hx)⟩
      · split
        · exact ((h.place _).add _ hx).place _
        · split
          · exact (h.add _ hx).place _
          · exact h.add _ hx
theorem AllIn.ends {α:Type} {Q:α->Prop} {s:PS α} (h:AllIn Q s):AllIn Q s.ends:=(((h.place 0).place 1).place 2).place 3
theorem kept_all (A:List ActM) (X:List AnsM):∀k,AllIn (· < k) (keptPS A X k)
  | 0=>⟨λx hx=>(by cases hx),λt x hx=>(by cases hx)⟩
  | k+1=>by
    have ih:=kept_all A X k
    exact AllIn.step (Q:=(· < k+1)) ⟨λx hx=>Nat.lt_succ_of_lt (ih.1 x hx),λt x hx=>Nat.lt_succ_of_lt (ih.2 t x hx)⟩ (Nat.lt_succ_self k) _ _
theorem needs_le:∀l:List ActM,(∀c ∈ l,takes c<=5)->needs l<=5 * l.length
  | [],_=>by simp[needs]
  | c :: l,h=>by
    have:=needs_le l (λd hd=>h d (by simp[hd]))
    have:=h c (by simp)
    rw[needs_cons,List.length_cons];omega
theorem serial_same (A:List ActM) (hA:∀c ∈ A++shutAll,ThrAct c) (hl:(A++shutAll).length<=75) {X:List AnsM} (hX:X=(hall0 400).answers (A++shutAll)) :
    ((keptPS (A++shutAll) X (A++shutAll).length).ends.ser).length<=(A++shutAll).length /\
    (hall0 400).answers (((keptPS (A++shutAll) X (A++shutAll).length).ends.ser).map λi=>(A++shutAll).getD i nilAct)=((keptPS (A++shutAll) X (A++shutAll).length).ends.ser).map λi=>X.getD i .nil:=by
  subst hX
  have hcl:∀c ∈ A++shutAll,cleaning c=false:=λc hc=>(hA c hc).1
  have hm:=main_at (A++shutAll) hcl (A++shutAll).length (Nat.le_refl _)
  rw[List.take_length] at hm
  have hsh:Shut ((hall0 400).runs (A++shutAll)):=by
    rw[runs_append]
    exact shut_all (Good.runs A (Good.start 400) (λc hc=>hcl c (List.mem_append.2 (.inl hc)))).deals
  have hme:=hm.ends hsh
  rw[<- PS.map_ends] at hme
  obtain⟨S,mk,hr,_⟩:=hme
  have hcnt:((keptPS (A++shutAll) ((hall0 400).answers (A++shutAll)) (A++shutAll).length).ends.ser).length<=(A++shutAll).length:=by
    have h1:=kept_cnt (A++shutAll) ((hall0 400).answers (A++shutAll)) hA _ (Nat.le_refl _)
    have h2:(keptPS (A++shutAll) ((hall0 400).answers (A++shutAll)) (A++shutAll).length).ends.cnt=(keptPS (A++shutAll) ((hall0 400).answers (A++shutAll)) (A++shutAll).length).cnt:=by
      unfold PS.ends
      rw[PS.cnt_place _ (by omega),PS.cnt_place _ (by omega),PS.cnt_place _ (by omega),PS.cnt_place _ (by omega)]
    unfold PS.cnt at h1 h2
    omega
  refine⟨hcnt,?_⟩
  generalize hs:(keptPS (A++shutAll) ((hall0 400).answers (A++shutAll)) (A++shutAll).length).ends.ser=ser at hcnt hr ⊢
  have hall:∀i ∈ ser,i<(A++shutAll).length:=by
    rw[<- hs]
    exact (AllIn.ends (kept_all _ _ _)).ser
  have hr':SRun sig0 ((ser.map (entOf (A++shutAll))).map prog) ((ser.map (entOf (A++shutAll))).map ansE) S:=by
    have:=hr
    unfold RunE PS.map at this
    dsimp only at this
    rw[hs] at this
    exact this
  have e1:(((ser.map (entOf (A++shutAll))).map prog).map (·.1))=ser.map λi=>(A++shutAll).getD i nilAct:=by
    rw[List.map_map,List.map_map];rfl
  have e2:((ser.map (entOf (A++shutAll))).map ansE)=ser.map λi=>((hall0 400).answers (A++shutAll)).getD i .nil:=by
    rw[List.map_map];rfl
  have hn:=needs_le (ser.map λi=>(A++shutAll).getD i nilAct) (λc hc=>by
    obtain⟨i,hi,rfl⟩:=List.mem_map.1 hc
    exact (thr_at hA (hall i hi)).2.2.2.2)
  rw[List.length_map] at hn
  have:=ser_run hr' Ser.start (by
    rw[e1]
    have z1:sizeOf (hall0 400).things=0:=rfl
    have z2:(hall0 400).words=400:=rfl
    rw[z1,z2];omega)
  rw[e1,e2] at this
  exact this
end Go.Proofs.Ytbeilcaadpopmac
