/- Texts put together: Hm, He, Hp, Hq, Hr, Hs, Hi, Hj. -/
import Derived.Lib.Hide
set_option linter.unusedVariables false
set_option linter.unusedSimpArgs false
namespace Go.Proofs.Ytbeilcaadpopmab
inductive V where
  | num (n:Int)
  | ref (i:Nat)
deriving DecidableEq
def V.id:V->Nat
  | .num _=>0
  | .ref i=>i
structure Thing where
  fields:List V
  version:Nat
  owner:Option Nat
  gone:Bool
  fresh:Bool
  kept:Bool
def noThing:Thing:=⟨[],0,none,true,false,false⟩
structure Deal where
  isOpen:Bool
  saved:Nat->V
  reads:List (Nat × Nat)
  owned:List (Nat × Nat)
  changes:List (Nat × Nat × V)
def Deal.addR (d:Deal) (c:Nat × Nat):Deal:={ d with reads:=d.reads++[c] }
def Deal.addO (d:Deal) (c:Nat × Nat):Deal:={ d with owned:=d.owned++[c] }
def Deal.addC (d:Deal) (c:Nat × Nat × V):Deal:={ d with changes:=d.changes++[c] }
def noDeal:Deal:=⟨false,λ_=>.num 0,[],[],[]⟩
structure Hall where
  words:Nat
  things:List Thing
  regs:Nat->Nat->V
  deals:Nat->Deal
  going:Bool
  left:Int
def Hall.thing (H:Hall) (n:Nat):Thing:=H.things.getD (n - 1) noThing
structure ActM where
  kind:Int
  t:Int
  a:Int
  b:Int
  n:Int
deriving DecidableEq
structure AnsM where
  code:Int
  is:Bool
  number:Int
  yes:Bool
  words:Int
  going:Bool
  freed:Int
deriving DecidableEq
def AnsM.nil:AnsM:=⟨0,false,0,false,0,false,0⟩
def AnsM.err (c:Int):AnsM:=⟨c,false,0,false,0,false,0⟩
def told:V->AnsM
  | .num n=>⟨0,true,n,false,0,false,0⟩
  | .ref _=>AnsM.nil
def usedOf:List Thing->Nat
  | []=>0
  | x :: l=>(if x.gone then 0 else 2+x.fields.length)+usedOf l
def Hall.used (H:Hall):Nat:=usedOf H.things
def turnT (l:List Thing) (n:Nat) (f:Thing->Thing):List Thing:=l.modify (n - 1) f
def freeT (x:Thing):Thing:={ x with owner:=none }
def bumpT (x:Thing):Thing:={ x with owner:=none,version:=x.version+1 }
def ownT (t:Nat) (x:Thing):Thing:={ x with owner:=some t }
def setT (k:Nat) (v:V) (x:Thing):Thing:={ x with fields:=x.fields.set k v }
def setF (l:List Thing) (n k:Nat) (v:V):List Thing:=turnT l n (setT k v)
def backF (l:List Thing):List (Nat × Nat × V)->List Thing
  | []=>l
  | c :: cs=>setF (backF l cs) c.1 c.2.1 c.2.2
def freeF (l:List Thing):List (Nat × Nat)->List Thing
  | []=>l
  | c :: cs=>freeF (turnT l c.1 freeT) cs
def bumpF (l:List Thing):List (Nat × Nat)->List Thing
  | []=>l
  | c :: cs=>bumpF (turnT l c.1 bumpT) cs
def put1 {α:Type} (f:Nat->α) (t:Nat) (v:α):Nat->α:=λk=>if k=t then v else f k
def put2 {α:Type} (f:Nat->Nat->α) (t r:Nat) (v:α):Nat->Nat->α:=λk i=>if k=t/\i=r then v else f k i
def Hall.undone (H:Hall) (t:Nat):Hall :=
  { H with things:=freeF (backF H.things (H.deals t).changes) (H.deals t).owned,regs:=put1 H.regs t (H.deals t).saved,deals:=put1 H.deals t noDeal }
def Hall.acc (H:Hall) (t r:Nat) (f:Int):Int :=
  if (H.deals t).isOpen=false then 5 else
  match H.regs t r with
  | .num _=>7
  | .ref n=>if n=0 then 7 else if ¬ (0<=f/\f<(H.thing n).fields.length) then 4 else if (H.thing n).owner=none\/(H.thing n).owner=some t then 0 else 6
def noted (l:List (Nat × Nat)) (n:Nat):Option Nat:=(l.find? λc=>c.1 == n).map (·.2)
def Hall.begin (H:Hall) (t:Nat):Hall × AnsM :=
  if (H.deals t).isOpen then (H,.err 5) else ({ H with deals:=put1 H.deals t ⟨true,H.regs t,[],[],[]⟩ },.nil)
def Hall.fits (H:Hall) (t:Nat):Bool:=(H.deals t).reads.all λc=>((H.thing c.1).owner == none || (H.thing c.1).owner == some t) && (H.thing c.1).version == c.2
def Hall.commit (H:Hall) (t:Nat):Hall × AnsM :=
  if (H.deals t).isOpen=false then (H,.err 5) else
  if H.fits t then ({ H with things:=bumpF H.things (H.deals t).owned,deals:=put1 H.deals t noDeal },.nil) else (H.undone t,.err 6)
def Hall.abort (H:Hall) (t:Nat):Hall × AnsM :=
  if (H.deals t).isOpen=false then (H,.err 5) else (H.undone t,.nil)
def Hall.new (H:Hall) (t a:Nat) (n:Int):Hall × AnsM :=
  if (H.deals t).isOpen=false then (H,.err 5) else
  if ¬ (0<=n/\n<=6) then (H,.err 2) else
  if 1+(H.used:Int)+2+n > H.words then (H,.err 1) else
  ({ H with things:=H.things++[⟨List.replicate n.toNat (.num 0),0,none,false,true,false⟩],regs:=put2 H.regs t a (.ref (H.things.length+1)) },.nil)
def Hall.readD (H:Hall) (t n:Nat):Nat->Deal :=
  if noted (H.deals t).reads n=none/\(H.thing n).owner≠some t then put1 H.deals t ((H.deals t).addR (n,(H.thing n).version)) else H.deals
theorem readD_cases (H:Hall) (t n:Nat):H.readD t n=H.deals\/(noted (H.deals t).reads n=none/\(H.thing n).owner≠some t/\H.readD t n=put1 H.deals t ((H.deals t).addR (n,(H.thing n).version))):=by
  unfold Hall.readD
  split
  · rename_i h;exact .inr ⟨h.1,h.2,rfl⟩
  · exact .inl rfl
def Hall.get (H:Hall) (t a b:Nat) (f:Int):Hall × AnsM :=
  if H.acc t b f=0 then
    ({ H with regs:=put2 H.regs t a ((H.thing (H.regs t b).id).fields.getD f.toNat (.num 0)),
              deals:=H.readD t (H.regs t b).id },
      told ((H.thing (H.regs t b).id).fields.getD f.toNat (.num 0)))
  else (if H.acc t b f=6 then H.undone t else H,.err (H.acc t b f))
def Hall.own (H:Hall) (t n:Nat):Hall :=
  if (H.thing n).owner=some t then H else
  { H with things:=turnT H.things n (ownT t),deals:=put1 H.deals t ((H.deals t).addO (n,(H.thing n).version)) }
def Hall.write (H:Hall) (t n k:Nat) (v:V):Hall :=
  { H with things:=setF H.things n k v,deals:=put1 H.deals t ((H.deals t).addC (n,k,(H.thing n).fields.getD k (.num 0))) }
def Hall.put (H:Hall) (t a b:Nat) (f:Int):Hall × AnsM :=
  if H.acc t a f=0 then ((H.own t (H.regs t a).id).write t (H.regs t a).id f.toNat (H.regs t b),.nil)
  else (if H.acc t a f=6 then H.undone t else H,.err (H.acc t a f))
def Hall.set (H:Hall) (t a:Nat) (n:Int):Hall × AnsM :=
  if -1099511627776<=n/\n<=1099511627776 then ({ H with regs:=put2 H.regs t a (.num n) },told (.num n)) else (H,.err 2)
def Hall.copy (H:Hall) (t a b u:Nat):Hall × AnsM :=
  if u≠t/\((H.deals t).isOpen\/(H.deals u).isOpen) then (H,.err 5) else ({ H with regs:=put2 H.regs t a (H.regs u b) },.nil)
def Hall.same (H:Hall) (t a b:Nat):Hall × AnsM:=(H,⟨0,false,0,decide (H.regs t a=H.regs t b),0,false,0⟩)
def heldBy (H:Hall) (t:Nat):List Nat :=
  (List.range 4).map (λr=>(H.regs t r).id)++(List.range 4).map (λr=>((H.deals t).saved r).id)++(H.deals t).changes.map (λc=>c.2.2.id)++(H.deals t).reads.map (·.1)++(H.deals t).owned.map (·.1)
def Hall.roots (H:Hall):List Nat:=(List.range 4).flatMap (heldBy H)
inductive HReach (l:List Thing) (rs:List Nat):Nat->Prop
  | root {i:Nat}:i ∈ rs->i≠0->HReach l rs i
  | field {i j:Nat}:HReach l rs i->.ref j ∈ (l.getD (i - 1) noThing).fields->j≠0->HReach l rs j
open Classical in
noncomputable def keptB (l:List Thing) (rs:List Nat) (i:Nat):Bool:=decide (HReach l rs i)
noncomputable def keptF (l:List Thing) (rs:List Nat):List Thing:=l.mapIdx λk x=>{ x with fresh:=false,kept:=keptB l rs (k+1) }
def keptN (l:List Thing):Nat:=(l.filter (·.kept)).length
noncomputable def Hall.collect (H:Hall):Hall × AnsM :=
  if H.going then (H,.err 5) else ({ H with things:=keptF H.things H.roots,going:=true,left:=keptN (keptF H.things H.roots) },.nil)
def sweepF (l:List Thing):List Thing:=l.map λx=>{ x with gone:=x.gone || (!x.kept && !x.fresh) }
def Hall.step (H:Hall) (n:Int):Hall × AnsM :=
  if ¬ (1<=n/\n<=400) then (H,.err 2) else
  if H.going=false then (H,.err 5) else
  if H.left - n<=0 then ({ H with things:=sweepF H.things,going:=false,left:=H.left - n },⟨0,false,0,false,0,false,(usedOf H.things:Int) - usedOf (sweepF H.things)⟩)
  else ({ H with left:=H.left - n },.nil)
def in3 (x:Int):Bool:=decide (0<=x/\x<=3)
def ActM.okR (c:ActM):Bool :=
  (decide (10<=c.kind) || in3 c.t) && (decide (c.kind<=3\/10<=c.kind) || in3 c.a) && (decide (c.kind<=4\/c.kind=7\/10<=c.kind) || in3 c.b) && (decide (c.kind≠8) || in3 c.n)
noncomputable def Hall.act (H:Hall) (c:ActM):Hall × AnsM :=
  if ¬ (1<=c.kind/\c.kind<=12) then (H,.err 3) else
  if c.okR=false then (H,.err 2) else
  if c.kind=1 then H.begin c.t.toNat else
  if c.kind=2 then H.commit c.t.toNat else
  if c.kind=3 then H.abort c.t.toNat else
  if c.kind=4 then H.new c.t.toNat c.a.toNat c.n else
  if c.kind=5 then H.get c.t.toNat c.a.toNat c.b.toNat c.n else
  if c.kind=6 then H.put c.t.toNat c.a.toNat c.b.toNat c.n else
  if c.kind=7 then H.set c.t.toNat c.a.toNat c.n else
  if c.kind=8 then H.copy c.t.toNat c.a.toNat c.b.toNat c.n.toNat else
  if c.kind=9 then H.same c.t.toNat c.a.toNat c.b.toNat else
  if c.kind=10 then H.collect else
  if c.kind=11 then H.step c.n else
  (H,⟨0,false,0,false,H.used,H.going,0⟩)
def hall0 (words:Nat):Hall:=⟨words,[],λ_ _=>.num 0,λ_=>noDeal,false,0⟩
noncomputable def Hall.runs (H:Hall):List ActM->Hall
  | []=>H
  | c :: l=>Hall.runs (H.act c).1 l
noncomputable def Hall.answers (H:Hall):List ActM->List AnsM
  | []=>[]
  | c :: l=>(H.act c).2 :: Hall.answers (H.act c).1 l
theorem runs_append (H:Hall):∀(a b:List ActM),H.runs (a++b)=(H.runs a).runs b
  | [],b=>rfl
  | c :: a,b=>runs_append _ a b
theorem answers_append:∀(H:Hall) (a b:List ActM),H.answers (a++b)=H.answers a++(H.runs a).answers b
  | H,[],b=>rfl
  | H,c :: a,b=>by simp only [List.cons_append,Hall.answers,Hall.runs,answers_append _ a b]
theorem answers_len:∀(H:Hall) (a:List ActM),(H.answers a).length=a.length
  | H,[]=>rfl
  | H,c :: a=>by simp only [Hall.answers,List.length_cons,answers_len _ a]
theorem iteP {α:Type} {P:α->Prop} {b:Prop} [Decidable b] {p q:α} (h1:b->P p) (h2:¬ b->P q):P (if b then p else q):=by
  split
  · exact h1 ‹_›
  · exact h2 ‹_›
theorem act_ind {P:Hall × AnsM->Prop} (H:Hall) (c:ActM)
    (hstay:∀e,(e=3/\¬ (1<=c.kind/\c.kind<=12))\/(e=2/\1<=c.kind/\c.kind<=12/\c.okR=false)->P (H,.err e))
    (hbegin:c.kind=1->∀(t:Nat),t<4->c.t=(t:Int)->P (H.begin t))
    (hcommit:c.kind=2->∀(t:Nat),t<4->c.t=(t:Int)->P (H.commit t))
    (habort:c.kind=3->∀(t:Nat),t<4->c.t=(t:Int)->P (H.abort t))
    (hnew:c.kind=4->∀(t a:Nat),t<4->a<4->c.t=(t:Int)->c.a=(a:Int)->P (H.new t a c.n))
    (hget:c.kind=5->∀(t a b:Nat),t<4->a<4->b<4->c.t=(t:Int)->c.a=(a:Int)->c.b=(b:Int)->P (H.get t a b c.n))
    (hput:c.kind=6->∀(t a b:Nat),t<4->a<4->b<4->c.t=(t:Int)->c.a=(a:Int)->c.b=(b:Int)->P (H.put t a b c.n))
    (hset:c.kind=7->∀(t a:Nat),t<4->a<4->c.t=(t:Int)->c.a=(a:Int)->P (H.set t a c.n))
    (hcopy:c.kind=8->∀(t a b u:Nat),t<4->a<4->b<4->u<4->c.t=(t:Int)->c.a=(a:Int)->c.b=(b:Int)->c.n=(u:Int)->P (H.copy t a b u))
    (hsame:c.kind=9->∀(t a b:Nat),t<4->a<4->b<4->c.t=(t:Int)->c.a=(a:Int)->c.b=(b:Int)->P (H.same t a b))
    (hcollect:c.kind=10->P H.collect)
    (hstep:c.kind=11->P (H.step c.n))
    (hstat:c.kind=12->P (H,⟨0,false,0,false,H.used,H.going,0⟩)):P (H.act c):=by
  unfold Hall.act
  refine iteP (λh=>hstay 3 (.inl ⟨rfl,h⟩)) λh0=>?_
  refine iteP (λh=>hstay 2 (.inr ⟨rfl,by omega,by omega,h⟩)) λh1=>?_
  have h1':c.okR=true:=by simpa using h1
  unfold ActM.okR in3 at h1'
  simp only [Bool.and_eq_true,Bool.or_eq_true,decide_eq_true_eq] at h1'
  obtain⟨⟨⟨a1,a2⟩,a3⟩,a4⟩:=h1'
  have pn:∀x:Int,0<=x/\x<=3->x.toNat<4/\x=(x.toNat:Int):=λx h=>by omega
  have pt:c.kind<=9->c.t.toNat<4/\c.t=(c.t.toNat:Int):=λh=>pn _ (by omega)
  have pa:4<=c.kind->c.kind<=9->c.a.toNat<4/\c.a=(c.a.toNat:Int):=λh h'=>pn _ (by omega)
  have pb:5<=c.kind->c.kind<=9->c.kind≠7->c.b.toNat<4/\c.b=(c.b.toNat:Int):=λh h' h''=>pn _ (by omega)
  have pu:c.kind=8->c.n.toNat<4/\c.n=(c.n.toNat:Int):=λh=>pn _ (by omega)
  refine iteP (λh=>hbegin h _ (pt (by omega)).1 (pt (by omega)).2) λn1=>?_
  refine iteP (λh=>hcommit h _ (pt (by omega)).1 (pt (by omega)).2) λn2=>?_
  refine iteP (λh=>habort h _ (pt (by omega)).1 (pt (by omega)).2) λn3=>?_
  refine iteP (λh=>hnew h _ _ (pt (by omega)).1 (pa (by omega) (by omega)).1 (pt (by omega)).2 (pa (by omega) (by omega)).2) λn4=>?_
  refine iteP (λh=>hget h _ _ _ (pt (by omega)).1 (pa (by omega) (by omega)).1 (pb (by omega) (by omega) (by omega)).1 (pt (by omega)).2 (pa (by omega) (by omega)).2 (pb (by omega) (by omega) (by omega)).2) λn5=>?_
  refine iteP (λh=>hput h _ _ _ (pt (by omega)).1 (pa (by omega) (by omega)).1 (pb (by omega) (by omega) (by omega)).1 (pt (by omega)).2 (pa (by omega) (by omega)).2 (pb (by omega) (by omega) (by omega)).2) λn6=>?_
  refine iteP (λh=>hset h _ _ (pt (by omega)).1 (pa (by omega) (by omega)).1 (pt (by omega)).2 (pa (by omega) (by omega)).2) λn7=>?_
  refine iteP (λh=>hcopy h _ _ _ _ (pt (by omega)).1 (pa (by omega) (by omega)).1 (pb (by omega) (by omega) (by omega)).1 (pu h).1 (pt (by omega)).2 (pa (by omega) (by omega)).2 (pb (by omega) (by omega) (by omega)).2 (pu h).2) λn8=>?_
  refine iteP (λh=>hsame h _ _ _ (pt (by omega)).1 (pa (by omega) (by omega)).1 (pb (by omega) (by omega) (by omega)).1 (pt (by omega)).2 (pa (by omega) (by omega)).2 (pb (by omega) (by omega) (by omega)).2) λn9=>?_
  refine iteP hcollect λn10=>?_
  refine iteP hstep λn11=>?_
  exact hstat (by omega)
def lens (l:List Thing):List Nat:=l.map λx=>x.fields.length
theorem lens_turn (f:Thing->Thing) (h:∀x,(f x).fields.length=x.fields.length):∀(l:List Thing) (n:Nat),lens (turnT l n f)=lens l:=by
  intro l n
  unfold turnT lens
  generalize n - 1=i
  induction l generalizing i with
  | nil=>simp
  | cons x l ih =>
    cases i with
    | zero=>simp[h]
    | succ i=>simpa using ih i
theorem lens_setF (l:List Thing) (n k:Nat) (v:V):lens (setF l n k v)=lens l:=lens_turn (setT k v) (λx=>by simp[setT]) l n
theorem lens_backF (l:List Thing):∀cs,lens (backF l cs)=lens l
  | []=>rfl
  | c :: cs=>by rw[backF,lens_setF,lens_backF l cs]
theorem lens_freeF:∀(cs:List (Nat × Nat)) (l:List Thing),lens (freeF l cs)=lens l
  | [],l=>rfl
  | c :: cs,l=>by rw[freeF,lens_freeF cs,lens_turn freeT λ_=>rfl]
theorem lens_bumpF:∀(cs:List (Nat × Nat)) (l:List Thing),lens (bumpF l cs)=lens l
  | [],l=>rfl
  | c :: cs,l=>by rw[bumpF,lens_bumpF cs,lens_turn bumpT λ_=>rfl]
theorem lens_undone (H:Hall) (t:Nat):lens (H.undone t).things=lens H.things:=by
  show lens (freeF (backF H.things (H.deals t).changes) (H.deals t).owned)=_
  rw[lens_freeF,lens_backF]
theorem lens_kept (l:List Thing) (rs:List Nat):lens (keptF l rs)=lens l:=by
  unfold keptF lens
  refine List.ext_getElem (by simp) λi h1 h2=>by simp
theorem lens_sweep (l:List Thing):lens (sweepF l)=lens l:=by
  unfold sweepF lens
  rw[List.map_map]
  rfl
theorem lens_len (l:List Thing):(lens l).length=l.length:=by simp[lens]
theorem act_lens (H:Hall) (c:ActM):(H.act c).1.words=H.words/\(lens (H.act c).1.things=lens H.things\/(c.kind=4/\0<=c.n/\c.n<=6/\lens (H.act c).1.things=lens H.things++[c.n.toNat])):=by
  refine act_ind (P:=λp=>p.1.words=H.words/\(lens p.1.things=lens H.things\/(c.kind=4/\0<=c.n/\c.n<=6/\lens p.1.things=lens H.things++[c.n.toNat]))) H c ?_ ?_ ?_ ?_ ?_ ?_ ?_ ?_ ?_ ?_ ?_ ?_ ?_
  · intro e _;exact⟨rfl,.inl rfl⟩
  · intro _ t _ _;unfold Hall.begin;split <;> exact⟨rfl,.inl rfl⟩
  · intro _ t _ _;unfold Hall.commit;split
    · exact⟨rfl,.inl rfl⟩
    · split
      · exact⟨rfl,.inl (lens_bumpF _ _)⟩
      · exact⟨rfl,.inl (lens_undone _ _)⟩
  · intro _ t _ _;unfold Hall.abort;split
    · exact⟨rfl,.inl rfl⟩
    · exact⟨rfl,.inl (lens_undone _ _)⟩
  · intro hk t a _ _ _ _;unfold Hall.new;split
    · exact⟨rfl,.inl rfl⟩
    · split
      · exact⟨rfl,.inl rfl⟩
      · split
        · exact⟨rfl,.inl rfl⟩
        · refine⟨rfl,.inr ⟨hk,by omega,by omega,?_⟩⟩
          simp[lens]
  · intro _ t a b _ _ _ _ _ _;unfold Hall.get;split
    · exact⟨rfl,.inl rfl⟩
    · dsimp only
      split
      · exact⟨rfl,.inl (lens_undone _ _)⟩
      · exact⟨rfl,.inl rfl⟩
  · intro _ t a b _ _ _ _ _ _;unfold Hall.put;split
    · have e:∀(G:Hall) (n k:Nat) (v:V),(G.write t n k v).words=G.words/\lens (G.write t n k v).things=lens G.things:=λG n k v=>⟨rfl,lens_setF _ _ _ _⟩
      have e2:∀n,(H.own t n).words=H.words/\lens (H.own t n).things=lens H.things:=λn=>by
        unfold Hall.own
        split
        · exact⟨rfl,rfl⟩
        · exact⟨rfl,lens_turn (ownT t) (λ_=>rfl) _ _⟩
      exact⟨(e _ _ _ _).1.trans (e2 _).1,.inl ((e _ _ _ _).2.trans (e2 _).2)⟩
    · dsimp only
      split
      · exact⟨rfl,.inl (lens_undone _ _)⟩
      · exact⟨rfl,.inl rfl⟩
  · intro _ t a _ _ _ _;unfold Hall.set;split <;> exact⟨rfl,.inl rfl⟩
  · intro _ t a b u _ _ _ _ _ _ _ _;unfold Hall.copy;split <;> exact⟨rfl,.inl rfl⟩
  · intro _ t a b _ _ _ _ _ _;exact⟨rfl,.inl rfl⟩
  · intro _;unfold Hall.collect;split
    · exact⟨rfl,.inl rfl⟩
    · exact⟨rfl,.inl (lens_kept _ _)⟩
  · intro _;unfold Hall.step;split
    · exact⟨rfl,.inl rfl⟩
    · split
      · exact⟨rfl,.inl rfl⟩
      · split
        · exact⟨rfl,.inl (lens_sweep _)⟩
        · exact⟨rfl,.inl rfl⟩
  · intro _;exact⟨rfl,.inl rfl⟩
end Go.Proofs.Ytbeilcaadpopmab
namespace Go.Proofs.Ytbeilcaadpopmab
end Go.Proofs.Ytbeilcaadpopmab
namespace Go.Proofs.Ytbeilcaadpopmab
def sizeOf (l:List Thing):Nat:=(l.map λx=>2+x.fields.length).sum
def cleaning (c:ActM):Bool:=c.kind == 10 || c.kind == 11 || c.kind == 12
def takes (c:ActM):Nat:=if c.kind=4/\0<=c.n/\c.n<=6 then 2+c.n.toNat else 0
end Go.Proofs.Ytbeilcaadpopmab
namespace Go.Proofs.Ytbeilcaadpopmab
theorem size_lens (l:List Thing):sizeOf l=((lens l).map (2 + ·)).sum:=by simp only [sizeOf,lens,List.map_map];rfl
theorem act_size (H:Hall) (c:ActM):(H.act c).1.words=H.words/\sizeOf (H.act c).1.things<=sizeOf H.things+takes c:=by
  obtain⟨h1,h2⟩:=act_lens H c
  refine⟨h1,?_⟩
  rw[size_lens,size_lens]
  rcases h2 with h2|⟨hk,hn1,hn2,h2⟩
  · rw[h2];omega
  · rw[h2]
    unfold takes
    rw[if_pos ⟨hk,hn1,hn2⟩]
    simp
def needs (l:List ActM):Nat:=(l.map takes).sum
theorem needs_cons (c:ActM) (l:List ActM):needs (c :: l)=takes c+needs l:=by simp[needs]
theorem keptN_le (l:List Thing):keptN l<=l.length:=List.length_filter_le _ _
theorem undone_len (H:Hall) (t:Nat):(H.undone t).things.length=H.things.length:=by
  have:=congrArg List.length (lens_undone H t)
  rwa [lens_len,lens_len] at this
theorem bump_len (cs:List (Nat × Nat)) (l:List Thing):(bumpF l cs).length=l.length:=by
  have:=congrArg List.length (lens_bumpF cs l)
  rwa [lens_len,lens_len] at this
end Go.Proofs.Ytbeilcaadpopmab
namespace Go.Proofs.Ytbeilcaadpopmab
def DealsOk (H:Hall):Prop:=∀t,(H.deals t).isOpen=false->H.deals t=noDeal
theorem dealsOk_put {H G:Hall} (h:DealsOk H) {t:Nat} {d:Deal} (e:G.deals=put1 H.deals t d) (hd:d.isOpen=false->d=noDeal):DealsOk G:=by
  intro u
  rw[e]
  unfold put1
  split
  · exact hd
  · exact h u
theorem act_deals (H:Hall) (c:ActM) (h:DealsOk H):DealsOk (H.act c).1:=by
  have hu:∀t,DealsOk (H.undone t):=λt=>dealsOk_put h (t:=t) (d:=noDeal) rfl λ_=>rfl
  refine act_ind (P:=λp=>DealsOk p.1) H c ?_ ?_ ?_ ?_ ?_ ?_ ?_ ?_ ?_ ?_ ?_ ?_ ?_
  · intro e _;exact h
  · intro _ t _ _;unfold Hall.begin;exact iteP (P:=λp:Hall × AnsM=>DealsOk p.1) (λ_=>h) λ_=>dealsOk_put h rfl λe=>by cases e
  · intro _ t _ _;unfold Hall.commit
    refine iteP (P:=λp:Hall × AnsM=>DealsOk p.1) (λ_=>h) λ_=>?_
    exact iteP (P:=λp:Hall × AnsM=>DealsOk p.1) (λ_=>dealsOk_put h rfl λ_=>rfl) λ_=>hu t
  · intro _ t _ _;unfold Hall.abort
    exact iteP (P:=λp:Hall × AnsM=>DealsOk p.1) (λ_=>h) λ_=>hu t
  · intro _ t a _ _ _ _;unfold Hall.new
    refine iteP (P:=λp:Hall × AnsM=>DealsOk p.1) (λ_=>h) λ_=>?_
    refine iteP (P:=λp:Hall × AnsM=>DealsOk p.1) (λ_=>h) λ_=>?_
    exact iteP (P:=λp:Hall × AnsM=>DealsOk p.1) (λ_=>h) λ_=>h
  · intro _ t a b _ _ _ _ _ _;unfold Hall.get
    refine iteP (P:=λp:Hall × AnsM=>DealsOk p.1) (λhc=>?_) λ_=>?_
    · have ho:(H.deals t).isOpen=true:=by
        unfold Hall.acc at hc
        split at hc
        · cases hc
        · rename_i h1;simpa using h1
      rcases readD_cases H t (H.regs t b).id with e|⟨_,_,e⟩
      · intro u hu
        have hu':(H.readD t (H.regs t b).id u).isOpen=false:=hu
        show H.readD t (H.regs t b).id u=noDeal
        rw[e] at hu' ⊢
        exact h u hu'
      · exact dealsOk_put h (by exact e) λe=>by have e':(H.deals t).isOpen=false:=e;rw[ho] at e';cases e'
    · show DealsOk (if H.acc t b c.n=6 then H.undone t else H)
      exact iteP (λ_=>hu t) λ_=>h
  · intro _ t a b _ _ _ _ _ _;unfold Hall.put
    refine iteP (P:=λp:Hall × AnsM=>DealsOk p.1) (λhc=>?_) λ_=>?_
    · have ho:(H.deals t).isOpen=true:=by
        unfold Hall.acc at hc
        split at hc
        · cases hc
        · rename_i h1;simpa using h1
      have h2:∀n,DealsOk (H.own t n)/\((H.own t n).deals t).isOpen=true:=λn=>by
        unfold Hall.own
        split
        · exact⟨h,ho⟩
        · exact⟨dealsOk_put h rfl λe=>(by have e':(H.deals t).isOpen=false:=e;rw[ho] at e';cases e'),by simp[put1,Deal.addO,ho]⟩
      exact dealsOk_put (h2 _).1 rfl λe=>by
        have e':((H.own t (H.regs t a).id).deals t).isOpen=false:=e
        rw[(h2 _).2] at e';cases e'
    · show DealsOk (if H.acc t a c.n=6 then H.undone t else H)
      exact iteP (λ_=>hu t) λ_=>h
  · intro _ t a _ _ _ _;unfold Hall.set;exact iteP (P:=λp:Hall × AnsM=>DealsOk p.1) (λ_=>h) λ_=>h
  · intro _ t a b u _ _ _ _ _ _ _ _;unfold Hall.copy;exact iteP (P:=λp:Hall × AnsM=>DealsOk p.1) (λ_=>h) λ_=>h
  · intro _ t a b _ _ _ _ _ _;exact h
  · intro _;unfold Hall.collect;exact iteP (P:=λp:Hall × AnsM=>DealsOk p.1) (λ_=>h) λ_=>h
  · intro _;unfold Hall.step
    refine iteP (P:=λp:Hall × AnsM=>DealsOk p.1) (λ_=>h) λ_=>?_
    refine iteP (P:=λp:Hall × AnsM=>DealsOk p.1) (λ_=>h) λ_=>?_
    exact iteP (P:=λp:Hall × AnsM=>DealsOk p.1) (λ_=>h) λ_=>h
  · intro _;exact h
def Shut (H:Hall):Prop:=∀t,t<4->H.deals t=noDeal
end Go.Proofs.Ytbeilcaadpopmab
namespace Go.Proofs.Ytbeilcaadpopmab
theorem map_turn {β:Type} (g:Thing->β) (f:Thing->Thing) (h:∀x,g (f x)=g x):∀(l:List Thing) (i:Nat),(l.modify i f).map g=l.map g
  | [],i=>by simp
  | x :: l,0=>by simp[h]
  | x :: l,i+1=>by simp[map_turn g f h l i]
def flagsOf (x:Thing):Bool × Bool × Bool:=(x.kept,x.fresh,x.gone)
theorem flags_setF (l:List Thing) (n k:Nat) (v:V):(setF l n k v).map flagsOf=l.map flagsOf:=map_turn _ (setT k v) (λ_=>rfl) _ _
theorem flags_backF (l:List Thing):∀cs,(backF l cs).map flagsOf=l.map flagsOf
  | []=>rfl
  | c :: cs=>by rw[backF,flags_setF,flags_backF l cs]
theorem flags_freeF:∀(cs:List (Nat × Nat)) (l:List Thing),(freeF l cs).map flagsOf=l.map flagsOf
  | [],l=>rfl
  | c :: cs,l=>by rw[freeF,flags_freeF cs];exact map_turn _ freeT (λ_=>rfl) _ _
theorem flags_bumpF:∀(cs:List (Nat × Nat)) (l:List Thing),(bumpF l cs).map flagsOf=l.map flagsOf
  | [],l=>rfl
  | c :: cs,l=>by rw[bumpF,flags_bumpF cs];exact map_turn _ bumpT (λ_=>rfl) _ _
theorem flags_undone (H:Hall) (t:Nat):(H.undone t).things.map flagsOf=H.things.map flagsOf:=by
  show (freeF (backF H.things (H.deals t).changes) (H.deals t).owned).map flagsOf=_
  rw[flags_freeF,flags_backF]
def FlagsGo (H:Hall) (p:Hall × AnsM):Prop:=p.1.going=H.going/\(p.1.things.map flagsOf=H.things.map flagsOf\/p.1.things.map flagsOf=H.things.map flagsOf++[(false,true,false)])
theorem act_flags (H:Hall) (c:ActM) (hc:cleaning c=false):FlagsGo H (H.act c):=by
  simp only [cleaning,Bool.or_eq_false_iff,beq_eq_false_iff_ne] at hc
  have h0:∀a,FlagsGo H (H,a):=λa=>⟨rfl,.inl rfl⟩
  have hu:∀t a,FlagsGo H (H.undone t,a):=λt a=>⟨rfl,.inl (flags_undone H t)⟩
  refine act_ind (P:=FlagsGo H) H c ?_ ?_ ?_ ?_ ?_ ?_ ?_ ?_ ?_ ?_ ?_ ?_ ?_
  · intro e _;exact h0 _
  · intro _ t _ _;unfold Hall.begin;exact iteP (λ_=>h0 _) λ_=>⟨rfl,.inl rfl⟩
  · intro _ t _ _;unfold Hall.commit
    refine iteP (λ_=>h0 _) λ_=>?_
    exact iteP (λ_=>⟨rfl,.inl (flags_bumpF _ _)⟩) λ_=>hu t _
  · intro _ t _ _;unfold Hall.abort
    exact iteP (λ_=>h0 _) λ_=>hu t _
  · intro _ t a _ _ _ _;unfold Hall.new
    refine iteP (λ_=>h0 _) λ_=>?_
    refine iteP (λ_=>h0 _) λ_=>?_
    exact iteP (λ_=>h0 _) λ_=>⟨rfl,.inr (by simp[flagsOf])⟩
  · intro _ t a b _ _ _ _ _ _;unfold Hall.get
    refine iteP (λ_=>⟨rfl,.inl rfl⟩) λ_=>?_
    split
    · exact hu t _
    · exact h0 _
  · intro _ t a b _ _ _ _ _ _;unfold Hall.put
    refine iteP (λ_=>?_) λ_=>?_
    · have h2:∀n,(H.own t n).going=H.going/\(H.own t n).things.map flagsOf=H.things.map flagsOf:=λn=>by
        unfold Hall.own
        split
        · exact⟨rfl,rfl⟩
        · exact⟨rfl,map_turn _ (ownT t) (λ_=>rfl) _ _⟩
      exact⟨(h2 _).1,.inl ((flags_setF _ _ _ _).trans (h2 _).2)⟩
    · split
      · exact hu t _
      · exact h0 _
  · intro _ t a _ _ _ _;unfold Hall.set;exact iteP (λ_=>⟨rfl,.inl rfl⟩) λ_=>h0 _
  · intro _ t a b u _ _ _ _ _ _ _ _;unfold Hall.copy;exact iteP (λ_=>h0 _) λ_=>⟨rfl,.inl rfl⟩
  · intro _ t a b _ _ _ _ _ _;exact h0 _
  · intro h;omega
  · intro h;omega
  · intro h;omega
theorem runs_size:∀(l:List ActM) (H:Hall),(H.runs l).words=H.words/\sizeOf (H.runs l).things<=sizeOf H.things+needs l
  | [],H=>⟨rfl,by simp[Hall.runs,needs]⟩
  | c :: l,H=>by
    obtain⟨a1,a2⟩:=act_size H c
    obtain⟨b1,b2⟩:=runs_size l (H.act c).1
    rw[needs_cons]
    exact⟨b1.trans a1,by simp only [Hall.runs];omega⟩
end Go.Proofs.Ytbeilcaadpopmab
namespace Go.Proofs.Ytbeilcaadpopmab
def th (l:List Thing) (i:Nat):Thing:=l.getD (i - 1) noThing
theorem th_modify (l:List Thing) (n i:Nat) (f:Thing->Thing) (hn:1<=n) (hi:1<=i):th (turnT l n f) i=if i=n/\i<=l.length then f (th l i) else th l i:=by
  unfold th turnT
  simp only [List.getD_eq_getElem?_getD,List.getElem?_modify]
  by_cases e:n - 1=i - 1
  · have e2:i=n:=by omega
    subst e2
    by_cases h:i<=l.length
    · have:i - 1<l.length:=by omega
      simp[h,this]
    · have:l[i - 1]? = none:=by simp;omega
      simp[h,this]
  · have e2:¬ i=n:=by omega
    simp[e,e2]
theorem th_append_old (l:List Thing) (x:Thing) (i:Nat) (h:i<=l.length) (h1:1<=i):th (l++[x]) i=th l i:=by
  unfold th
  simp only [List.getD_eq_getElem?_getD]
  rw[List.getElem?_append_left (by omega)]
theorem th_append_new (l:List Thing) (x:Thing):th (l++[x]) (l.length+1)=x:=by
  unfold th
  simp[List.getD_eq_getElem?_getD]
theorem th_out (l:List Thing) (i:Nat) (h:l.length<i):th l i=noThing:=by
  unfold th
  rw[List.getD_eq_getElem?_getD,List.getElem?_eq_none (by omega)]
  rfl
abbrev Flags:=Bool × Bool × Bool
def flg (l:List Thing) (i:Nat):Flags:=flagsOf (th l i)
theorem flg_map (l:List Thing) (i:Nat):flg l i=(l.map flagsOf).getD (i - 1) (false,false,true):=by
  unfold flg th
  simp only [List.getD_eq_getElem?_getD,List.getElem?_map]
  cases l[i - 1]? <;> rfl
def PI (Q:Flags->Prop) (l:List Thing) (i:Nat):Prop:=1<=i/\Q (flg l i)
def PV (Q:Flags->Prop) (l:List Thing):V->Prop
  | .num _=>True
  | .ref i=>i=0\/PI Q l i
structure Cl (Q:Flags->Prop) (H:Hall):Prop where
  regs:∀t,t<4->∀r,r<4->PV Q H.things (H.regs t r)
  saved:∀t,t<4->∀r,r<4->PV Q H.things ((H.deals t).saved r)
  was:∀t,t<4->∀c ∈ (H.deals t).changes,PI Q H.things c.1/\PV Q H.things c.2.2
  reads:∀t,t<4->∀c ∈ (H.deals t).reads,PI Q H.things c.1
  owned:∀t,t<4->∀c ∈ (H.deals t).owned,PI Q H.things c.1
  fields:∀i,PI Q H.things i->∀v ∈ (th H.things i).fields,PV Q H.things v
def FlagsTo (l l':List Thing):Prop:=l'.map flagsOf=l.map flagsOf\/l'.map flagsOf=l.map flagsOf++[(false,true,false)]
theorem FlagsTo.pi {Q:Flags->Prop} (hQ:¬ Q (false,false,true)) {l l':List Thing} (h:FlagsTo l l') {i:Nat} (hp:PI Q l i):PI Q l' i:=by
  refine⟨hp.1,?_⟩
  have h2:=hp.2
  rw[flg_map] at h2 ⊢
  rcases h with h|h
  · rw[h];exact h2
  · rw[h]
    rw[List.getD_eq_getElem?_getD] at h2 ⊢
    by_cases hi:i - 1<(l.map flagsOf).length
    · rw[List.getElem?_append_left hi];exact h2
    · rw[List.getElem?_eq_none (by omega)] at h2
      exact absurd h2 hQ
theorem FlagsTo.pv {Q:Flags->Prop} (hQ:¬ Q (false,false,true)) {l l':List Thing} (h:FlagsTo l l') {v:V} (hp:PV Q l v):PV Q l' v:=by
  cases v with
  | num n=>trivial
  | ref i=>exact hp.imp id (h.pi hQ)
theorem PI.le {Q:Flags->Prop} (hQ:¬ Q (false,false,true)) {l:List Thing} {i:Nat} (hp:PI Q l i):1<=i/\i<=l.length:=by
  refine⟨hp.1,?_⟩
  have h2:=hp.2
  unfold flg at h2
  by_cases hi:i<=l.length
  · exact hi
  · rw[th_out l i (by omega)] at h2
    exact absurd h2 hQ
theorem pi_back {Q:Flags->Prop} {l l':List Thing} (h:l'.map flagsOf=l.map flagsOf) {i:Nat} (hp:PI Q l' i):PI Q l i:=by
  refine⟨hp.1,?_⟩
  have h2:=hp.2
  rw[flg_map] at h2 ⊢
  rw[<- h];exact h2
theorem fields_setF (l:List Thing) (n k i:Nat) (v:V):∀x ∈ (th (setF l n k v) i).fields,x=v\/x ∈ (th l i).fields:=by
  intro x hx
  unfold th setF turnT at hx
  simp only [List.getD_eq_getElem?_getD,List.getElem?_modify] at hx
  cases h:l[i - 1]? with
  | none=>rw[h] at hx;simp[noThing] at hx
  | some y =>
    have e:th l i=y:=by unfold th;rw[List.getD_eq_getElem?_getD,h];rfl
    rw[h] at hx
    rw[e]
    simp only [Option.map_eq_map,Option.map_some,Option.getD_some] at hx
    split at hx
    · rcases List.mem_or_eq_of_mem_set hx with hx|hx
      · exact .inr hx
      · exact .inl hx
    · exact .inr hx
theorem fields_backF (l:List Thing) (i:Nat):∀(cs:List (Nat × Nat × V)),∀x ∈ (th (backF l cs) i).fields,x ∈ (th l i).fields\/∃c ∈ cs,x=c.2.2
  | [],x,hx=>.inl hx
  | c :: cs,x,hx=>by
    rcases fields_setF (backF l cs) c.1 c.2.1 i c.2.2 x hx with rfl|hx
    · exact .inr ⟨c,by simp,rfl⟩
    · rcases fields_backF l i cs x hx with h|⟨d,hd,e⟩
      · exact .inl h
      · exact .inr ⟨d,by simp[hd],e⟩
theorem fields_turn (l:List Thing) (n i:Nat) (f:Thing->Thing) (h:∀x,(f x).fields=x.fields):(th (turnT l n f) i).fields=(th l i).fields:=by
  unfold th turnT
  simp only [List.getD_eq_getElem?_getD,List.getElem?_modify]
  cases l[i - 1]? with
  | none=>simp
  | some y =>
    simp only [Option.map_eq_map,Option.map_some,Option.getD_some]
    split
    · exact h y
    · rfl
theorem fields_freeF (i:Nat):∀(cs:List (Nat × Nat)) (l:List Thing),(th (freeF l cs) i).fields=(th l i).fields
  | [],l=>rfl
  | c :: cs,l=>by rw[freeF,fields_freeF i cs,fields_turn _ _ _ freeT λ_=>rfl]
theorem fields_bumpF (i:Nat):∀(cs:List (Nat × Nat)) (l:List Thing),(th (bumpF l cs) i).fields=(th l i).fields
  | [],l=>rfl
  | c :: cs,l=>by rw[bumpF,fields_bumpF i cs,fields_turn _ _ _ bumpT λ_=>rfl]
theorem Cl.turn {Q:Flags->Prop} (hQ:¬ Q (false,false,true)) {H G:Hall} (h:Cl Q H) (hf:G.things.map flagsOf=H.things.map flagsOf)
    (h1:∀t,t<4->∀r,r<4->PV Q H.things (G.regs t r)) (h2:∀t,t<4->∀r,r<4->PV Q H.things ((G.deals t).saved r))
    (h3:∀t,t<4->∀c ∈ (G.deals t).changes,PI Q H.things c.1/\PV Q H.things c.2.2) (h4:∀t,t<4->∀c ∈ (G.deals t).reads,PI Q H.things c.1) (h5:∀t,t<4->∀c ∈ (G.deals t).owned,PI Q H.things c.1)
    (h6:∀i,PI Q H.things i->∀v ∈ (th G.things i).fields,PV Q H.things v):Cl Q G:=by
  have hF:FlagsTo H.things G.things:=.inl hf
  exact⟨λt ht r hr=>hF.pv hQ (h1 t ht r hr),λt ht r hr=>hF.pv hQ (h2 t ht r hr),λt ht c hc=>⟨hF.pi hQ (h3 t ht c hc).1,hF.pv hQ (h3 t ht c hc).2⟩,λt ht c hc=>hF.pi hQ (h4 t ht c hc),λt ht c hc=>hF.pi hQ (h5 t ht c hc),
    λi hi v hv=>hF.pv hQ (h6 i (pi_back hf hi) v hv)⟩
theorem all_put1 {α:Type} {f:Nat->α} {t:Nat} {v:α} {P:Nat->α->Prop} (h:∀u,u<4->P u (f u)) (hv:P t v):∀u,u<4->P u (put1 f t v u):=by
  intro u hu
  unfold put1
  split
  · rename_i e;subst e;exact hv
  · exact h u hu
theorem Cl.undone {Q:Flags->Prop} (hQ:¬ Q (false,false,true)) {H:Hall} (h:Cl Q H) {t:Nat} (ht:t<4):Cl Q (H.undone t):=by
  refine h.turn hQ (flags_undone H t) ?_ ?_ ?_ ?_ ?_ ?_
  · exact all_put1 (P:=λ_ (f:Nat->V)=>∀r,r<4->PV Q H.things (f r)) h.regs (h.saved t ht)
  · exact all_put1 (P:=λ_ (d:Deal)=>∀r,r<4->PV Q H.things (d.saved r)) h.saved (λ_ _=>trivial)
  · exact all_put1 (P:=λ_ (d:Deal)=>∀c ∈ d.changes,PI Q H.things c.1/\PV Q H.things c.2.2) h.was (λc hc=>by cases hc)
  · exact all_put1 (P:=λ_ (d:Deal)=>∀c ∈ d.reads,PI Q H.things c.1) h.reads (λc hc=>by cases hc)
  · exact all_put1 (P:=λ_ (d:Deal)=>∀c ∈ d.owned,PI Q H.things c.1) h.owned (λc hc=>by cases hc)
  · intro i hi v hv
    have hv':v ∈ (th (freeF (backF H.things (H.deals t).changes) (H.deals t).owned) i).fields:=hv
    rw[fields_freeF] at hv'
    rcases fields_backF H.things i _ v hv' with h1|⟨c,hc,rfl⟩
    · exact h.fields i hi v h1
    · exact (h.was t ht c hc).2
theorem PV.id {Q:Flags->Prop} {l:List Thing} {v:V} (h:PV Q l v) (h0:v.id≠0):PI Q l v.id:=by
  cases v with
  | num n=>exact absurd rfl h0
  | ref i=>exact h.resolve_left h0
theorem acc_ok {H:Hall} {t r:Nat} {f:Int} (h:H.acc t r f=0):(H.deals t).isOpen=true/\(H.regs t r).id≠0/\H.regs t r = .ref (H.regs t r).id/\0<=f/\f<(H.thing (H.regs t r).id).fields.length/\((H.thing (H.regs t r).id).owner=none\/(H.thing (H.regs t r).id).owner=some t):=by
  unfold Hall.acc at h
  split at h
  · cases h
  rename_i ho
  cases hv:H.regs t r with
  | num n=>rw[hv] at h;cases h
  | ref n =>
    rw[hv] at h
    simp only at h
    split at h
    · cases h
    rename_i h0
    split at h
    · cases h
    rename_i hf
    split at h
    · rename_i how
      exact⟨by simpa using ho,h0,rfl,by omega,by simp only [V.id];omega,how⟩
    · cases h
theorem pv_thing {Q:Flags->Prop} {H:Hall} (h:Cl Q H) {i k:Nat} (hi:PI Q H.things i):PV Q H.things ((H.thing i).fields.getD k (.num 0)):=by
  rw[List.getD_eq_getElem?_getD]
  cases hk:(H.thing i).fields[k]? with
  | none=>trivial
  | some v=>exact h.fields i hi v (List.mem_of_getElem? hk)
theorem Cl.act {Q:Flags->Prop} (hQ:¬ Q (false,false,true)) (hQ2:Q (false,true,false)) {H:Hall} (h:Cl Q H) (c:ActM) (hc:cleaning c=false):Cl Q (H.act c).1:=by
  simp only [cleaning,Bool.or_eq_false_iff,beq_eq_false_iff_ne] at hc
  refine act_ind (P:=λp=>Cl Q p.1) H c ?_ ?_ ?_ ?_ ?_ ?_ ?_ ?_ ?_ ?_ ?_ ?_ ?_
  · intro e _;exact h
  · intro _ t ht _;unfold Hall.begin
    refine iteP (P:=λp:Hall × AnsM=>Cl Q p.1) (λ_=>h) λ_=>?_
    refine h.turn hQ rfl h.regs ?_ ?_ ?_ ?_ h.fields
    · exact all_put1 (P:=λ_ (d:Deal)=>∀r,r<4->PV Q H.things (d.saved r)) h.saved (h.regs t ht)
    · exact all_put1 (P:=λ_ (d:Deal)=>∀c ∈ d.changes,PI Q H.things c.1/\PV Q H.things c.2.2) h.was (λc hc=>by cases hc)
    · exact all_put1 (P:=λ_ (d:Deal)=>∀c ∈ d.reads,PI Q H.things c.1) h.reads (λc hc=>by cases hc)
    · exact all_put1 (P:=λ_ (d:Deal)=>∀c ∈ d.owned,PI Q H.things c.1) h.owned (λc hc=>by cases hc)
  · intro _ t ht _;unfold Hall.commit
    refine iteP (P:=λp:Hall × AnsM=>Cl Q p.1) (λ_=>h) λ_=>?_
    refine iteP (P:=λp:Hall × AnsM=>Cl Q p.1) (λ_=>?_) λ_=>h.undone hQ ht
    refine h.turn hQ (flags_bumpF _ _) h.regs ?_ ?_ ?_ ?_ (λi hi v hv=>?_)
    · exact all_put1 (P:=λ_ (d:Deal)=>∀r,r<4->PV Q H.things (d.saved r)) h.saved (λ_ _=>trivial)
    · exact all_put1 (P:=λ_ (d:Deal)=>∀c ∈ d.changes,PI Q H.things c.1/\PV Q H.things c.2.2) h.was (λc hc=>by cases hc)
    · exact all_put1 (P:=λ_ (d:Deal)=>∀c ∈ d.reads,PI Q H.things c.1) h.reads (λc hc=>by cases hc)
    · exact all_put1 (P:=λ_ (d:Deal)=>∀c ∈ d.owned,PI Q H.things c.1) h.owned (λc hc=>by cases hc)
    · have hv':v ∈ (th (bumpF H.things (H.deals t).owned) i).fields:=hv
      rw[fields_bumpF] at hv'
      exact h.fields i hi v hv'
  · intro _ t ht _;unfold Hall.abort
    exact iteP (P:=λp:Hall × AnsM=>Cl Q p.1) (λ_=>h) λ_=>h.undone hQ ht
  · intro _ t a ht ha _ _;unfold Hall.new
    refine iteP (P:=λp:Hall × AnsM=>Cl Q p.1) (λ_=>h) λ_=>?_
    refine iteP (P:=λp:Hall × AnsM=>Cl Q p.1) (λ_=>h) λ_=>?_
    refine iteP (P:=λp:Hall × AnsM=>Cl Q p.1) (λ_=>h) λ_=>?_
    have hF:FlagsTo H.things (H.things++[⟨List.replicate c.n.toNat (.num 0),0,none,false,true,false⟩]):=.inr (by simp[flagsOf])
    refine⟨λu hu r hr=>?_,λu hu r hr=>hF.pv hQ (h.saved u hu r hr),λu hu c hc=>⟨hF.pi hQ (h.was u hu c hc).1,hF.pv hQ (h.was u hu c hc).2⟩,λu hu c hc=>hF.pi hQ (h.reads u hu c hc),λu hu c hc=>hF.pi hQ (h.owned u hu c hc),λi hi v hv=>?_⟩
    · show PV Q _ (put2 H.regs t a (.ref (H.things.length+1)) u r)
      unfold put2
      split
      · refine .inr ⟨by omega,?_⟩
        unfold flg
        rw[th_append_new];exact hQ2
      · exact hF.pv hQ (h.regs u hu r hr)
    · have hi2:=PI.le hQ hi
      have hi2':i<=H.things.length+1:=by simpa using hi2.2
      by_cases e:i=H.things.length+1
      · have hv':v ∈ (th (H.things++[⟨List.replicate c.n.toNat (.num 0),0,none,false,true,false⟩]) i).fields:=hv
        rw[e,th_append_new] at hv'
        rw[List.eq_of_mem_replicate hv']
        trivial
      · have hv':v ∈ (th (H.things++[⟨List.replicate c.n.toNat (.num 0),0,none,false,true,false⟩]) i).fields:=hv
        have hq':Q (flg (H.things++[⟨List.replicate c.n.toNat (.num 0),0,none,false,true,false⟩]) i):=hi.2
        unfold flg at hq'
        rw[th_append_old _ _ _ (by omega) hi2.1] at hv' hq'
        exact hF.pv hQ (h.fields i ⟨hi2.1,hq'⟩ v hv')
  · intro _ t a b ht ha hb _ _ _;unfold Hall.get
    refine iteP (P:=λp:Hall × AnsM=>Cl Q p.1) (λhk=>?_) λ_=>?_
    · obtain⟨ho,k0,kr,k1,k2,k3⟩:=acc_ok hk
      have hp:=(h.regs t ht b hb).id k0
      refine h.turn hQ rfl ?_ ?_ ?_ ?_ ?_ h.fields
      · intro u hu r hr
        show PV Q _ (put2 H.regs t a _ u r)
        unfold put2
        split
        · exact pv_thing h hp
        · exact h.regs u hu r hr
      · show ∀u,u<4->∀r,r<4->PV Q H.things ((H.readD t (H.regs t b).id u).saved r)
        rcases readD_cases H t (H.regs t b).id with e|⟨_,_,e⟩ <;> rw[e]
        · exact h.saved
        · exact all_put1 (P:=λ_ (d:Deal)=>∀r,r<4->PV Q H.things (d.saved r)) h.saved (h.saved t ht)
      · show ∀u,u<4->∀c ∈ (H.readD t (H.regs t b).id u).changes,PI Q H.things c.1/\PV Q H.things c.2.2
        rcases readD_cases H t (H.regs t b).id with e|⟨_,_,e⟩ <;> rw[e]
        · exact h.was
        · exact all_put1 (P:=λ_ (d:Deal)=>∀c ∈ d.changes,PI Q H.things c.1/\PV Q H.things c.2.2) h.was (h.was t ht)
      · show ∀u,u<4->∀c ∈ (H.readD t (H.regs t b).id u).reads,PI Q H.things c.1
        rcases readD_cases H t (H.regs t b).id with e|⟨_,_,e⟩ <;> rw[e]
        · exact h.reads
        · refine all_put1 (P:=λ_ (d:Deal)=>∀c ∈ d.reads,PI Q H.things c.1) h.reads (λc hc=>?_)
          rcases List.mem_append.1 hc with hc|hc
          · exact h.reads t ht c hc
          · rw[List.mem_singleton.1 hc];exact hp
      · show ∀u,u<4->∀c ∈ (H.readD t (H.regs t b).id u).owned,PI Q H.things c.1
        rcases readD_cases H t (H.regs t b).id with e|⟨_,_,e⟩ <;> rw[e]
        · exact h.owned
        · exact all_put1 (P:=λ_ (d:Deal)=>∀c ∈ d.owned,PI Q H.things c.1) h.owned (h.owned t ht)
    · show Cl Q (if H.acc t b c.n=6 then H.undone t else H)
      exact iteP (λ_=>h.undone hQ ht) λ_=>h
  · intro _ t a b ht ha hb _ _ _;unfold Hall.put
    refine iteP (P:=λp:Hall × AnsM=>Cl Q p.1) (λhk=>?_) λ_=>?_
    · obtain⟨ho,k0,kr,k1,k2,k3⟩:=acc_ok hk
      have hp:=(h.regs t ht a ha).id k0
      have hown:Cl Q (H.own t (H.regs t a).id)/\(H.own t (H.regs t a).id).things.map flagsOf=H.things.map flagsOf/\(H.own t (H.regs t a).id).regs=H.regs:=by
        unfold Hall.own
        split
        · exact⟨h,rfl,rfl⟩
        · refine⟨h.turn hQ (map_turn _ (ownT t) (λ_=>rfl) _ _) h.regs ?_ ?_ ?_ ?_ (λi hi v hv=>?_),map_turn _ (ownT t) (λ_=>rfl) _ _,rfl⟩
          · exact all_put1 (P:=λ_ (d:Deal)=>∀r,r<4->PV Q H.things (d.saved r)) h.saved (h.saved t ht)
          · exact all_put1 (P:=λ_ (d:Deal)=>∀c ∈ d.changes,PI Q H.things c.1/\PV Q H.things c.2.2) h.was (h.was t ht)
          · exact all_put1 (P:=λ_ (d:Deal)=>∀c ∈ d.reads,PI Q H.things c.1) h.reads (h.reads t ht)
          · refine all_put1 (P:=λ_ (d:Deal)=>∀c ∈ d.owned,PI Q H.things c.1) h.owned (λc hc=>?_)
            rcases List.mem_append.1 hc with hc|hc
            · exact h.owned t ht c hc
            · rw[List.mem_singleton.1 hc];exact hp
          · have hv':v ∈ (th (turnT H.things (H.regs t a).id (ownT t)) i).fields:=hv
            rw[fields_turn _ _ _ (ownT t) λ_=>rfl] at hv'
            exact h.fields i hi v hv'
      obtain⟨hO,hOf,hOr⟩:=hown
      generalize H.own t (H.regs t a).id=O at hO hOf hOr
      have hF:FlagsTo H.things O.things:=.inl hOf
      have hpO:=hF.pi hQ hp
      unfold Hall.write
      refine hO.turn hQ (flags_setF _ _ _ _) hO.regs ?_ ?_ ?_ ?_ (λi hi v hv=>?_)
      · exact all_put1 (P:=λ_ (d:Deal)=>∀r,r<4->PV Q O.things (d.saved r)) hO.saved (hO.saved t ht)
      · refine all_put1 (P:=λ_ (d:Deal)=>∀c ∈ d.changes,PI Q O.things c.1/\PV Q O.things c.2.2) hO.was (λc hc=>?_)
        rcases List.mem_append.1 hc with hc|hc
        · exact hO.was t ht c hc
        · rw[List.mem_singleton.1 hc];exact⟨hpO,pv_thing hO hpO⟩
      · exact all_put1 (P:=λ_ (d:Deal)=>∀c ∈ d.reads,PI Q O.things c.1) hO.reads (hO.reads t ht)
      · exact all_put1 (P:=λ_ (d:Deal)=>∀c ∈ d.owned,PI Q O.things c.1) hO.owned (hO.owned t ht)
      · rcases fields_setF _ _ _ _ _ v hv with rfl|hv
        · exact hF.pv hQ (h.regs t ht b hb)
        · exact hO.fields i hi v hv
    · show Cl Q (if H.acc t a c.n=6 then H.undone t else H)
      exact iteP (λ_=>h.undone hQ ht) λ_=>h
  · intro _ t a ht ha _ _;unfold Hall.set
    refine iteP (P:=λp:Hall × AnsM=>Cl Q p.1) (λ_=>?_) λ_=>h
    refine h.turn hQ rfl (λu hu r hr=>?_) h.saved h.was h.reads h.owned h.fields
    show PV Q _ (put2 H.regs t a _ u r)
    unfold put2
    split
    · trivial
    · exact h.regs u hu r hr
  · intro _ t a b u0 ht ha hb hu0 _ _ _ _;unfold Hall.copy
    refine iteP (P:=λp:Hall × AnsM=>Cl Q p.1) (λ_=>h) λ_=>?_
    refine h.turn hQ rfl (λu hu r hr=>?_) h.saved h.was h.reads h.owned h.fields
    show PV Q _ (put2 H.regs t a _ u r)
    unfold put2
    split
    · exact h.regs u0 hu0 b hb
    · exact h.regs u hu r hr
  · intro _ t a b _ _ _ _ _ _;exact h
  · intro h';omega
  · intro h';omega
  · intro h';omega
end Go.Proofs.Ytbeilcaadpopmab
namespace Go.Proofs.Ytbeilcaadpopmab
theorem th_keep {β:Type} (g:Thing->β) (f:Thing->Thing) (h:∀x,g (f x)=g x) (l:List Thing) (n i:Nat):g (th (turnT l n f) i)=g (th l i):=by
  unfold th turnT
  simp only [List.getD_eq_getElem?_getD,List.getElem?_modify]
  cases l[i - 1]? with
  | none=>simp
  | some y =>
    simp only [Option.map_eq_map,Option.map_some,Option.getD_some]
    split
    · exact h y
    · rfl
theorem back_keep {β:Type} (g:Thing->β) (h:∀k v x,g (setT k v x)=g x) (l:List Thing) (i:Nat):∀cs,g (th (backF l cs) i)=g (th l i)
  | []=>rfl
  | c :: cs=>by rw[backF,setF,th_keep g _ (h _ _),back_keep g h l i cs]
theorem turn_len (l:List Thing) (n:Nat) (f:Thing->Thing):(turnT l n f).length=l.length:=by simp[turnT]
theorem back_len (l:List Thing):∀cs,(backF l cs).length=l.length
  | []=>rfl
  | c :: cs=>by rw[backF,setF,turn_len,back_len l cs]
theorem free_len:∀(cs:List (Nat × Nat)) (l:List Thing),(freeF l cs).length=l.length
  | [],l=>rfl
  | c :: cs,l=>by rw[freeF,free_len cs,turn_len]
def hasKey (l:List (Nat × Nat)) (i:Nat):Prop:=∃c ∈ l,c.1=i
theorem hasKey_cons (c:Nat × Nat) (l:List (Nat × Nat)) (i:Nat):hasKey (c :: l) i ↔ c.1=i\/hasKey l i:=by simp[hasKey]
theorem hasKey_snoc (c:Nat × Nat) (l:List (Nat × Nat)) (i:Nat):hasKey (l++[c]) i ↔ hasKey l i\/c.1=i:=by
  simp only [hasKey,List.mem_append,List.mem_singleton]
  constructor
  · rintro ⟨d,hd|rfl,e⟩
    · exact .inl ⟨d,hd,e⟩
    · exact .inr e
  · rintro (⟨d,hd,e⟩|e)
    · exact⟨d,.inl hd,e⟩
    · exact⟨c,.inr rfl,e⟩
theorem th_freeF (i:Nat) (hi:1<=i):∀(cs:List (Nat × Nat)) (l:List Thing),(∀c ∈ cs,1<=c.1)->(hasKey cs i->th (freeF l cs) i=freeT (th l i))/\(¬ hasKey cs i->th (freeF l cs) i=th l i)
  | [],l,_=>⟨λh=>(by obtain⟨c,hc,_⟩:=h;cases hc),λ_=>rfl⟩
  | c :: cs,l,h=>by
    obtain⟨a,b⟩:=th_freeF i hi cs (turnT l c.1 freeT) (λd hd=>h d (by simp[hd]))
    have hm:=th_modify l c.1 i freeT (h c (by simp)) hi
    have hf:∀x,freeT (freeT x)=freeT x:=λ_=>rfl
    have hN:i > l.length->th l i=noThing/\freeT (th l i)=th l i:=λhg=>by
      have:=th_out l i hg
      rw[this];exact⟨rfl,rfl⟩
    refine⟨λhk=>?_,λhk=>?_⟩
    · rw[freeF]
      by_cases h1:hasKey cs i
      · rw[a h1,hm]
        split
        · rfl
        · rfl
      · have h2:i=c.1:=by
          rcases (hasKey_cons c cs i).1 hk with e|e
          · exact e.symm
          · exact absurd e h1
        rw[b h1,hm]
        by_cases hl:i<=l.length
        · rw[if_pos ⟨h2,hl⟩]
        · rw[if_neg (by omega)]
          exact (hN (by omega)).2.symm
    · have h1:¬ hasKey cs i:=λe=>hk ((hasKey_cons c cs i).2 (.inr e))
      have h2:¬ i=c.1:=λe=>hk ((hasKey_cons c cs i).2 (.inl e.symm))
      rw[freeF,b h1,hm,if_neg (by omega)]
theorem th_bumpF (i:Nat) (hi:1<=i):∀(cs:List (Nat × Nat)) (l:List Thing),(∀c ∈ cs,1<=c.1/\c.1<=l.length)->(cs.map (·.1)).Nodup->(hasKey cs i->th (bumpF l cs) i=bumpT (th l i))/\(¬ hasKey cs i->th (bumpF l cs) i=th l i)
  | [],l,_,_=>⟨λh=>(by obtain⟨c,hc,_⟩:=h;cases hc),λ_=>rfl⟩
  | c :: cs,l,h,hn=>by
    rw[List.map_cons,List.nodup_cons] at hn
    obtain⟨a,b⟩:=th_bumpF i hi cs (turnT l c.1 bumpT) (λd hd=>by rw[turn_len];exact h d (by simp[hd])) hn.2
    have hm:=th_modify l c.1 i bumpT (h c (by simp)).1 hi
    refine⟨λhk=>?_,λhk=>?_⟩
    · rw[bumpF]
      rcases (hasKey_cons c cs i).1 hk with e|e
      · have h1:¬ hasKey cs i:=λ⟨d,hd,e2⟩=>hn.1 (List.mem_map.2 ⟨d,hd,e2.trans e.symm⟩)
        rw[b h1,hm,if_pos ⟨e.symm,by rw[<- e];exact (h c (by simp)).2⟩]
      · have h2:¬ i=c.1:=λe2=>by
          obtain⟨d,hd,e3⟩:=e
          exact hn.1 (List.mem_map.2 ⟨d,hd,e3.trans e2⟩)
        rw[a e,hm,if_neg (by omega)]
    · have h1:¬ hasKey cs i:=λe=>hk ((hasKey_cons c cs i).2 (.inr e))
      have h2:¬ i=c.1:=λe=>hk ((hasKey_cons c cs i).2 (.inl e.symm))
      rw[bumpF,b h1,hm,if_neg (by omega)]
structure OwnOk (H:Hall):Prop where
  ver:∀t,t<4->∀c ∈ (H.deals t).owned,1<=c.1/\(th H.things c.1).owner=some t/\(th H.things c.1).version=c.2
  own:∀i,1<=i->∀t,(th H.things i).owner=some t->t<4/\hasKey (H.deals t).owned i
  ond:∀t,t<4->((H.deals t).owned.map (·.1)).Nodup
  chg:∀t,t<4->∀c ∈ (H.deals t).changes,hasKey (H.deals t).owned c.1/\c.2.1<(th H.things c.1).fields.length
  rnd:∀t,t<4->((H.deals t).reads.map (·.1)).Nodup
  rds:∀t,t<4->∀c ∈ (H.deals t).reads,1<=c.1/\c.1<=H.things.length/\c.2<=(th H.things c.1).version
theorem owner_le {H:Hall} {i:Nat} {t:Nat} (h:(th H.things i).owner=some t):i<=H.things.length:=by
  by_cases hi:i<=H.things.length
  · exact hi
  · rw[th_out _ _ (by omega)] at h;cases h
theorem own_ne {H:Hall} (h:OwnOk H) {t u i:Nat} (ht:t<4) (hu:u<4) (hk:hasKey (H.deals t).owned i) (hk2:hasKey (H.deals u).owned i):t=u:=by
  obtain⟨c,hc,rfl⟩:=hk
  obtain⟨d,hd,e⟩:=hk2
  have h1:=(h.ver t ht c hc).2.1
  have h2:=(h.ver u hu d hd).2.1
  rw[e,h1] at h2
  exact Option.some.inj h2
theorem OwnOk.same {H G:Hall} (h:OwnOk H) (h0:G.things.length=H.things.length) (h1:∀i,(th G.things i).owner=(th H.things i).owner) (h2:∀i,(th G.things i).version=(th H.things i).version) (h3:∀i,(th G.things i).fields.length=(th H.things i).fields.length)
    (d1:∀t,(G.deals t).owned=(H.deals t).owned) (d2:∀t,t<4->∀c ∈ (G.deals t).changes,hasKey (H.deals t).owned c.1/\c.2.1<(th H.things c.1).fields.length)
    (d3:∀t,t<4->((G.deals t).reads.map (·.1)).Nodup) (d4:∀t,t<4->∀c ∈ (G.deals t).reads,1<=c.1/\c.1<=H.things.length/\c.2<=(th H.things c.1).version):OwnOk G :=
  ⟨λt ht c hc=>by rw[h1,h2];exact h.ver t ht c (by rwa [d1] at hc),λi hi t e=>by rw[h1] at e;rw[d1];exact h.own i hi t e,λt ht=>by rw[d1];exact h.ond t ht,
    λt ht c hc=>by rw[d1,h3];exact d2 t ht c hc,d3,λt ht c hc=>by rw[h2,h0];exact d4 t ht c hc⟩
theorem put1_same {α:Type} (f:Nat->α) (t:Nat) (v:α):put1 f t v t=v:=by simp[put1]
theorem put1_other {α:Type} (f:Nat->α) (t:Nat) (v:α) {u:Nat} (h:u≠t):put1 f t v u=f u:=by simp[put1,h]
theorem OwnOk.ended {H G:Hall} (h:OwnOk H) {t:Nat} (ht:t<4) (hd:G.deals=put1 H.deals t noDeal) (h0:G.things.length=H.things.length)
    (h1:∀i,1<=i->(hasKey (H.deals t).owned i->(th G.things i).owner=none)/\(¬ hasKey (H.deals t).owned i->(th G.things i).owner=(th H.things i).owner/\(th G.things i).version=(th H.things i).version))
    (h2:∀i,1<=i->(th H.things i).version<=(th G.things i).version) (h3:∀i,(th G.things i).fields.length=(th H.things i).fields.length):OwnOk G:=by
  have hk:∀u,u<4->u≠t->∀i,hasKey (H.deals u).owned i->¬ hasKey (H.deals t).owned i:=λu hu hne i hi hi2=>hne (own_ne h hu ht hi hi2)
  refine⟨λu hu c hc=>?_,λi hi u e=>?_,λu hu=>?_,λu hu c hc=>?_,λu hu=>?_,λu hu c hc=>?_⟩
  · rw[hd] at hc
    by_cases e:u=t
    · subst e;rw[put1_same] at hc;cases hc
    · rw[put1_other _ _ _ e] at hc
      have h4:=h.ver u hu c hc
      have h5:=(h1 c.1 h4.1).2 (hk u hu e c.1 ⟨c,hc,rfl⟩)
      rw[h5.1,h5.2];exact h4
  · rw[hd]
    by_cases hi2:hasKey (H.deals t).owned i
    · rw[(h1 i hi).1 hi2] at e;cases e
    · rw[((h1 i hi).2 hi2).1] at e
      have h4:=h.own i hi u e
      by_cases e2:u=t
      · subst e2;exact absurd h4.2 hi2
      · rw[put1_other _ _ _ e2];exact h4
  · rw[hd]
    by_cases e:u=t
    · subst e;rw[put1_same];exact List.nodup_nil
    · rw[put1_other _ _ _ e];exact h.ond u hu
  · rw[hd] at hc ⊢
    by_cases e:u=t
    · subst e;rw[put1_same] at hc;cases hc
    · rw[put1_other _ _ _ e] at hc ⊢
      rw[h3];exact h.chg u hu c hc
  · rw[hd]
    by_cases e:u=t
    · subst e;rw[put1_same];exact List.nodup_nil
    · rw[put1_other _ _ _ e];exact h.rnd u hu
  · rw[hd] at hc
    by_cases e:u=t
    · subst e;rw[put1_same] at hc;cases hc
    · rw[put1_other _ _ _ e] at hc
      have h4:=h.rds u hu c hc
      have h5:=h2 c.1 h4.1
      rw[h0]
      omega
theorem OwnOk.keys {H:Hall} (h:OwnOk H) {t:Nat} (ht:t<4):∀c ∈ (H.deals t).owned,1<=c.1/\c.1<=H.things.length:=λc hc=>⟨(h.ver t ht c hc).1,owner_le (h.ver t ht c hc).2.1⟩
theorem OwnOk.undone {H:Hall} (h:OwnOk H) {t:Nat} (ht:t<4):OwnOk (H.undone t):=by
  have hth:∀i,1<=i->(hasKey (H.deals t).owned i->th (H.undone t).things i=freeT (th (backF H.things (H.deals t).changes) i))/\(¬ hasKey (H.deals t).owned i->th (H.undone t).things i=th (backF H.things (H.deals t).changes) i) :=
    λi hi=>th_freeF i hi _ _ (λc hc=>(h.keys ht c hc).1)
  have bo:∀i,(th (backF H.things (H.deals t).changes) i).owner=(th H.things i).owner:=λi=>back_keep (·.owner) (λ_ _ _=>rfl) _ _ _
  have bv:∀i,(th (backF H.things (H.deals t).changes) i).version=(th H.things i).version:=λi=>back_keep (·.version) (λ_ _ _=>rfl) _ _ _
  have bl:∀i,(th (backF H.things (H.deals t).changes) i).fields.length=(th H.things i).fields.length:=λi=>back_keep (·.fields.length) (λ_ _ _=>by simp[setT]) _ _ _
  refine h.ended ht rfl (by show (freeF _ _).length=_;rw[free_len,back_len]) (λi hi=>⟨λhk=>?_,λhk=>?_⟩) (λi hi=>?_) (λi=>?_)
  · rw[(hth i hi).1 hk];rfl
  · rw[(hth i hi).2 hk,bo,bv];exact⟨rfl,rfl⟩
  · by_cases hk:hasKey (H.deals t).owned i
    · rw[(hth i hi).1 hk];show _<=(th (backF H.things (H.deals t).changes) i).version;rw[bv];exact Nat.le_refl _
    · rw[(hth i hi).2 hk,bv];exact Nat.le_refl _
  · have e:(th (H.undone t).things i).fields=(th (backF H.things (H.deals t).changes) i).fields:=fields_freeF i _ _
    rw[e,bl]
theorem noted_none {l:List (Nat × Nat)} {n:Nat} (h:noted l n=none):∀c ∈ l,c.1≠n:=by
  intro c hc e
  unfold noted at h
  simp only [Option.map_eq_none_iff,List.find?_eq_none,beq_iff_eq] at h
  exact h c hc e
theorem nodup_snoc {l:List (Nat × Nat)} {c:Nat × Nat} (h:(l.map (·.1)).Nodup) (hc:∀d ∈ l,d.1≠c.1):((l++[c]).map (·.1)).Nodup:=by
  rw[List.map_append,List.nodup_append]
  refine⟨h,by simp,λa ha b hb=>?_⟩
  obtain⟨d,hd,rfl⟩:=List.mem_map.1 ha
  simp at hb
  rw[hb];exact hc d hd
theorem OwnOk.act {H:Hall} (h:OwnOk H) (hcl:Cl (λf=>f.2.2=false) H) (hdo:DealsOk H) (c:ActM):OwnOk (H.act c).1:=by
  have hp1:∀ {t:Nat} {d:Deal} {P:Nat->Deal->Prop},(∀u,u<4->P u (H.deals u))->P t d->∀u,u<4->P u (put1 H.deals t d u):=λh hv=>all_put1 h hv
  have hsame:∀(t:Nat) (d:Deal),d.owned=(H.deals t).owned->∀u,(put1 H.deals t d u).owned=(H.deals u).owned:=λt d e u=>by
    unfold put1
    split
    · rename_i e2;rw[e,e2]
    · rfl
  refine act_ind (P:=λp=>OwnOk p.1) H c ?_ ?_ ?_ ?_ ?_ ?_ ?_ ?_ ?_ ?_ ?_ ?_ ?_
  · intro e _;exact h
  · intro _ t ht _;unfold Hall.begin
    refine iteP (P:=λp:Hall × AnsM=>OwnOk p.1) (λ_=>h) λho=>?_
    have e0:=hdo t (by simpa using ho)
    refine h.same rfl (λ_=>rfl) (λ_=>rfl) (λ_=>rfl) (λu=>?_) ?_ ?_ ?_
    · exact hsame t ⟨true,H.regs t,[],[],[]⟩ (by rw[e0];rfl) u
    · exact all_put1 (P:=λu (d:Deal)=>∀c ∈ d.changes,hasKey (H.deals u).owned c.1/\c.2.1<(th H.things c.1).fields.length) (v:=⟨true,H.regs t,[],[],[]⟩) h.chg (λc hc=>by cases hc)
    · exact all_put1 (P:=λu (d:Deal)=>(d.reads.map (·.1)).Nodup) (v:=⟨true,H.regs t,[],[],[]⟩) h.rnd (by exact List.nodup_nil)
    · exact all_put1 (P:=λu (d:Deal)=>∀c ∈ d.reads,1<=c.1/\c.1<=H.things.length/\c.2<=(th H.things c.1).version) (v:=⟨true,H.regs t,[],[],[]⟩) h.rds (λc hc=>by cases hc)
  · intro _ t ht _;unfold Hall.commit
    refine iteP (P:=λp:Hall × AnsM=>OwnOk p.1) (λ_=>h) λ_=>?_
    refine iteP (P:=λp:Hall × AnsM=>OwnOk p.1) (λ_=>?_) λ_=>h.undone ht
    have hth:∀i,1<=i->(hasKey (H.deals t).owned i->th (bumpF H.things (H.deals t).owned) i=bumpT (th H.things i))/\(¬ hasKey (H.deals t).owned i->th (bumpF H.things (H.deals t).owned) i=th H.things i) :=
      λi hi=>th_bumpF i hi _ _ (h.keys ht) (h.ond t ht)
    refine h.ended ht rfl (bump_len _ _) (λi hi=>⟨λhk=>?_,λhk=>?_⟩) (λi hi=>?_) (λi=>?_)
    · show (th (bumpF H.things (H.deals t).owned) i).owner=none
      rw[(hth i hi).1 hk];rfl
    · show (th (bumpF H.things (H.deals t).owned) i).owner=_/\(th (bumpF H.things (H.deals t).owned) i).version=_
      rw[(hth i hi).2 hk];exact⟨rfl,rfl⟩
    · show _<=(th (bumpF H.things (H.deals t).owned) i).version
      by_cases hk:hasKey (H.deals t).owned i
      · rw[(hth i hi).1 hk];exact Nat.le_succ _
      · rw[(hth i hi).2 hk];exact Nat.le_refl _
    · show (th (bumpF H.things (H.deals t).owned) i).fields.length=_
      rw[fields_bumpF]
  · intro _ t ht _;unfold Hall.abort
    exact iteP (P:=λp:Hall × AnsM=>OwnOk p.1) (λ_=>h) λ_=>h.undone ht
  · intro _ t a ht ha _ _;unfold Hall.new
    refine iteP (P:=λp:Hall × AnsM=>OwnOk p.1) (λ_=>h) λ_=>?_
    refine iteP (P:=λp:Hall × AnsM=>OwnOk p.1) (λ_=>h) λ_=>?_
    refine iteP (P:=λp:Hall × AnsM=>OwnOk p.1) (λ_=>h) λ_=>?_
    have ho:∀i,1<=i->i<=H.things.length->th (H.things++[⟨List.replicate c.n.toNat (.num 0),0,none,false,true,false⟩]) i=th H.things i:=λi h1 h2=>th_append_old _ _ _ h2 h1
    refine⟨λu hu d hd=>?_,λi hi u e=>?_,h.ond,λu hu d hd=>?_,h.rnd,λu hu d hd=>?_⟩
    · have h4:=h.ver u hu d hd
      rw[ho _ h4.1 (owner_le h4.2.1)];exact h4
    · by_cases hl:i<=H.things.length
      · have e':(th (H.things++[⟨List.replicate c.n.toNat (.num 0),0,none,false,true,false⟩]) i).owner=some u:=e
        rw[ho _ hi hl] at e';exact h.own i hi u e'
      · have e':(th (H.things++[⟨List.replicate c.n.toNat (.num 0),0,none,false,true,false⟩]) i).owner=some u:=e
        by_cases e2:i=H.things.length+1
        · rw[e2,th_append_new] at e';cases e'
        · rw[th_out _ _ (by simp;omega)] at e';cases e'
    · have h4:=h.chg u hu d hd
      obtain⟨⟨x,hx,e⟩,h5⟩:=h4
      have h6:=h.ver u hu x hx
      rw[e] at h6
      refine⟨⟨x,hx,e⟩,?_⟩
      show d.2.1<(th (H.things++[_]) d.1).fields.length
      rw[ho _ h6.1 (owner_le h6.2.1)];exact h5
    · have h4:=h.rds u hu d hd
      refine⟨h4.1,by show d.1<=(H.things++[_]).length;rw[List.length_append];omega,?_⟩
      show d.2<=(th (H.things++[_]) d.1).version
      rw[ho _ h4.1 h4.2.1];exact h4.2.2
  · intro _ t a b ht ha hb _ _ _;unfold Hall.get
    refine iteP (P:=λp:Hall × AnsM=>OwnOk p.1) (λhk=>?_) λ_=>?_
    · obtain⟨ho,k0,kr,k1,k2,k3⟩:=acc_ok hk
      have hp:=((hcl.regs t ht b hb).id k0).le (by simp)
      rcases readD_cases H t (H.regs t b).id with e|⟨e1,e2,e⟩
      · refine h.same rfl (λ_=>rfl) (λ_=>rfl) (λ_=>rfl) (λu=>?_) ?_ ?_ ?_
        · show (H.readD t (H.regs t b).id u).owned=_
          rw[e]
        · show ∀u,u<4->∀c ∈ (H.readD t (H.regs t b).id u).changes,_
          rw[e];exact h.chg
        · show ∀u,u<4->((H.readD t (H.regs t b).id u).reads.map (·.1)).Nodup
          rw[e];exact h.rnd
        · show ∀u,u<4->∀c ∈ (H.readD t (H.regs t b).id u).reads,_
          rw[e];exact h.rds
      · refine h.same rfl (λ_=>rfl) (λ_=>rfl) (λ_=>rfl) (λu=>?_) ?_ ?_ ?_
        · show (H.readD t (H.regs t b).id u).owned=_
          rw[e];exact hsame t ((H.deals t).addR _) rfl u
        · show ∀u,u<4->∀c ∈ (H.readD t (H.regs t b).id u).changes,_
          rw[e]
          exact all_put1 (P:=λu (d:Deal)=>∀c ∈ d.changes,hasKey (H.deals u).owned c.1/\c.2.1<(th H.things c.1).fields.length) h.chg (h.chg t ht)
        · show ∀u,u<4->((H.readD t (H.regs t b).id u).reads.map (·.1)).Nodup
          rw[e]
          exact all_put1 (P:=λu (d:Deal)=>(d.reads.map (·.1)).Nodup) (v:=(H.deals t).addR ((H.regs t b).id,(H.thing (H.regs t b).id).version)) h.rnd (nodup_snoc (h.rnd t ht) (noted_none e1))
        · show ∀u,u<4->∀c ∈ (H.readD t (H.regs t b).id u).reads,_
          rw[e]
          refine all_put1 (P:=λu (d:Deal)=>∀c ∈ d.reads,1<=c.1/\c.1<=H.things.length/\c.2<=(th H.things c.1).version) h.rds (λx hx=>?_)
          rcases List.mem_append.1 hx with hx|hx
          · exact h.rds t ht x hx
          · rw[List.mem_singleton.1 hx]
            exact⟨hp.1,hp.2,Nat.le_refl _⟩
    · show OwnOk (if H.acc t b c.n=6 then H.undone t else H)
      exact iteP (λ_=>h.undone ht) λ_=>h
  · intro _ t a b ht ha hb _ _ _;unfold Hall.put
    refine iteP (P:=λp:Hall × AnsM=>OwnOk p.1) (λhk=>?_) λ_=>?_
    · obtain⟨ho,k0,kr,k1,k2,k3⟩:=acc_ok hk
      have hp:=((hcl.regs t ht a ha).id k0).le (by simp)
      generalize (H.regs t a).id=n at *
      have hown:OwnOk (H.own t n)/\hasKey ((H.own t n).deals t).owned n/\(∀i,(th (H.own t n).things i).fields=(th H.things i).fields):=by
        unfold Hall.own
        split
        · rename_i e
          exact⟨h,(h.own n hp.1 t e).2,λ_=>rfl⟩
        · rename_i hne
          have hnone:(th H.things n).owner=none:=k3.resolve_right hne
          have hm:∀i,1<=i->th (turnT H.things n (ownT t)) i=if i=n/\i<=H.things.length then ownT t (th H.things i) else th H.things i:=λi hi=>th_modify _ _ _ _ hp.1 hi
          have hv:∀i,(th (turnT H.things n (ownT t)) i).version=(th H.things i).version:=λi=>th_keep (·.version) (ownT t) (λ_=>rfl) _ _ _
          have hnk:∀u,u<4->¬ hasKey (H.deals u).owned n:=λu hu ⟨d,hd,e⟩=>by
            have:=(h.ver u hu d hd).2.1
            rw[e,hnone] at this;cases this
          refine⟨⟨λu hu d hd=>?_,λi hi u e=>?_,?_,λu hu d hd=>?_,?_,λu hu d hd=>?_⟩,?_,λi=>fields_turn _ _ _ (ownT t) λ_=>rfl⟩
          · have hd':d ∈ (put1 H.deals t ((H.deals t).addO (n,(H.thing n).version)) u).owned:=hd
            show 1<=d.1/\(th (turnT H.things n (ownT t)) d.1).owner=some u/\(th (turnT H.things n (ownT t)) d.1).version=d.2
            rw[hv]
            by_cases e:u=t
            · subst e
              rw[put1_same] at hd'
              rcases List.mem_append.1 hd' with hd'|hd'
              · have h4:=h.ver u hu d hd'
                rw[hm _ h4.1,if_neg (λe=>hnk u hu ⟨d,hd',e.1⟩)];exact h4
              · rw[List.mem_singleton.1 hd']
                exact⟨hp.1,by rw[hm _ hp.1,if_pos ⟨rfl,hp.2⟩];rfl,rfl⟩
            · rw[put1_other _ _ _ e] at hd'
              have h4:=h.ver u hu d hd'
              rw[hm _ h4.1,if_neg (λe=>hnk u hu ⟨d,hd',e.1⟩)];exact h4
          · have e':(th (turnT H.things n (ownT t)) i).owner=some u:=e
            show u<4/\hasKey (put1 H.deals t ((H.deals t).addO (n,(H.thing n).version)) u).owned i
            rw[hm _ hi] at e'
            split at e'
            · rename_i hin
              have:t=u:=Option.some.inj e'
              subst this
              rw[put1_same]
              exact⟨ht,(hasKey_snoc _ _ _).2 (.inr hin.1.symm)⟩
            · have h4:=h.own i hi u e'
              by_cases e2:u=t
              · subst e2
                rw[put1_same]
                exact⟨ht,(hasKey_snoc _ _ _).2 (.inl h4.2)⟩
              · rw[put1_other _ _ _ e2];exact h4
          · refine all_put1 (P:=λu (d:Deal)=>(d.owned.map (·.1)).Nodup) (v:=(H.deals t).addO (n,(H.thing n).version)) h.ond (nodup_snoc (h.ond t ht) (λd hd e=>hnk t ht ⟨d,hd,e⟩))
          · have hd':d ∈ (put1 H.deals t ((H.deals t).addO (n,(H.thing n).version)) u).changes:=hd
            show hasKey (put1 H.deals t ((H.deals t).addO (n,(H.thing n).version)) u).owned d.1/\d.2.1<(th (turnT H.things n (ownT t)) d.1).fields.length
            rw[fields_turn _ _ _ (ownT t) λ_=>rfl]
            by_cases e:u=t
            · subst e
              rw[put1_same] at hd' ⊢
              have h4:=h.chg u hu d hd'
              exact⟨(hasKey_snoc _ _ _).2 (.inl h4.1),h4.2⟩
            · rw[put1_other _ _ _ e] at hd' ⊢
              exact h.chg u hu d hd'
          · exact all_put1 (P:=λu (d:Deal)=>(d.reads.map (·.1)).Nodup) (v:=(H.deals t).addO (n,(H.thing n).version)) h.rnd (h.rnd t ht)
          · have hd':d ∈ (put1 H.deals t ((H.deals t).addO (n,(H.thing n).version)) u).reads:=hd
            show 1<=d.1/\d.1<=(turnT H.things n (ownT t)).length/\d.2<=(th (turnT H.things n (ownT t)) d.1).version
            rw[hv,turn_len]
            exact all_put1 (P:=λu (d:Deal)=>∀c ∈ d.reads,1<=c.1/\c.1<=H.things.length/\c.2<=(th H.things c.1).version) (v:=(H.deals t).addO (n,(H.thing n).version)) h.rds (h.rds t ht) u hu d hd'
          · show hasKey (put1 H.deals t ((H.deals t).addO (n,(H.thing n).version)) t).owned n
            rw[put1_same]
            exact (hasKey_snoc _ _ _).2 (.inr rfl)
      obtain⟨hO,hOk,hOf⟩:=hown
      have hfl:(th (H.own t n).things n).fields.length=(th H.things n).fields.length:=by rw[hOf]
      have k2':c.n<(th H.things n).fields.length:=k2
      generalize H.own t n=O at hO hOk hfl
      unfold Hall.write
      refine hO.same (by show (setF _ _ _ _).length=_;exact turn_len _ _ _) (λi=>th_keep (·.owner) (setT _ _) (λ_=>rfl) _ _ _) (λi=>th_keep (·.version) (setT _ _) (λ_=>rfl) _ _ _) (λi=>th_keep (·.fields.length) (setT _ _) (λ_=>by simp[setT]) _ _ _) (λu=>?_) ?_ ?_ ?_
      · show (put1 O.deals t _ u).owned=(O.deals u).owned
        unfold put1
        split
        · rename_i e2;rw[e2];rfl
        · rfl
      · refine all_put1 (P:=λu (d:Deal)=>∀c ∈ d.changes,hasKey (O.deals u).owned c.1/\c.2.1<(th O.things c.1).fields.length) hO.chg (λx hx=>?_)
        rcases List.mem_append.1 hx with hx|hx
        · exact hO.chg t ht x hx
        · rw[List.mem_singleton.1 hx]
          exact⟨hOk,by show c.n.toNat<(th O.things n).fields.length;omega⟩
      · exact all_put1 (P:=λu (d:Deal)=>(d.reads.map (·.1)).Nodup) (v:=(O.deals t).addC (n,c.n.toNat,(O.thing n).fields.getD c.n.toNat (.num 0))) hO.rnd (hO.rnd t ht)
      · exact all_put1 (P:=λu (d:Deal)=>∀c ∈ d.reads,1<=c.1/\c.1<=O.things.length/\c.2<=(th O.things c.1).version) (v:=(O.deals t).addC (n,c.n.toNat,(O.thing n).fields.getD c.n.toNat (.num 0))) hO.rds (hO.rds t ht)
    · show OwnOk (if H.acc t a c.n=6 then H.undone t else H)
      exact iteP (λ_=>h.undone ht) λ_=>h
  · intro _ t a ht ha _ _;unfold Hall.set
    exact iteP (P:=λp:Hall × AnsM=>OwnOk p.1) (λ_=>h.same rfl (λ_=>rfl) (λ_=>rfl) (λ_=>rfl) (λ_=>rfl) h.chg h.rnd h.rds) λ_=>h
  · intro _ t a b u0 ht ha hb hu0 _ _ _ _;unfold Hall.copy
    exact iteP (P:=λp:Hall × AnsM=>OwnOk p.1) (λ_=>h) λ_=>h.same rfl (λ_=>rfl) (λ_=>rfl) (λ_=>rfl) (λ_=>rfl) h.chg h.rnd h.rds
  · intro _ t a b _ _ _ _ _ _;exact h
  · intro _;unfold Hall.collect
    refine iteP (P:=λp:Hall × AnsM=>OwnOk p.1) (λ_=>h) λ_=>?_
    have e:∀ {β:Type} (g:Thing->β),(∀x f k,g { x with fresh:=f,kept:=k }=g x)->∀i,g (th (keptF H.things H.roots) i)=g (th H.things i):=λg hg i=>by
      unfold th keptF
      simp only [List.getD_eq_getElem?_getD,List.getElem?_mapIdx]
      cases H.things[i - 1]? with
      | none=>rfl
      | some y=>exact hg _ _ _
    exact h.same (by simp[keptF]) (λi=>e (·.owner) (λ_ _ _=>rfl) i) (λi=>e (·.version) (λ_ _ _=>rfl) i) (λi=>e (·.fields.length) (λ_ _ _=>rfl) i) (λ_=>rfl) h.chg h.rnd h.rds
  · intro _;unfold Hall.step
    refine iteP (P:=λp:Hall × AnsM=>OwnOk p.1) (λ_=>h) λ_=>?_
    refine iteP (P:=λp:Hall × AnsM=>OwnOk p.1) (λ_=>h) λ_=>?_
    refine iteP (P:=λp:Hall × AnsM=>OwnOk p.1) (λ_=>?_) λ_=>h.same rfl (λ_=>rfl) (λ_=>rfl) (λ_=>rfl) (λ_=>rfl) h.chg h.rnd h.rds
    have e:∀ {β:Type} (g:Thing->β),(∀x f,g { x with gone:=f }=g x)->∀i,g (th (sweepF H.things) i)=g (th H.things i):=λg hg i=>by
      unfold th sweepF
      simp only [List.getD_eq_getElem?_getD,List.getElem?_map]
      cases H.things[i - 1]? with
      | none=>rfl
      | some y=>exact hg _ _
    exact h.same (by simp[sweepF]) (λi=>e (·.owner) (λ_ _=>rfl) i) (λi=>e (·.version) (λ_ _=>rfl) i) (λi=>e (·.fields.length) (λ_ _=>rfl) i) (λ_=>rfl) h.chg h.rnd h.rds
  · intro _;exact h
end Go.Proofs.Ytbeilcaadpopmab
