/- Texts put together: Sa, Sb, Sd, Si, Sj, Sk, Sn, Sx, Sy, Sq. -/
import Derived.Test.YtbeilcaadpopmabY4
import Derived.Test.YtbeilcaadpopmabY5
import Derived.Test.YtbeilcaadpopmabY2
import Derived.Test.YtbeilcaadpopmabY6
import Derived.Test.YtbeilcaadpopmabY8
import Derived.Test.YtbeilcaadpopmabY3
set_option linter.unusedVariables false
set_option linter.unusedSimpArgs false
namespace Go.Proofs.Ytbeilcaadpopmab
def Live (l:List Thing) (i:Nat):Prop:=1<=i/\i<=l.length/\(th l i).gone=false
theorem live_pi {l:List Thing} {i:Nat}:PI (λf=>f.2.2=false) l i ↔ Live l i:=by
  constructor
  · intro h
    have:=h.le (by simp)
    exact⟨this.1,this.2,h.2⟩
  · intro h
    exact⟨h.1,h.2.2⟩
theorem usedOf_append:∀(a b:List Thing),usedOf (a++b)=usedOf a+usedOf b
  | [],b=>by simp[usedOf]
  | x :: a,b=>by simp only [List.cons_append,usedOf,usedOf_append a b];omega
def plL (l:List Thing) (i:Nat):Nat:=1+usedOf (l.take (i - 1))
theorem take_th {l:List Thing} {i:Nat} (h1:1<=i) (h2:i<=l.length):l.take i=l.take (i - 1)++[th l i]:=by
  have h3:i - 1<l.length:=by omega
  have:=List.take_add_one (l:=l) (i:=i - 1)
  rw[show i - 1+1=i by omega] at this
  rw[this]
  unfold th
  rw[List.getD_eq_getElem?_getD,List.getElem?_eq_getElem h3]
  rfl
theorem plL_next {l:List Thing} {i:Nat} (h:Live l i):1+usedOf (l.take i)=plL l i+2+(th l i).fields.length:=by
  rw[take_th h.1 h.2.1,usedOf_append]
  simp[usedOf,h.2.2,plL]
  omega
theorem used_take_mono (l:List Thing) {i j:Nat} (h:i<=j):usedOf (l.take i)<=usedOf (l.take j):=by
  have:l.take j=l.take i++(l.take j).drop i:=by
    have:=List.take_append_drop i (l.take j)
    rw[List.take_take,Nat.min_eq_left h] at this
    exact this.symm
  rw[this,usedOf_append]
  omega
theorem used_take_le (l:List Thing) (i:Nat):usedOf (l.take i)<=usedOf l:=by
  have:=List.take_append_drop i l
  rw[<- this,usedOf_append]
  have e:(l.take i++l.drop i).take i=l.take i:=by rw[this]
  rw[e];omega
theorem plL_apart {l:List Thing} {i j:Nat} (h:Live l i) (hij:i<j):plL l i+2+(th l i).fields.length<=plL l j:=by
  rw[<- plL_next h]
  have:=used_take_mono l (show i<=j - 1 by omega)
  unfold plL;omega
theorem plL_end {l:List Thing} {i:Nat} (h:Live l i):plL l i+2+(th l i).fields.length<=1+usedOf l:=by
  rw[<- plL_next h]
  have:=used_take_le l i
  omega
theorem plL_pos (l:List Thing) (i:Nat):1<=plL l i:=by unfold plL;omega
theorem plL_spot {l:List Thing} {i n a b:Nat} (hi:Live l i) (hn:Live l n) (ha:a<2+(th l i).fields.length) (hb:b<2+(th l n).fields.length) (e:plL l i+a=plL l n+b):i=n/\a=b:=by
  have h1:i=n:=by
    rcases Nat.lt_trichotomy i n with h|h|h
    · have:=plL_apart hi h;omega
    · exact h
    · have:=plL_apart hn h;omega
  subst h1
  exact⟨rfl,by omega⟩
theorem plL_inj {l:List Thing} {i n:Nat} (hi:Live l i) (hn:Live l n) (e:plL l i=plL l n):i=n:=(plL_spot (a:=0) (b:=0) hi hn (by omega) (by omega) (by omega)).1
def shape (l:List Thing):List (Bool × Nat):=l.map λx=>(x.gone,x.fields.length)
theorem used_shape:∀ {l l':List Thing},shape l=shape l'->usedOf l=usedOf l'
  | [],[],_=>rfl
  | [],y :: l',h=>by simp[shape] at h
  | x :: l,[],h=>by simp[shape] at h
  | x :: l,y :: l',h=>by
    simp only [shape,List.map_cons,List.cons.injEq,Prod.mk.injEq] at h
    have:=used_shape (l:=l) (l':=l') h.2
    simp only [usedOf,h.1.1,h.1.2,this]
theorem shape_take {l l':List Thing} (h:shape l=shape l') (i:Nat):shape (l.take i)=shape (l'.take i):=by
  unfold shape at *
  rw[List.map_take,List.map_take,h]
theorem plL_shape {l l':List Thing} (h:shape l=shape l') (i:Nat):plL l i=plL l' i:=by
  unfold plL
  rw[used_shape (shape_take h _)]
theorem shape_len {l l':List Thing} (h:shape l=shape l'):l.length=l'.length:=by
  have:=congrArg List.length h
  simpa [shape] using this
theorem shape_th {l l':List Thing} (h:shape l=shape l') (i:Nat):(th l i).gone=(th l' i).gone/\(th l i).fields.length=(th l' i).fields.length:=by
  have:(shape l)[i - 1]? = (shape l')[i - 1]?:=by rw[h]
  unfold shape at this
  simp only [List.getElem?_map] at this
  unfold th
  simp only [List.getD_eq_getElem?_getD]
  cases h1:l[i - 1]? <;> cases h2:l'[i - 1]? <;> rw[h1,h2] at this <;> simp at this ⊢
  exact this
theorem live_shape {l l':List Thing} (h:shape l=shape l') (i:Nat):Live l i ↔ Live l' i:=by
  unfold Live
  rw[shape_len h,(shape_th h i).1]
theorem shape_turn (l:List Thing) (n:Nat) (f:Thing->Thing) (h:∀x,(f x).gone=x.gone/\(f x).fields.length=x.fields.length):shape (turnT l n f)=shape l:=by
  unfold shape turnT
  exact map_turn _ f (λx=>by rw[(h x).1,(h x).2]) l _
theorem shape_setF (l:List Thing) (n k:Nat) (v:V):shape (setF l n k v)=shape l:=shape_turn l n _ λx=>⟨rfl,by simp[setT]⟩
theorem shape_backF (l:List Thing):∀cs,shape (backF l cs)=shape l
  | []=>rfl
  | c :: cs=>by rw[backF,shape_setF,shape_backF l cs]
theorem shape_freeF:∀(cs:List (Nat × Nat)) (l:List Thing),shape (freeF l cs)=shape l
  | [],l=>rfl
  | c :: cs,l=>by rw[freeF,shape_freeF cs,shape_turn _ _ freeT λ_=>⟨rfl,rfl⟩]
theorem shape_bumpF:∀(cs:List (Nat × Nat)) (l:List Thing),shape (bumpF l cs)=shape l
  | [],l=>rfl
  | c :: cs,l=>by rw[bumpF,shape_bumpF cs,shape_turn _ _ bumpT λ_=>⟨rfl,rfl⟩]
theorem shape_undone (H:Hall) (t:Nat):shape (H.undone t).things=shape H.things:=by
  show shape (freeF (backF H.things (H.deals t).changes) (H.deals t).owned)=_
  rw[shape_freeF,shape_backF]
theorem shape_own (H:Hall) (t n:Nat):shape (H.own t n).things=shape H.things:=by
  unfold Hall.own
  split
  · rfl
  · exact shape_turn _ _ _ λ_=>⟨rfl,rfl⟩
theorem shape_kept (l:List Thing) (rs:List Nat):shape (keptF l rs)=shape l:=by
  unfold keptF shape
  refine List.ext_getElem (by simp) λi h1 h2=>by simp
def encV (l:List Thing):V->Int × Int
  | .num n=>(0,n)
  | .ref i=>(1,if i=0 then 0 else (plL l i:Int))
def stW (x:Thing):Int:=match x.owner with
  | none=>2 * (x.version:Int)
  | some t=>2 * (t:Int)+1
def wV (l:List Thing) (v:V):Int:=wordOf (encV l v).1 (encV l v).2
theorem encV_shape {l l':List Thing} (h:shape l=shape l') (v:V):encV l v=encV l' v:=by
  cases v with
  | num n=>rfl
  | ref i=>simp only [encV,plL_shape h]
theorem wV_shape {l l':List Thing} (h:shape l=shape l') (v:V):wV l v=wV l' v:=by unfold wV;rw[encV_shape h]
theorem wV_back (l:List Thing) (v:V):(ofK (wV l v),ofN (wV l v))=encV l v:=by
  cases v with
  | num n=>simp[wV,encV,wordOf,ofK,ofN]
  | ref i =>
    have h:wordOf (encV l (.ref i)).1 (encV l (.ref i)).2=2 * (encV l (.ref i)).2+1:=by simp[encV,wordOf]
    unfold wV
    rw[h]
    have h2:(encV l (.ref i)).1=1:=rfl
    refine Prod.ext ?_ ?_
    · rw[h2];simp only [ofK];omega
    · simp only [ofN];omega
structure ObjW (l:List Thing) (xs:List Int) (i:Nat):Prop where
  st:xs.getD (plL l i) 0=stW (th l i)
  nf:xs.getD (plL l i+1) 0=((th l i).fields.length:Int)
  fs:∀(k:Nat) v,(th l i).fields[k]? = some v->xs.getD (plL l i+2+k) 0=wV l v
structure Wds (words:Nat) (l:List Thing) (xs:List Int):Prop where
  len:xs.length=words
  room:1+usedOf l<=words
  obj:∀i,Live l i->ObjW l xs i
  up:∀j,j=0\/1+usedOf l<=j->xs.getD j 0=0
theorem Wds.lt {words:Nat} {l:List Thing} {xs:List Int} (h:Wds words l xs) {i:Nat} (hi:Live l i):plL l i+2+(th l i).fields.length<=xs.length:=by
  have:=plL_end hi
  have:=h.room
  have:=h.len
  omega
theorem getD_set (xs:List Int) (i j:Nat) (v:Int) (h:i<xs.length):(xs.set i v).getD j 0=if j=i then v else xs.getD j 0:=by
  simp only [List.getD_eq_getElem?_getD,List.getElem?_set]
  by_cases e:i=j
  · subst e;simp[h]
  · rw[if_neg e,if_neg (λe'=>e e'.symm)]
theorem Wds.turn {words:Nat} {l l':List Thing} {xs xs':List Int} (h:Wds words l xs) (hs:shape l' = shape l) (hl:xs'.length=xs.length)
    (ho:∀i,Live l i->xs'.getD (plL l i) 0=stW (th l' i)/\xs'.getD (plL l i+1) 0=xs.getD (plL l i+1) 0/\∀(k:Nat) v,(th l' i).fields[k]? = some v->xs'.getD (plL l i+2+k) 0=wV l v)
    (hu:∀j,j=0\/1+usedOf l<=j->xs'.getD j 0=xs.getD j 0):Wds words l' xs':=by
  refine⟨hl.trans h.len,by rw[used_shape hs];exact h.room,λi hi=>?_,λj hj=>?_⟩
  · have hi':=(live_shape hs i).1 hi
    obtain⟨a,b,c⟩:=ho i hi'
    refine⟨?_,?_,λk v hv=>?_⟩
    · rw[plL_shape hs];exact a
    · rw[plL_shape hs,(shape_th hs i).2,b];exact (h.obj i hi').nf
    · rw[plL_shape hs,wV_shape hs];exact c k v hv
  · rw[used_shape hs] at hj
    rw[hu j hj];exact h.up j hj
theorem Wds.setF {words:Nat} {l:List Thing} {xs:List Int} (h:Wds words l xs) {n k:Nat} (hn:Live l n) (hk:k<(th l n).fields.length) (v:V):Wds words (setF l n k v) (xs.set (plL l n+2+k) (wV l v)):=by
  have hb:=h.lt hn
  refine h.turn (shape_setF _ _ _ _) (by simp) (λi hi=>?_) (λj hj=>?_)
  · have hm:th (Go.Proofs.Ytbeilcaadpopmab.setF l n k v) i=if i=n/\i<=l.length then setT k v (th l i) else th l i:=th_modify l n i (setT k v) hn.1 hi.1
    have hs:=hi.2.1
    have ho:=h.obj i hi
    rw[getD_set _ _ _ _ (by omega),getD_set _ _ _ _ (by omega),if_neg (λe=>?_),if_neg (λe=>?_)]
    · refine⟨?_,rfl,λj u hu=>?_⟩
      · rw[ho.st,hm];split <;> rfl
      · rw[getD_set _ _ _ _ (by omega)]
        by_cases e:i=n
        · subst e
          rw[hm,if_pos ⟨rfl,hs⟩] at hu
          simp only [setT,List.getElem?_set] at hu
          split at hu
          · rename_i e;subst e
            rw[if_pos rfl]
            simp only [hk,if_true,Option.some.injEq] at hu
            rw[hu]
          · rename_i e
            rw[if_neg (by omega)]
            exact ho.fs j u hu
        · rw[hm,if_neg (λe'=>e e'.1)] at hu
          have hj:j<(th l i).fields.length:=(List.getElem?_eq_some_iff.1 hu).1
          rw[if_neg (λe'=>e (plL_spot (a:=2+j) (b:=2+k) hi hn (by omega) (by omega) (by omega)).1)]
          exact ho.fs j u hu
    · have:=(plL_spot (a:=1) (b:=2+k) hi hn (by omega) (by omega) (by omega)).2
      omega
    · have:=(plL_spot (a:=0) (b:=2+k) hi hn (by omega) (by omega) (by omega)).2
      omega
  · have:=plL_end hn
    have:=plL_pos l n
    rw[getD_set _ _ _ _ (by omega),if_neg (by omega)]
theorem Wds.setS {words:Nat} {l:List Thing} {xs:List Int} (h:Wds words l xs) {n:Nat} (hn:Live l n) (f:Thing->Thing) (hf:∀x,(f x).gone=x.gone/\(f x).fields=x.fields) (s:Int) (hs:stW (f (th l n))=s):Wds words (turnT l n f) (xs.set (plL l n) s):=by
  have hb:=h.lt hn
  refine h.turn (shape_turn _ _ _ λx=>⟨(hf x).1,by rw[(hf x).2]⟩) (by simp) (λi hi=>?_) (λj hj=>?_)
  · have hm:=th_modify l n i f hn.1 hi.1
    have ho:=h.obj i hi
    have hil:=hi.2.1
    rw[getD_set _ _ _ _ (by omega),getD_set _ _ (plL l i+1) _ (by omega),if_neg (c:=plL l i+1=plL l n) (λe=>?_)]
    · refine⟨?_,rfl,λj u hu=>?_⟩
      · by_cases e:i=n
        · subst e
          rw[if_pos rfl,hm,if_pos ⟨rfl,hil⟩,hs]
        · rw[if_neg (λe'=>e (plL_inj hi hn e')),hm,if_neg (λe'=>e e'.1)];exact ho.st
      · have hff:(th (turnT l n f) i).fields=(th l i).fields:=by
          rw[hm];split
          · exact (hf _).2
          · rfl
        rw[hff] at hu
        have hj:j<(th l i).fields.length:=(List.getElem?_eq_some_iff.1 hu).1
        rw[getD_set _ _ _ _ (by omega),if_neg (λe=>?_)]
        · exact ho.fs j u hu
        · have:=(plL_spot (a:=2+j) (b:=0) hi hn (by omega) (by omega) (by omega)).2
          omega
    · have:=(plL_spot (a:=1) (b:=0) hi hn (by omega) (by omega) (by omega)).2
      omega
  · have:=plL_end hn
    have:=plL_pos l n
    rw[getD_set _ _ _ _ (by omega),if_neg (by omega)]
theorem getD_redo (xs:List Int) (f:Int->Option Int) (j:Nat) (hj:j<xs.length):(redo xs f).getD j 0=(f (j:Int)).getD (xs.getD j 0):=by
  unfold redo
  rw[List.getD_eq_getElem?_getD,List.getElem?_mapIdx,List.getElem?_eq_getElem hj,List.getD_eq_getElem?_getD,List.getElem?_eq_getElem hj]
  rfl
theorem Wds.redoS {words:Nat} {l l':List Thing} {xs:List Int} (h:Wds words l xs) (f:Int->Option Int) (hs:shape l' = shape l) (hfl:∀i,(th l' i).fields=(th l i).fields)
    (hf:∀(j:Nat) c,f j=some c->∃i,Live l i/\j=plL l i) (hst:∀i,Live l i->stW (th l' i)=(f (plL l i)).getD (stW (th l i))):Wds words l' (redo xs f):=by
  have hno:∀i a,Live l i->1<=a->a<2+(th l i).fields.length->f ((plL l i+a:Nat):Int)=none:=λi a hi h1 h2=>by
    cases e:f ((plL l i+a:Nat):Int) with
    | none=>rfl
    | some c =>
      obtain⟨n,hn,e2⟩:=hf _ c e
      have:=(plL_spot (a:=a) (b:=0) hi hn h2 (by omega) (by omega)).2
      omega
  refine h.turn hs (by simp[redo]) (λi hi=>?_) (λj hj=>?_)
  · have hb:=h.lt hi
    have ho:=h.obj i hi
    refine⟨?_,?_,λk v hv=>?_⟩
    · rw[getD_redo _ _ _ (by omega),hst i hi,ho.st]
    · rw[getD_redo _ _ _ (by omega),hno i 1 hi (by omega) (by omega)];rfl
    · rw[hfl] at hv
      have hk:k<(th l i).fields.length:=(List.getElem?_eq_some_iff.1 hv).1
      have h3:=ho.fs k v hv
      rw[show plL l i+2+k=plL l i+(2+k) by omega] at h3 ⊢
      rw[getD_redo _ _ _ (by omega),hno i (2+k) hi (by omega) (by omega)]
      exact h3
  · by_cases hl:j<xs.length
    · rw[getD_redo _ _ _ hl]
      cases e:f (j:Int) with
      | none=>rfl
      | some c =>
        obtain⟨n,hn,e2⟩:=hf _ c e
        have:=plL_end hn
        have:=plL_pos l n
        omega
    · rw[List.getD_eq_getElem?_getD,List.getElem?_eq_none (by simp[redo];omega),List.getD_eq_getElem?_getD,List.getElem?_eq_none (by omega)]
theorem Wds.new {words:Nat} {l:List Thing} {xs:List Int} (h:Wds words l xs) (k:Nat) (hr:1+usedOf l+2+k<=words) (x:Thing) (hx:x.fields=List.replicate k (.num 0)) (hg:x.gone=false) (hs:stW x=0)
    (hfs:∀i,Live l i->∀v ∈ (th l i).fields,v.id<=l.length):Wds words (l++[x]) (xs.set (1+usedOf l+1) (k:Int)):=by
  have hu:usedOf (l++[x])=usedOf l+2+k:=by rw[usedOf_append];simp[usedOf,hg,hx];omega
  have hl:=h.len
  have hp:∀i,i<=l.length+1->plL (l++[x]) i=plL l i:=λi hi=>by
    unfold plL
    rw[List.take_append_of_le_length (by omega)]
  refine⟨by simpa using hl,by rw[hu];omega,λi hi=>?_,λj hj=>?_⟩
  · have hi2:i<=l.length+1:=by simpa using hi.2.1
    by_cases e:i=l.length+1
    · subst e
      have hpl:plL (l++[x]) (l.length+1)=1+usedOf l:=by rw[hp _ (by omega)];unfold plL;simp
      refine⟨?_,?_,λj v hv=>?_⟩
      · rw[hpl,th_append_new,getD_set _ _ _ _ (by omega),if_neg (by omega),hs];exact h.up _ (by omega)
      · rw[hpl,th_append_new,getD_set _ _ _ _ (by omega),if_pos rfl,hx];simp
      · rw[th_append_new,hx] at hv
        have hv2:v = .num 0:=List.eq_of_mem_replicate (List.mem_of_getElem? hv)
        have hj:j<k:=by have:=(List.getElem?_eq_some_iff.1 hv).1;simpa using this
        rw[hpl,getD_set _ _ _ _ (by omega),if_neg (by omega),h.up _ (by omega),hv2]
        rfl
    · have hold:=th_append_old l x i (by omega) hi.1
      have hi':Live l i:=⟨hi.1,by omega,by rw[<- hold];exact hi.2.2⟩
      have ho:=h.obj i hi'
      have hend:=plL_end hi'
      refine⟨?_,?_,λj v hv=>?_⟩
      · rw[hp _ hi2,hold,getD_set _ _ _ _ (by omega),if_neg (by omega)];exact ho.st
      · rw[hp _ hi2,hold,getD_set _ _ _ _ (by omega),if_neg (by omega)];exact ho.nf
      · rw[hold] at hv
        have hj:j<(th l i).fields.length:=(List.getElem?_eq_some_iff.1 hv).1
        rw[hp _ hi2,getD_set _ _ _ _ (by omega),if_neg (by omega),ho.fs j v hv]
        have hv2:=hfs i hi' v (List.mem_of_getElem? hv)
        cases v with
        | num n=>rfl
        | ref m =>
          have hm:m<=l.length:=hv2
          simp only [wV,encV,hp m (by omega)]
  · rw[hu] at hj
    rw[getD_set _ _ _ _ (by omega),if_neg (by omega)]
    exact h.up j (by omega)
theorem Wds.start {n:Nat} (h:1<=n):Wds n [] (List.replicate n 0):=by
  refine⟨by simp,by simpa [usedOf] using h,λi hi=>?_,λj _=>?_⟩
  · have:=hi.1;have:=hi.2.1;simp at this;omega
  · rw[List.getD_eq_getElem?_getD,List.getElem?_replicate];split <;> rfl
theorem spot_of:∀(n:Nat) (l:List Thing),l.length=n->∀j,1<=j->j<1+usedOf l->∃i a,Live l i/\a<2+(th l i).fields.length/\j=plL l i+a
  | 0,l,hn,j,h1,h2=>by
    have:l=[]:=List.eq_nil_of_length_eq_zero hn
    subst this
    simp[usedOf] at h2
    omega
  | n + 1, l, hn, j, h1, h2 => by
    have hne:l≠[]:=λe=>by rw[e] at hn;simp at hn
    obtain⟨a,x,rfl⟩:∃a x,l=a++[x]:=⟨l.dropLast,l.getLast hne,(List.dropLast_concat_getLast hne).symm⟩
    have ha:a.length=n:=by simpa using hn
    have hp:∀i,i<=a.length+1->plL (a++[x]) i=plL a i:=λi hi=>by
      unfold plL
      rw[List.take_append_of_le_length (by omega)]
    by_cases hj:j<1+usedOf a
    · obtain⟨i,b,hi,hb,e⟩:=spot_of n a ha j h1 hj
      have hold:=th_append_old a x i hi.2.1 hi.1
      refine⟨i,b,⟨hi.1,by have:=hi.2.1;simp;omega,by rw[hold];exact hi.2.2⟩,by rw[hold];exact hb,?_⟩
      rw[hp i (by have:=hi.2.1;omega)];exact e
    · have hu:usedOf (a++[x])=usedOf a+usedOf [x]:=usedOf_append _ _
      have hg:x.gone=false:=by
        cases h:x.gone with
        | false=>rfl
        | true=>simp[usedOf,h] at hu;omega
      have hu2:usedOf [x]=2+x.fields.length:=by simp[usedOf,hg]
      have hnew:th (a++[x]) (a.length+1)=x:=th_append_new _ _
      have hpl:plL (a++[x]) (a.length+1)=1+usedOf a:=by rw[hp _ (by omega)];unfold plL;simp
      refine⟨a.length+1,j - (1+usedOf a),⟨by omega,by simp,by rw[hnew];exact hg⟩,by rw[hnew];omega,by rw[hpl];omega⟩
theorem Wds.same {words:Nat} {l:List Thing} {xs ys:List Int} (h:Wds words l xs) (g:Wds words l ys):xs=ys:=by
  have hl:xs.length=ys.length:=h.len.trans g.len.symm
  refine List.ext_getElem hl λj h1 h2=>?_
  have key:xs.getD j 0=ys.getD j 0:=by
    by_cases hj:j=0\/1+usedOf l<=j
    · rw[h.up j hj,g.up j hj]
    · obtain⟨i,a,hi,ha,rfl⟩:=spot_of _ l rfl j (by omega) (by omega)
      have o:=h.obj i hi
      have p:=g.obj i hi
      by_cases a0:a=0
      · subst a0;exact o.st.trans p.st.symm
      · by_cases a1:a=1
        · subst a1;exact o.nf.trans p.nf.symm
        · obtain⟨k,rfl⟩:∃k,a=2+k:=⟨a - 2,by omega⟩
          have hk:k<(th l i).fields.length:=by omega
          have q:=List.getElem?_eq_getElem hk
          rw[<- Nat.add_assoc]
          exact (o.fs k _ q).trans (p.fs k _ q).symm
  simpa [List.getD_eq_getElem?_getD,List.getElem?_eq_getElem h1,List.getElem?_eq_getElem h2] using key
end Go.Proofs.Ytbeilcaadpopmab
namespace Go.Proofs.Ytbeilcaadpopmab
def VOk:V->Prop
  | .num n=>-1099511627776<=n/\n<=1099511627776
  | .ref _=>True
structure Sz (K:Nat) (H:Hall):Prop where
  regs:∀t r,VOk (H.regs t r)
  saved:∀t r,VOk ((H.deals t).saved r)
  was:∀t,∀c ∈ (H.deals t).changes,VOk c.2.2
  fields:∀i,∀v ∈ (th H.things i).fields,VOk v
  f6:∀i,(th H.things i).fields.length<=6
  ver:∀i,(th H.things i).version<=K
  rd:∀t,(H.deals t).reads.length<=K
  ow:∀t,(H.deals t).owned.length<=K
  ch:∀t,(H.deals t).changes.length<=K
  n:H.things.length<=K
theorem free_keep {β:Type} (g:Thing->β) (h:∀x,g (freeT x)=g x) (i:Nat):∀(cs:List (Nat × Nat)) (l:List Thing),g (th (freeF l cs) i)=g (th l i)
  | [],l=>rfl
  | c :: cs,l=>by rw[freeF,free_keep g h i cs,th_keep g _ h]
theorem put1_all {α:Type} {f:Nat->α} {t:Nat} {v:α} {P:α->Prop} (h:∀u,P (f u)) (hv:P v) (u:Nat):P (put1 f t v u):=by
  unfold put1;split
  · exact hv
  · exact h u
theorem put2_all {f:Nat->Nat->V} {t r:Nat} {v:V} {P:V->Prop} (h:∀u i,P (f u i)) (hv:P v) (u i:Nat):P (put2 f t r v u i):=by
  unfold put2;split
  · exact hv
  · exact h u i
theorem Sz.le {K K':Nat} {H:Hall} (h:Sz K H) (k:K<=K'):Sz K' H :=
  ⟨h.regs,h.saved,h.was,h.fields,h.f6,λi=>Nat.le_trans (h.ver i) k,λt=>Nat.le_trans (h.rd t) k,λt=>Nat.le_trans (h.ow t) k,λt=>Nat.le_trans (h.ch t) k,Nat.le_trans h.n k⟩
theorem Sz.deals1 {K:Nat} {H G:Hall} (h:Sz K H) {t:Nat} {d:Deal} (e1:G.regs=H.regs) (e2:G.things=H.things) (e3:G.deals=put1 H.deals t d) (hd:(∀r,VOk (d.saved r))/\(∀c ∈ d.changes,VOk c.2.2)/\d.reads.length<=K/\d.owned.length<=K/\d.changes.length<=K):Sz K G:=by
  obtain⟨a,b,c,d',e⟩:=hd
  refine⟨by rw[e1];exact h.regs,?_,?_,by rw[e2];exact h.fields,by rw[e2];exact h.f6,by rw[e2];exact h.ver,?_,?_,?_,by rw[e2];exact h.n⟩
  all_goals rw[e3]
  · exact λu=>put1_all (P:=λ(d:Deal)=>∀r,VOk (d.saved r)) h.saved a u
  · exact λu=>put1_all (P:=λ(d:Deal)=>∀c ∈ d.changes,VOk c.2.2) h.was b u
  · exact λu=>put1_all (P:=λ(d:Deal)=>d.reads.length<=K) h.rd c u
  · exact λu=>put1_all (P:=λ(d:Deal)=>d.owned.length<=K) h.ow d' u
  · exact λu=>put1_all (P:=λ(d:Deal)=>d.changes.length<=K) h.ch e u
theorem Sz.regs1 {K:Nat} {H:Hall} (h:Sz K H) (f:Nat->Nat->V) (hf:∀t r,VOk (f t r)):Sz K { H with regs:=f }:=⟨hf,h.saved,h.was,h.fields,h.f6,h.ver,h.rd,h.ow,h.ch,h.n⟩
theorem Sz.things1 {K K':Nat} {H:Hall} (h:Sz K H) (hk:K<=K') (l:List Thing) (h1:∀i,∀v ∈ (th l i).fields,VOk v) (h2:∀i,(th l i).fields.length<=6) (h3:∀i,(th l i).version<=K') (h4:l.length<=K'):Sz K' { H with things:=l } :=
  ⟨h.regs,h.saved,h.was,h1,h2,h3,(h.le hk).rd,(h.le hk).ow,(h.le hk).ch,h4⟩
theorem noDeal_sz (K:Nat):(∀r,VOk (noDeal.saved r))/\(∀c ∈ noDeal.changes,VOk c.2.2)/\noDeal.reads.length<=K/\noDeal.owned.length<=K/\noDeal.changes.length<=K :=
  ⟨λr=>(by simp[noDeal,VOk]),λc hc=>(by cases hc),Nat.zero_le _,Nat.zero_le _,Nat.zero_le _⟩
theorem Sz.undone {K:Nat} {H:Hall} (h:Sz K H) (t:Nat):Sz K (H.undone t):=by
  have h1:Sz K { H with things:=freeF (backF H.things (H.deals t).changes) (H.deals t).owned }:=h.things1 (Nat.le_refl _) _ (λi v hv=>by
    rw[fields_freeF] at hv
    rcases fields_backF _ _ _ v hv with h2|⟨c,hc,rfl⟩
    · exact h.fields i v h2
    · exact h.was t c hc) (λi=>by
    have:=(shape_th (shape_undone H t) i).2
    have h6:=h.f6 i
    have e:(H.undone t).things=freeF (backF H.things (H.deals t).changes) (H.deals t).owned:=rfl
    rw[e] at this;omega) (λi=>by
    rw[free_keep (·.version) (λ_=>rfl),back_keep (·.version) (λ_ _ _=>rfl)];exact h.ver i) (by rw[free_len,back_len];exact h.n)
  have h2:=h1.regs1 (put1 H.regs t (H.deals t).saved) (λu=>put1_all (P:=λ(f:Nat->V)=>∀r,VOk (f r)) h.regs (h.saved t) u)
  exact h2.deals1 (t:=t) (d:=noDeal) rfl rfl rfl (noDeal_sz K)
theorem Sz.field {K:Nat} {H:Hall} (h:Sz K H) (i k:Nat):VOk ((H.thing i).fields.getD k (.num 0)):=by
  rw[List.getD_eq_getElem?_getD]
  cases hk:(H.thing i).fields[k]? with
  | none=>simp[VOk]
  | some v=>exact h.fields i v (List.mem_of_getElem? hk)
theorem th_append_cases (l:List Thing) (x:Thing) (i:Nat) (h1:1<=i):th (l++[x]) i=th l i\/th (l++[x]) i=x:=by
  by_cases h:i<=l.length
  · exact .inl (th_append_old _ _ _ h h1)
  · by_cases e:i=l.length+1
    · subst e;exact .inr (th_append_new _ _)
    · refine .inl ?_
      rw[th_out _ _ (by simp;omega),th_out _ _ (by omega)]
theorem th_zero (l:List Thing):th l 0=th l 1:=rfl
theorem Sz.act {K:Nat} {H:Hall} (h:Sz K H) (ho:OwnOk H) (c:ActM):Sz (K+1) (H.act c).1:=by
  have hK:Sz (K+1) H:=h.le (by omega)
  refine act_ind (P:=λp=>Sz (K+1) p.1) H c ?_ ?_ ?_ ?_ ?_ ?_ ?_ ?_ ?_ ?_ ?_ ?_ ?_
  · intro e _;exact hK
  · intro _ t ht _;unfold Hall.begin
    refine iteP (P:=λp:Hall × AnsM=>Sz (K+1) p.1) (λ_=>hK) λ_=>?_
    exact hK.deals1 rfl rfl rfl ⟨h.regs t,λc hc=>(by cases hc),Nat.zero_le _,Nat.zero_le _,Nat.zero_le _⟩
  · intro _ t ht _;unfold Hall.commit
    refine iteP (P:=λp:Hall × AnsM=>Sz (K+1) p.1) (λ_=>hK) λ_=>?_
    refine iteP (P:=λp:Hall × AnsM=>Sz (K+1) p.1) (λ_=>?_) λ_=>hK.undone t
    have hb:=λi (hi:1<=i)=>th_bumpF i hi (H.deals t).owned H.things (ho.keys ht) (ho.ond t ht)
    have h1:Sz (K+1) { H with things:=bumpF H.things (H.deals t).owned }:=h.things1 (by omega) _ (λi v hv=>by
      rw[fields_bumpF] at hv;exact h.fields i v hv) (λi=>by rw[fields_bumpF];exact h.f6 i) (λi=>by
      have key:∀j,1<=j->(th (bumpF H.things (H.deals t).owned) j).version<=K+1:=λj hj=>by
        have hv:=h.ver j
        by_cases hk:hasKey (H.deals t).owned j
        · rw[(hb j hj).1 hk];simp only [bumpT];omega
        · rw[(hb j hj).2 hk];omega
      rcases Nat.eq_zero_or_pos i with rfl|hi
      · rw[th_zero];exact key 1 (Nat.le_refl _)
      · exact key i hi) (by rw[bump_len];have:=h.n;omega)
    exact h1.deals1 (t:=t) (d:=noDeal) rfl rfl rfl (noDeal_sz _)
  · intro _ t ht _;unfold Hall.abort
    exact iteP (P:=λp:Hall × AnsM=>Sz (K+1) p.1) (λ_=>hK) λ_=>hK.undone t
  · intro _ t a ht ha _ _;unfold Hall.new
    refine iteP (P:=λp:Hall × AnsM=>Sz (K+1) p.1) (λ_=>hK) λ_=>?_
    refine iteP (P:=λp:Hall × AnsM=>Sz (K+1) p.1) (λ_=>hK) λhr=>?_
    refine iteP (P:=λp:Hall × AnsM=>Sz (K+1) p.1) (λ_=>hK) λ_=>?_
    have key:∀i,1<=i->(∀v ∈ (th (H.things++[⟨List.replicate c.n.toNat (.num 0),0,none,false,true,false⟩]) i).fields,VOk v)/\(th (H.things++[⟨List.replicate c.n.toNat (.num 0),0,none,false,true,false⟩]) i).fields.length<=6/\(th (H.things++[⟨List.replicate c.n.toNat (.num 0),0,none,false,true,false⟩]) i).version<=K+1:=λi hi=>by
      rcases th_append_cases H.things ⟨List.replicate c.n.toNat (.num 0),0,none,false,true,false⟩ i hi with e|e
      · rw[e];exact⟨h.fields i,h.f6 i,hK.ver i⟩
      · rw[e]
        refine⟨λv hv=>?_,by simp;omega,by simp⟩
        rw[List.eq_of_mem_replicate hv];simp[VOk]
    have key2:∀i,(∀v ∈ (th (H.things++[⟨List.replicate c.n.toNat (.num 0),0,none,false,true,false⟩]) i).fields,VOk v)/\(th (H.things++[⟨List.replicate c.n.toNat (.num 0),0,none,false,true,false⟩]) i).fields.length<=6/\(th (H.things++[⟨List.replicate c.n.toNat (.num 0),0,none,false,true,false⟩]) i).version<=K+1:=λi=>by
      rcases Nat.eq_zero_or_pos i with rfl|hi
      · rw[th_zero];exact key 1 (Nat.le_refl _)
      · exact key i hi
    have h1:=h.things1 (K':=K+1) (by omega) (H.things++[⟨List.replicate c.n.toNat (.num 0),0,none,false,true,false⟩]) (λi=>(key2 i).1) (λi=>(key2 i).2.1) (λi=>(key2 i).2.2) (by have:=h.n;simp;omega)
    exact h1.regs1 (put2 H.regs t a (.ref (H.things.length+1))) (put2_all h.regs trivial)
  · intro _ t a b ht ha hb _ _ _;unfold Hall.get
    refine iteP (P:=λp:Hall × AnsM=>Sz (K+1) p.1) (λhk=>?_) λ_=>?_
    · have h1:=hK.regs1 (put2 H.regs t a ((H.thing (H.regs t b).id).fields.getD c.n.toNat (.num 0))) (put2_all h.regs (h.field _ _))
      rcases readD_cases H t (H.regs t b).id with e|⟨_,_,e⟩
      · show Sz (K+1) { H with regs:=_,deals:=H.readD t (H.regs t b).id }
        rw[e];exact h1
      · show Sz (K+1) { H with regs:=_,deals:=H.readD t (H.regs t b).id }
        rw[e]
        exact h1.deals1 (t:=t) (d:=(H.deals t).addR ((H.regs t b).id,(H.thing (H.regs t b).id).version)) rfl rfl rfl ⟨h.saved t,h.was t,by have:=h.rd t;simp[Deal.addR];omega,(hK.ow t),(hK.ch t)⟩
    · show Sz (K+1) (if H.acc t b c.n=6 then H.undone t else H)
      exact iteP (λ_=>hK.undone t) λ_=>hK
  · intro _ t a b ht ha hb _ _ _;unfold Hall.put
    refine iteP (P:=λp:Hall × AnsM=>Sz (K+1) p.1) (λhk=>?_) λ_=>?_
    · generalize (H.regs t a).id=n
      have h1:Sz (K+1) (H.own t n)/\(∀u,((H.own t n).deals u).changes=(H.deals u).changes):=by
        unfold Hall.own
        split
        · exact⟨hK,λ_=>rfl⟩
        · have h2:=h.things1 (K':=K+1) (by omega) (turnT H.things n (ownT t)) (λi v hv=>by rw[fields_turn _ _ _ (ownT t) λ_=>rfl] at hv;exact h.fields i v hv) (λi=>by rw[fields_turn _ _ _ (ownT t) λ_=>rfl];exact h.f6 i)
            (λi=>by rw[th_keep (·.version) (ownT t) λ_=>rfl];exact hK.ver i) (by rw[turn_len];exact hK.n)
          refine⟨h2.deals1 (t:=t) (d:=(H.deals t).addO (n,(H.thing n).version)) rfl rfl rfl ⟨h.saved t,h.was t,hK.rd t,by have:=h.ow t;simp[Deal.addO];omega,hK.ch t⟩,λu=>?_⟩
          show (put1 H.deals t _ u).changes=_
          unfold put1
          split
          · rename_i e;rw[e];rfl
          · rfl
      obtain⟨h1,hc⟩:=h1
      generalize H.own t n=O at h1 hc
      unfold Hall.write
      have h2:=h1.things1 (K':=K+1) (Nat.le_refl _) (setF O.things n c.n.toNat (H.regs t b)) (λi v hv=>by
        rcases fields_setF _ _ _ _ _ v hv with rfl|h3
        · exact h.regs t b
        · exact h1.fields i v h3) (λi=>by rw[(shape_th (shape_setF _ _ _ _) i).2];exact h1.f6 i) (λi=>by
        unfold setF
        rw[th_keep (·.version) (setT _ _) λ_=>rfl];exact h1.ver i) (by unfold setF;rw[turn_len];exact h1.n)
      refine h2.deals1 (t:=t) (d:=(O.deals t).addC (n,c.n.toNat,(O.thing n).fields.getD c.n.toNat (.num 0))) rfl rfl rfl ⟨h1.saved t,λx hx=>?_,h1.rd t,h1.ow t,?_⟩
      · rcases List.mem_append.1 hx with hx|hx
        · exact h1.was t x hx
        · rw[List.mem_singleton.1 hx];exact h1.field _ _
      · have:=h.ch t
        simp[Deal.addC,hc];omega
    · show Sz (K+1) (if H.acc t a c.n=6 then H.undone t else H)
      exact iteP (λ_=>hK.undone t) λ_=>hK
  · intro _ t a ht ha _ _;unfold Hall.set
    exact iteP (P:=λp:Hall × AnsM=>Sz (K+1) p.1) (λhn=>hK.regs1 _ (put2_all h.regs hn)) λ_=>hK
  · intro _ t a b u0 ht ha hb hu0 _ _ _ _;unfold Hall.copy
    exact iteP (P:=λp:Hall × AnsM=>Sz (K+1) p.1) (λ_=>hK) λ_=>hK.regs1 _ (put2_all h.regs (h.regs u0 b))
  · intro _ t a b _ _ _ _ _ _;exact hK
  · intro _;unfold Hall.collect
    refine iteP (P:=λp:Hall × AnsM=>Sz (K+1) p.1) (λ_=>hK) λ_=>?_
    have e:∀ {β:Type} (g:Thing->β),(∀x f k,g { x with fresh:=f,kept:=k }=g x)->∀i,g (th (keptF H.things H.roots) i)=g (th H.things i):=λg hg i=>by
      unfold th keptF
      simp only [List.getD_eq_getElem?_getD,List.getElem?_mapIdx]
      cases H.things[i - 1]? with
      | none=>rfl
      | some y=>exact hg _ _ _
    have h1:=h.things1 (K':=K+1) (by omega) (keptF H.things H.roots) (λi v hv=>h.fields i v (by rw[e (·.fields) (λ_ _ _=>rfl)] at hv;exact hv)) (λi=>by rw[e (·.fields.length) (λ_ _ _=>rfl)];exact h.f6 i)
      (λi=>by rw[e (·.version) (λ_ _ _=>rfl)];exact hK.ver i) (by simpa [keptF] using hK.n)
    exact⟨h1.regs,h1.saved,h1.was,h1.fields,h1.f6,h1.ver,h1.rd,h1.ow,h1.ch,h1.n⟩
  · intro _;unfold Hall.step
    refine iteP (P:=λp:Hall × AnsM=>Sz (K+1) p.1) (λ_=>hK) λ_=>?_
    refine iteP (P:=λp:Hall × AnsM=>Sz (K+1) p.1) (λ_=>hK) λ_=>?_
    refine iteP (P:=λp:Hall × AnsM=>Sz (K+1) p.1) (λ_=>?_) λ_=>⟨hK.regs,hK.saved,hK.was,hK.fields,hK.f6,hK.ver,hK.rd,hK.ow,hK.ch,hK.n⟩
    have e:∀ {β:Type} (g:Thing->β),(∀x f,g { x with gone:=f }=g x)->∀i,g (th (sweepF H.things) i)=g (th H.things i):=λg hg i=>by
      unfold th sweepF
      simp only [List.getD_eq_getElem?_getD,List.getElem?_map]
      cases H.things[i - 1]? with
      | none=>rfl
      | some y=>exact hg _ _
    have h1:=h.things1 (K':=K+1) (by omega) (sweepF H.things) (λi v hv=>h.fields i v (by rw[e (·.fields) (λ_ _=>rfl)] at hv;exact hv)) (λi=>by rw[e (·.fields.length) (λ_ _=>rfl)];exact h.f6 i)
      (λi=>by rw[e (·.version) (λ_ _=>rfl)];exact hK.ver i) (by simpa [sweepF] using hK.n)
    exact⟨h1.regs,h1.saved,h1.was,h1.fields,h1.f6,h1.ver,h1.rd,h1.ow,h1.ch,h1.n⟩
  · intro _;exact hK
theorem Sz.start (w:Nat):Sz 0 (hall0 w) :=
  ⟨λ_ _=>(by simp[hall0,VOk]),λ_ _=>(by simp[hall0,noDeal,VOk]),λ_ c hc=>(by cases hc),λi v hv=>(by simp[hall0,th,noThing] at hv),λi=>(by simp[hall0,th,noThing]),λi=>(by simp[hall0,th,noThing]),λ_=>Nat.le_refl _,λ_=>Nat.le_refl _,λ_=>Nat.le_refl _,Nat.le_refl _⟩
end Go.Proofs.Ytbeilcaadpopmab
namespace Go.Proofs.Ytbeilcaadpopmab
def KF (l:List Thing) (i:Nat):Prop:=Live l i/\((th l i).kept=true\/(th l i).fresh=true)
inductive GR (l:List Thing) (gray S:List Int):Nat->Prop
  | gray {i:Nat}:Live l i->(plL l i:Int) ∈ gray->GR l gray S i
  | step {i j:Nat}:GR l gray S i->V.ref j ∈ (th l i).fields->j≠0->Live l j->(plL l j:Int) ∉ S->GR l gray S j
def todo (l:List Thing) (gray S:List Int) (k:Nat):Bool:=(th l (k+1)).kept && (!(S.contains (plL l (k+1):Int)) || gray.contains (plL l (k+1):Int))
def todoN (l:List Thing) (gray S:List Int):Nat:=(List.range l.length).countP (todo l gray S)
structure Snap (l:List Thing) (left:Int) (gray S:List Int):Prop where
  inS:∀p ∈ S,∃i,KF l i/\p=plL l i
  ndS:S.Nodup
  ndG:gray.Nodup
  sub:∀p ∈ gray,p ∈ S
  new:∀i,Live l i->(th l i).fresh=true->(plL l i:Int) ∈ S/\(plL l i:Int) ∉ gray
  all:∀i,Live l i->(th l i).kept=true->(plL l i:Int) ∈ S\/GR l gray S i
  kl:∀i,1<=i->(th l i).kept=true->Live l i
  cnt:left=todoN l gray S
theorem GR.live {l:List Thing} {gray S:List Int} {i:Nat} (h:GR l gray S i):Live l i:=by
  cases h with
  | gray h _=>exact h
  | step _ _ _ h _=>exact h
theorem countP_congr' {P Q:Nat->Bool}:∀(l:List Nat),(∀k ∈ l,P k=Q k)->l.countP P=l.countP Q
  | [],_=>rfl
  | a :: l,h=>by
    rw[List.countP_cons,List.countP_cons,countP_congr' l (λk hk=>h k (by simp[hk])),h a (by simp)]
theorem countP_less {P Q:Nat->Bool} (a:Nat) (hP:P a=true) (hQ:Q a=false):∀(l:List Nat),l.Nodup->a ∈ l->(∀k ∈ l,k≠a->P k=Q k)->l.countP P=l.countP Q+1
  | [],_,h,_=>by cases h
  | b :: l,hn,h,hk=>by
    rw[List.nodup_cons] at hn
    rw[List.countP_cons,List.countP_cons]
    by_cases e:b=a
    · subst e
      rw[hP,hQ,countP_congr' l (λk hk2=>hk k (by simp[hk2]) (λe=>hn.1 (e ▸ hk2)))]
      simp
    · have ih:=countP_less a hP hQ l hn.2 ((List.mem_cons.1 h).resolve_left λe'=>e e'.symm) (λk hk2=>hk k (by simp[hk2]))
      rw[ih,hk b (by simp) e]
      omega
theorem countP_pos' {P:Nat->Bool} {l:List Nat} {a:Nat} (ha:a ∈ l) (h:P a=true):1<=l.countP P:=List.countP_pos_iff.2 ⟨a,ha,h⟩
theorem plN_inj {l:List Thing} {i j:Nat} (hi:Live l i) (hj:Live l j) (e:(plL l i:Int)=plL l j):i=j:=plL_inj hi hj (by omega)
theorem Snap.congr {l l':List Thing} {left:Int} {gray S:List Int} (h:Snap l left gray S) (hs:shape l' = shape l) (hk:∀i,(th l' i).kept=(th l i).kept/\(th l' i).fresh=(th l i).fresh)
    (hf:∀i j,V.ref j ∈ (th l i).fields->j≠0->V.ref j ∈ (th l' i).fields\/(plL l j:Int) ∈ S):Snap l' left gray S:=by
  have hl:∀i,Live l' i ↔ Live l i:=live_shape hs
  have hp:∀i,plL l' i=plL l i:=plL_shape hs
  have hg:∀i,GR l gray S i->GR l' gray S i:=λi hi=>by
    induction hi with
    | gray h1 h2=>exact .gray ((hl _).2 h1) (by rw[hp];exact h2)
    | step h1 h2 h3 h4 h5 ih =>
      rcases hf _ _ h2 h3 with h6|h6
      · exact .step ih h6 h3 ((hl _).2 h4) (by rw[hp];exact h5)
      · exact absurd h6 h5
  refine⟨λp hp2=>?_,h.ndS,h.ndG,h.sub,λi hi hfr=>?_,λi hi hki=>?_,λi h1 hki=>?_,?_⟩
  · obtain⟨i,⟨h1,h2⟩,e⟩:=h.inS p hp2
    exact⟨i,⟨(hl i).2 h1,by rw[(hk i).1,(hk i).2];exact h2⟩,by rw[hp];exact e⟩
  · rw[hp];exact h.new i ((hl i).1 hi) (by rw[<- (hk i).2];exact hfr)
  · rw[hp]
    exact (h.all i ((hl i).1 hi) (by rw[<- (hk i).1];exact hki)).imp id (hg i)
  · exact (hl i).2 (h.kl i h1 (by rw[<- (hk i).1];exact hki))
  · rw[h.cnt]
    congr 1
    unfold todoN
    rw[shape_len hs]
    refine countP_congr' _ λk _=>?_
    unfold todo
    rw[hp,(hk _).1]
theorem Snap.grow {l:List Thing} {left:Int} {gray S gray' S' n:List Int} (h:Snap l left gray S) (hg:∀y,y ∈ gray' ↔ y ∈ gray\/y ∈ n) (hS:∀y,y ∈ S' ↔ y ∈ S\/y ∈ n) (nS:S'.Nodup) (nG:gray'.Nodup)
    (hn:∀y ∈ n,y ∉ S/\∃i,KF l i/\y=plL l i):Snap l left gray' S':=by
  have hGR:∀i,GR l gray S i->GR l gray' S' i:=λi hi=>by
    induction hi with
    | gray h1 h2=>exact .gray h1 ((hg _).2 (.inl h2))
    | @step a b h1 h2 h3 h4 h5 ih =>
      by_cases e:(plL l b:Int) ∈ n
      · exact .gray h4 ((hg _).2 (.inr e))
      · exact .step ih h2 h3 h4 (λh6=>by
          rcases (hS _).1 h6 with h7|h7
          · exact h5 h7
          · exact e h7)
  refine⟨λp hp=>?_,nS,nG,λp hp=>?_,λi hi hf=>?_,λi hi hk=>?_,h.kl,?_⟩
  · rcases (hS p).1 hp with hp|hp
    · exact h.inS p hp
    · exact (hn p hp).2
  · rcases (hg p).1 hp with hp|hp
    · exact (hS p).2 (.inl (h.sub p hp))
    · exact (hS p).2 (.inr hp)
  · obtain⟨a,b⟩:=h.new i hi hf
    refine⟨(hS _).2 (.inl a),λe=>?_⟩
    rcases (hg _).1 e with e|e
    · exact b e
    · exact (hn _ e).1 a
  · exact (h.all i hi hk).imp (λe=>(hS _).2 (.inl e)) (hGR i)
  · rw[h.cnt]
    congr 1
    unfold todoN
    refine countP_congr' _ λk _=>?_
    unfold todo
    by_cases e:(plL l (k+1):Int) ∈ n
    · have a:=(hn _ e).1
      have b:=(hS _).2 (.inr e)
      have c:=(hg _).2 (.inr e)
      simp[a,b,c]
    · have a:(plL l (k+1):Int) ∈ S' ↔ (plL l (k+1):Int) ∈ S:=by rw[hS];simp[e]
      have b:(plL l (k+1):Int) ∈ gray' ↔ (plL l (k+1):Int) ∈ gray:=by rw[hg];simp[e]
      simp only [List.contains_eq_mem,a,b]
theorem Snap.push {l:List Thing} {left:Int} {gray S:List Int} (h:Snap l left gray S) (p:Int) (hp:p≠0->∃i,KF l i/\p=plL l i):Snap l left (pushG p gray S) (pushS p S):=by
  unfold pushG pushS
  by_cases e:p=0\/p ∈ S
  · rw[if_pos e,if_pos e];exact h
  · rw[if_neg e,if_neg e]
    rw[not_or] at e
    refine h.grow (n:=[p]) (λy=>by simp) (λy=>by simp[or_comm]) (List.nodup_cons.2 ⟨e.2,h.ndS⟩) ?_ (λy hy=>?_)
    · rw[List.nodup_append]
      exact⟨h.ndG,by simp,λa ha b hb e2=>e.2 (by rw[List.mem_singleton] at hb;rw[<- hb,<- e2];exact h.sub a ha)⟩
    · rw[List.mem_singleton] at hy
      subst hy
      exact⟨e.2,hp e.1⟩
theorem Snap.drop {l:List Thing} {left:Int} {gray S gray':List Int} (h:Snap l left gray S) {i:Nat} (hi:Live l i) (hg:(plL l i:Int) ∈ gray) (hg':∀y,y ∈ gray' ↔ y ∈ gray/\y≠plL l i) (nG:gray'.Nodup)
    (hc:∀j,V.ref j ∈ (th l i).fields->j≠0->(plL l j:Int) ∈ S):Snap l (left - 1) gray' S:=by
  have hGR:∀j,GR l gray S j->(plL l j:Int) ∈ S\/GR l gray' S j:=λj hj=>by
    induction hj with
    | @gray a h1 h2 =>
      by_cases e:(plL l a:Int)=plL l i
      · exact .inl (h.sub _ h2)
      · exact .inr (.gray h1 ((hg' _).2 ⟨h2,e⟩))
    | @step a b h1 h2 h3 h4 h5 ih =>
      refine .inr ?_
      cases h1 with
      | gray k1 k2 =>
        by_cases e:(plL l a:Int)=plL l i
        · have:a=i:=plN_inj k1 hi e
          subst this
          exact absurd (hc b h2 h3) h5
        · exact .step (.gray k1 ((hg' _).2 ⟨k2,e⟩)) h2 h3 h4 h5
      | step k1 k2 k3 k4 k5 =>
        rcases ih with ih|ih
        · exact absurd ih k5
        · exact .step ih h2 h3 h4 h5
  refine⟨h.inS,h.ndS,nG,λp hp=>h.sub p ((hg' p).1 hp).1,λj hj hf=>⟨(h.new j hj hf).1,λe=>(h.new j hj hf).2 ((hg' _).1 e).1⟩,λj hj hk=>?_,h.kl,?_⟩
  · rcases h.all j hj hk with e|e
    · exact .inl e
    · exact hGR j e
  · have hki:(th l i).kept=true:=by
      obtain⟨j,⟨h1,h2⟩,e⟩:=h.inS _ (h.sub _ hg)
      have:i=j:=plN_inj hi h1 e
      subst this
      exact h2.resolve_right λhf=>(h.new i h1 hf).2 hg
    have:todoN l gray S=todoN l gray' S+1:=by
      unfold todoN
      refine countP_less (i - 1) ?_ ?_ _ List.nodup_range (by rw[List.mem_range];have:=hi.2.1;have:=hi.1;omega) (λk hk hne=>?_)
      · unfold todo
        rw[show i - 1+1=i by have:=hi.1;omega,hki]
        simp[hg]
      · unfold todo
        rw[show i - 1+1=i by have:=hi.1;omega]
        have a:=h.sub _ hg
        have b:(plL l i:Int) ∉ gray':=λe=>((hg' _).1 e).2 rfl
        simp[a,b]
      · unfold todo
        by_cases hkk:(th l (k+1)).kept=true
        · have hlk:=h.kl (k+1) (by omega) hkk
          have hne2:(plL l (k+1):Int)≠plL l i:=λe=>hne (by have:=plN_inj hlk hi e;omega)
          have b:(plL l (k+1):Int) ∈ gray' ↔ (plL l (k+1):Int) ∈ gray:=by rw[hg'];simp[hne2]
          simp only [List.contains_eq_mem,b]
        · have:(th l (k+1)).kept=false:=by simpa using hkk
          simp[this]
    rw[h.cnt,this];omega
theorem mem_set_other {l:List V} {v x:V} {k:Nat} (h:v ∈ l) (hne:l[k]? ≠ some v):v ∈ l.set k x:=by
  obtain⟨i,hi,rfl⟩:=List.mem_iff_getElem.1 h
  have hik:k≠i:=λe=>hne (by subst e;exact List.getElem?_eq_getElem hi)
  refine List.mem_iff_getElem.2 ⟨i,by simpa using hi,?_⟩
  rw[List.getElem_set_ne hik]
theorem Snap.setF {l:List Thing} {left:Int} {gray S:List Int} (h:Snap l left gray S) (n k:Nat) (v:V) (hn:1<=n) (ho:∀j,(th l n).fields[k]? = some (.ref j)->j≠0->(plL l j:Int) ∈ S):Snap (setF l n k v) left gray S:=by
  have hfl:∀i,flagsOf (th (Go.Proofs.Ytbeilcaadpopmab.setF l n k v) i)=flagsOf (th l i):=λi=>th_keep flagsOf (setT k v) (λ_=>rfl) l n i
  refine h.congr (shape_setF _ _ _ _) (λi=>?_) (λi j hj hj0=>?_)
  · have:=hfl i
    simp only [flagsOf,Prod.mk.injEq] at this
    exact⟨this.1,this.2.1⟩
  · by_cases h1:1<=i
    · have hm:=th_modify l n i (setT k v) hn h1
      unfold Go.Proofs.Ytbeilcaadpopmab.setF
      rw[hm]
      split
      · rename_i e
        obtain⟨rfl,e2⟩:=e
        by_cases e3:(th l i).fields[k]? = some (.ref j)
        · exact .inr (ho j e3 hj0)
        · exact .inl (mem_set_other hj e3)
      · exact .inl hj
    · have:i=0:=by omega
      subst this
      rw[th_zero] at hj
      have hm:=th_modify l n 1 (setT k v) hn (Nat.le_refl _)
      unfold Go.Proofs.Ytbeilcaadpopmab.setF
      rw[th_zero,hm]
      split
      · rename_i e
        obtain⟨rfl,e2⟩:=e
        by_cases e3:(th l 1).fields[k]? = some (.ref j)
        · exact .inr (ho j e3 hj0)
        · exact .inl (mem_set_other hj e3)
      · exact .inl hj
theorem Snap.newT {l:List Thing} {left:Int} {gray S:List Int} (h:Snap l left gray S) (x:Thing) (hg:x.gone=false) (hf:x.fresh=true) (hk:x.kept=false):Snap (l++[x]) left gray (((1+usedOf l:Nat):Int) :: S):=by
  have hp:∀i,i<=l.length+1->plL (l++[x]) i=plL l i:=λi hi=>by
    unfold plL
    rw[List.take_append_of_le_length (by omega)]
  have hpn:plL (l++[x]) (l.length+1)=1+usedOf l:=by rw[hp _ (by omega)];unfold plL;simp
  have hold:∀i,Live l i->Live (l++[x]) i/\th (l++[x]) i=th l i/\plL (l++[x]) i=plL l i:=λi hi=>by
    have e:=th_append_old l x i hi.2.1 hi.1
    exact⟨⟨hi.1,by have:=hi.2.1;simp;omega,by rw[e];exact hi.2.2⟩,e,hp i (by have:=hi.2.1;omega)⟩
  have hcases:∀i,Live (l++[x]) i->i=l.length+1\/Live l i:=λi hi=>by
    by_cases e:i=l.length+1
    · exact .inl e
    · have h2:i<=l.length+1:=by simpa using hi.2.1
      have e2:=th_append_old l x i (by omega) hi.1
      exact .inr ⟨hi.1,by omega,by rw[<- e2];exact hi.2.2⟩
  have hnS:((1+usedOf l:Nat):Int) ∉ S:=λhm=>by
    obtain⟨i,⟨h1,_⟩,e⟩:=h.inS _ hm
    have:=plL_end h1
    omega
  have hne:∀i,Live l i->(plL l i:Int)≠((1+usedOf l:Nat):Int):=λi hi e=>by
    have:=plL_end hi
    omega
  have hGR:∀i,GR l gray S i->GR (l++[x]) gray (((1+usedOf l:Nat):Int) :: S) i:=λi hi=>by
    induction hi with
    | gray h1 h2=>exact .gray (hold _ h1).1 (by rw[(hold _ h1).2.2];exact h2)
    | step h1 h2 h3 h4 h5 ih =>
      have hl:=h1.live
      refine .step ih (by rw[(hold _ hl).2.1];exact h2) h3 (hold _ h4).1 ?_
      rw[(hold _ h4).2.2]
      simp only [List.mem_cons,not_or]
      exact⟨hne _ h4,h5⟩
  refine⟨λp hp2=>?_,List.nodup_cons.2 ⟨hnS,h.ndS⟩,h.ndG,λp hp2=>List.mem_cons_of_mem _ (h.sub p hp2),λi hi hfr=>?_,λi hi hki=>?_,λi h1 hki=>?_,?_⟩
  · rcases List.mem_cons.1 hp2 with rfl|hp2
    · exact⟨l.length+1,⟨⟨by omega,by simp,by rw[th_append_new];exact hg⟩,.inr (by rw[th_append_new];exact hf)⟩,by rw[hpn]⟩
    · obtain⟨i,⟨h1,h2⟩,e⟩:=h.inS p hp2
      obtain⟨a,b,c⟩:=hold i h1
      exact⟨i,⟨a,by rw[b];exact h2⟩,by rw[c];exact e⟩
  · rcases hcases i hi with rfl|hi2
    · rw[hpn]
      exact⟨List.mem_cons_self,λhm=>hnS (h.sub _ hm)⟩
    · obtain⟨a,b,c⟩:=hold i hi2
      rw[b] at hfr
      rw[c]
      exact⟨List.mem_cons_of_mem _ (h.new i hi2 hfr).1,(h.new i hi2 hfr).2⟩
  · rcases hcases i hi with rfl|hi2
    · rw[th_append_new,hk] at hki;cases hki
    · obtain⟨a,b,c⟩:=hold i hi2
      rw[b] at hki
      rw[c]
      exact (h.all i hi2 hki).imp (List.mem_cons_of_mem _) (hGR i)
  · by_cases e:i=l.length+1
    · subst e;rw[th_append_new,hk] at hki;cases hki
    · by_cases e2:i<=l.length
      · have e3:=th_append_old l x i e2 h1
        rw[e3] at hki
        exact (hold i (h.kl i h1 hki)).1
      · rw[th_out _ _ (by simp;omega)] at hki;cases hki
  · rw[h.cnt]
    congr 1
    unfold todoN
    rw[List.length_append,List.length_singleton,List.range_succ,List.countP_append]
    have e0:todo (l++[x]) gray (((1+usedOf l:Nat):Int) :: S) l.length=false:=by
      unfold todo
      rw[th_append_new,hk];rfl
    simp only [List.countP_cons,List.countP_nil,e0]
    refine countP_congr' _ λk hk2=>?_
    rw[List.mem_range] at hk2
    unfold todo
    rw[th_append_old l x (k+1) (by omega) (by omega),hp (k+1) (by omega)]
    by_cases hkk:(th l (k+1)).kept=true
    · have:=hne _ (h.kl (k+1) (by omega) hkk)
      simp only [List.contains_eq_mem,List.mem_cons,this,false_or]
    · have:(th l (k+1)).kept=false:=by simpa using hkk
      simp[this]
theorem Snap.done {l:List Thing} {left:Int} {S:List Int} (h:Snap l left [] S):left=0/\∀i,Live l i->((plL l i:Int) ∈ S ↔ ((th l i).kept=true\/(th l i).fresh=true)):=by
  have hno:∀i,¬ GR l [] S i:=λi hi=>by
    induction hi with
    | gray _ h2=>cases h2
    | step _ _ _ _ _ ih=>exact ih
  have hk:∀i,Live l i->(th l i).kept=true->(plL l i:Int) ∈ S:=λi hi hki=>(h.all i hi hki).resolve_right (hno i)
  refine⟨?_,λi hi=>⟨λhm=>?_,λhm=>?_⟩⟩
  · rw[h.cnt]
    have:todoN l [] S=0:=by
      unfold todoN
      rw[List.countP_eq_zero]
      intro k hk2
      unfold todo
      by_cases hkk:(th l (k+1)).kept=true
      · have:=hk _ (h.kl (k+1) (by omega) hkk) hkk
        simp[this]
      · have:(th l (k+1)).kept=false:=by simpa using hkk
        simp[this]
    rw[this];rfl
  · obtain⟨j,⟨h1,h2⟩,e⟩:=h.inS _ hm
    have:i=j:=plN_inj hi h1 e
    subst this
    exact h2
  · exact hm.elim (hk i hi) λhf=>(h.new i hi hf).1
theorem Snap.more {l:List Thing} {left:Int} {gray S:List Int} (h:Snap l left gray S) (hg:gray≠[]):1<=left:=by
  obtain⟨p,hp⟩:=List.exists_mem_of_ne_nil _ hg
  obtain⟨i,⟨h1,h2⟩,e⟩:=h.inS p (h.sub p hp)
  subst e
  have hki:(th l i).kept=true:=h2.resolve_right λhf=>(h.new i h1 hf).2 hp
  rw[h.cnt]
  have:1<=todoN l gray S:=countP_pos' (a:=i - 1) (by rw[List.mem_range];have:=h1.2.1;have:=h1.1;omega) (by
    unfold todo
    rw[show i - 1+1=i by have:=h1.1;omega,hki]
    simp[hp])
  omega
theorem fields_words {words:Nat} {l:List Thing} {xs:List Int} (h:Wds words l xs) {i:Nat} (hi:Live l i):fieldsOf xs (plL l i)=(th l i).fields.map (wV l):=by
  have ho:=h.obj i hi
  have hb:=h.lt hi
  unfold fieldsOf nf
  rw[ho.nf,Int.toNat_natCast]
  refine List.ext_getElem (by simp;omega) λk h1 h2=>?_
  have hk:k<(th l i).fields.length:=by simpa using h2
  have hf:=ho.fs k _ (List.getElem?_eq_getElem hk)
  simp only [List.getElem_take,List.getElem_drop,List.getElem_map]
  rw[<- hf,List.getD_eq_getElem?_getD,List.getElem?_eq_getElem (by omega)]
  rfl
theorem leads_fields {words:Nat} {l:List Thing} {xs:List Int} (h:Wds words l xs) {i:Nat} (hi:Live l i) (y:Int):leads (fieldsOf xs (plL l i)) y ↔ ∃j,V.ref j ∈ (th l i).fields/\j≠0/\y=plL l j:=by
  rw[fields_words h hi]
  constructor
  · rintro ⟨w,hw,h1,rfl,h2⟩
    obtain⟨v,hv,rfl⟩:=List.mem_map.1 hw
    cases v with
    | num n=>simp[wV,encV,wordOf] at h1
    | ref j =>
      have e:wV l (.ref j)=2 * (if j=0 then 0 else (plL l j:Int))+1:=by simp[wV,encV,wordOf]
      by_cases e0:j=0
      · rw[e,e0] at h2;simp at h2
      · refine⟨j,hv,e0,?_⟩
        rw[e,if_neg e0];omega
  · rintro ⟨j,hv,e0,rfl⟩
    have e:wV l (.ref j)=2 * (plL l j:Int)+1:=by simp[wV,encV,wordOf,e0]
    have:=plL_pos l j
    exact⟨wV l (.ref j),List.mem_map.2 ⟨_,hv,rfl⟩,by rw[e];omega,by rw[e];omega,by omega⟩
theorem Snap.look {words:Nat} {l:List Thing} {xs:List Int} (hw:Wds words l xs) (hcl:∀i,KF l i->∀j,V.ref j ∈ (th l i).fields->j≠0->KF l j) :
    ∀(m:Nat) (left:Int) (gray S:List Int),Snap l left gray S->∃(c:Nat) (gray' S':List Int),lookF xs m (gray,S)=(gray',S')/\c<=m/\Snap l (left - c) gray' S'/\(gray' = []\/c=m)
  | 0,left,gray,S,h=>⟨0,gray,S,rfl,Nat.le_refl _,by simpa using h,.inr rfl⟩
  | m + 1, left, gray, S, h => by
    rcases List.eq_nil_or_concat gray with rfl|⟨g,p,rfl⟩
    · exact⟨0,[],S,lookF_nil _,Nat.zero_le _,by simpa using h,.inl rfl⟩
    · rw[List.concat_eq_append] at h ⊢
      obtain⟨i,hi,e⟩:=h.inS p (h.sub p (by simp))
      obtain⟨n,h1,h2,h3,h4⟩:=lookF_step xs m g S p
      rw[e,Int.toNat_natCast] at h4
      have h4':∀y,y ∈ n++S ↔ y ∈ S\/∃j,V.ref j ∈ (th l i).fields/\j≠0/\y=plL l j:=λy=>by rw[h4 y,leads_fields hw hi.1]
      have hpg:p ∉ g:=λhm=>by
        have:=(List.nodup_append.1 h.ndG).2.2 p hm p (by simp)
        exact this rfl
      have hgn:(g++n).Nodup:=by
        rw[List.nodup_append]
        exact⟨(List.nodup_append.1 h.ndG).1,h2,λa ha b hb e2=>h3 b hb (by rw[<- e2];exact h.sub a (by simp[ha]))⟩
      have k1:Snap l left (g++[p]++n) (n.reverse++S):=by
        refine h.grow (n:=n) (λy=>by simp[or_assoc]) (λy=>by simp[or_comm]) ?_ ?_ (λy hy=>⟨h3 y hy,?_⟩)
        · rw[List.nodup_append]
          exact⟨nodup_rev h2,h.ndS,λa ha b hb e2=>h3 a (by simpa using ha) (by rw[e2];exact hb)⟩
        · rw[List.nodup_append]
          exact⟨h.ndG,h2,λa ha b hb e2=>h3 b hb (by rw[<- e2];exact h.sub a ha)⟩
        · rcases (h4' y).1 (by simp[hy]) with h5|⟨j,h5,h6,h7⟩
          · exact absurd h5 (h3 y hy)
          · exact⟨j,hcl i hi j h5 h6,h7⟩
      have k2:Snap l (left - 1) (g++n) (n.reverse++S):=by
        refine k1.drop hi.1 (by rw[<- e];simp) (λy=>?_) hgn (λj h5 h6=>?_)
        · rw[<- e]
          constructor
          · intro hy
            refine⟨?_,λe2=>?_⟩
            · rcases List.mem_append.1 hy with hy|hy
              · simp[hy]
              · simp[hy]
            · subst e2
              rcases List.mem_append.1 hy with hy|hy
              · exact hpg hy
              · exact h3 _ hy (h.sub _ (by simp))
          · rintro ⟨hy,hne⟩
            simp only [List.mem_append,List.mem_singleton] at hy
            rcases hy with (hy|hy)|hy
            · simp[hy]
            · exact absurd hy hne
            · simp[hy]
        · have:=(h4' (plL l j)).2 (.inr ⟨j,h5,h6,rfl⟩)
          simp only [List.mem_append,List.mem_reverse] at this ⊢
          exact this
      obtain⟨c,g',S',q1,q2,q3,q4⟩:=Snap.look hw hcl m (left - 1) (g++n) (n.reverse++S) k2
      refine⟨c+1,g',S',h1.trans q1,by omega,?_,?_⟩
      · rw[show left - ((c+1:Nat):Int)=left - 1 - c by omega];exact q3
      · rcases q4 with q4|q4
        · exact .inl q4
        · exact .inr (by omega)
end Go.Proofs.Ytbeilcaadpopmab
namespace Go.Proofs.Ytbeilcaadpopmab
def verF (l:List Thing) (cs:List (Nat × Nat)) (p:Int):Option Int:=(cs.find? λc=>decide ((plL l c.1:Int)=p)).map λc=>(c.2:Int)
theorem verF_shape {l l':List Thing} (h:shape l' = shape l) (cs:List (Nat × Nat)) (p:Int):verF l' cs p=verF l cs p:=by
  unfold verF
  simp only [plL_shape h]
theorem verF_some {l:List Thing} {cs:List (Nat × Nat)} {p v:Int} (h:verF l cs p=some v):∃c ∈ cs,p=plL l c.1/\v=c.2:=by
  unfold verF at h
  rw[Option.map_eq_some_iff] at h
  obtain⟨c,h1,h2⟩:=h
  have:=List.find?_some h1
  simp only [decide_eq_true_eq] at this
  exact⟨c,List.mem_of_find?_eq_some h1,this.symm,h2.symm⟩
theorem verF_none {l:List Thing} {cs:List (Nat × Nat)} {p:Int}:verF l cs p=none ↔ ∀c ∈ cs,(plL l c.1:Int)≠p:=by
  unfold verF
  rw[Option.map_eq_none_iff,List.find?_eq_none]
  simp only [decide_eq_true_eq]
theorem nodup_key:∀(cs:List (Nat × Nat)),(cs.map (·.1)).Nodup->∀c ∈ cs,∀d ∈ cs,d.1=c.1->d=c
  | [],_,c,hc,_,_,_=>by cases hc
  | a :: cs,hn,c,hc,d,hd,e=>by
    rw[List.map_cons,List.nodup_cons] at hn
    rcases List.mem_cons.1 hc with e1|hc1
    · rcases List.mem_cons.1 hd with e2|hd1
      · rw[e1,e2]
      · rw[<- e1] at hn
        exact absurd (List.mem_map.2 ⟨d,hd1,e⟩) hn.1
    · rcases List.mem_cons.1 hd with e2|hd1
      · rw[<- e2] at hn
        exact absurd (List.mem_map.2 ⟨c,hc1,e.symm⟩) hn.1
      · exact nodup_key cs hn.2 c hc1 d hd1 e
theorem verF_mem {l:List Thing} {cs:List (Nat × Nat)} (hl:∀c ∈ cs,Live l c.1) (hn:(cs.map (·.1)).Nodup) {c:Nat × Nat} (hc:c ∈ cs):verF l cs (plL l c.1)=some (c.2:Int):=by
  cases e:verF l cs (plL l c.1) with
  | none=>exact absurd rfl (verF_none.1 e c hc)
  | some v =>
    obtain⟨d,hd,e1,e2⟩:=verF_some e
    have e3:d.1=c.1:=plN_inj (hl d hd) (hl c hc) e1.symm
    have:d=c:=nodup_key cs hn c hc d hd e3
    rw[e2,this]
theorem verF_snoc {l:List Thing} {cs:List (Nat × Nat)} {c:Nat × Nat} (hc:verF l cs (plL l c.1)=none) (p:Int):verF l (cs++[c]) p=if p=plL l c.1 then some (c.2:Int) else verF l cs p:=by
  unfold verF at *
  rw[List.find?_append]
  split
  · rename_i e
    subst e
    rw[Option.map_eq_none_iff] at hc
    rw[hc]
    simp
  · rename_i e
    have:¬ (plL l c.1:Int)=p:=λe'=>e e'.symm
    cases List.find? (λc=>decide ((plL l c.1:Int)=p)) cs <;> simp[this]
structure TxSim (l:List Thing) (d:Deal) (x:CTx):Prop where
  op:x.op=d.isOpen
  saved:∀r,r<4->x.saved r=encV l (d.saved r)
  reads:∀p,x.reads p=verF l d.reads p
  owned:∀p,x.owned p=verF l d.owned p
  undo:x.undo=d.changes.map λc=>⟨plL l c.1,c.2.1,encV l c.2.2⟩
theorem TxSim.shape {l l':List Thing} {d:Deal} {x:CTx} (h:TxSim l d x) (hs:shape l' = shape l):TxSim l' d x :=
  ⟨h.op,λr hr=>by rw[encV_shape hs];exact h.saved r hr,λp=>by rw[verF_shape hs];exact h.reads p,λp=>by rw[verF_shape hs];exact h.owned p,by rw[h.undo];simp only [plL_shape hs,encV_shape hs]⟩
theorem TxSim.none (l:List Thing):TxSim l noDeal noTx:=⟨rfl,λ_ _=>rfl,λ_=>rfl,λ_=>rfl,rfl⟩
structure Sim (H:Hall) (M:CM):Prop where
  wds:Wds H.words H.things M.xs
  w4:H.words<=400
  top:M.top=1+H.used
  regs:∀t,t<4->∀r,r<4->M.regs t r=encV H.things (H.regs t r)
  txs:∀t,t<4->TxSim H.things (H.deals t) (M.txs t)
  going:M.going=H.going
  snap:H.going=true->Snap H.things H.left M.gray M.S
structure Inv (K:Nat) (H:Hall):Prop where
  cl:Cl (λf=>f.2.2=false) H
  kf:H.going=true->Cl (λf=>f.1=true\/f.2.1=true) H
  deals:DealsOk H
  own:OwnOk H
  sz:Sz K H
theorem kf_pi {H:Hall} {K:Nat} (h:Inv K H) (hg:H.going=true) {i:Nat} (h1:PI (λf=>f.2.2=false) H.things i) (h2:PI (λf=>f.1=true\/f.2.1=true) H.things i):KF H.things i :=
  ⟨live_pi.1 h1,h2.2⟩
theorem pv_live {l:List Thing} {v:V} (h:PV (λf=>f.2.2=false) l v):∀i,v = .ref i->i≠0->Live l i:=λi e hi=>by
  subst e
  exact live_pi.1 (h.resolve_left hi)
theorem Sim.of {H G:Hall} {M N:CM} (h:Sim H M) (hs:shape G.things=shape H.things) (hw:G.words=H.words) (wds:Wds H.words G.things N.xs) (top:N.top=M.top)
    (regs:∀t,t<4->∀r,r<4->N.regs t r=encV H.things (G.regs t r)) (txs:∀t,t<4->TxSim H.things (G.deals t) (N.txs t)) (going:N.going=G.going)
    (snap:G.going=true->Snap G.things G.left N.gray N.S):Sim G N :=
  ⟨by rw[hw];exact wds,by rw[hw];exact h.w4,by rw[top,h.top];unfold Hall.used;rw[used_shape hs],λt ht r hr=>by rw[encV_shape hs];exact regs t ht r hr,λt ht=>(txs t ht).shape hs,going,snap⟩
structure Mem (words:Nat) (going:Bool) (left:Int) (l:List Thing) (M:CM):Prop where
  wds:Wds words l M.xs
  go:M.going=going
  snap:going=true->Snap l left M.gray M.S
theorem Sim.mem {H:Hall} {M:CM} (h:Sim H M):Mem H.words H.going H.left H.things M:=⟨h.wds,h.going,h.snap⟩
theorem word_field {words:Nat} {l:List Thing} {M:CM} (h:Wds words l M.xs) {n k:Nat} (hn:Live l n) (hk:k<(th l n).fields.length):M.word (plL l n+2+k)=encV l ((th l n).fields.getD k (.num 0)):=by
  have e:(th l n).fields[k]? = some ((th l n).fields.getD k (.num 0)):=by
    rw[List.getD_eq_getElem?_getD,List.getElem?_eq_getElem hk];rfl
  unfold CM.word
  rw[(h.obj n hn).fs k _ e]
  exact wV_back _ _
theorem Mem.store {words:Nat} {going:Bool} {left:Int} {l:List Thing} {M:CM} (h:Mem words going left l M) {n k:Nat} (hn:Live l n) (hk:k<(th l n).fields.length) (v:V)
    (ho:going=true->∀j,(th l n).fields[k]? = some (.ref j)->j≠0->KF l j):Mem words going left (setF l n k v) (M.store (plL l n+2+k) (encV l v)):=by
  have hw:M.word (plL l n+2+k)=encV l ((th l n).fields.getD k (.num 0)):=word_field h.wds hn hk
  have e:(th l n).fields[k]? = some ((th l n).fields.getD k (.num 0)):=by
    rw[List.getD_eq_getElem?_getD,List.getElem?_eq_getElem hk];rfl
  obtain⟨o,ho2⟩:∃o,o=(th l n).fields.getD k (.num 0):=⟨_,rfl⟩
  rw[<- ho2] at hw e
  have hx:(M.store (plL l n+2+k) (encV l v)).xs=M.xs.set (plL l n+2+k) (wV l v):=rfl
  have hs:M.see (ofK (M.xs.getD (plL l n+2+k) 0),ofN (M.xs.getD (plL l n+2+k) 0))=M.see (encV l o):=by rw[<- hw];rfl
  refine⟨by rw[hx];exact h.wds.setF hn hk v,?_,λhg=>?_⟩
  · exact (CM.store_rest M _ _).2.2.2.1.trans h.go
  · have hgr:(M.store (plL l n+2+k) (encV l v)).gray=(M.see (encV l o)).gray/\(M.store (plL l n+2+k) (encV l v)).S=(M.see (encV l o)).S:=by
      unfold CM.store
      rw[hs]
      exact⟨rfl,rfl⟩
    rw[hgr.1,hgr.2]
    have hgm:M.going=true:=h.go.trans hg
    have hsn:=h.snap hg
    cases o with
    | num z =>
      have e2:M.see (encV l (.num z))=M:=by unfold CM.see encV;simp
      rw[e2]
      exact hsn.setF n k v hn.1 λj e3 _=>by rw[e] at e3;cases e3
    | ref i =>
      have e2:M.see (encV l (.ref i))=M.push (encV l (.ref i)).2:=by unfold CM.see encV;simp[hgm]
      rw[e2]
      by_cases hi:i=0
      · subst hi
        have e3:M.push (encV l (.ref 0)).2=M:=by unfold CM.push pushG pushS encV;simp
        rw[e3]
        exact hsn.setF n k v hn.1 λj e4 hj=>by rw[e] at e4;cases e4;exact absurd rfl hj
      · have hkf:=ho hg i e hi
        have e3:(encV l (.ref i)).2=plL l i:=by simp[encV,hi]
        have hp:Snap l left (M.push (encV l (.ref i)).2).gray (M.push (encV l (.ref i)).2).S:=by
          rw[e3]
          exact hsn.push _ λ_=>⟨i,hkf,rfl⟩
        refine hp.setF n k v hn.1 λj e4 hj=>?_
        rw[e] at e4
        cases e4
        rw[e3]
        show (plL l i:Int) ∈ pushS (plL l i:Int) M.S
        unfold pushS
        split
        · rename_i h5
          rcases h5 with h5|h5
          · have:=plL_pos l i;omega
          · exact h5
        · exact List.mem_cons_self
theorem kf_flags {l l':List Thing} (h:l'.map flagsOf=l.map flagsOf) {i:Nat} (hk:KF l i):KF l' i:=by
  have e:flg l' i=flg l i:=by rw[flg_map,flg_map,h]
  have e1:flagsOf (th l' i)=flagsOf (th l i):=e
  simp only [flagsOf,Prod.mk.injEq] at e1
  have hl:l'.length=l.length:=by simpa using congrArg List.length h
  exact⟨⟨hk.1.1,by rw[hl];exact hk.1.2.1,by rw[e1.2.2];exact hk.1.2.2⟩,by rw[e1.1,e1.2.1];exact hk.2⟩
theorem Mem.back {words:Nat} {going:Bool} {left:Int} {l:List Thing} {M:CM} (h:Mem words going left l M):∀(cs:List (Nat × Nat × V)),
    (∀c ∈ cs,Live l c.1/\c.2.1<(th l c.1).fields.length)->(going=true->(∀i,KF l i->∀j,V.ref j ∈ (th l i).fields->j≠0->KF l j)/\∀c ∈ cs,KF l c.1/\∀j,c.2.2 = .ref j->j≠0->KF l j) ->
    Mem words going left (backF l cs) (M.back (cs.map λc=>⟨plL l c.1,c.2.1,encV l c.2.2⟩))
  | [],_,_=>h
  | c :: cs,h1,h2=>by
    have ih:=Mem.back h cs (λc hc=>h1 c (by simp[hc])) (λhg=>⟨(h2 hg).1,λc hc=>(h2 hg).2 c (by simp[hc])⟩)
    have hs:=shape_backF l cs
    obtain⟨a1,a2⟩:=h1 c (by simp)
    rw[List.map_cons,CM.back_cons]
    have hn:Live (backF l cs) c.1:=(live_shape hs _).2 a1
    have:=ih.store hn (k:=c.2.1) (by rw[(shape_th hs _).2];exact a2) c.2.2 (λhg j e hj=>?_)
    · rw[plL_shape hs,encV_shape hs] at this
      exact this
    · have hfl:=flags_backF l cs
      have hm:=List.mem_of_getElem? e
      rcases fields_backF l c.1 cs _ hm with h3|⟨d,hd,h3⟩
      · exact kf_flags hfl ((h2 hg).1 _ ((h2 hg).2 c (by simp)).1 j h3 hj)
      · exact kf_flags hfl (((h2 hg).2 d (by simp[hd])).2 j h3.symm hj)
theorem kf_cl {K:Nat} {H:Hall} (h:Inv K H) (hg:H.going=true):(∀i,KF H.things i->∀j,V.ref j ∈ (th H.things i).fields->j≠0->KF H.things j):=λi hi j hj hj0=>by
  have c1:=h.cl.fields i (live_pi.2 hi.1) _ hj
  have c2:=(h.kf hg).fields i ⟨hi.1.1,hi.2⟩ _ hj
  exact kf_pi h hg (c1.resolve_left hj0) (c2.resolve_left hj0)
theorem kf_was {K:Nat} {H:Hall} (h:Inv K H) (hg:H.going=true) {t:Nat} (ht:t<4):∀c ∈ (H.deals t).changes,KF H.things c.1/\∀j,c.2.2 = .ref j->j≠0->KF H.things j:=λc hc=>by
  obtain⟨a1,a2⟩:=h.cl.was t ht c hc
  obtain⟨b1,b2⟩:=(h.kf hg).was t ht c hc
  refine⟨kf_pi h hg a1 b1,λj e hj=>?_⟩
  rw[e] at a2 b2
  exact kf_pi h hg (a2.resolve_left hj) (b2.resolve_left hj)
theorem live_ch {K:Nat} {H:Hall} (h:Inv K H) {t:Nat} (ht:t<4):∀c ∈ (H.deals t).changes,Live H.things c.1/\c.2.1<(th H.things c.1).fields.length:=λc hc =>
  ⟨live_pi.1 (h.cl.was t ht c hc).1,(h.own.chg t ht c hc).2⟩
theorem live_ow {K:Nat} {H:Hall} (h:Inv K H) {t:Nat} (ht:t<4):∀c ∈ (H.deals t).owned,Live H.things c.1:=λc hc=>live_pi.1 (h.cl.owned t ht c hc)
theorem live_rd {K:Nat} {H:Hall} (h:Inv K H) {t:Nat} (ht:t<4):∀c ∈ (H.deals t).reads,Live H.things c.1:=λc hc=>live_pi.1 (h.cl.reads t ht c hc)
theorem Sim.abort {K:Nat} {H:Hall} {M:CM} (h:Sim H M) (hi:Inv K H) {t:Nat} (ht:t<4):Sim (H.undone t) (M.abort t):=by
  have hx:=h.txs t ht
  have hb:=h.mem.back (H.deals t).changes (live_ch hi ht) (λhg=>⟨kf_cl hi hg,kf_was hi hg ht⟩)
  rw[<- hx.undo] at hb
  obtain⟨r1,r2,r3,r4,r5,_,_⟩:=CM.back_rest M (M.txs t).undo
  have hsb:=shape_backF H.things (H.deals t).changes
  have hsu:shape (H.undone t).things=shape H.things:=shape_undone H t
  have hkey:∀c ∈ (H.deals t).owned,1<=c.1:=λc hc=>(live_ow hi ht c hc).1
  have hsf:shape (freeF (backF H.things (H.deals t).changes) (H.deals t).owned)=shape (backF H.things (H.deals t).changes):=shape_freeF _ _
  refine h.of hsu rfl ?_ r1 ?_ ?_ ?_ ?_
  · show Wds H.words (freeF (backF H.things (H.deals t).changes) (H.deals t).owned) (redo (M.back (M.txs t).undo).xs (λp=>((M.txs t).owned p).map (2 * ·)))
    refine hb.wds.redoS _ hsf (λi=>fields_freeF i _ _) (λj c hc=>?_) (λi hl=>?_)
    · rw[hx.owned,Option.map_eq_some_iff] at hc
      obtain⟨v,h1,h2⟩:=hc
      obtain⟨d,hd,e1,e2⟩:=verF_some h1
      refine⟨d.1,(live_shape hsb _).2 (live_ow hi ht d hd),?_⟩
      rw[plL_shape hsb]
      omega
    · have hl2:=(live_shape hsb i).1 hl
      rw[plL_shape hsb,hx.owned]
      obtain⟨a,b⟩:=th_freeF i hl.1 (H.deals t).owned (backF H.things (H.deals t).changes) hkey
      have hver:(th (backF H.things (H.deals t).changes) i).version=(th H.things i).version:=back_keep (·.version) (λ_ _ _=>rfl) _ _ _
      by_cases e:hasKey (H.deals t).owned i
      · rw[a e]
        obtain⟨c,hc,rfl⟩:=e
        rw[verF_mem (live_ow hi ht) (hi.own.ond t ht) hc]
        have:=(hi.own.ver t ht c hc).2.2
        show 2 * ((th (backF H.things (H.deals t).changes) c.1).version:Int)=2 * (c.2:Int)
        rw[hver,this]
      · rw[b e]
        have:verF H.things (H.deals t).owned (plL H.things i)=none:=verF_none.2 λc hc e2=>e ⟨c,hc,plN_inj (live_ow hi ht c hc) hl2 e2⟩
        rw[this]
        rfl
  · intro u hu r hr
    show pt M.regs t (M.txs t).saved u r=encV H.things (put1 H.regs t (H.deals t).saved u r)
    by_cases e:u=t
    · subst e
      rw[pt_same,put1_same];exact hx.saved r hr
    · rw[pt_other _ _ e,put1_other _ _ _ e];exact h.regs u hu r hr
  · intro u hu
    show TxSim H.things (put1 H.deals t noDeal u) (pt M.txs t noTx u)
    by_cases e:u=t
    · subst e
      rw[pt_same,put1_same];exact TxSim.none _
    · rw[pt_other _ _ e,put1_other _ _ _ e];exact h.txs u hu
  · exact hb.go
  · intro hg
    have hsn:=hb.snap hg
    have hfl:=flags_freeF (H.deals t).owned (backF H.things (H.deals t).changes)
    refine Snap.congr hsn hsf (λi=>?_) (λi j hj _=>.inl ?_)
    · have e:flg (freeF (backF H.things (H.deals t).changes) (H.deals t).owned) i=flg (backF H.things (H.deals t).changes) i:=by rw[flg_map,flg_map,hfl]
      have e1:flagsOf (th _ i)=flagsOf (th _ i):=e
      simp only [flagsOf,Prod.mk.injEq] at e1
      exact⟨e1.1,e1.2.1⟩
    · show V.ref j ∈ (th (freeF (backF H.things (H.deals t).changes) (H.deals t).owned) i).fields
      rw[fields_freeF];exact hj
end Go.Proofs.Ytbeilcaadpopmab
namespace Go.Proofs.Ytbeilcaadpopmab
theorem encV_bounds {K:Nat} {H:Hall} {M:CM} (h:Sim H M) {v:V} (hv:VOk v) (hl:∀i,v = .ref i->i≠0->Live H.things i) :
    I64 (encV H.things v).1 /\ -4611686018427387904<=(encV H.things v).2/\(encV H.things v).2<4611686018427387904/\I64 (encV H.things v).2:=by
  cases v with
  | num n =>
    obtain⟨h1,h2⟩:=hv
    simp only [encV]
    unfold I64
    omega
  | ref i =>
    by_cases e:i=0
    · subst e
      simp only [encV,if_true]
      unfold I64
      omega
    · have:=plL_end (hl i rfl e)
      have:=h.wds.room
      have:=h.w4
      simp only [encV,if_neg e]
      unfold I64
      omega
theorem snap_few {l:List Thing} {left:Int} {gray S:List Int} {words:Nat} {xs:List Int} (h:Snap l left gray S):S.length<=l.length/\gray.length<=l.length:=by
  have key:∀L:List Int,L.Nodup->(∀p ∈ L,p ∈ S)->L.length<=l.length:=λL hn hs=>by
    have h1:L.length<=((List.range l.length).map λk=>(plL l (k+1):Int)).length:=by
      refine List.Nodup.length_le_of_subset hn λp hp=>?_
      obtain⟨i,⟨h1,_⟩,e⟩:=h.inS p (hs p hp)
      exact List.mem_map.2 ⟨i - 1,List.mem_range.2 (by have:=h1.1;have:=h1.2.1;omega),by rw[show i - 1+1=i by have:=h1.1;omega];exact e.symm⟩
    simpa using h1
  exact⟨key S h.ndS (λ_ hp=>hp),key gray h.ndG h.sub⟩
theorem Sim.abortOk {K:Nat} {H:Hall} {M:CM} (h:Sim H M) (hi:Inv K H) (hK:K<=400) {t:Nat} (ht:t<4) (hop:(M.txs t).op=true):AbortOk M t:=by
  have hx:=h.txs t ht
  refine⟨hop,λu hu=>?_,λp v hp=>?_,λhg=>?_⟩
  · rw[hx.undo] at hu
    obtain⟨c,hc,rfl⟩:=List.mem_map.1 hu
    obtain⟨a1,a2⟩:=live_ch hi ht c hc
    have:=h.wds.lt a1
    have hb:=encV_bounds (K:=K) h (hi.sz.was t c hc) (pv_live (hi.cl.was t ht c hc).2)
    exact⟨by dsimp only;omega,hb.1,hb.2.1,hb.2.2.1⟩
  · rw[hx.owned] at hp
    obtain⟨c,hc,rfl,rfl⟩:=verF_some hp
    have hl:=live_ow hi ht c hc
    have:=h.wds.lt hl
    have hv:=(hi.own.ver t ht c hc).2.2
    have:=hi.sz.ver c.1
    omega
  · have hsn:=h.snap (by rw[<- h.going];exact hg)
    obtain⟨a,b⟩:=snap_few (words:=H.words) (xs:=M.xs) hsn
    have:=hi.sz.n
    have hc:=hi.sz.ch t
    rw[hx.undo,List.length_map]
    omega
theorem Sim.state {H:Hall} {M:CM} (h:Sim H M) {n:Nat} (hn:Live H.things n):M.xs.getD (plL H.things n) 0=stW (H.thing n):=(h.wds.obj n hn).st
theorem Sim.accOk {K:Nat} {H:Hall} {M:CM} (h:Sim H M) (hi:Inv K H) (hK:K<=400) {t r:Nat} (ht:t<4) (hr:r<4):AccOk M t r:=by
  have hreg:=h.regs t ht r hr
  have hlv:=pv_live (hi.cl.regs t ht r hr)
  refine⟨λh1 h2=>?_,?_,λho=>h.abortOk hi hK ht ho⟩
  · rw[hreg] at h1 h2 ⊢
    cases e:H.regs t r with
    | num n=>rw[e] at h1;simp[encV] at h1
    | ref i =>
      rw[e] at h2
      have hi0:i≠0:=λe2=>by subst e2;simp[encV] at h2
      have:=h.wds.lt (hlv i e hi0)
      exact⟨plL H.things i,by simp[encV,hi0],by omega⟩
  · rw[hreg]
    have:=encV_bounds (K:=K) h (hi.sz.regs t r) hlv
    exact⟨this.1,this.2.2.2⟩
theorem stW_odd (x:Thing):(stW x % 2=1 ↔ x.owner≠none)/\(∀t:Nat,stW x=2 * (t:Int)+1 ↔ x.owner=some t)/\(x.owner=none->stW x=2 * (x.version:Int))/\0<=stW x:=by
  unfold stW
  cases x.owner with
  | none =>
    dsimp only
    exact⟨⟨λh=>by omega,λh=>absurd rfl h⟩,λt=>⟨λh=>by omega,λh=>by cases h⟩,λ_=>rfl,by omega⟩
  | some u =>
    dsimp only
    exact⟨⟨λ_ h=>(by cases h),λ_=>by omega⟩,λt=>⟨λh=>by congr 1;omega,λh=>by have:=Option.some.inj h;omega⟩,λh=>(by cases h),by omega⟩
theorem Sim.object {K:Nat} {H:Hall} {M:CM} (h:Sim H M) (hi:Inv K H) {t r:Nat} (ht:t<4) (hr:r<4) (f:Int):M.object t r f=H.acc t r f:=by
  have hreg:=h.regs t ht r hr
  have hlv:=pv_live (hi.cl.regs t ht r hr)
  unfold CM.object Hall.acc
  rw[(h.txs t ht).op]
  by_cases ho:(H.deals t).isOpen=false
  · rw[if_pos ho,if_pos ho]
  · rw[if_neg ho,if_neg ho,hreg]
    cases e:H.regs t r with
    | num n=>rw[if_pos (.inl (by simp[encV]))]
    | ref i =>
      dsimp only
      by_cases h0:i=0
      · subst h0
        rw[if_pos (.inr (by simp[encV])),if_pos rfl]
      · have hl:=hlv i e h0
        have hp:=plL_pos H.things i
        have e2:(encV H.things (.ref i)).2=plL H.things i:=by simp[encV,h0]
        have e1:(encV H.things (.ref i)).1=1:=rfl
        rw[if_neg h0,if_neg (by rw[e1,e2];omega),e2,Int.toNat_natCast,(h.wds.obj i hl).nf,(h.wds.obj i hl).st]
        have ht2:H.thing i=th H.things i:=rfl
        rw[ht2]
        by_cases hf:0<=f/\f<(th H.things i).fields.length
        · rw[if_neg (by omega),if_neg (c:=¬ (0<=f/\f<((th H.things i).fields.length:Int))) (λhn=>hn hf)]
          obtain⟨s1,s2,s3,_⟩:=stW_odd (th H.things i)
          by_cases ho2:(th H.things i).owner=none\/(th H.things i).owner=some t
          · rw[if_pos ho2,if_neg]
            rintro ⟨a,b⟩
            rcases ho2 with ho2|ho2
            · exact s1.1 a ho2
            · exact b ((s2 t).2 ho2)
          · rw[if_neg ho2,if_pos]
            exact⟨s1.2 (λe=>ho2 (.inl e)),λe=>ho2 (.inr ((s2 t).1 e))⟩
        · rw[if_pos (by omega),if_pos hf]
theorem Sim.failed {K:Nat} {H:Hall} {M:CM} (h:Sim H M) (hi:Inv K H) {t:Nat} (ht:t<4) (e:Int):Sim (if e=6 then H.undone t else H) (M.failed t e):=by
  unfold CM.failed
  split
  · exact h.abort hi ht
  · exact h
theorem Sim.fieldOk {K:Nat} {H:Hall} {M:CM} (h:Sim H M) (hi:Inv K H) (hK:K<=400) {t r:Nat} (ht:t<4) (hr:r<4) (f:Int):FieldOk M t r f:=by
  refine⟨h.accOk hi hK ht hr,λh0=>?_⟩
  rw[h.object hi ht hr] at h0
  obtain⟨a1,a2,a3,a4,a5,a6⟩:=acc_ok h0
  have hl:=pv_live (hi.cl.regs t ht r hr) _ a3 a2
  have hb:=h.wds.lt hl
  have a5':f<(th H.things (H.regs t r).id).fields.length:=a5
  refine⟨plL H.things (H.regs t r).id,f.toNat,?_,by omega,by omega,?_⟩
  · obtain⟨n,hn⟩:∃n,n=(H.regs t r).id:=⟨_,rfl⟩
    rw[h.regs t ht r hr]
    rw[<- hn] at a2 a3 ⊢
    rw[a3]
    simp only [encV,if_neg a2]
  · rw[h.state hl];exact (stW_odd _).2.2.2
theorem Sim.reach {K:Nat} {H:Hall} {M:CM} (h:Sim H M) (hi:Inv K H) {t r:Nat} (ht:t<4) (hr:r<4) {f:Int} (h0:H.acc t r f=0) :
    Live H.things (H.regs t r).id/\(M.regs t r).2.toNat=plL H.things (H.regs t r).id/\f.toNat<(th H.things (H.regs t r).id).fields.length/\((th H.things (H.regs t r).id).owner=none\/(th H.things (H.regs t r).id).owner=some t)/\(H.deals t).isOpen=true:=by
  obtain⟨a1,a2,a3,a4,a5,a6⟩:=acc_ok h0
  have hl:=pv_live (hi.cl.regs t ht r hr) _ a3 a2
  have a5':f<(th H.things (H.regs t r).id).fields.length:=a5
  refine⟨hl,?_,by omega,a6,a1⟩
  rw[h.regs t ht r hr,a3]
  have:(V.ref (H.regs t r).id).id=(H.regs t r).id:=rfl
  rw[this]
  simp[encV,a2]
theorem noted_verF {l:List Thing} {cs:List (Nat × Nat)} (hl:∀c ∈ cs,Live l c.1) {n:Nat} (hn:Live l n):verF l cs (plL l n)=none ↔ noted cs n=none:=by
  rw[verF_none]
  unfold noted
  rw[Option.map_eq_none_iff,List.find?_eq_none]
  constructor
  · intro h c hc e
    exact h c hc (by rw[eq_of_beq e])
  · intro h c hc e
    exact h c hc (by rw[plN_inj (hl c hc) hn e];simp)
theorem Sim.noteRead {K:Nat} {H:Hall} {M:CM} (h:Sim H M) (hi:Inv K H) {t n:Nat} (ht:t<4) (hn:Live H.things n) (ho:(th H.things n).owner=none\/(th H.things n).owner=some t) :
    Sim { H with deals:=H.readD t n } (M.noteRead t (plL H.things n)):=by
  have hx:=h.txs t ht
  obtain⟨s1,s2,s3,s4⟩:=stW_odd (th H.things n)
  have hst:=h.state hn
  have hth:H.thing n=th H.things n:=rfl
  have hc1:(M.txs t).reads (plL H.things n:Int)=none ↔ noted (H.deals t).reads n=none:=by rw[hx.reads];exact noted_verF (live_rd hi ht) hn
  unfold CM.noteRead Hall.readD
  rw[hst,hth]
  by_cases hc:noted (H.deals t).reads n=none/\(th H.things n).owner≠some t
  · have hc':(M.txs t).reads (plL H.things n:Int)=none/\stW (th H.things n)≠2 * (t:Int)+1:=⟨hc1.2 hc.1,λe=>hc.2 ((s2 t).1 e)⟩
    rw[if_pos hc,if_pos hc']
    have hown:(th H.things n).owner=none:=ho.resolve_right hc.2
    have hv:stW (th H.things n) / 2=((th H.things n).version:Int):=by rw[s3 hown];omega
    rw[hv]
    refine h.of rfl rfl h.wds rfl h.regs (λu hu=>?_) h.going h.snap
    show TxSim H.things (put1 H.deals t _ u) (pt M.txs t _ u)
    by_cases e:u=t
    · subst e
      rw[pt_same,put1_same]
      refine⟨hx.op,hx.saved,λp=>?_,hx.owned,hx.undo⟩
      show (if p=(plL H.things n:Int) then some ((th H.things n).version:Int) else (M.txs u).reads p)=verF H.things ((H.deals u).reads++[(n,(th H.things n).version)]) p
      rw[verF_snoc (c:=(n,(th H.things n).version)) ((noted_verF (live_rd hi ht) hn).2 hc.1),hx.reads]
    · rw[pt_other _ _ e,put1_other _ _ _ e];exact h.txs u hu
  · rw[if_neg hc,if_neg (λhc'=>hc ⟨hc1.1 hc'.1,λe=>hc'.2 ((s2 t).2 e)⟩)]
    exact h
theorem Sim.setReg {H:Hall} {M:CM} (h:Sim H M) (t r:Nat) (v:V) (x:Int × Int) (hx:x=encV H.things v):Sim { H with regs:=put2 H.regs t r v } (M.setReg t r x):=by
  subst hx
  refine h.of rfl rfl h.wds rfl (λu hu i hir=>?_) h.txs h.going h.snap
  show pt2 M.regs t r (encV H.things v) u i=encV H.things (put2 H.regs t r v u i)
  unfold pt2 put2
  split
  · rfl
  · exact h.regs u hu i hir
theorem Sim.get {K:Nat} {H:Hall} {M:CM} (h:Sim H M) (hi:Inv K H) {t a b:Nat} (ht:t<4) (ha:a<4) (hb:b<4) {f:Int} (h0:H.acc t b f=0) :
    toldC (M.word ((M.regs t b).2.toNat+2+f.toNat))=(H.get t a b f).2/\Sim (H.get t a b f).1 (M.get t a (M.regs t b).2.toNat f):=by
  obtain⟨hl,hp,hf,ho,hop⟩:=h.reach hi ht hb h0
  have hw:=word_field h.wds hl hf
  unfold Hall.get CM.get
  rw[if_pos h0,hp]
  have hs:=h.noteRead hi ht hl ho
  have hth:H.thing (H.regs t b).id=th H.things (H.regs t b).id:=rfl
  have hxs:M.word (plL H.things (H.regs t b).id+2+f.toNat)=encV H.things ((H.thing (H.regs t b).id).fields.getD f.toNat (.num 0)):=hw
  refine⟨?_,?_⟩
  · rw[hxs]
    cases (H.thing (H.regs t b).id).fields.getD f.toNat (.num 0) with
    | num n=>rfl
    | ref i=>rfl
  · exact hs.setReg t a _ _ hxs
theorem Sim.takeOwn {K:Nat} {H:Hall} {M:CM} (h:Sim H M) (hi:Inv K H) {t n:Nat} (ht:t<4) (hn:Live H.things n) (ho:(th H.things n).owner=none\/(th H.things n).owner=some t) :
    Sim (H.own t n) (M.takeOwn t (plL H.things n)):=by
  have hx:=h.txs t ht
  obtain⟨s1,s2,s3,s4⟩:=stW_odd (th H.things n)
  have hst:=h.state hn
  have hth:H.thing n=th H.things n:=rfl
  unfold CM.takeOwn Hall.own
  rw[hst,hth]
  by_cases hc:(th H.things n).owner=some t
  · rw[if_pos hc,if_neg (λe=>e ((s2 t).2 hc))]
    exact h
  · rw[if_neg hc,if_pos (λe=>hc ((s2 t).1 e))]
    have hown:(th H.things n).owner=none:=ho.resolve_right hc
    have hv:stW (th H.things n) / 2=((th H.things n).version:Int):=by rw[s3 hown];omega
    rw[hv]
    have hno:verF H.things (H.deals t).owned (plL H.things n)=none:=verF_none.2 λc hc2 e=>by
      have e2:=plN_inj (live_ow hi ht c hc2) hn e
      have:=(hi.own.ver t ht c hc2).2.1
      rw[e2,hown] at this
      cases this
    have hs:shape (turnT H.things n (ownT t))=shape H.things:=shape_turn _ _ _ λx=>⟨rfl,rfl⟩
    refine h.of hs rfl (h.wds.setS hn (ownT t) (λx=>⟨rfl,rfl⟩) _ rfl) rfl h.regs (λu hu=>?_) h.going λhg=>?_
    · show TxSim H.things (put1 H.deals t _ u) (pt M.txs t _ u)
      by_cases e:u=t
      · subst e
        rw[pt_same,put1_same]
        refine⟨hx.op,hx.saved,hx.reads,λp=>?_,hx.undo⟩
        show (if p=(plL H.things n:Int) then some ((th H.things n).version:Int) else (M.txs u).owned p)=verF H.things ((H.deals u).owned++[(n,(th H.things n).version)]) p
        rw[verF_snoc (c:=(n,(th H.things n).version)) hno,hx.owned]
      · rw[pt_other _ _ e,put1_other _ _ _ e];exact h.txs u hu
    · refine (h.snap hg).congr hs (λi=>?_) (λi j hj _=>.inl ?_)
      · exact⟨th_keep (·.kept) (ownT t) (λ_=>rfl) _ _ _,th_keep (·.fresh) (ownT t) (λ_=>rfl) _ _ _⟩
      · show V.ref j ∈ (th (turnT H.things n (ownT t)) i).fields
        rw[fields_turn _ _ _ (ownT t) λ_=>rfl];exact hj
theorem Sim.write {H:Hall} {M:CM} (h:Sim H M) {t n k:Nat} (ht:t<4) (hn:Live H.things n) (hk:k<(th H.things n).fields.length) (v:V)
    (ho:H.going=true->∀j,(th H.things n).fields[k]? = some (.ref j)->j≠0->KF H.things j):Sim (H.write t n k v) ((M.log t (plL H.things n) k).store (plL H.things n+2+k) (encV H.things v)):=by
  have hx:=h.txs t ht
  have hw:=word_field h.wds hn hk
  have hlog:Sim { H with deals:=put1 H.deals t ((H.deals t).addC (n,k,(H.thing n).fields.getD k (.num 0))) } (M.log t (plL H.things n) k):=by
    unfold CM.log
    rw[hw]
    refine h.of rfl rfl h.wds rfl h.regs (λu hu=>?_) h.going h.snap
    show TxSim H.things (put1 H.deals t _ u) (pt M.txs t _ u)
    by_cases e:u=t
    · subst e
      rw[pt_same,put1_same]
      refine⟨hx.op,hx.saved,hx.reads,hx.owned,?_⟩
      show (M.txs u).undo++[_]=((H.deals u).changes++[_]).map _
      rw[hx.undo,List.map_append]
      rfl
    · rw[pt_other _ _ e,put1_other _ _ _ e];exact h.txs u hu
  have hm:=hlog.mem.store hn hk v ho
  obtain⟨r1,r2,r3,r4,r5,_,_⟩:=CM.store_rest (M.log t (plL H.things n) k) (plL H.things n+2+k) (encV H.things v)
  refine hlog.of (shape_setF _ _ _ _) rfl hm.wds r1 (λu hu r hr=>?_) (λu hu=>?_) hm.go hm.snap
  · rw[r2];exact hlog.regs u hu r hr
  · rw[r3];exact hlog.txs u hu
end Go.Proofs.Ytbeilcaadpopmab
namespace Go.Proofs.Ytbeilcaadpopmab
theorem own_regs (H:Hall) (t n:Nat):(H.own t n).regs=H.regs/\(H.own t n).going=H.going/\(H.own t n).words=H.words/\(H.own t n).left=H.left:=by
  unfold Hall.own
  split <;> exact⟨rfl,rfl,rfl,rfl⟩
theorem own_fields (H:Hall) (t n i:Nat):(th (H.own t n).things i).fields=(th H.things i).fields:=by
  unfold Hall.own
  split
  · rfl
  · exact fields_turn _ _ _ (ownT t) λ_=>rfl
theorem own_flags (H:Hall) (t n:Nat):(H.own t n).things.map flagsOf=H.things.map flagsOf:=by
  unfold Hall.own
  split
  · rfl
  · exact map_turn flagsOf (ownT t) (λ_=>rfl) _ _
theorem Sim.put {K:Nat} {H:Hall} {M:CM} (h:Sim H M) (hi:Inv K H) {t a b:Nat} (ht:t<4) (ha:a<4) (hb:b<4) {f:Int} (h0:H.acc t a f=0) :
    (H.put t a b f).2 = .nil/\Sim (H.put t a b f).1 (M.put t (M.regs t a).2.toNat f.toNat (M.regs t b)):=by
  obtain⟨hl,hp,hf,ho,hop⟩:=h.reach hi ht ha h0
  unfold Hall.put CM.put
  rw[if_pos h0,hp]
  refine⟨rfl,?_⟩
  have hs:=h.takeOwn hi ht hl ho
  have hsh:=shape_own H t (H.regs t a).id
  have hl2:Live (H.own t (H.regs t a).id).things (H.regs t a).id:=(live_shape hsh _).2 hl
  have hk2:f.toNat<(th (H.own t (H.regs t a).id).things (H.regs t a).id).fields.length:=by rw[own_fields];exact hf
  have:=hs.write ht hl2 hk2 (H.regs t b) (λhg j e hj=>by
    rw[own_fields] at e
    have hg2:H.going=true:=by rw[<- (own_regs H t (H.regs t a).id).2.1];exact hg
    refine kf_flags (own_flags H t _) (kf_cl hi hg2 _ ?_ j (List.mem_of_getElem? e) hj)
    have e3:=(acc_ok h0).2.2.1
    have c2:=(hi.kf hg2).regs t ht a ha
    rw[e3] at c2
    exact⟨hl,(c2.resolve_left (acc_ok h0).2.1).2⟩)
  rw[plL_shape hsh,encV_shape hsh] at this
  rw[h.regs t ht b hb]
  exact this
theorem Sim.putOk {K:Nat} {H:Hall} {M:CM} (h:Sim H M) (hi:Inv K H) (hK:K<=400) {t a b:Nat} (ht:t<4) (ha:a<4) (hb:b<4) (f:Int):PutOk M t a b f:=by
  have hv:=encV_bounds (K:=K) h (hi.sz.regs t b) (pv_live (hi.cl.regs t ht b hb))
  refine⟨h.fieldOk hi hK ht ha f,?_,λhg=>?_,?_⟩
  · rw[h.regs t ht b hb];exact⟨hv.1,hv.2.1,hv.2.2.1⟩
  · obtain⟨x,y⟩:=snap_few (words:=H.words) (xs:=M.xs) (h.snap (by rw[<- h.going];exact hg))
    have:=hi.sz.n
    omega
  · rw[(h.txs t ht).undo,List.length_map]
    have:=hi.sz.ch t
    omega
theorem Sim.commitOk {K:Nat} {H:Hall} {M:CM} (h:Sim H M) (hi:Inv K H) (hK:K<=400) {t:Nat} (ht:t<4):CommitOk M t:=by
  refine⟨λho=>h.abortOk hi hK ht ho,λp v hp=>?_⟩
  rw[(h.txs t ht).reads] at hp
  obtain⟨c,hc,rfl,rfl⟩:=verF_some hp
  have hl:=live_rd hi ht c hc
  have:=h.wds.lt hl
  refine⟨by omega,by omega,?_⟩
  rw[Int.toNat_natCast,h.state hl]
  exact (stW_odd _).2.2.2
theorem Sim.fits {K:Nat} {H:Hall} {M:CM} (h:Sim H M) (hi:Inv K H) {t:Nat} (ht:t<4):M.Fits t ↔ H.fits t=true:=by
  have hx:=h.txs t ht
  unfold CM.Fits Hall.fits
  rw[List.all_eq_true]
  have key:∀c ∈ (H.deals t).reads,M.nowOf t (plL H.things c.1)=(c.2:Int) ↔ (((H.thing c.1).owner == none || (H.thing c.1).owner == some t) && (H.thing c.1).version == c.2)=true:=λc hc=>by
    have hl:=live_rd hi ht c hc
    have hth:H.thing c.1=th H.things c.1:=rfl
    obtain⟨s1,s2,s3,s4⟩:=stW_odd (th H.things c.1)
    have hown:(M.txs t).owned (plL H.things c.1)=verF H.things (H.deals t).owned (plL H.things c.1):=hx.owned _
    have hnow:M.nowOf t (plL H.things c.1)=match (M.txs t).owned (plL H.things c.1:Int) with|some was=>was|none=>if stW (th H.things c.1) % 2=1 then -1 else stW (th H.things c.1) / 2:=by
      unfold CM.nowOf
      rw[Int.toNat_natCast,h.state hl,hth]
      rfl
    rw[hnow,hown,hth]
    by_cases hk:hasKey (H.deals t).owned c.1
    · obtain⟨d,hd,e⟩:=hk
      have:=verF_mem (live_ow hi ht) (hi.own.ond t ht) hd
      rw[e] at this
      rw[this]
      obtain⟨v1,v2,v3⟩:=hi.own.ver t ht d hd
      rw[e] at v2 v3
      rw[v2,v3]
      simp
      constructor
      · intro e;omega
      · intro e;omega
    · have:verF H.things (H.deals t).owned (plL H.things c.1)=none:=verF_none.2 λd hd e2=>hk ⟨d,hd,plN_inj (live_ow hi ht d hd) hl e2⟩
      rw[this]
      dsimp only
      cases e:(th H.things c.1).owner with
      | none =>
        rw[if_neg (λe2=>s1.1 e2 e),s3 e]
        simp
        constructor
        · intro e;omega
        · intro e;omega
      | some u =>
        rw[if_pos (s1.2 (by rw[e];simp))]
        have hu:u≠t:=λe2=>hk (hi.own.own c.1 hl.1 t (by rw[e,e2])).2
        simp[hu]
        try omega
  constructor
  · intro hf c hc
    exact (key c hc).1 (hf _ _ (by rw[hx.reads];exact verF_mem (live_rd hi ht) (hi.own.rnd t ht) hc))
  · intro hf p v hp
    rw[hx.reads] at hp
    obtain⟨c,hc,rfl,rfl⟩:=verF_some hp
    exact (key c hc).2 (hf c hc)
theorem Sim.done {K:Nat} {H:Hall} {M:CM} (h:Sim H M) (hi:Inv K H) {t:Nat} (ht:t<4):Sim { H with things:=bumpF H.things (H.deals t).owned,deals:=put1 H.deals t noDeal } (M.done t):=by
  have hx:=h.txs t ht
  have hkey:∀c ∈ (H.deals t).owned,1<=c.1/\c.1<=H.things.length:=hi.own.keys ht
  have hsf:=shape_bumpF (H.deals t).owned H.things
  refine h.of hsf rfl ?_ rfl h.regs (λu hu=>?_) h.going λhg=>?_
  · show Wds H.words (bumpF H.things (H.deals t).owned) (redo M.xs (λp=>((M.txs t).owned p).map (λv=>2 * (v+1))))
    refine h.wds.redoS _ hsf (λi=>fields_bumpF i _ _) (λj c hc=>?_) (λi hl=>?_)
    · rw[hx.owned,Option.map_eq_some_iff] at hc
      obtain⟨v,h1,h2⟩:=hc
      obtain⟨d,hd,e1,e2⟩:=verF_some h1
      exact⟨d.1,live_ow hi ht d hd,by omega⟩
    · rw[hx.owned]
      obtain⟨a,b⟩:=th_bumpF i hl.1 (H.deals t).owned H.things hkey (hi.own.ond t ht)
      by_cases e:hasKey (H.deals t).owned i
      · rw[a e]
        obtain⟨c,hc,rfl⟩:=e
        rw[verF_mem (live_ow hi ht) (hi.own.ond t ht) hc]
        have:=(hi.own.ver t ht c hc).2.2
        show 2 * (((th H.things c.1).version+1:Nat):Int)=2 * ((c.2:Int)+1)
        rw[this]
        omega
      · rw[b e]
        have:verF H.things (H.deals t).owned (plL H.things i)=none:=verF_none.2 λc hc e2=>e ⟨c,hc,plN_inj (live_ow hi ht c hc) hl e2⟩
        rw[this]
        rfl
  · show TxSim H.things (put1 H.deals t noDeal u) (pt M.txs t noTx u)
    by_cases e:u=t
    · subst e
      rw[pt_same,put1_same];exact TxSim.none _
    · rw[pt_other _ _ e,put1_other _ _ _ e];exact h.txs u hu
  · have hfl:=flags_bumpF (H.deals t).owned H.things
    refine (h.snap hg).congr hsf (λi=>?_) (λi j hj _=>.inl ?_)
    · have e:flg (bumpF H.things (H.deals t).owned) i=flg H.things i:=by rw[flg_map,flg_map,hfl]
      have e1:flagsOf (th _ i)=flagsOf (th _ i):=e
      simp only [flagsOf,Prod.mk.injEq] at e1
      exact⟨e1.1,e1.2.1⟩
    · rw[fields_bumpF];exact hj
theorem Sim.begin {H:Hall} {M:CM} (h:Sim H M) {t:Nat} (ht:t<4):Sim { H with deals:=put1 H.deals t ⟨true,H.regs t,[],[],[]⟩ } (M.setTx t ⟨true,M.regs t,λ_=>none,λ_=>none,[]⟩):=by
  refine h.of rfl rfl h.wds rfl h.regs (λu hu=>?_) h.going h.snap
  show TxSim H.things (put1 H.deals t _ u) (pt M.txs t _ u)
  by_cases e:u=t
  · subst e
    rw[pt_same,put1_same]
    exact⟨rfl,λr hr=>h.regs u hu r hr,λ_=>rfl,λ_=>rfl,rfl⟩
  · rw[pt_other _ _ e,put1_other _ _ _ e];exact h.txs u hu
theorem encV_more {l:List Thing} (x:Thing) {v:V} (h:∀i,v = .ref i->i≠0->Live l i):encV (l++[x]) v=encV l v:=by
  cases v with
  | num n=>rfl
  | ref i =>
    by_cases e:i=0
    · subst e;rfl
    · have:=(h i rfl e).2.1
      simp only [encV,if_neg e]
      unfold plL
      rw[List.take_append_of_le_length (by omega)]
theorem verF_more {l:List Thing} (x:Thing) {cs:List (Nat × Nat)} (h:∀c ∈ cs,Live l c.1) (p:Int):verF (l++[x]) cs p=verF l cs p:=by
  unfold verF
  congr 1
  induction cs with
  | nil=>rfl
  | cons c cs ih =>
    have hl:=(h c (by simp)).2.1
    have e:plL (l++[x]) c.1=plL l c.1:=by
      unfold plL
      rw[List.take_append_of_le_length (by omega)]
    rw[List.find?_cons,List.find?_cons,e,ih λd hd=>h d (by simp[hd])]
theorem Sim.new {K:Nat} {H:Hall} {M:CM} (h:Sim H M) (hi:Inv K H) {t a:Nat} (ht:t<4) (ha:a<4) (n:Int) :
    AnsM.err (M.allocE t n)=(H.new t a n).2/\Sim (H.new t a n).1 (if M.allocE t n=0 then M.newObj t a n.toNat else M):=by
  unfold CM.allocE Hall.new
  rw[(h.txs t ht).op,h.wds.len,h.top]
  by_cases h1:(H.deals t).isOpen=false
  · rw[if_pos h1,if_pos h1]
    exact⟨rfl,h⟩
  rw[if_neg h1,if_neg h1]
  by_cases h2:0<=n/\n<=6
  · rw[if_neg (c:=¬ (0<=n/\n<=6)) (λe=>e h2),if_neg (c:=¬ (0<=n/\n<=6)) (λe=>e h2)]
    by_cases h3:1+(H.used:Int)+2+n > H.words
    · rw[if_pos h3,if_pos (show (H.words:Int)<((1+H.used:Nat):Int)+2+n by omega)]
      exact⟨rfl,h⟩
    · rw[if_neg h3,if_neg (show ¬ (H.words:Int)<((1+H.used:Nat):Int)+2+n by omega)]
      refine⟨rfl,?_⟩
      rw[if_pos rfl]
      obtain⟨k,rfl⟩:∃k:Nat,n=k:=⟨n.toNat,by omega⟩
      rw[Int.toNat_natCast]
      obtain⟨x,hx⟩:∃x:Thing,x=⟨List.replicate k (.num 0),0,none,false,true,false⟩:=⟨_,rfl⟩
      rw[<- hx]
      have hu:usedOf (H.things++[x])=usedOf H.things+2+k:=by rw[usedOf_append,hx];simp[usedOf];omega
      have hused:H.used=usedOf H.things:=rfl
      have hid:∀i,Live H.things i->∀v ∈ (th H.things i).fields,v.id<=H.things.length:=λi hl v hv=>by
        cases v with
        | num z=>exact Nat.zero_le _
        | ref j =>
          by_cases e:j=0
          · subst e;exact Nat.zero_le _
          · exact (live_pi.1 ((hi.cl.fields i (live_pi.2 hl) _ hv).resolve_left e)).2.1
      have hw:=h.wds.new k (by omega) x (by rw[hx]) (by rw[hx]) (by rw[hx];rfl) hid
      have hpn:plL (H.things++[x]) (H.things.length+1)=1+usedOf H.things:=by unfold plL;simp
      refine⟨?_,h.w4,?_,λu hu2 r hr=>?_,λu hu2=>?_,h.going,λhg=>?_⟩
      · show Wds H.words (H.things++[x]) (M.xs.set (M.top+1) (k:Int))
        rw[h.top];exact hw
      · show M.top+2+k=1+usedOf (H.things++[x])
        rw[hu,h.top];omega
      · show pt2 M.regs t a (1,(M.top:Int)) u r=encV (H.things++[x]) (put2 H.regs t a (.ref (H.things.length+1)) u r)
        unfold pt2 put2
        split
        · rw[h.top,hused]
          simp only [encV,hpn]
          simp
        · rw[encV_more x (pv_live (hi.cl.regs u hu2 r hr))]
          exact h.regs u hu2 r hr
      · have hxu:=h.txs u hu2
        refine⟨hxu.op,λr hr=>?_,λp=>?_,λp=>?_,?_⟩
        · rw[encV_more x (pv_live (hi.cl.saved u hu2 r hr))];exact hxu.saved r hr
        · show _=verF (H.things++[x]) _ p
          rw[verF_more x (live_rd hi hu2)];exact hxu.reads p
        · show _=verF (H.things++[x]) _ p
          rw[verF_more x (live_ow hi hu2)];exact hxu.owned p
        · refine hxu.undo.trans (List.map_congr_left λc hc=>?_)
          obtain⟨q1,q2⟩:=hi.cl.was u hu2 c hc
          show (⟨plL H.things c.1,c.2.1,encV H.things c.2.2⟩:CU)=⟨plL (H.things++[x]) c.1,c.2.1,encV (H.things++[x]) c.2.2⟩
          rw[encV_more x (pv_live q2)]
          congr 1
          unfold plL
          have:=(live_pi.1 q1).2.1
          rw[List.take_append_of_le_length (by omega)]
      · have hsn:=h.snap hg
        have hgm:M.going=true:=h.going.trans hg
        have e:(M.newObj t a k).S=((1+usedOf H.things:Nat):Int) :: M.S:=by
          show (if M.going=true then (M.top:Int) :: M.S else M.S)=_
          rw[if_pos hgm,h.top]
          rfl
        rw[e]
        exact hsn.newT x (by rw[hx]) (by rw[hx]) (by rw[hx])
  · rw[if_pos h2,if_pos h2]
    exact⟨rfl,h⟩
theorem encV_eq {l:List Thing} {v u:V} (hv:∀i,v = .ref i->i≠0->Live l i) (hu:∀i,u = .ref i->i≠0->Live l i):encV l v=encV l u ↔ v=u:=by
  constructor
  · intro e
    cases v with
    | num n =>
      cases u with
      | num m=>simp only [encV,Prod.mk.injEq] at e;rw[e.2]
      | ref j=>simp[encV] at e
    | ref i =>
      cases u with
      | num m=>simp[encV] at e
      | ref j =>
        have pi:=plL_pos l i
        have pj:=plL_pos l j
        by_cases h1:i=0
        · by_cases h2:j=0
          · rw[h1,h2]
          · simp only [encV,h1,if_true,if_neg h2,Prod.mk.injEq] at e
            omega
        · by_cases h2:j=0
          · simp only [encV,h2,if_true,if_neg h1,Prod.mk.injEq] at e
            omega
          · simp only [encV,if_neg h1,if_neg h2,Prod.mk.injEq] at e
            rw[plN_inj (hv i rfl h1) (hu j rfl h2) e.2]
  · intro e;rw[e]
end Go.Proofs.Ytbeilcaadpopmab
namespace Go.Proofs.Ytbeilcaadpopmab
def livePl:Nat->List Thing->List Nat
  | _,[]=>[]
  | s,x :: r=>if x.gone then livePl s r else s :: livePl (s+(2+x.fields.length)) r
theorem th_split (a:List Thing) (x:Thing) (b:List Thing):th (a++x :: b) (a.length+1)=x/\plL (a++x :: b) (a.length+1)=1+usedOf a:=by
  refine⟨?_,?_⟩
  · unfold th;simp
  · unfold plL;simp
theorem livePl_places {words:Nat} {l:List Thing} {xs:List Int} (h:Wds words l xs) (h6:∀i,(th l i).fields.length<=6) :
    ∀(b a:List Thing) (f:Nat),l=a++b->usedOf b<=2 * f->plF xs (1+usedOf l) f (1+usedOf a)=some (livePl (1+usedOf a) b)
  | [],a,f,e,hf=>by
    subst e
    rw[List.append_nil]
    cases f <;> simp[plF,livePl]
  | x :: b,a,f,e,hf=>by
    obtain⟨e1,e2⟩:=th_split a x b
    rw[<- e] at e1 e2
    have e3:l=(a++[x])++b:=by rw[e];simp
    by_cases hg:x.gone=true
    · have ih:=livePl_places h h6 b (a++[x]) f e3 (by simp[usedOf,hg] at hf;exact hf)
      have e4:usedOf (a++[x])=usedOf a:=by rw[usedOf_append];simp[usedOf,hg]
      rw[e4] at ih
      rw[ih]
      simp[livePl,hg]
    · have hg':x.gone=false:=by simpa using hg
      have hl:Live l (a.length+1):=⟨by omega,by rw[e];simp,by rw[e1];exact hg'⟩
      have hu:usedOf (x :: b)=2+x.fields.length+usedOf b:=by simp[usedOf,hg']
      have e4:usedOf (a++[x])=usedOf a+(2+x.fields.length):=by rw[usedOf_append];simp[usedOf,hg']
      have hul:usedOf l=usedOf a+usedOf (x :: b):=by rw[e,usedOf_append]
      cases f with
      | zero=>omega
      | succ f =>
        have ih:=livePl_places h h6 b (a++[x]) f e3 (by omega)
        have hnf:=(h.obj _ hl).nf
        rw[e1,e2] at hnf
        have h66:=h6 (a.length+1)
        rw[e1] at h66
        rw[plF,if_pos (by omega),if_neg (by omega),hnf,if_pos ⟨by omega,by omega,by rw[Int.toNat_natCast];omega⟩,Int.toNat_natCast]
        rw[show 1+usedOf a+2+x.fields.length=1+usedOf (a++[x]) by omega,ih]
        simp only [livePl,hg',Bool.false_eq_true,if_false,Option.map_some]
        rw[e4,show 1+usedOf a+(2+x.fields.length)=1+(usedOf a+(2+x.fields.length)) by omega]
theorem mem_livePl:∀(b a:List Thing) (q:Nat),q ∈ livePl (1+usedOf a) b ↔ ∃i,a.length<i/\Live (a++b) i/\q=plL (a++b) i
  | [],a,q=>by
    simp only [livePl,List.not_mem_nil,List.append_nil,false_iff]
    rintro ⟨i,h1,h2,_⟩
    have:=h2.2.1
    omega
  | x :: b,a,q=>by
    obtain⟨e1,e2⟩:=th_split a x b
    have e3:a++x :: b=(a++[x])++b:=by simp
    have ih:=mem_livePl b (a++[x]) q
    rw[<- e3] at ih
    have hlen:(a++[x]).length=a.length+1:=by simp
    rw[hlen] at ih
    by_cases hg:x.gone=true
    · have e4:usedOf (a++[x])=usedOf a:=by rw[usedOf_append];simp[usedOf,hg]
      rw[e4] at ih
      simp only [livePl,hg,if_true]
      rw[ih]
      constructor
      · rintro ⟨i,h1,h2,h3⟩;exact⟨i,by omega,h2,h3⟩
      · rintro ⟨i,h1,h2,h3⟩
        refine⟨i,?_,h2,h3⟩
        by_cases e:i=a.length+1
        · have:=h2.2.2
          rw[e,e1,hg] at this;cases this
        · omega
    · have hg':x.gone=false:=by simpa using hg
      have e4:usedOf (a++[x])=usedOf a+(2+x.fields.length):=by rw[usedOf_append];simp[usedOf,hg']
      rw[e4] at ih
      simp only [livePl,hg',Bool.false_eq_true,if_false,List.mem_cons]
      rw[show 1+usedOf a+(2+x.fields.length)=1+(usedOf a+(2+x.fields.length)) by omega,ih]
      constructor
      · rintro (rfl|⟨i,h1,h2,h3⟩)
        · exact⟨a.length+1,by omega,⟨by omega,by simp,by rw[e1];exact hg'⟩,e2.symm⟩
        · exact⟨i,by omega,h2,h3⟩
      · rintro ⟨i,h1,h2,h3⟩
        by_cases e:i=a.length+1
        · subst e;exact .inl (by rw[h3,e2])
        · exact .inr ⟨i,by omega,h2,h3⟩
theorem mem_live (l:List Thing) (q:Nat):q ∈ livePl 1 l ↔ ∃i,Live l i/\q=plL l i:=by
  have:=mem_livePl l [] q
  simp only [usedOf,List.nil_append,List.length_nil] at this
  rw[this]
  constructor
  · rintro ⟨i,_,h⟩;exact⟨i,h⟩
  · rintro ⟨i,h⟩;exact⟨i,h.1.1,h⟩
theorem word_ok {words:Nat} {l:List Thing} (h4:1+usedOf l<=400) {v:V} (hv:VOk v) (hl:∀i,v = .ref i->i≠0->Live l i):WordOk (livePl 1 l) (wV l v):=by
  cases v with
  | num n =>
    have e:wV l (.num n)=2 * n:=by simp[wV,encV,wordOf]
    rw[e]
    have h1 : -1099511627776<=n/\n<=1099511627776:=hv
    exact⟨λ_=>by omega,λh=>by omega⟩
  | ref j =>
    have e:wV l (.ref j)=2 * (if j=0 then 0 else (plL l j:Int))+1:=by simp[wV,encV,wordOf]
    rw[e]
    by_cases e0:j=0
    · rw[if_pos e0]
      exact⟨λh=>by omega,λ_ h=>absurd rfl h⟩
    · rw[if_neg e0]
      exact⟨λh=>by omega,λ_ _=>⟨plL l j,(mem_live _ _).2 ⟨j,hl j rfl e0,rfl⟩,by omega⟩⟩
theorem Sim.heap {K:Nat} {H:Hall} {M:CM} (h:Sim H M) (hi:Inv K H) (hK:K<=400):HeapIs M.xs M.top (livePl 1 H.things):=by
  have hw:=h.wds
  have hr:=hw.room
  have h4:=h.w4
  have hlen:=hw.len
  have hu:H.used=usedOf H.things:=rfl
  have hp:=livePl_places hw hi.sz.f6 H.things [] 400 rfl (by omega)
  simp only [usedOf] at hp
  refine⟨by omega,by rw[h.top];omega,by rw[h.top];omega,by rw[h.top];exact hp,λp hp2=>?_,λi h1 h2=>hw.up i (.inr (by rw[h.top] at h1;exact h1))⟩
  obtain⟨i,hl,rfl⟩:=(mem_live _ _).1 hp2
  have ho:=hw.obj i hl
  refine⟨?_,?_,λk hk=>?_⟩
  · rw[ho.st];exact (stW_odd _).2.2.2
  · rw[ho.st]
    have hv:=hi.sz.ver i
    unfold stW
    cases e:(th H.things i).owner with
    | none=>dsimp only;omega
    | some u =>
      have:=(hi.own.own i hl.1 u e).1
      dsimp only;omega
  · have hk2:k<(th H.things i).fields.length:=by
      unfold nf at hk
      rw[ho.nf,Int.toNat_natCast] at hk
      exact hk
    have hf:=ho.fs k _ (List.getElem?_eq_getElem hk2)
    rw[hf]
    have hm:=List.getElem_mem hk2
    exact word_ok (words:=H.words) (by omega) (hi.sz.fields i _ hm) (pv_live (hi.cl.fields i (live_pi.2 hl) _ hm))
def keepPl:Nat->Nat->List Thing->List (Nat × Nat)
  | _,_,[]=>[]
  | s,d,x :: r=>if x.gone then keepPl s d r else if x.kept || x.fresh then (s,d) :: keepPl (s+(2+x.fields.length)) (d+(2+x.fields.length)) r else keepPl (s+(2+x.fields.length)) d r
theorem sweep_th (l:List Thing) (i:Nat) (h1:1<=i) (h2:i<=l.length):th (sweepF l) i={ th l i with gone:=(th l i).gone || (!(th l i).kept && !(th l i).fresh) }:=by
  have h3:i - 1<l.length:=by omega
  unfold th sweepF
  rw[List.getD_eq_getElem?_getD,List.getElem?_map,List.getElem?_eq_getElem h3,List.getD_eq_getElem?_getD,List.getElem?_eq_getElem h3]
  rfl
theorem sweep_live (l:List Thing) (i:Nat):Live (sweepF l) i ↔ KF l i:=by
  have hlen:(sweepF l).length=l.length:=by simp[sweepF]
  constructor
  · rintro ⟨h1,h2,h3⟩
    rw[hlen] at h2
    rw[sweep_th l i h1 h2] at h3
    simp only [Bool.or_eq_false_iff,Bool.and_eq_false_iff,Bool.not_eq_false'] at h3
    exact⟨⟨h1,h2,h3.1⟩,h3.2⟩
  · rintro ⟨⟨h1,h2,h3⟩,h4⟩
    refine⟨h1,by rw[hlen];exact h2,?_⟩
    rw[sweep_th l i h1 h2]
    simp only [h3,Bool.false_or,Bool.and_eq_false_iff,Bool.not_eq_false']
    exact h4
theorem sweep_thf (l:List Thing) (i:Nat):(th (sweepF l) i).fields=(th l i).fields/\stW (th (sweepF l) i)=stW (th l i):=by
  by_cases h:i - 1<l.length
  · unfold th sweepF
    rw[List.getD_eq_getElem?_getD,List.getElem?_map,List.getElem?_eq_getElem h,List.getD_eq_getElem?_getD,List.getElem?_eq_getElem h]
    exact⟨rfl,rfl⟩
  · unfold th
    rw[List.getD_eq_getElem?_getD,List.getElem?_eq_none (by simp[sweepF];omega),List.getD_eq_getElem?_getD,List.getElem?_eq_none (by omega)]
    exact⟨rfl,rfl⟩
theorem mem_keepPl:∀(b a:List Thing) (m:Nat × Nat),m ∈ keepPl (1+usedOf a) (1+usedOf (sweepF a)) b ↔ ∃i,a.length<i/\KF (a++b) i/\m=(plL (a++b) i,plL (sweepF (a++b)) i)
  | [],a,m=>by
    simp only [keepPl,List.not_mem_nil,List.append_nil,false_iff]
    rintro ⟨i,h1,h2,_⟩
    have:=h2.1.2.1
    omega
  | x :: b,a,m=>by
    obtain⟨e1,e2⟩:=th_split a x b
    have e3:a++x :: b=(a++[x])++b:=by simp
    have ih:=mem_keepPl b (a++[x]) m
    rw[<- e3] at ih
    have hlen:(a++[x]).length=a.length+1:=by simp
    have hsw:sweepF (a++[x])=sweepF a++sweepF [x]:=by simp[sweepF]
    rw[hlen,hsw,usedOf_append,usedOf_append] at ih
    have e5:plL (sweepF (a++x :: b)) (a.length+1)=1+usedOf (sweepF a):=by
      have:sweepF (a++x :: b)=sweepF a++({ x with gone:=x.gone || (!x.kept && !x.fresh) } :: sweepF b):=by simp[sweepF]
      rw[this]
      have hl2:a.length=(sweepF a).length:=by simp[sweepF]
      rw[hl2]
      exact (th_split _ _ _).2
    have up:¬ KF (a++x :: b) (a.length+1)->((∃i,a.length<i/\KF (a++x :: b) i/\m=(plL (a++x :: b) i,plL (sweepF (a++x :: b)) i)) ↔ ∃i,a.length+1<i/\KF (a++x :: b) i/\m=(plL (a++x :: b) i,plL (sweepF (a++x :: b)) i)):=λhn=>by
      constructor
      · rintro ⟨i,h1,h2,h3⟩
        refine⟨i,?_,h2,h3⟩
        by_cases e:i=a.length+1
        · subst e;exact absurd h2 hn
        · omega
      · rintro ⟨i,h1,h2,h3⟩;exact⟨i,by omega,h2,h3⟩
    by_cases hg:x.gone=true
    · have u1:usedOf [x]=0:=by simp[usedOf,hg]
      have u2:usedOf (sweepF [x])=0:=by simp[sweepF,usedOf,hg]
      rw[u1,u2,Nat.add_zero,Nat.add_zero] at ih
      rw[up (λhk=>by have:=hk.1.2.2;rw[e1,hg] at this;cases this)]
      simp only [keepPl,hg,if_true]
      exact ih
    · have hg':x.gone=false:=by simpa using hg
      have u1:usedOf [x]=2+x.fields.length:=by simp[usedOf,hg']
      have hl:Live (a++x :: b) (a.length+1):=⟨by omega,by simp,by rw[e1];exact hg'⟩
      by_cases hk:(x.kept || x.fresh)=true
      · have u2:usedOf (sweepF [x])=2+x.fields.length:=by
          have:(!x.kept && !x.fresh)=false:=by revert hk;cases x.kept <;> cases x.fresh <;> simp
          simp[sweepF,usedOf,hg',this]
        rw[u1,u2] at ih
        simp only [keepPl,hg',hk,Bool.false_eq_true,if_false,if_true,List.mem_cons]
        rw[show 1+usedOf a+(2+x.fields.length)=1+(usedOf a+(2+x.fields.length)) by omega,show 1+usedOf (sweepF a)+(2+x.fields.length)=1+(usedOf (sweepF a)+(2+x.fields.length)) by omega,ih]
        constructor
        · rintro (rfl|⟨i,h1,h2,h3⟩)
          · exact⟨a.length+1,by omega,⟨hl,by rw[e1];simpa using hk⟩,by rw[e2,e5]⟩
          · exact⟨i,by omega,h2,h3⟩
        · rintro ⟨i,h1,h2,h3⟩
          by_cases e:i=a.length+1
          · subst e;exact .inl (by rw[h3,e2,e5])
          · exact .inr ⟨i,by omega,h2,h3⟩
      · have hk':(x.kept || x.fresh)=false:=by simpa using hk
        have u2:usedOf (sweepF [x])=0:=by
          have:(!x.kept && !x.fresh)=true:=by revert hk';cases x.kept <;> cases x.fresh <;> simp
          simp[sweepF,usedOf,this]
        rw[u1,u2,Nat.add_zero] at ih
        rw[up (λh2=>by
          have:=h2.2
          rw[e1] at this
          rcases this with h3|h3 <;> simp[h3] at hk')]
        simp only [keepPl,hg',hk',Bool.false_eq_true,if_false]
        rw[show 1+usedOf a+(2+x.fields.length)=1+(usedOf a+(2+x.fields.length)) by omega]
        exact ih
theorem mem_keep (l:List Thing) (m:Nat × Nat):m ∈ keepPl 1 1 l ↔ ∃i,KF l i/\m=(plL l i,plL (sweepF l) i):=by
  have:=mem_keepPl l [] m
  simp only [usedOf,List.nil_append,List.length_nil,sweepF,List.map_nil] at this
  rw[this]
  constructor
  · rintro ⟨i,_,h⟩;exact⟨i,h⟩
  · rintro ⟨i,h⟩;exact⟨i,h.1.1.1,h⟩
theorem keep_filter (P:Nat->Bool):∀(b a:List Thing) (d:Nat),(∀i,Live (a++b) i->(P (plL (a++b) i)=true ↔ ((th (a++b) i).kept=true\/(th (a++b) i).fresh=true))) ->
    (livePl (1+usedOf a) b).filter P=(keepPl (1+usedOf a) d b).map (·.1)
  | [],a,d,_=>rfl
  | x :: b,a,d,hP=>by
    obtain⟨e1,e2⟩:=th_split a x b
    have e3:a++x :: b=(a++[x])++b:=by simp
    have hP2:∀i,Live ((a++[x])++b) i->(P (plL ((a++[x])++b) i)=true ↔ ((th ((a++[x])++b) i).kept=true\/(th ((a++[x])++b) i).fresh=true)):=by rw[<- e3];exact hP
    by_cases hg:x.gone=true
    · have e4:usedOf (a++[x])=usedOf a:=by rw[usedOf_append];simp[usedOf,hg]
      have ih:=keep_filter P b (a++[x]) d hP2
      rw[e4] at ih
      simp only [livePl,keepPl,hg,if_true]
      exact ih
    · have hg':x.gone=false:=by simpa using hg
      have e4:usedOf (a++[x])=usedOf a+(2+x.fields.length):=by rw[usedOf_append];simp[usedOf,hg']
      have hl:Live (a++x :: b) (a.length+1):=⟨by omega,by simp,by rw[e1];exact hg'⟩
      have hp:=hP _ hl
      rw[e1,e2] at hp
      have e6:1+usedOf a+(2+x.fields.length)=1+usedOf (a++[x]):=by omega
      simp only [livePl,keepPl,hg',Bool.false_eq_true,if_false]
      by_cases hk:(x.kept || x.fresh)=true
      · rw[List.filter_cons_of_pos (hp.2 (by simpa using hk)),if_pos hk,e6,List.map_cons,keep_filter P b (a++[x]) _ hP2]
      · rw[List.filter_cons_of_neg (λh=>hk (by simpa using hp.1 h)),if_neg hk,e6,keep_filter P b (a++[x]) d hP2]
theorem keep_mvs {words:Nat} {l:List Thing} {xs:List Int} (h:Wds words l xs):∀(b a:List Thing) (d:Nat),l=a++b ->
    mvs xs ((keepPl (1+usedOf a) d b).map (·.1)) d=keepPl (1+usedOf a) d b/\topOf xs ((keepPl (1+usedOf a) d b).map (·.1)) d=d+usedOf (sweepF b)
  | [],a,d,_=>⟨rfl,by simp[keepPl,topOf,sweepF,usedOf]⟩
  | x :: b,a,d,e=>by
    obtain⟨e1,e2⟩:=th_split a x b
    have e3:l=(a++[x])++b:=by rw[e];simp
    rw[<- e] at e1 e2
    by_cases hg:x.gone=true
    · have e4:usedOf (a++[x])=usedOf a:=by rw[usedOf_append];simp[usedOf,hg]
      have ih:=keep_mvs h b (a++[x]) d e3
      rw[e4] at ih
      have hu:usedOf (sweepF (x :: b))=usedOf (sweepF b):=by simp[sweepF,usedOf,hg]
      simp only [keepPl,hg,if_true,hu]
      exact ih
    · have hg':x.gone=false:=by simpa using hg
      have e4:usedOf (a++[x])=usedOf a+(2+x.fields.length):=by rw[usedOf_append];simp[usedOf,hg']
      have hl:Live l (a.length+1):=⟨by omega,by rw[e];simp,by rw[e1];exact hg'⟩
      have e6:1+usedOf a+(2+x.fields.length)=1+usedOf (a++[x]):=by omega
      simp only [keepPl,hg',Bool.false_eq_true,if_false]
      by_cases hk:(x.kept || x.fresh)=true
      · obtain⟨i1,i2⟩:=keep_mvs h b (a++[x]) (d+(2+x.fields.length)) e3
        have hnf:nf xs (1+usedOf a)=x.fields.length:=by
          have:=(h.obj _ hl).nf
          rw[e1,e2] at this
          unfold nf
          rw[this,Int.toNat_natCast]
        have hu:usedOf (sweepF (x :: b))=2+x.fields.length+usedOf (sweepF b):=by
          have:(!x.kept && !x.fresh)=false:=by revert hk;cases x.kept <;> cases x.fresh <;> simp
          simp[sweepF,usedOf,hg',this]
        rw[if_pos hk,e6,List.map_cons]
        refine⟨?_,?_⟩
        · show (1+usedOf a,d) :: mvs xs _ (d+(2+nf xs (1+usedOf a)))=_
          rw[hnf,i1]
        · show topOf xs _ (d+(2+nf xs (1+usedOf a)))=_
          rw[hnf,i2,hu];omega
      · have hk':(x.kept || x.fresh)=false:=by simpa using hk
        have ih:=keep_mvs h b (a++[x]) d e3
        have hu:usedOf (sweepF (x :: b))=usedOf (sweepF b):=by
          have:(!x.kept && !x.fresh)=true:=by revert hk';cases x.kept <;> cases x.fresh <;> simp
          simp[sweepF,usedOf,this]
        rw[if_neg hk,e6,hu]
        exact ih
end Go.Proofs.Ytbeilcaadpopmab
namespace Go.Proofs.Ytbeilcaadpopmab
def mvV (ms:List (Nat × Nat)) (v:Int × Int):Int × Int:=if v.1=1 then (v.1,(toF ms v.2).getD 0) else v
def mvF (ms:List (Nat × Nat)) (f:Int->Option Int) (q:Int):Option Int:=(ms.find? λm=>decide ((m.2:Int)=q)).bind λm=>f (m.1:Int)
def mvU (ms:List (Nat × Nat)) (u:CU):CU:=⟨((toF ms (u.p:Int)).getD 0).toNat,u.k,mvV ms u.was⟩
def mvT (ms:List (Nat × Nat)) (x:CTx):CTx:={ x with saved:=λr=>mvV ms (x.saved r),reads:=mvF ms x.reads,owned:=mvF ms x.owned,undo:=x.undo.map (mvU ms) }
def CM.closed (M:CM) (ks:List Nat) (L:List Int):CM :=
  { M with xs:=padTo M.xs.length (0 :: L),top:=topOf M.xs ks 1,going:=false,regs:=λt r=>mvV (mvs M.xs ks 1) (M.regs t r),txs:=λt=>mvT (mvs M.xs ks 1) (M.txs t) }
def CM.held (M:CM) (y:Int):Prop:=∃t,t<4/\((∃r,r<4/\M.regs t r=(1,y))\/(∃r,r<4/\(M.txs t).saved r=(1,y))\/(∃u ∈ (M.txs t).undo,u.was=(1,y))\/(M.txs t).reads y≠none\/(M.txs t).owned y≠none)
def CM.Collected (M M':CM):Prop:=∃gray S,M' = { M with going:=true,gray:=gray,S:=S }/\gray.Nodup/\S.Nodup/\(∀y,y ∈ S ↔ y ∈ gray)/\∀y,y ∈ gray ↔ y≠0/\M.held y
theorem kept_th (l:List Thing) (rs:List Nat) (i:Nat) (h1:1<=i) (h2:i<=l.length):th (keptF l rs) i={ th l i with fresh:=false,kept:=keptB l rs i }:=by
  have h3:i - 1<l.length:=by omega
  unfold th keptF
  rw[List.getD_eq_getElem?_getD,List.getElem?_mapIdx,List.getElem?_eq_getElem h3,List.getD_eq_getElem?_getD,List.getElem?_eq_getElem h3]
  simp only [Option.map_some,Option.getD_some]
  rw[show i - 1+1=i by omega]
theorem kept_live (l:List Thing) (rs:List Nat) (i:Nat):Live (keptF l rs) i ↔ Live l i:=live_shape (shape_kept l rs) i
theorem kept_thf (l:List Thing) (rs:List Nat) (i:Nat):(th (keptF l rs) i).fields=(th l i).fields:=by
  by_cases h:i - 1<l.length
  · unfold th keptF
    rw[List.getD_eq_getElem?_getD,List.getElem?_mapIdx,List.getElem?_eq_getElem h,List.getD_eq_getElem?_getD,List.getElem?_eq_getElem h]
    rfl
  · unfold th
    rw[List.getD_eq_getElem?_getD,List.getElem?_eq_none (by simp[keptF];omega),List.getD_eq_getElem?_getD,List.getElem?_eq_none (by omega)]
theorem keptN_count:∀l:List Thing,keptN l=(List.range l.length).countP λk=>(th l (k+1)).kept
  | []=>rfl
  | x :: l=>by
    have ih:=keptN_count l
    rw[List.length_cons,List.range_succ_eq_map,List.countP_cons,List.countP_map]
    have e:((λk=>(th (x :: l) (k+1)).kept) ∘ Nat.succ)=λk=>(th l (k+1)).kept:=by
      funext k;rfl
    rw[e,<- ih]
    have e2:th (x :: l) (0+1)=x:=rfl
    rw[e2]
    unfold keptN
    cases hk:x.kept
    · rw[List.filter_cons_of_neg (by simp[hk])];simp
    · rw[List.filter_cons_of_pos hk];simp
theorem root_live {K:Nat} {H:Hall} (hi:Inv K H):∀i ∈ H.roots,i≠0->Live H.things i:=by
  intro i hm h0
  unfold Hall.roots heldBy at hm
  simp only [List.mem_flatMap,List.mem_range,List.mem_append,List.mem_map] at hm
  obtain⟨t,ht,((((⟨r,hr,e⟩|⟨r,hr,e⟩)|⟨c,hc,e⟩)|⟨c,hc,e⟩)|⟨c,hc,e⟩)⟩:=hm
  · subst e;exact live_pi.1 ((hi.cl.regs t ht r hr).id h0)
  · subst e;exact live_pi.1 ((hi.cl.saved t ht r hr).id h0)
  · subst e;exact live_pi.1 ((hi.cl.was t ht c hc).2.id h0)
  · subst e;exact live_rd hi ht c hc
  · subst e;exact live_ow hi ht c hc
theorem reach_live {K:Nat} {H:Hall} (hi:Inv K H) {i:Nat} (h:HReach H.things H.roots i):Live H.things i:=by
  induction h with
  | root h1 h2=>exact root_live hi _ h1 h2
  | field h1 h2 h3 ih=>exact live_pi.1 ((hi.cl.fields _ (live_pi.2 ih) _ h2).resolve_left h3)
theorem encV_ref {l:List Thing} {v:V} {y:Int} (h:encV l v=(1,y)) (h0:y≠0):∃i,v = .ref i/\i≠0/\y=plL l i:=by
  cases v with
  | num n=>simp[encV] at h
  | ref i =>
    simp only [encV,Prod.mk.injEq,true_and] at h
    by_cases e:i=0
    · rw[if_pos e] at h;exact absurd h.symm h0
    · rw[if_neg e] at h;exact⟨i,rfl,e,h.symm⟩
theorem ref_id {v:V} (h:v.id≠0):v = .ref v.id:=by
  cases v with
  | num n=>exact absurd rfl h
  | ref i=>rfl
theorem Sim.held {K:Nat} {H:Hall} {M:CM} (h:Sim H M) (hi:Inv K H) (y:Int):(y≠0/\M.held y) ↔ ∃i ∈ H.roots,i≠0/\y=plL H.things i:=by
  have hroot:∀i,i ∈ H.roots ↔ ∃t,t<4/\((∃r,r<4/\(H.regs t r).id=i)\/(∃r,r<4/\((H.deals t).saved r).id=i)\/(∃c ∈ (H.deals t).changes,c.2.2.id=i)\/(∃c ∈ (H.deals t).reads,c.1=i)\/∃c ∈ (H.deals t).owned,c.1=i):=λi=>by
    unfold Hall.roots heldBy
    simp only [List.mem_flatMap,List.mem_range,List.mem_append,List.mem_map,or_assoc]
  constructor
  · rintro ⟨h0,t,ht,hh⟩
    have hx:=h.txs t ht
    rcases hh with ⟨r,hr,e⟩|⟨r,hr,e⟩|⟨u,hu,e⟩|e|e
    · rw[h.regs t ht r hr] at e
      obtain⟨i,e1,e2,e3⟩:=encV_ref e h0
      exact⟨i,(hroot i).2 ⟨t,ht,.inl ⟨r,hr,by rw[e1];rfl⟩⟩,e2,e3⟩
    · rw[hx.saved r hr] at e
      obtain⟨i,e1,e2,e3⟩:=encV_ref e h0
      exact⟨i,(hroot i).2 ⟨t,ht,.inr (.inl ⟨r,hr,by rw[e1];rfl⟩)⟩,e2,e3⟩
    · rw[hx.undo] at hu
      obtain⟨c,hc,rfl⟩:=List.mem_map.1 hu
      obtain⟨i,e1,e2,e3⟩:=encV_ref e h0
      exact⟨i,(hroot i).2 ⟨t,ht,.inr (.inr (.inl ⟨c,hc,by rw[e1];rfl⟩))⟩,e2,e3⟩
    · rw[hx.reads] at e
      obtain⟨v,hv⟩:=Option.ne_none_iff_exists'.1 e
      obtain⟨c,hc,e1,_⟩:=verF_some hv
      exact⟨c.1,(hroot _).2 ⟨t,ht,.inr (.inr (.inr (.inl ⟨c,hc,rfl⟩)))⟩,by have:=(live_rd hi ht c hc).1;omega,e1⟩
    · rw[hx.owned] at e
      obtain⟨v,hv⟩:=Option.ne_none_iff_exists'.1 e
      obtain⟨c,hc,e1,_⟩:=verF_some hv
      exact⟨c.1,(hroot _).2 ⟨t,ht,.inr (.inr (.inr (.inr ⟨c,hc,rfl⟩)))⟩,by have:=(live_ow hi ht c hc).1;omega,e1⟩
  · rintro ⟨i,hm,h0,rfl⟩
    have hp:=plL_pos H.things i
    refine⟨by omega,?_⟩
    obtain⟨t,ht,hh⟩:=(hroot i).1 hm
    have hx:=h.txs t ht
    have henc:∀v:V,v.id=i->encV H.things v=(1,(plL H.things i:Int)):=λv e=>by
      have e2:=ref_id (v:=v) (by rw[e];exact h0)
      rw[e2,e]
      simp[encV,h0]
    refine⟨t,ht,?_⟩
    rcases hh with ⟨r,hr,e⟩|⟨r,hr,e⟩|⟨c,hc,e⟩|⟨c,hc,rfl⟩|⟨c,hc,rfl⟩
    · exact .inl ⟨r,hr,by rw[h.regs t ht r hr];exact henc _ e⟩
    · exact .inr (.inl ⟨r,hr,by rw[hx.saved r hr];exact henc _ e⟩)
    · refine .inr (.inr (.inl ⟨⟨plL H.things c.1,c.2.1,encV H.things c.2.2⟩,?_,henc _ e⟩))
      rw[hx.undo];exact List.mem_map.2 ⟨c,hc,rfl⟩
    · refine .inr (.inr (.inr (.inl ?_)))
      rw[hx.reads,verF_mem (live_rd hi ht) (hi.own.rnd t ht) hc];simp
    · refine .inr (.inr (.inr (.inr ?_)))
      rw[hx.owned,verF_mem (live_ow hi ht) (hi.own.ond t ht) hc];simp
theorem Sim.collect {K:Nat} {H:Hall} {M M':CM} (h:Sim H M) (hi:Inv K H) (hc:M.Collected M') :
    Sim { H with things:=keptF H.things H.roots,going:=true,left:=keptN (keptF H.things H.roots) } M':=by
  obtain⟨gray,S,rfl,ng,ns,hS,hG⟩:=hc
  have hsh:=shape_kept H.things H.roots
  have hG':∀y,y ∈ gray ↔ ∃i ∈ H.roots,i≠0/\y=plL H.things i:=λy=>(hG y).trans (h.held hi y)
  have hkb:∀i,keptB H.things H.roots i=true ↔ HReach H.things H.roots i:=λi=>by unfold keptB;simp
  have hkf:∀i,HReach H.things H.roots i->KF (keptF H.things H.roots) i:=λi hr=>by
    have hl:=reach_live hi hr
    refine⟨(kept_live _ _ _).2 hl,.inl ?_⟩
    rw[kept_th _ _ _ hl.1 hl.2.1]
    exact (hkb i).2 hr
  have hback:∀i,1<=i->(th (keptF H.things H.roots) i).kept=true->HReach H.things H.roots i:=λi h1 hk=>by
    by_cases h2:i<=H.things.length
    · rw[kept_th _ _ _ h1 h2] at hk
      exact (hkb i).1 hk
    · rw[th_out _ _ (by simp[keptF];omega)] at hk;cases hk
  refine h.of hsh rfl ?_ rfl h.regs h.txs rfl λ_=>?_
  · refine h.wds.turn hsh rfl (λi hl=>?_) (λj _=>rfl)
    have ho:=h.wds.obj i hl
    refine⟨?_,rfl,λk v hv=>?_⟩
    · rw[ho.st,kept_th _ _ _ hl.1 hl.2.1];rfl
    · have hv':(th (keptF H.things H.roots) i).fields[k]? = some v:=hv
      rw[kept_thf] at hv'
      exact ho.fs k v hv'
  · show Snap (keptF H.things H.roots) (keptN (keptF H.things H.roots)) gray S
    have hall:∀i,HReach H.things H.roots i->(plL H.things i:Int) ∈ S\/GR (keptF H.things H.roots) gray S i:=λi hr=>by
      induction hr with
      | root h1 h2=>exact .inl ((hS _).2 ((hG' _).2 ⟨_,h1,h2,rfl⟩))
      | @field a b h1 h2 h3 ih =>
        have hla:=reach_live hi h1
        have hlb:=reach_live hi (HReach.field h1 h2 h3)
        by_cases hm:(plL H.things b:Int) ∈ S
        · exact .inl hm
        · refine .inr (.step (i:=a) ?_ (by rw[kept_thf];exact h2) h3 ((kept_live _ _ _).2 hlb) (by rw[plL_shape hsh];exact hm))
          rcases ih with ih|ih
          · exact .gray ((kept_live _ _ _).2 hla) (by rw[plL_shape hsh];exact (hS _).1 ih)
          · exact ih
    refine⟨λp hp=>?_,ns,ng,λp hp=>(hS p).2 hp,λi hl hf=>?_,λi hl hk=>?_,λi h1 hk=>?_,?_⟩
    · obtain⟨i,h1,h2,e⟩:=(hG' p).1 ((hS p).1 hp)
      exact⟨i,hkf i (.root h1 h2),by rw[plL_shape hsh];exact e⟩
    · rw[kept_th _ _ _ hl.1 ((kept_live _ _ _).1 hl).2.1] at hf;cases hf
    · rw[plL_shape hsh];exact hall i (hback i hl.1 hk)
    · exact (kept_live _ _ _).2 (reach_live hi (hback i h1 hk))
    · rw[keptN_count]
      unfold todoN
      congr 1
      refine countP_congr' _ λk _=>?_
      unfold todo
      by_cases e:(plL (keptF H.things H.roots) (k+1):Int) ∈ gray
      · have:=(hS _).2 e
        simp[e]
      · have:(plL (keptF H.things H.roots) (k+1):Int) ∉ S:=λe2=>e ((hS _).1 e2)
        simp[this]
end Go.Proofs.Ytbeilcaadpopmab
namespace Go.Proofs.Ytbeilcaadpopmab
structure Ends (l:List Thing) (S:List Int):Prop where
  mem:∀i,Live l i->((plL l i:Int) ∈ S ↔ ((th l i).kept=true\/(th l i).fresh=true))
  cl:∀i,KF l i->∀j,V.ref j ∈ (th l i).fields->j≠0->KF l j
def endKs (l:List Nat) (S:List Int):List Nat:=l.filter λp=>S.contains (p:Int)
theorem ends_ks {l:List Thing} {S:List Int} (h:Ends l S):endKs (livePl 1 l) S=(keepPl 1 1 l).map (·.1):=by
  have:=keep_filter (λp=>S.contains (p:Int)) l [] 1 (λi hi=>by
    simp only [List.nil_append] at hi ⊢
    rw[List.contains_iff_mem]
    exact h.mem i hi)
  simp only [usedOf] at this
  exact this
theorem ends_mvs {words:Nat} {l:List Thing} {xs:List Int} {S:List Int} (hw:Wds words l xs) (h:Ends l S):mvs xs (endKs (livePl 1 l) S) 1=keepPl 1 1 l/\topOf xs (endKs (livePl 1 l) S) 1=1+usedOf (sweepF l):=by
  rw[ends_ks h]
  have:=keep_mvs hw l [] 1 rfl
  simp only [usedOf] at this
  exact this
theorem toF_keep {l:List Thing} {i:Nat} (h:KF l i):toF (keepPl 1 1 l) (plL l i)=some (plL (sweepF l) i:Int):=by
  have hp:=plL_pos l i
  unfold toF
  rw[if_neg (by omega)]
  cases hf:(keepPl 1 1 l).find? (λm=>decide ((m.1:Int)=(plL l i:Int))) with
  | none =>
    rw[List.find?_eq_none] at hf
    exact absurd (by simp) (hf _ ((mem_keep l _).2 ⟨i,h,rfl⟩))
  | some m =>
    obtain⟨j,hj,rfl⟩:=(mem_keep l m).1 (List.mem_of_find?_eq_some hf)
    have e:=List.find?_some hf
    simp only [decide_eq_true_eq] at e
    have:j=i:=plN_inj hj.1 h.1 e
    subst this
    rfl
theorem mvV_enc {l:List Thing} {v:V} (h:∀i,v = .ref i->i≠0->KF l i):mvV (keepPl 1 1 l) (encV l v)=encV (sweepF l) v:=by
  cases v with
  | num n=>simp[mvV,encV]
  | ref i =>
    by_cases e:i=0
    · subst e;simp[mvV,encV,toF]
    · have:=toF_keep (h i rfl e)
      simp only [mvV,encV,if_neg e,if_true,this,Option.getD_some]
theorem mvF_enc {l:List Thing} {cs:List (Nat × Nat)} (h:∀c ∈ cs,KF l c.1) (q:Int):mvF (keepPl 1 1 l) (verF l cs) q=verF (sweepF l) cs q:=by
  unfold mvF
  cases hf:(keepPl 1 1 l).find? (λm=>decide ((m.2:Int)=q)) with
  | none =>
    rw[List.find?_eq_none] at hf
    symm
    rw[Option.bind_none,verF_none]
    intro c hc e
    exact hf _ ((mem_keep l _).2 ⟨c.1,h c hc,rfl⟩) (by simpa using e)
  | some m =>
    obtain⟨j,hj,rfl⟩:=(mem_keep l m).1 (List.mem_of_find?_eq_some hf)
    have e:=List.find?_some hf
    simp only [decide_eq_true_eq] at e
    rw[Option.bind_some]
    subst e
    unfold verF
    congr 1
    induction cs with
    | nil=>rfl
    | cons c cs ih =>
      rw[List.find?_cons,List.find?_cons,ih λd hd=>h d (by simp[hd])]
      have hc:=h c (by simp)
      have:decide ((plL l c.1:Int)=(plL l j:Int))=decide ((plL (sweepF l) c.1:Int)=(plL (sweepF l) j:Int)):=by
        refine decide_eq_decide.2 ⟨λe=>?_,λe=>?_⟩
        · rw[plN_inj hc.1 hj.1 e]
        · rw[plN_inj ((sweep_live l _).2 hc) ((sweep_live l _).2 hj) e]
      rw[this]
theorem cvt_keep {l:List Thing} {v:V} (h:∀i,v = .ref i->i≠0->KF l i):cvt (keepPl 1 1 l) (wV l v)=some (wV (sweepF l) v):=by
  cases v with
  | num n =>
    have e:wV l (.num n)=2 * n:=by simp[wV,encV,wordOf]
    have e':wV (sweepF l) (.num n)=2 * n:=by simp[wV,encV,wordOf]
    unfold cvt
    rw[e,e',if_neg (by omega)]
  | ref j =>
    have e:wV l (.ref j)=2 * (if j=0 then 0 else (plL l j:Int))+1:=by simp[wV,encV,wordOf]
    have e':wV (sweepF l) (.ref j)=2 * (if j=0 then 0 else (plL (sweepF l) j:Int))+1:=by simp[wV,encV,wordOf]
    unfold cvt
    rw[e,e',if_pos (by omega)]
    by_cases e0:j=0
    · simp[e0,toF]
    · rw[if_neg e0,if_neg e0,show (2 * (plL l j:Int)+1) / 2=(plL l j:Int) by omega,toF_keep (h j rfl e0)]
      rfl
theorem ends_out {words:Nat} {l:List Thing} {xs:List Int} {S:List Int} (hw:Wds words l xs) (h:Ends l S):∃L,outW xs (mvs xs (endKs (livePl 1 l) S) 1) (endKs (livePl 1 l) S)=some L:=by
  refine outW_some _ λp hp x hx=>?_
  rw[(ends_mvs hw h).1]
  rw[ends_ks h] at hp
  obtain⟨m,hm,rfl⟩:=List.mem_map.1 hp
  obtain⟨i,hi,rfl⟩:=(mem_keep l m).1 hm
  have hx':x ∈ fieldsOf xs (plL l i):=hx
  rw[fields_words hw hi.1] at hx'
  obtain⟨v,hv,rfl⟩:=List.mem_map.1 hx'
  exact⟨_,cvt_keep λj e hj=>h.cl i hi j (by rw[<- e];exact hv) hj⟩
theorem endKs_keep {xs:List Int} {t:Nat} {l:List Nat} (hi:HeapIs xs t l) (S:List Int):KeepIs l (endKs l S):=by
  refine⟨λk hk=>(List.mem_filter.1 hk).1,?_⟩
  have:=places_pair hi.2.2.2.1
  exact (this.imp (fun {a b} h=>by omega)).sublist List.filter_sublist
theorem ends_wds {words:Nat} {l:List Thing} {xs:List Int} {S L:List Int} {t:Nat} (hw:Wds words l xs) (h:Ends l S) (hi:HeapIs xs t (livePl 1 l)) (hL:outW xs (mvs xs (endKs (livePl 1 l) S) 1) (endKs (livePl 1 l) S)=some L) :
    Wds words (sweepF l) (padTo xs.length (0 :: L)):=by
  obtain⟨bs,rfl,hlen,hst,htop,hpad,hb,hbi⟩:=closed_is hi (endKs_keep hi S) hL
  have hn:1+(enc bs).length<=xs.length:=by
    have h1:=keep_top hi (endKs_keep hi S)
    have h2:=hi.2.2.1
    omega
  obtain⟨em,et⟩:=ends_mvs hw h
  rw[em] at hst hb
  rw[et] at htop
  rw[hpad]
  have hks:=ends_ks h
  refine⟨?_,?_,λi hl=>?_,λj hj=>?_⟩
  · rw[heapOf_len hn];exact hw.len
  · have:=hw.len;omega
  · have hkf:=(sweep_live l i).1 hl
    have hmem:=(mem_keep l _).2 ⟨i,hkf,rfl⟩
    obtain⟨k,hk,e⟩:=List.mem_iff_getElem.1 hmem
    have hkl:(keepPl 1 1 l).length=bs.length:=by rw[hlen,hks,List.length_map]
    have hkb:k<bs.length:=by omega
    have hks1:k<(endKs (livePl 1 l) S).length:=by omega
    have hkst:k<(starts 1 bs).length:=by rw[starts_len];exact hkb
    have e1:(endKs (livePl 1 l) S)[k]=plL l i:=by
      have:(endKs (livePl 1 l) S)[k]? = ((keepPl 1 1 l).map (·.1))[k]?:=by rw[hks]
      rw[List.getElem?_eq_getElem hks1,List.getElem?_map,List.getElem?_eq_getElem hk,e] at this
      exact Option.some.inj this
    have e2:(starts 1 bs)[k]=plL (sweepF l) i:=by
      have:(starts 1 bs)[k]? = ((keepPl 1 1 l).map (·.2))[k]?:=by rw[hst]
      rw[List.getElem?_eq_getElem hkst,List.getElem?_map,List.getElem?_eq_getElem hk,e] at this
      exact Option.some.inj this
    obtain⟨b1,b2,b3⟩:=hb k hks1 hkb
    rw[e1] at b1 b2 b3
    obtain⟨a1,_,a3,a4,_⟩:=heapOf_at (n:=xs.length) k hkb hkst
    rw[e2] at a1 a3 a4
    have ho:=hw.obj i hkf.1
    obtain⟨f1,f2⟩:=sweep_thf l i
    have hnf:nf xs (plL l i)=(th l i).fields.length:=by unfold nf;rw[ho.nf,Int.toNat_natCast]
    refine⟨?_,?_,λj v hv=>?_⟩
    · rw[a1,b1,ho.st,f2]
    · rw[a3,b3,hnf,f1]
    · rw[f1] at hv
      have hj:j<(th l i).fields.length:=(List.getElem?_eq_some_iff.1 hv).1
      have hjb:j<bs[k].2.length:=by rw[b3,hnf];exact hj
      rw[a4 j hjb]
      have hfl:(fieldsOf xs (plL l i)).length=bs[k].2.length:=by rw[fields_words hw hkf.1,List.length_map,b3,hnf]
      have:=cvts_at _ _ b2 j (by omega) hjb
      have e3:(fieldsOf xs (plL l i))[j]'(by omega)=wV l v:=by
        have e4:(fieldsOf xs (plL l i))[j]? = some (wV l v):=by rw[fields_words hw hkf.1,List.getElem?_map,hv];rfl
        exact (List.getElem?_eq_some_iff.1 e4).2
      rw[e3,cvt_keep (λn e hn=>h.cl i hkf n (by rw[<- e];exact List.mem_of_getElem? hv) hn)] at this
      exact (Option.some.inj this).symm
  · by_cases h0:j=0
    · subst h0;rfl
    by_cases hjl:j<xs.length
    · exact hbi.2.2.2.2.2 j (by omega) (by rw[heapOf_len hn];exact hjl)
    · rw[List.getD_eq_getElem?_getD,List.getElem?_eq_none (by rw[heapOf_len hn];omega)];rfl
theorem snap_ends {K:Nat} {H:Hall} (hi:Inv K H) (hg:H.going=true) {left:Int} {S:List Int} (h:Snap H.things left [] S):Ends H.things S :=
  ⟨h.done.2,kf_cl hi hg⟩
theorem Sim.closes {K:Nat} {H:Hall} {M:CM} (h:Sim H M) (hi:Inv K H) (hK:K<=400) (hg:H.going=true) {S L:List Int} (he:Ends H.things S) (left:Int)
    (hL:outW M.xs (mvs M.xs (endKs (livePl 1 H.things) S) 1) (endKs (livePl 1 H.things) S)=some L) :
    Sim { H with things:=sweepF H.things,going:=false,left:=left } (M.closed (endKs (livePl 1 H.things) S) L):=by
  obtain⟨em,et⟩:=ends_mvs h.wds he
  have hkf:∀ {v:V},PV (λf=>f.2.2=false) H.things v->PV (λf=>f.1=true\/f.2.1=true) H.things v->∀i,v = .ref i->i≠0->KF H.things i:=λa b i e h0=>by
    subst e
    exact kf_pi hi hg (a.resolve_left h0) (b.resolve_left h0)
  refine⟨ends_wds h.wds he (h.heap hi hK) hL,h.w4,et,λt ht r hr=>?_,λt ht=>?_,rfl,λe=>by cases e⟩
  · show mvV (mvs M.xs (endKs (livePl 1 H.things) S) 1) (M.regs t r)=encV (sweepF H.things) (H.regs t r)
    rw[em,h.regs t ht r hr]
    exact mvV_enc (hkf (hi.cl.regs t ht r hr) ((hi.kf hg).regs t ht r hr))
  · have hx:=h.txs t ht
    show TxSim (sweepF H.things) (H.deals t) (mvT (mvs M.xs (endKs (livePl 1 H.things) S) 1) (M.txs t))
    rw[em]
    refine⟨hx.op,λr hr=>?_,λp=>?_,λp=>?_,?_⟩
    · show mvV _ ((M.txs t).saved r)=_
      rw[hx.saved r hr]
      exact mvV_enc (hkf (hi.cl.saved t ht r hr) ((hi.kf hg).saved t ht r hr))
    · show mvF _ (M.txs t).reads p=_
      have:(M.txs t).reads=verF H.things (H.deals t).reads:=funext hx.reads
      rw[this]
      exact mvF_enc (λc hc=>kf_pi hi hg (hi.cl.reads t ht c hc) ((hi.kf hg).reads t ht c hc)) p
    · show mvF _ (M.txs t).owned p=_
      have:(M.txs t).owned=verF H.things (H.deals t).owned:=funext hx.owned
      rw[this]
      exact mvF_enc (λc hc=>kf_pi hi hg (hi.cl.owned t ht c hc) ((hi.kf hg).owned t ht c hc)) p
    · show (M.txs t).undo.map (mvU _)=_
      rw[hx.undo,List.map_map]
      refine List.map_congr_left λc hc=>?_
      obtain⟨q1,q2⟩:=hi.cl.was t ht c hc
      obtain⟨q3,q4⟩:=(hi.kf hg).was t ht c hc
      have hk1:=kf_pi hi hg q1 q3
      show (⟨((toF (keepPl 1 1 H.things) (plL H.things c.1:Int)).getD 0).toNat,c.2.1,mvV (keepPl 1 1 H.things) (encV H.things c.2.2)⟩:CU)=⟨plL (sweepF H.things) c.1,c.2.1,encV (sweepF H.things) c.2.2⟩
      rw[toF_keep hk1,mvV_enc (hkf q2 q4)]
      rfl
theorem Sim.looked {H:Hall} {M:CM} (h:Sim H M) (left:Int) {gray S:List Int} (hs:Snap H.things left gray S):Sim { H with left:=left } { M with gray:=gray,S:=S } :=
  h.of rfl rfl h.wds rfl h.regs h.txs h.going λ_=>hs
end Go.Proofs.Ytbeilcaadpopmab
namespace Go.Proofs.Ytbeilcaadpopmab
theorem Cl.to {Q R:Flags->Prop} {H G:Hall} (h:Cl Q H) (hr:G.regs=H.regs) (hd:G.deals=H.deals) (hf:∀i,(th G.things i).fields=(th H.things i).fields) (hb:∀i,PI R G.things i->PI Q H.things i) (hfw:∀i,PI Q H.things i->PI R G.things i):Cl R G:=by
  have pv:∀v,PV Q H.things v->PV R G.things v:=λv hv=>by
    cases v with
    | num n=>trivial
    | ref i=>exact hv.imp id (hfw i)
  exact⟨λt ht r hr2=>by rw[hr];exact pv _ (h.regs t ht r hr2),λt ht r hr2=>by rw[hd];exact pv _ (h.saved t ht r hr2),λt ht c hc=>by rw[hd] at hc;exact⟨hfw _ (h.was t ht c hc).1,pv _ (h.was t ht c hc).2⟩,
    λt ht c hc=>by rw[hd] at hc;exact hfw _ (h.reads t ht c hc),λt ht c hc=>by rw[hd] at hc;exact hfw _ (h.owned t ht c hc),λi hi v hv=>by rw[hf] at hv;exact pv _ (h.fields i (hb i hi) v hv)⟩
theorem root_mem {H:Hall} (i:Nat):i ∈ H.roots ↔ ∃t,t<4/\((∃r,r<4/\(H.regs t r).id=i)\/(∃r,r<4/\((H.deals t).saved r).id=i)\/(∃c ∈ (H.deals t).changes,c.2.2.id=i)\/(∃c ∈ (H.deals t).reads,c.1=i)\/∃c ∈ (H.deals t).owned,c.1=i):=by
  unfold Hall.roots heldBy
  simp only [List.mem_flatMap,List.mem_range,List.mem_append,List.mem_map,or_assoc]
theorem kept_pi {l:List Thing} {rs:List Nat} {i:Nat} (hl:Live l i):PI (λf=>f.1=true\/f.2.1=true) (keptF l rs) i ↔ HReach l rs i:=by
  have hk:=kept_th l rs i hl.1 hl.2.1
  have e:flg (keptF l rs) i=(keptB l rs i,false,(th l i).gone):=by
    show flagsOf (th (keptF l rs) i)=_
    rw[hk];rfl
  unfold PI
  rw[e]
  dsimp only
  constructor
  · rintro ⟨_,h|h⟩
    · unfold keptB at h;simpa using h
    · cases h
  · intro h
    exact⟨hl.1,.inl (by unfold keptB;simpa using h)⟩
theorem kf_collect {K:Nat} {H:Hall} (hi:Inv K H):Cl (λf=>f.1=true\/f.2.1=true) { H with things:=keptF H.things H.roots,going:=true,left:=keptN (keptF H.things H.roots) }:=by
  have hroot:∀i,i ∈ H.roots->i≠0->PI (λf=>f.1=true\/f.2.1=true) (keptF H.things H.roots) i:=λi hm h0=>(kept_pi (root_live hi i hm h0)).2 (.root hm h0)
  have pv:∀v:V,v.id ∈ H.roots->PV (λf=>f.1=true\/f.2.1=true) (keptF H.things H.roots) v:=λv hm=>by
    cases v with
    | num n=>trivial
    | ref i =>
      by_cases e:i=0
      · exact .inl e
      · exact .inr (hroot i hm e)
  refine⟨λt ht r hr=>pv _ ((root_mem _).2 ⟨t,ht,.inl ⟨r,hr,rfl⟩⟩),λt ht r hr=>pv _ ((root_mem _).2 ⟨t,ht,.inr (.inl ⟨r,hr,rfl⟩)⟩),λt ht c hc=>⟨?_,pv _ ((root_mem _).2 ⟨t,ht,.inr (.inr (.inl ⟨c,hc,rfl⟩))⟩)⟩,λt ht c hc=>?_,λt ht c hc=>?_,λi hpi v hv=>?_⟩
  · obtain⟨d,hd,e⟩:=(hi.own.chg t ht c hc).1
    have:=hroot d.1 ((root_mem _).2 ⟨t,ht,.inr (.inr (.inr (.inr ⟨d,hd,rfl⟩)))⟩) (by have:=(live_ow hi ht d hd).1;omega)
    rw[e] at this
    exact this
  · exact hroot c.1 ((root_mem _).2 ⟨t,ht,.inr (.inr (.inr (.inl ⟨c,hc,rfl⟩)))⟩) (by have:=(live_rd hi ht c hc).1;omega)
  · exact hroot c.1 ((root_mem _).2 ⟨t,ht,.inr (.inr (.inr (.inr ⟨c,hc,rfl⟩)))⟩) (by have:=(live_ow hi ht c hc).1;omega)
  · have hlen:=(hpi.le (by simp)).2
    have hlen2:i<=H.things.length:=by simpa [keptF] using hlen
    have hr:HReach H.things H.roots i:=by
      have hk:=kept_th H.things H.roots i hpi.1 hlen2
      have e:flg (keptF H.things H.roots) i=(keptB H.things H.roots i,false,(th H.things i).gone):=by
        show flagsOf (th (keptF H.things H.roots) i)=_
        rw[hk];rfl
      have h2:=hpi.2
      have h3:(flg (keptF H.things H.roots) i).1=true\/(flg (keptF H.things H.roots) i).2.1=true:=h2
      rw[e] at h3
      rcases h3 with h3|h3
      · unfold keptB at h3;simpa using h3
      · cases h3
    have hv':v ∈ (th (keptF H.things H.roots) i).fields:=hv
    rw[kept_thf] at hv'
    cases v with
    | num n=>trivial
    | ref j =>
      by_cases e:j=0
      · exact .inl e
      · have hj:=HReach.field hr hv' e
        exact .inr ((kept_pi (reach_live hi hj)).2 hj)
theorem Cl.and {Q R:Flags->Prop} {H:Hall} (h:Cl Q H) (k:Cl R H):Cl (λf=>Q f/\R f) H:=by
  have pi:∀i,PI Q H.things i->PI R H.things i->PI (λf=>Q f/\R f) H.things i:=λi a b=>⟨a.1,a.2,b.2⟩
  have pv:∀v,PV Q H.things v->PV R H.things v->PV (λf=>Q f/\R f) H.things v:=λv a b=>by
    cases v with
    | num n=>trivial
    | ref i =>
      by_cases e:i=0
      · exact .inl e
      · exact .inr (pi i (a.resolve_left e) (b.resolve_left e))
  exact⟨λt ht r hr=>pv _ (h.regs t ht r hr) (k.regs t ht r hr),λt ht r hr=>pv _ (h.saved t ht r hr) (k.saved t ht r hr),λt ht c hc=>⟨pi _ (h.was t ht c hc).1 (k.was t ht c hc).1,pv _ (h.was t ht c hc).2 (k.was t ht c hc).2⟩,
    λt ht c hc=>pi _ (h.reads t ht c hc) (k.reads t ht c hc),λt ht c hc=>pi _ (h.owned t ht c hc) (k.owned t ht c hc),λi hi v hv=>pv _ (h.fields i ⟨hi.1,hi.2.1⟩ v hv) (k.fields i ⟨hi.1,hi.2.2⟩ v hv)⟩
theorem cl_sweep {K:Nat} {H:Hall} (hi:Inv K H) (hg:H.going=true) (left:Int):Cl (λf=>f.2.2=false) { H with things:=sweepF H.things,going:=false,left:=left }:=by
  refine (hi.cl.and (hi.kf hg)).to rfl rfl (λi=>(sweep_thf _ i).1) (λi hp=>?_) (λi hp=>?_)
  · have:=(sweep_live _ _).1 (live_pi.1 hp)
    exact⟨this.1.1,this.1.2.2,this.2⟩
  · exact live_pi.2 ((sweep_live _ _).2 ⟨live_pi.1 ⟨hp.1,hp.2.1⟩,hp.2.2⟩)
theorem Inv.act {K:Nat} {H:Hall} (hi:Inv K H) (c:ActM):Inv (K+1) (H.act c).1:=by
  have hown:=hi.own.act hi.cl hi.deals c
  have hsz:=hi.sz.act hi.own c
  have hde:=act_deals H c hi.deals
  by_cases hc:cleaning c=false
  · refine⟨hi.cl.act (by simp) (by simp) c hc,λhg=>?_,hde,hown,hsz⟩
    have hgo:(H.act c).1.going=H.going:=(act_flags H c hc).1
    exact (hi.kf (hgo ▸ hg)).act (by simp) (by simp) c hc
  · have key:Cl (λf=>f.2.2=false) (H.act c).1/\((H.act c).1.going=true->Cl (λf=>f.1=true\/f.2.1=true) (H.act c).1):=by
      have hck:c.kind=10\/c.kind=11\/c.kind=12:=by
        unfold cleaning at hc
        simp only [Bool.not_eq_false,Bool.or_eq_true,beq_iff_eq] at hc
        omega
      have h0:Cl (λf=>f.2.2=false) H/\(H.going=true->Cl (λf=>f.1=true\/f.2.1=true) H):=⟨hi.cl,hi.kf⟩
      refine act_ind (P:=λp=>Cl (λf=>f.2.2=false) p.1/\(p.1.going=true->Cl (λf=>f.1=true\/f.2.1=true) p.1)) H c (λ_ _=>h0) ?_ ?_ ?_ ?_ ?_ ?_ ?_ ?_ ?_ ?_ ?_ (λ_=>h0)
      iterate 9 (intro e;omega)
      · intro _
        unfold Hall.collect
        split
        · exact h0
        · refine⟨?_,λ_=>kf_collect hi⟩
          refine hi.cl.to rfl rfl (λi=>kept_thf _ _ i) (λi hp=>?_) (λi hp=>?_)
          · exact live_pi.2 ((kept_live _ _ _).1 (live_pi.1 hp))
          · exact live_pi.2 ((kept_live _ _ _).2 (live_pi.1 hp))
      · intro _
        unfold Hall.step
        split
        · exact h0
        · split
          · exact h0
          · rename_i hg
            have hg':H.going=true:=by simpa using hg
            split
            · exact⟨cl_sweep hi hg' _,λe=>by cases e⟩
            · exact⟨⟨hi.cl.regs,hi.cl.saved,hi.cl.was,hi.cl.reads,hi.cl.owned,hi.cl.fields⟩,λe=>⟨(hi.kf e).regs,(hi.kf e).saved,(hi.kf e).was,(hi.kf e).reads,(hi.kf e).owned,(hi.kf e).fields⟩⟩
    exact⟨key.1,key.2,hde,hown,hsz⟩
theorem Inv.start (w:Nat):Inv 0 (hall0 w):=by
  refine⟨?_,λe=>(by cases e),λt _=>rfl,?_,Sz.start w⟩
  · refine⟨λ_ _ _ _=>trivial,λ_ _ _ _=>trivial,λ_ _ c hc=>(by cases hc),λ_ _ c hc=>(by cases hc),λ_ _ c hc=>(by cases hc),λi hp=>?_⟩
    have:=hp.le (by simp)
    simp[hall0] at this
    omega
  · refine⟨λ_ _ c hc=>(by cases hc),λi hi t e=>?_,λ_ _=>(by simp[hall0,noDeal]),λ_ _ c hc=>(by cases hc),λ_ _=>(by simp[hall0,noDeal]),λ_ _ c hc=>(by cases hc)⟩
    rw[th_out _ _ (by simp[hall0];omega)] at e
    cases e
theorem Sim.start {n:Nat} (h1:1<=n) (h2:n<=400):Sim (hall0 n) ⟨List.replicate n 0,1,λ_ _=>(0,0),λ_=>noTx,false,[],[]⟩ :=
  ⟨Wds.start h1,h2,rfl,λ_ _ _ _=>rfl,λ_ _=>TxSim.none _,rfl,λe=>by cases e⟩
end Go.Proofs.Ytbeilcaadpopmab
