/- Texts put together: Cq, Cm, Cp, Bk, Cs, Ct, Cy. -/
import Derived.Test.YtbeilcaadpopmabY2
import Derived.Test.YtbeilcaadpopmabY1
import Derived.Deep.DeepCutAuto
import Derived.Deep.RegionHeld3
set_option linter.unusedVariables false
set_option linter.unusedSimpArgs false
namespace Go.Proofs.Ytbeilcaadpopmab
open Go.RowKit
def mvs (xs:List Int):List Nat->Nat->List (Nat × Nat)
  | [],_=>[]
  | p :: ks,t=>(p,t) :: mvs xs ks (t+(2+nf xs p))
def topOf (xs:List Int):List Nat->Nat->Nat
  | [],t=>t
  | p :: ks,t=>topOf xs ks (t+(2+nf xs p))
theorem mvs_snoc (xs:List Int) (p:Nat):∀(ks:List Nat) (t:Nat),mvs xs (ks++[p]) t=mvs xs ks t++[(p,topOf xs ks t)]
  | [],t=>rfl
  | q :: ks,t=>by simp[mvs,topOf,mvs_snoc xs p ks]
theorem topOf_snoc (xs:List Int) (p:Nat):∀(ks:List Nat) (t:Nat),topOf xs (ks++[p]) t=topOf xs ks t+(2+nf xs p)
  | [],t=>rfl
  | q :: ks,t=>by simp[topOf,topOf_snoc xs p ks]
theorem mvs_fst (xs:List Int):∀(ks:List Nat) (t:Nat),(mvs xs ks t).map (·.1)=ks
  | [],_=>rfl
  | p :: ks,t=>by simp[mvs,mvs_fst xs ks]
theorem mvs_len (xs:List Int) (ks:List Nat) (t:Nat):(mvs xs ks t).length=ks.length:=by
  have:=congrArg List.length (mvs_fst xs ks t)
  simpa using this
theorem mvs_at (xs:List Int):∀(ks:List Nat) (s i:Nat) (h:i<ks.length) (h':i<(mvs xs ks s).length),(mvs xs ks s)[i]=(ks[i],topOf xs (ks.take i) s)
  | [],_,_,h,_=>by simp at h
  | p :: ks,s,0,_,_=>rfl
  | p :: ks,s,i+1,h,h'=>by
    have:=mvs_at xs ks (s+(2+nf xs p)) i (by simpa using h) (by simpa [mvs] using h')
    simpa [mvs,topOf] using this
theorem topOf_le (xs:List Int) (T:Nat):∀(ks:List Nat) (s:Nat),s<=T->(∀p ∈ ks,s<=p/\p+2+nf xs p<=T)->ks.Pairwise (λa b=>a+2+nf xs a<=b)->topOf xs ks s<=T
  | [],s,h,_,_=>h
  | p :: ks,s,h,h1,h2=>by
    rw[List.pairwise_cons] at h2
    have hp:=h1 p (by simp)
    exact topOf_le xs T ks _ (by omega) (λq hq=>⟨by have:=h2.1 q hq;omega,(h1 q (by simp[hq])).2⟩) h2.2
theorem topOf_ge (xs:List Int):∀(ks:List Nat) (s:Nat),s+2 * ks.length<=topOf xs ks s
  | [],s=>by simp[topOf]
  | p :: ks,s=>by have:=topOf_ge xs ks (s+(2+nf xs p));simp[topOf];omega
def toF (ms:List (Nat × Nat)) (x:Int):Option Int:=if x=0 then some 0 else (ms.find? (λm=>decide ((m.1:Int)=x))).map (λm=>(m.2:Int))
theorem mvs_le (xs:List Int):∀(ks:List Nat) (s:Nat),∀m ∈ mvs xs ks s,s<=m.2/\m.2<=topOf xs ks s
  | [],_,m,h=>by simp[mvs] at h
  | p :: ks,s,m,h=>by
    have hge:=topOf_ge xs ks (s+(2+nf xs p))
    rcases List.mem_cons.1 h with rfl|h
    · simp[topOf];omega
    · have:=mvs_le xs ks _ m h
      simp[topOf];omega
theorem toF_le {xs:List Int} {ks:List Nat} {x y:Int} {s:Nat} (h:toF (mvs xs ks s) x=some y):0<=y/\y<=(topOf xs ks s:Nat):=by
  unfold toF at h
  split at h
  · cases h;omega
  · obtain⟨m,hm,rfl⟩:=Option.map_eq_some_iff.1 h
    have:=mvs_le xs ks s m (List.mem_of_find?_eq_some hm)
    omega
theorem toF_snoc (ms:List (Nat × Nat)) (p t:Nat) (hp:p≠0) (hn:p ∉ ms.map (·.1)):toF (ms++[(p,t)])=λz=>if z=(p:Int) then some (t:Int) else toF ms z:=by
  funext z
  unfold toF
  by_cases h0:z=0
  · subst h0
    rw[if_pos rfl,if_neg (by omega),if_pos rfl]
  · rw[if_neg h0,if_neg h0,List.find?_append]
    by_cases hz:z=(p:Int)
    · subst hz
      have:ms.find? (λm=>decide ((m.1:Int)=(p:Int)))=none:=by
        rw[List.find?_eq_none]
        intro m hm e
        have e2:(m.1:Int)=(p:Int):=by simpa using e
        exact hn (List.mem_map.2 ⟨m,hm,by omega⟩)
      rw[this]
      simp
    · rw[if_neg hz]
      have e : ([(p, t)] : List (Nat × Nat)).find? (fun m => decide ((m.1 : Int) = z)) = none := by
        rw[List.find?_eq_none]
        intro m hm e
        simp at hm
        subst hm
        exact hz (by have:(p:Int)=z:=by simpa using e
                     exact this.symm)
      rw[e]
      simp
def cvt (ms:List (Nat × Nat)) (x:Int):Option Int:=if x % 2=1 then (toF ms (x / 2)).map (λy=>2 * y+1) else some x
def cvts (ms:List (Nat × Nat)):List Int->Option (List Int)
  | []=>some []
  | x :: ws=>(cvt ms x).bind λy=>(cvts ms ws).map (y :: ·)
theorem cvts_append (ms:List (Nat × Nat)):∀(a b:List Int),cvts ms (a++b)=(cvts ms a).bind λya=>(cvts ms b).map (ya ++ ·)
  | [],b=>by simp[cvts]
  | x :: a,b=>by
    simp only [List.cons_append,cvts,cvts_append ms a b]
    cases cvt ms x <;> simp
    cases cvts ms a <;> simp
    cases cvts ms b <;> simp
theorem cvts_len (ms:List (Nat × Nat)):∀(a ya:List Int),cvts ms a=some ya->ya.length=a.length
  | [],ya,h=>by simp[cvts] at h;subst h;rfl
  | x :: a,ya,h=>by
    simp only [cvts] at h
    cases h1:cvt ms x with
    | none=>rw[h1] at h;simp at h
    | some y =>
      cases h2:cvts ms a with
      | none=>rw[h1,h2] at h;simp at h
      | some ys=>rw[h1,h2] at h;simp at h;subst h;simp[cvts_len ms a ys h2]
def objW (xs:List Int) (ms:List (Nat × Nat)) (p:Nat):Option (List Int):=(cvts ms (fieldsOf xs p)).map λys=>xs.getD p 0 :: (nf xs p:Int) :: ys
def outW (xs:List Int) (ms:List (Nat × Nat)):List Nat->Option (List Int)
  | []=>some []
  | p :: ks=>(objW xs ms p).bind λa=>(outW xs ms ks).map (a ++ ·)
theorem outW_append (xs:List Int) (ms:List (Nat × Nat)):∀(a b:List Nat),outW xs ms (a++b)=(outW xs ms a).bind λya=>(outW xs ms b).map (ya ++ ·)
  | [],b=>by simp[outW]
  | x :: a,b=>by
    simp only [List.cons_append,outW,outW_append xs ms a b]
    cases objW xs ms x <;> simp
    cases outW xs ms a <;> simp
    cases outW xs ms b <;> simp
theorem outW_len {xs:List Int} {ms:List (Nat × Nat)}:∀(ks:List Nat) (L:List Int) (t:Nat),(∀p ∈ ks,(fieldsOf xs p).length=nf xs p)->outW xs ms ks=some L->t+L.length=topOf xs ks t
  | [],L,t,_,h=>by simp[outW] at h;subst h;rfl
  | p :: ks,L,t,hf,h=>by
    simp only [outW] at h
    cases h1:objW xs ms p with
    | none=>rw[h1] at h;simp at h
    | some a =>
      cases h2:outW xs ms ks with
      | none=>rw[h1,h2] at h;simp at h
      | some b =>
        rw[h1,h2] at h
        simp at h
        subst h
        have h3:=outW_len ks b (t+(2+nf xs p)) (λq hq=>hf q (by simp[hq])) h2
        have h4:a.length=2+nf xs p:=by
          unfold objW at h1
          cases h5:cvts ms (fieldsOf xs p) with
          | none=>rw[h5] at h1;simp at h1
          | some ys =>
            rw[h5] at h1
            simp at h1
            subst h1
            have:=cvts_len ms _ _ h5
            rw[hf p (by simp)] at this
            simp;omega
        simp only [List.length_append,topOf]
        omega
def padTo (n:Nat) (A:List Int):List Int:=A++List.replicate (n - A.length) 0
theorem padTo_len {n:Nat} {A:List Int} (h:A.length<=n):(padTo n A).length=n:=by simp[padTo];omega
theorem padTo_set {n:Nat} {A:List Int} (h:A.length<n) (v:Int):(padTo n A).set A.length v=padTo n (A++[v]):=by
  unfold padTo
  rw[List.set_append_right _ _ (Nat.le_refl _),Nat.sub_self,show n - A.length=(n - (A++[v]).length)+1 by simp;omega,List.replicate_succ]
  simp
theorem padTo_zero {n:Nat} (h:0<n):padTo n [0]=List.replicate n 0:=by
  unfold padTo
  rw[show n=(n - 1)+1 by omega,List.replicate_succ]
  simp
def KeepIs (l:List Nat) (ks:List Nat):Prop:=(∀k ∈ ks,k ∈ l)/\ks.Pairwise (· < ·)
def KeepOk (l:List Nat) (keep:List Int):Prop:=∃ks,keep=intsOf ks/\KeepIs l ks
theorem intsOf_append (a b:List Nat):intsOf (a++b)=intsOf a++intsOf b:=by simp[intsOf]
theorem intsOf_inj:∀ {a b:List Nat},intsOf a=intsOf b->a=b
  | [],[],_=>rfl
  | [],_ :: _,h=>by simp[intsOf] at h
  | _ :: _,[],h=>by simp[intsOf] at h
  | x :: a,y :: b,h=>by
    simp only [intsOf,List.map_cons,List.cons.injEq] at h
    rw[show x=y by omega,intsOf_inj (a:=a) (b:=b) h.2]
theorem KeepOk.nil (l:List Nat):KeepOk l []:=⟨[],rfl,by simp,by simp⟩
theorem KeepIs.snoc {l ks:List Nat} {p:Nat} (h:KeepIs l ks) (hp:p ∈ l) (hl:∀q ∈ ks,q<p):KeepIs l (ks++[p]):=by
  refine⟨λk hk=>?_,?_⟩
  · rcases List.mem_append.1 hk with hk|hk
    · exact h.1 k hk
    · simp at hk;subst hk;exact hp
  · rw[List.pairwise_append]
    exact⟨h.2,by simp,λa ha b hb=>by simp at hb;subst hb;exact hl a ha⟩
theorem KeepIs.last {l ks:List Nat} (h:KeepIs l ks) {i:Nat} (hi:i+1=ks.length) {p:Nat} (hp:ks.getD i 0<p):∀q ∈ ks,q<p:=by
  intro q hq
  obtain⟨j,hj,rfl⟩:=List.mem_iff_getElem.1 hq
  by_cases e:j=i
  · subst e
    rw[List.getD_eq_getElem?_getD,List.getElem?_eq_getElem hj] at hp
    exact hp
  · have h1:=List.pairwise_iff_getElem.1 h.2 j i hj (by omega) (by omega)
    rw[List.getD_eq_getElem?_getD,List.getElem?_eq_getElem (by omega:i<ks.length)] at hp
    simp only [Option.getD_some] at hp
    omega
theorem KeepOk.at {l:List Nat} {keep:List Int} (h:KeepOk l keep) {i:Nat} (hi:i<keep.length):(∃q ∈ l,keep.getD i 0=(q:Int))/\(0<i->keep.getD (i - 1) 0<keep.getD i 0):=by
  obtain⟨ks,rfl,h1,h2⟩:=h
  rw[intsOf_length] at hi
  have e:∀j,j<ks.length->(intsOf ks).getD j 0=((ks.getD j 0:Nat):Int):=λj hj=>by simp[intsOf,List.getD,hj]
  rw[e i hi]
  refine⟨⟨_,h1 _ (by rw[List.getD_eq_getElem?_getD,List.getElem?_eq_getElem hi];exact List.getElem_mem hi),rfl⟩,λh0=>?_⟩
  rw[e (i - 1) (by omega)]
  have:=List.pairwise_iff_getElem.1 h2 (i - 1) i (by omega) hi (by omega)
  simp only [List.getD_eq_getElem?_getD,List.getElem?_eq_getElem hi,List.getElem?_eq_getElem (show i - 1<ks.length by omega),Option.getD_some]
  omega
theorem fields_len {xs:List Int} {t:Nat} {l:List Nat} (hi:HeapIs xs t l):∀p ∈ l,(fieldsOf xs p).length=nf xs p:=by
  intro p hp
  obtain⟨o1,o2,o3,o4⟩:=places_obj hi.2.2.2.1 p hp
  have:=hi.2.2.1
  unfold fieldsOf
  simp;omega
theorem keep_pairs {xs:List Int} {t:Nat} {l ks:List Nat} (hi:HeapIs xs t l) (hk:KeepIs l ks):ks.Pairwise (λa b=>a+2+nf xs a<=b):=by
  have h1:=places_pair hi.2.2.2.1
  refine hk.2.imp_of_mem ?_
  intro a b ha hb hab
  obtain⟨i,hi1,rfl⟩:=List.mem_iff_getElem.1 (hk.1 a ha)
  obtain⟨j,hj1,rfl⟩:=List.mem_iff_getElem.1 (hk.1 b hb)
  rcases Nat.lt_trichotomy i j with h|h|h
  · exact List.pairwise_iff_getElem.1 h1 i j hi1 hj1 h
  · subst h;omega
  · have:=List.pairwise_iff_getElem.1 h1 j i hj1 hi1 h;omega
theorem keep_top {xs:List Int} {t:Nat} {l ks:List Nat} (hi:HeapIs xs t l) (hk:KeepIs l ks):topOf xs ks 1<=t :=
  topOf_le xs t ks 1 hi.2.1 (λp hp=>by obtain⟨o1,o2,o3,o4⟩:=places_obj hi.2.2.2.1 p (hk.1 p hp);exact⟨o1,o4⟩) (keep_pairs hi hk)
theorem keepIs_take {l ks:List Nat} (h:KeepIs l ks) (i:Nat):KeepIs l (ks.take i):=⟨λk hk=>h.1 k (List.mem_of_mem_take hk),h.2.sublist (List.take_sublist i ks)⟩
theorem keep_len {xs:List Int} {t:Nat} {l ks:List Nat} (hi:HeapIs xs t l) (hk:KeepIs l ks):1+2 * ks.length<=t:=Nat.le_trans (topOf_ge xs ks 1) (keep_top hi hk)
end Go.Proofs.Ytbeilcaadpopmab
namespace Go.Proofs.Ytbeilcaadpopmab
open Go.RowKit Go.Maps
theorem wpl_funIns {ops:Array Oper} {rest:List Oper} {o:Oper} {a:Act} {Q:Exit->Act->World->Prop} {w:World} (hg:o.guard=none) (m x v:Operand)
    (hop:o.op=Op.insert 71 m x v) (b n:Nat) (f:Int->Option Int) (hm:a.eval m = .map (some b)) (hS:FunMap w b n f) (hn:n<1000000) (X Y:Int) (hx:a.eval x = .int .i64 X) (hX:I64 X) (hv:a.eval v = .int .i64 Y) (hY:I64 Y)
    (hK:∀w',FunMap w' b (n+1) (λz=>if z=X then some Y else f z)->w.grownBy w' (some b)->wpList Try.prog ops Q rest (a.put o.dst undef) w'):wpList Try.prog ops Q (o :: rest) a w:=by
  obtain⟨D,h1,h2,h3⟩:=hS
  refine wpList_plain hg λK' hK'=>?_
  obtain⟨w',hrun,r1,r2⟩:=h1.update lawI Try.underlying71 (by unfold maxLen;omega) (key:=.int .i64 X) (val:=.int .i64 Y) (keyOf_int_mk Try.underlying3 (wf_of_i64 hX)) (plainElem_int Try.underlying3 (wf_of_i64 hY))
  unfold Oper.wp
  simp[execOp,hop,hm,hx,hv,hrun,Result.andThen]
  refine hK' _ _ (hK w' ⟨_,r1,h2.put _ _,λy=>?_⟩ r2)
  by_cases e:y=X
  · subst e
    rw[atKey_put_same h2 (litKey_int _),has_put_same h2 (litKey_int _)]
    simp
  · rw[atKey_put_other (by simpa using e),has_put_other (by simpa using e),(h3 y).1,(h3 y).2]
    simp[e]
def cellsM (ms:List (Nat × Nat)):List Value:=ms.flatMap λm=>[.int .i64 (m.1:Int),.int .i64 (m.2:Int)]
theorem cellsM_append (a b:List (Nat × Nat)):cellsM (a++b)=cellsM a++cellsM b:=by simp[cellsM]
theorem cellsM_at:∀(ms:List (Nat × Nat)) (i:Nat) (h:i<ms.length),(cellsM ms)[i * 2]? = some (.int .i64 (ms[i].1:Int))/\(cellsM ms)[i * 2+1]? = some (.int .i64 (ms[i].2:Int))
  | [],i,h=>by simp at h
  | m :: ms,0,h=>⟨rfl,rfl⟩
  | m :: ms,i+1,h=>by
    have:=cellsM_at ms i (by simpa using h)
    have e:cellsM (m :: ms) = .int .i64 (m.1:Int) :: .int .i64 (m.2:Int) :: cellsM ms:=rfl
    rw[e,show (i+1) * 2=i * 2+1+1 by omega]
    simpa using this
def OwnMoves (w:World) (base:Nat) (v:Value) (ms:List (Nat × Nat)):Prop:=ms.length<=1000000/\w.ownsRow base 73 2 v ms.length (cellsM ms)
theorem OwnMoves.nil (w:World) (base:Nat):OwnMoves w base (.slice none 0 0) []:=⟨by simp,World.ownsRow_nil _ _ _ _⟩
theorem OwnMoves.shape {w:World} {base:Nat} {v:Value} {ms:List (Nat × Nat)} (h:OwnMoves w base v ms):∃a c,v = .slice a ms.length c/\ms.length<=c/\c<=9223372036854775807:=by
  rcases h.2.2 with ⟨e,e'⟩|⟨g,cap,cur,e,_,_,h1,h2,_⟩
  · rw[e,e'];exact⟨none,0,rfl,by omega,by omega⟩
  · exact⟨_,_,e,h1,by simp only [maxLen] at h2;omega⟩
theorem OwnMoves.mono {w:World} {base base':Nat} {v:Value} {ms:List (Nat × Nat)} (h:OwnMoves w base v ms) (hb:base'<=base):OwnMoves w base' v ms:=⟨h.1,ownsRow_mono h.2 hb⟩
theorem OwnMoves.below {w w':World} {base:Nat} {v:Value} {ms:List (Nat × Nat)} (h:OwnMoves w base v ms) (hb:Below w.heap.size w w'):OwnMoves w' base v ms :=
  ⟨h.1,h.2.kept (grownBy_of_below (B:=0) hb none) (by cases hv:v.ownBlock <;> simp)⟩
theorem OwnMoves.grown {w w':World} {base:Nat} {v:Value} {ms:List (Nat × Nat)} {row:Option Nat} (h:OwnMoves w base v ms) (hg:w.grownBy w' row) (hne:v.ownBlock=none\/v.ownBlock≠row):OwnMoves w' base v ms:=⟨h.1,h.2.kept hg hne⟩
theorem OwnMoves.lt {w:World} {base:Nat} {v:Value} {ms:List (Nat × Nat)} (h:OwnMoves w base v ms) {k:Nat} (hk:v.ownBlock=some k):base<=k/\k<w.heap.size:=h.2.lt k hk
theorem OwnMoves.setFar {w:World} {base:Nat} {v:Value} {ms:List (Nat × Nat)} (h:OwnMoves w base v ms) {a:Addr} (ha:v.ownBlock≠some a.block) (u:Value):OwnMoves (w.setCell a u) base v ms:=by
  refine⟨h.1,h.2.1,?_⟩
  rcases h.2.2 with h2|⟨g,cap,cur,hv,hg,hh,r⟩
  · exact .inl h2
  · exact .inr ⟨g,cap,cur,hv,hg,by rw[Below.heap_setCell _ _ _ _ (by rintro rfl;exact ha (by rw[hv];rfl))];exact hh,r⟩
theorem OwnMoves.at {w:World} {base n c:Nat} {a:Option Addr} {ms:List (Nat × Nat)} (h:OwnMoves w base (.slice a n c) ms) {i:Nat} (hi:i<ms.length) :
    ∃g,a=some ⟨g,0,none⟩/\base<=g/\g<w.heap.size/\w.cell? ⟨g,i * 2,none⟩=some (.int .i64 (ms[i].1:Int))/\w.cell? ⟨g,i * 2+1,none⟩=some (.int .i64 (ms[i].2:Int)):=by
  rcases h.2.2 with ⟨e,e2⟩|⟨g,cap,cur,e,hg,hh,hnc,hcm,hcs,ht⟩
  · omega
  · simp only [Value.slice.injEq] at e
    obtain⟨rfl,rfl,rfl⟩:=e
    have hlt:g<w.heap.size:=(Array.getElem?_eq_some_iff.1 hh).1
    have hc:∀j,j<ms.length * 2->w.cell? ⟨g,j,none⟩=(cellsM ms)[j]?:=λj hj=>by
      rw[cell_of_row w g j cur 73 (0,0) hh,<- ht,List.getElem?_take,if_pos hj]
      simp
    obtain⟨h1,h2⟩:=cellsM_at ms i hi
    exact⟨g,rfl,hg,hlt,(hc _ (by omega)).trans h1,(hc _ (by omega)).trans h2⟩
theorem Try.infoMove:(Try.prog.info? 73).map (λi=>(i.zero,i.size,i.bytes))=some (some (.agg #[.int .i64 0,.int .i64 0]),2,16):=by kernel_rfl
theorem row_move (w:World) (p t:Nat) {n:Nat} (hn:n=w.heap.size):Row (w.alloc (.cells #[.int .i64 (p:Int),.int .i64 (t:Int)] 73)) (.slice (some ⟨n,0,none⟩) 1 1) 1 2 (cellsM [(p,t)]):=by
  subst hn
  refine⟨rfl,by omega,_,1,rfl,Nat.le_refl _,by unfold maxLen;omega,(λh=>by cases h),λ_=>⟨w.heap.size,0,rfl,by simp,λi hi=>?_⟩⟩
  have:i=0\/i=1:=by simp[cellsM] at hi;omega
  rcases this with rfl|rfl <;> simp[cellsM]
theorem wpl_append_move {ops:Array Oper} {rest:List Oper} {o:Oper} {a:Act} {Q:Exit->Act->World->Prop} {w:World} (hg:o.guard=none) (s x:Operand)
    (ho:o.op = .call { callee:=.builtin .append,args:=#[s,x],argTypes:=#[53,53] }) (base:Nat) (v:Value) (ms:List (Nat × Nat)) (hs:a.eval s=v) (hown:OwnMoves w base v ms)
    (sv:Value) (p t:Nat) (hx:a.eval x=sv) (hy:Row w sv 1 2 (cellsM [(p,t)])) (hlen:ms.length<900000) (hbase:base<=w.heap.size)
    (h:∀v' w',OwnMoves w' base v' (ms++[(p,t)])->w.grownBy w' v.ownBlock->wpList Try.prog ops Q rest (a.put o.dst v') w'):wpList Try.prog ops Q (o :: rest) a w:=by
  refine wpList_plain hg λK' hK'=>?_
  obtain⟨i,hi,hz,h4,h5⟩:=info_parts Try.infoMove
  obtain⟨v',w',hrun,h1,h2,h3,h6⟩:=run_append_row (P:=Try.prog) w base 53 o.type 73 i (.agg #[.int .i64 0,.int .i64 0]) 2 16 Try.underlying53 hi hz h4 h5 rfl (by decide) v ms.length _ hown.2 sv 1 _ hy (by
      intro u hu
      simp only [cellsM,List.flatMap_cons,List.flatMap_nil,List.append_nil,List.mem_cons,List.not_mem_nil,or_false] at hu
      rcases hu with rfl|rfl <;> rfl) (by omega) (by decide) hbase
  unfold Oper.wp
  simp[execOp,ho,resolve,invoke,builtin,hs,hx,hrun,Result.andThen]
  refine hK' _ _ (h v' w' ⟨by simp;omega,?_⟩ h2)
  rw[cellsM_append]
  simpa using h1
end Go.Proofs.Ytbeilcaadpopmab
namespace Go.Proofs.Ytbeilcaadpopmab
open Go.RowKit
def closedE (er:Int):Ending:=.returned (.tuple #[.agg #[.slice none 0 0,.int .i64 0],.slice none 0 0,.int .i64 er])
theorem grown_drew (w:World) (row:Option Nat):w.grownBy w.drew row:=⟨rfl,rfl,rfl,Nat.le_refl _,λ_ _ _=>rfl⟩
def RetClosed (w:World) (xs:List Int) (top:Int) (keep:List Int) (e:Ending) (w':World):Prop :=
  Below w.heap.size w w'/\((¬ HeapOk xs top/\e=closedE 5)\/∃(t:Nat) (l:List Nat),top=(t:Int)/\HeapIs xs t l/\((¬ KeepOk l keep/\e=closedE 4) \/
    ∃ ks, keep = intsOf ks ∧ KeepIs l ks ∧ ((outW xs (mvs xs ks 1) ks = none ∧ e = closedE 5) ∨
      ∃L ov mv,outW xs (mvs xs ks 1) ks=some L/\e = .returned (.tuple #[.agg #[ov,.int .i64 (topOf xs ks 1:Nat)],mv,.int .i64 0])/\OwnInts w' w.heap.size ov (padTo xs.length (0 :: L))/\OwnMoves w' w.heap.size mv (mvs xs ks 1))))
set_option maxRecDepth 100000 in
set_option maxHeartbeats 1000000 in
theorem compact_ok (v kv:Value) (xs keep:List Int) (t:Nat) (l:List Nat) (w:World) (h:Ints w v xs) (hr:Ints w kv keep) (his:HeapIs xs t l) :
    Calls Try.prog 27 #[.agg #[v,.int .i64 t],kv] w (RetClosed w xs t keep):=by
  obtain⟨a,c,rfl,hc,hcm,_⟩:=h.len
  obtain⟨ka,kc,rfl,hkc,hkcm,_⟩:=hr.len
  have hkle:=hr.le
  have HF:Hid (∀w2,Below w.heap.size w w2->Ints w2 (.slice a xs.length c) xs):=λw2 hb2=>h.below (Nat.le_refl _) hb2
  have HR:Hid (∀w2,Below w.heap.size w w2->Ints w2 (.slice ka keep.length kc) keep):=λw2 hb2=>hr.below (Nat.le_refl _) hb2
  have HI:=Lib.hid his
  have i1:=his.1
  have i2:=his.2.1
  have i3:=his.2.2.1
  have ill:=places_len his.2.2.2.1 his.2.1
  have HRB:Hid (∀i,I64 (keep.getD i 0)):=λi=>hr.range i
  have hmm:=@run_makeMap Try.prog
  clear h hr his
  go_enter Try.func27,Try.ntmps27
  go_wp2_with (first
    | (go_at_call 18;refine (Places_any _ xs _ _ (HF.out _ (by ((repeat first|exact bR _ _|with_reducible first|refine bN ?_|refine bD ?_|refine bA ?_ ?_|refine bS ?_ ?_);all_goals first|exact Nat.le_refl _|(simp;done)|omega|(simp;omega))))).mono ?_;rintro e w1 ⟨hb,⟨t',l',la,lc,ht,hi,rfl,hv⟩|⟨hno,rfl⟩⟩;rotate_left;(exact absurd ⟨t,l,rfl,HI.out⟩ hno);obtain rfl:=Int.ofNat_inj.1 ht;obtain rfl:=HI.out.uniq hi;clear ht hi;have zc1:=Nat.lt_of_lt_of_le (show w.heap.size<_ from (by first|(simp;done)|omega|(simp;omega))) (Below.size hb);have fc1_0:=Below.cell hb (p:=⟨w.heap.size,0,none⟩) (by first|(simp;done)|omega|(simp;omega));have gc1_0:=Below.frozen hb (p:=⟨w.heap.size,0,none⟩) (by first|(simp;done)|omega|(simp;omega));have fc1_1:=Below.cell hb (p:=⟨w.heap.size,1,none⟩) (by first|(simp;done)|omega|(simp;omega));have gc1_1:=Below.frozen hb (p:=⟨w.heap.size,1,none⟩) (by first|(simp;done)|omega|(simp;omega));(try simp at fc1_0 gc1_0 fc1_1 gc1_1);have zc2:=Nat.lt_of_lt_of_le (show w.heap.size+1<_ from (by first|(simp;done)|omega|(simp;omega))) (Below.size hb);have fc2_0:=Below.cell hb (p:=⟨w.heap.size+1,0,none⟩) (by first|(simp;done)|omega|(simp;omega));have gc2_0:=Below.frozen hb (p:=⟨w.heap.size+1,0,none⟩) (by first|(simp;done)|omega|(simp;omega));have fc2_1:=Below.cell hb (p:=⟨w.heap.size+1,1,none⟩) (by first|(simp;done)|omega|(simp;omega));have gc2_1:=Below.frozen hb (p:=⟨w.heap.size+1,1,none⟩) (by first|(simp;done)|omega|(simp;omega));(try simp at fc2_0 gc2_0 fc2_1 gc2_1);have HB:=Lib.hid hb;have HV:=Lib.hid hv;clear hb hv)
    | (refine wpl_funIns rfl _ _ _ rfl w1.heap.size 0 _ rfl (funMap_made w1) (by omega) 0 0 rfl (by unfold I64;omega) rfl (by unfold I64;omega) ?_;intro w2 hf2 hg2;have HF2:=Lib.hid hf2;have HG2:=Lib.hid hg2;clear hf2 hg2))
  have HB1:Hid (Below w.heap.size w w1):=by show Below _ _ _;exact (by ((repeat first|exact bR _ _|with_reducible first|refine bT ?_ HB.out ?_|refine bN ?_|refine bD ?_|refine bA ?_ ?_|refine bS ?_ ?_);all_goals first|exact Nat.le_refl _|(simp;done)|omega|(simp;omega)|(have z0:=Below.size HB.out;omega)|(have z0:=Below.size HB.out;simp at *;omega)))
  have HV1:Hid (OwnInts w1 (w.heap.size+1) (.slice la l.length lc) (intsOf l)):=HV.out.mono (by simp)
  obtain⟨z,hz⟩:∃z,z=w1.heap.size:=⟨_,rfl⟩
  have HB12:Hid (Below z w1 w2):=by
    have h1:Below z w1 (w1.alloc (.map #[] 0)):=(Below.refl _ _).alloc (by omega) _
    exact h1.grown HG2.out (by simp;omega) (λj hj=>by simp only [Option.some.injEq] at hj;omega)
  have HFM:Hid (FunMap w2 z 1 (toF [])):=by
    have h1:=HF2.out
    have e:(toF []:Int->Option Int)=λz=>if z=0 then some 0 else none:=by funext y;simp[toF]
    rw[Hid,e,hz];exact h1
  rw[<- hz] at zc1 zc2 ⊢
  have HC10:=Lib.hid fc1_0;have HC11:=Lib.hid fc1_1;have HC20:=Lib.hid fc2_0;have HC21:=Lib.hid fc2_1;have HZ20:=Lib.hid gc2_0;have HZ21:=Lib.hid gc2_1
  have HZ:=Lib.hid hz
  clear HB HV HF2 HG2 fc1_0 fc1_1 gc1_0 gc1_1 fc2_0 fc2_1 gc2_0 gc2_1 hz
  have HBAD:Hid (∀wr,Below z w1 wr->¬ KeepOk l keep->RetClosed w xs t keep (closedE 4) (((wr.setCell ⟨w.heap.size+1,0,none⟩ (.slice none 0 0)).setCell ⟨w.heap.size+1,1,none⟩ (.int .i64 0)))):=λwr hb hn =>
    ⟨((HB1.out.trans (hb.mono (by omega))).setCell (by simp) _).setCell (by simp) _,.inr ⟨t,l,rfl,HI.out,.inl ⟨hn,rfl⟩⟩⟩
  go_loopw [10,11,38] (λmv u11 u38 wr=>∃(k:Nat) (ks:List Nat),u38 = .int .i64 k/\k<=keep.length/\ks.length=k/\keep.take k=intsOf ks/\KeepIs l ks/\u11 = .int .i64 (topOf xs ks 1:Nat)/\OwnMoves wr (z+1) mv (mvs xs ks 1)/\FunMap wr z (k+1) (toF (mvs xs ks 1))/\Below z w1 wr) (λ_ _ u38 _=>keep.length - (intOf u38).toNat)
  case atStart=>exact⟨0,[],rfl,Nat.zero_le _,rfl,by simp[intsOf],⟨by simp,by simp⟩,rfl,OwnMoves.nil _ _,HFM.out,HB12.out⟩
  case round =>
    obtain⟨k,ks,rfl,hk,hkl,htk,hki,rfl,hmv,hfm,hb⟩:=hrel
    have bks:=keep_len HI.out hki
    have btop:=keep_top HI.out hki
    rw[hkl] at bks
    have HKL:=Lib.hid hkl;have HTK:=Lib.hid htk;have HKI:=Lib.hid hki;have HMV:=Lib.hid hmv;have HFN:=Lib.hid hfm;have HBR:=Lib.hid hb
    obtain⟨T,hT⟩:∃T,T=topOf xs ks 1:=⟨_,rfl⟩
    rw[<- hT] at btop ⊢
    have HTT:=Lib.hid hT
    have c10:=(hb.cell (p:=⟨w.heap.size,0,none⟩) zc1).trans HC10.out
    have c11:=(hb.cell (p:=⟨w.heap.size,1,none⟩) zc1).trans HC11.out
    have c20:=(hb.cell (p:=⟨w.heap.size+1,0,none⟩) zc2).trans HC20.out
    have c21:=(hb.cell (p:=⟨w.heap.size+1,1,none⟩) zc2).trans HC21.out
    have z20:=(hb.frozen (p:=⟨w.heap.size+1,0,none⟩) zc2).trans HZ20.out
    have z21:=(hb.frozen (p:=⟨w.heap.size+1,1,none⟩) zc2).trans HZ21.out
    have HBW:Hid (Below w.heap.size w wr):=HB1.out.trans (hb.mono (by omega))
    have HSE:Hid (Ints wr (.slice la l.length lc) (intsOf l)):=(HV1.out.below (hb.mono (by rw[HZ.out];omega))).ints
    have HRI:Hid (Rises (intsOf l)):=rises_places HI.out.2.2.2.1
    clear hkl htk hki hmv hfm hb hT
    by_cases hlt:k<keep.length
    · obtain⟨kb,ko,rfl,hkb,hkcell⟩:=(HR.out wr HBW.out).at (by omega)
      have hck:=hkcell k hlt
      obtain⟨p,hp⟩:∃p,p=keep.getD k 0:=⟨_,rfl⟩
      rw[<- hp] at hck
      have HKC:=Lib.hid hkcell
      have HP:=Lib.hid hp
      have HPI:Hid (I64 p):=by rw[Hid,hp];exact HRB.out k
      clear hkcell hp
      cases hq:hasB (intsOf l) p with
      | false =>
        have HQ2:=Lib.hid hq
        have HN:Hid (¬ KeepOk l keep):=λh=>by
          obtain⟨q,hq1,hq2⟩:=(h.at hlt).1
          rw[<- HP.out] at hq2
          rw[hasB_places.2 ⟨q,hq1,hq2⟩] at hq
          cases hq
        clear hq
        go_wp2_with (go_at_call 50;refine (search_any _ (intsOf l) _ _ HSE.out HRI.out).mono ?_;rintro e w5 ⟨i5,rfl,rfl⟩;rw[HQ2.out])
        refine bodyPost_ret (v:=.tuple #[.agg #[.slice none 0 0,.int .i64 0],.slice none 0 0,.int .i64 4]) (by simp[results,Try.results27,go_sem, *]) rfl (HBAD.out wr HBR.out HN.out)
      | true =>
        obtain⟨q,hql,rfl⟩:=hasB_places.1 hq
        have HQ2:=Lib.hid hq
        have HQL:=Lib.hid hql
        obtain⟨o1,o2,o3,o4⟩:=places_obj HI.out.2.2.2.1 q hql
        clear hq hql
        obtain⟨d,hd⟩:∃d,d=nf xs q:=⟨_,rfl⟩
        rw[<- hd] at o2 o3 o4
        have HD:=Lib.hid hd
        obtain⟨b,bo,rfl,hbs,hcell⟩:=(HF.out w1 HB1.out).at (by omega)
        have hcn0:=hcell (q+1) (by omega)
        rw[o2] at hcn0
        have hbz:b<z:=by rw[HZ.out];exact hbs
        have HCN:Hid (∀W,Below z w1 W->W.cell? ⟨b,bo+(q+1),none⟩=some (.int .i64 (d:Int))):=λW hW=>(hW.cell (p:=⟨b,bo+(q+1),none⟩) hbz).trans hcn0
        clear hd o2 hcell hcn0
        by_cases hk0:k=0
        · have HLAST:Hid (∀r ∈ ks,r<q):=by
            have:ks=[]:=List.eq_nil_of_length_eq_zero (by rw[HKL.out];exact hk0)
            intro r hr;rw[this] at hr;simp at hr
          subst hk0
          rw[Nat.add_zero] at hck
          rw[show ((0:Nat):Int)=0 from rfl]
          have HKI2:Hid (KeepIs l (ks++[q])):=HKI.out.snoc HQL.out HLAST.out
          have HT2:Hid (topOf xs (ks++[q]) 1=T+(2+d)):=by rw[Hid,topOf_snoc,HTT.out,HD.out]
          have HM2:Hid (mvs xs (ks++[q]) 1=mvs xs ks 1++[(q,T)]):=by rw[Hid,mvs_snoc,HTT.out]
          have HTF:Hid (toF (mvs xs (ks++[q]) 1)=λy=>if y=(q:Int) then some (T:Int) else toF (mvs xs ks 1) y):=by
            rw[Hid,HM2.out]
            exact toF_snoc _ _ _ (by omega) (by rw[mvs_fst];intro hh;have:=HLAST.out q hh;omega)
          have HML:Hid ((mvs xs ks 1).length<900000):=by rw[Hid,mvs_len,HKL.out];omega
          have HNZ:Hid (∀j,u10.ownBlock=some j->z+1<=j):=λj hj=>(HMV.out.lt hj).1
          have hmvv:∃a c,u10 = .slice a (mvs xs ks 1).length c:=by obtain⟨a,c,e,_⟩:=HMV.out.shape;exact⟨a,c,e⟩
          have HQI:Hid (I64 (q:Int)):=HPI.out
          have HTI:Hid (I64 (T:Int)):=by unfold Hid I64;omega
          have hzr:z<wr.heap.size:=HFN.out.lt
          clear hmvv
          go_wp2_with (first
            | (go_at_call 50;refine (search_any _ (intsOf l) _ _ HSE.out HRI.out).mono ?_;rintro e w5 ⟨i5,rfl,rfl⟩;rw[HQ2.out])
            | (at_mapUpdate;refine wpl_funPut rfl _ _ _ rfl z _ _ rfl HFN.out (by omega) (q:Int) (T:Int) rfl HQI.out rfl HTI.out ?_;intro w6 hf6 hg6;have HF6:=Lib.hid hf6;have HG6:=Lib.hid hg6;clear hf6 hg6)
            | (at_builtin;refine wpl_append_move rfl _ _ rfl (z+1) u10 (mvs xs ks 1) rfl ((HMV.out.grown HG6.out (.inr (λe=>by have:=HNZ.out _ e;omega))).below (by ((repeat first|exact bR _ _|with_reducible first|refine bN ?_|refine bD ?_|refine bA ?_ ?_|refine bS ?_ ?_);all_goals first|exact Nat.le_refl _|(simp;done)|omega|(simp;omega)))) _ q T rfl (row_move _ _ _ rfl) HML.out (by have:=HG6.out.size;simp;omega) ?_;intro v7 w7 hv7 hg7;have hb7:Below z w1 w7:=((HBR.out.grown HG6.out (by omega) (λj hj=>by simp only [Option.some.injEq] at hj;omega)).alloc (by have:=HG6.out.size;omega) _).grown hg7 (by have:=HG6.out.size;simp;omega) (λj hj=>by have:=HNZ.out _ hj;omega);have c10':=(hb7.cell (p:=⟨w.heap.size,0,none⟩) zc1).trans HC10.out;have hcn':=HCN.out w7 hb7;have HV7:=Lib.hid hv7;have HG7:=Lib.hid hg7;have HB7:=Lib.hid hb7;clear hv7 hg7 hb7))
          go_roundw
          case rel =>
            refine⟨0+1,ks++[q],by go_num,by omega,by simp[HKL.out],?_,HKI2.out,int_eq (by rw[HT2.out];omega),by rw[HM2.out];exact HV7.out,?_,HB7.out⟩
            · rw[take_one hlt,HTK.out,intsOf_append,<- HP.out];rfl
            · rw[HTF.out]
              exact (HF6.out.below (by ((repeat first|exact bR _ _|with_reducible first|refine bN ?_|refine bD ?_|refine bA ?_ ?_|refine bS ?_ ?_);all_goals first|exact Nat.le_refl _|(simp;done)|omega|(simp;omega)))).grown HG7.out (λe=>by have:=HNZ.out _ e.symm;omega)
          case measure=>simp[intOf];omega
        · obtain⟨j,rfl⟩:∃j,k=j+1:=⟨k - 1,by omega⟩
          have hcj:=HKC.out j (by omega)
          have HGJ:Hid (keep.getD j 0=((ks.getD j 0:Nat):Int)):=by
            have e1:=HTK.out
            have e2:=HKL.out
            have e3:=congrArg (λl=>l.getD j 0) e1
            simp only [List.getD_eq_getElem?_getD,List.getElem?_take,intsOf,List.getElem?_map] at e3
            rw[if_pos (by omega)] at e3
            rw[Hid,List.getD_eq_getElem?_getD,e3,List.getD_eq_getElem?_getD,List.getElem?_eq_getElem (by omega)]
            rfl
          rw[HGJ.out] at hcj
          obtain⟨q0,hq0⟩:∃q0,q0=ks.getD j 0:=⟨_,rfl⟩
          rw[<- hq0] at hcj
          have HQ0:=Lib.hid hq0
          clear hq0
          rw[show ((j+1:Nat):Int)=(j:Int)+1 by omega]
          by_cases hlt0:q0<q
          · have HLAST:Hid (∀r ∈ ks,r<q):=HKI.out.last (i:=j) (by rw[HKL.out]) (by rw[<- HQ0.out];exact hlt0)
            have HKI2:Hid (KeepIs l (ks++[q])):=HKI.out.snoc HQL.out HLAST.out
            have HT2:Hid (topOf xs (ks++[q]) 1=T+(2+d)):=by rw[Hid,topOf_snoc,HTT.out,HD.out]
            have HM2:Hid (mvs xs (ks++[q]) 1=mvs xs ks 1++[(q,T)]):=by rw[Hid,mvs_snoc,HTT.out]
            have HTF:Hid (toF (mvs xs (ks++[q]) 1)=λy=>if y=(q:Int) then some (T:Int) else toF (mvs xs ks 1) y):=by
              rw[Hid,HM2.out]
              exact toF_snoc _ _ _ (by omega) (by rw[mvs_fst];intro hh;have:=HLAST.out q hh;omega)
            have HML:Hid ((mvs xs ks 1).length<900000):=by rw[Hid,mvs_len,HKL.out];omega
            have HNZ:Hid (∀j,u10.ownBlock=some j->z+1<=j):=λj hj=>(HMV.out.lt hj).1
            have hmvv:∃a c,u10 = .slice a (mvs xs ks 1).length c:=by obtain⟨a,c,e,_⟩:=HMV.out.shape;exact⟨a,c,e⟩
            have HQI:Hid (I64 (q:Int)):=HPI.out
            have HTI:Hid (I64 (T:Int)):=by unfold Hid I64;omega
            have hzr:z<wr.heap.size:=HFN.out.lt
            clear hmvv
            go_wp2_with (first
              | (go_at_call 50;refine (search_any _ (intsOf l) _ _ HSE.out HRI.out).mono ?_;rintro e w5 ⟨i5,rfl,rfl⟩;rw[HQ2.out])
              | (at_mapUpdate;refine wpl_funPut rfl _ _ _ rfl z _ _ rfl HFN.out (by omega) (q:Int) (T:Int) rfl HQI.out rfl HTI.out ?_;intro w6 hf6 hg6;have HF6:=Lib.hid hf6;have HG6:=Lib.hid hg6;clear hf6 hg6)
              | (at_builtin;refine wpl_append_move rfl _ _ rfl (z+1) u10 (mvs xs ks 1) rfl ((HMV.out.grown HG6.out (.inr (λe=>by have:=HNZ.out _ e;omega))).below (by ((repeat first|exact bR _ _|with_reducible first|refine bN ?_|refine bD ?_|refine bA ?_ ?_|refine bS ?_ ?_);all_goals first|exact Nat.le_refl _|(simp;done)|omega|(simp;omega)))) _ q T rfl (row_move _ _ _ rfl) HML.out (by have:=HG6.out.size;simp;omega) ?_;intro v7 w7 hv7 hg7;have hb7:Below z w1 w7:=((HBR.out.grown HG6.out (by omega) (λj hj=>by simp only [Option.some.injEq] at hj;omega)).alloc (by have:=HG6.out.size;omega) _).grown hg7 (by have:=HG6.out.size;simp;omega) (λj hj=>by have:=HNZ.out _ hj;omega);have c10':=(hb7.cell (p:=⟨w.heap.size,0,none⟩) zc1).trans HC10.out;have hcn':=HCN.out w7 hb7;have HV7:=Lib.hid hv7;have HG7:=Lib.hid hg7;have HB7:=Lib.hid hb7;clear hv7 hg7 hb7))
            go_roundw
            case rel =>
              refine⟨j+1+1,ks++[q],by go_num,by omega,by simp[HKL.out],?_,HKI2.out,int_eq (by rw[HT2.out];omega),by rw[HM2.out];exact HV7.out,?_,HB7.out⟩
              · rw[take_one hlt,HTK.out,intsOf_append,<- HP.out];rfl
              · rw[HTF.out]
                exact (HF6.out.below (by ((repeat first|exact bR _ _|with_reducible first|refine bN ?_|refine bD ?_|refine bA ?_ ?_|refine bS ?_ ?_);all_goals first|exact Nat.le_refl _|(simp;done)|omega|(simp;omega)))).grown HG7.out (λe=>by have:=HNZ.out _ e.symm;omega)
            case measure=>simp[intOf];omega
          · have HN:Hid (¬ KeepOk l keep):=λh=>by
              have:=(h.at hlt).2 (by omega)
              rw[Nat.add_sub_cancel,HGJ.out,<- HQ0.out,<- HP.out] at this
              omega
            go_wp2_with (go_at_call 50;refine (search_any _ (intsOf l) _ _ HSE.out HRI.out).mono ?_;rintro e w5 ⟨i5,rfl,rfl⟩;rw[HQ2.out])
            refine bodyPost_ret (v:=.tuple #[.agg #[.slice none 0 0,.int .i64 0],.slice none 0 0,.int .i64 4]) (by simp[results,Try.results27,go_sem, *]) rfl (HBAD.out wr HBR.out HN.out)
    · obtain rfl:k=keep.length:=by omega
      obtain⟨wl,rfl⟩:∃wl:World,wl=wr:=⟨_,rfl⟩
      have HKE:Hid (keep=intsOf ks):=by have:=HTK.out;rwa [List.take_length] at this
      obtain⟨ms,hms⟩:∃ms,ms=mvs xs ks 1:=⟨_,rfl⟩
      have hzr:z<wl.heap.size:=HFN.out.lt
      have HMS:=Lib.hid hms
      rw[<- hms] at HMV HFN
      obtain⟨ma,mc,rfl,hmc1,hmc2⟩:=HMV.out.shape
      have hml:ms.length=ks.length:=by rw[hms,mvs_len]
      rw[hml] at HMV hmc1 ⊢
      have HML:=Lib.hid hml
      clear hms hml
      have hxs1:1<=xs.length:=by omega
      go_wp2_with (at_make;refine wpl_make_ints rfl _ _ rfl wl.heap.size xs.length _ rfl rfl rfl (by omega) (Nat.le_refl _) ?_;intro w8 hv8 hg8;have hb8:=Below.grown (Below.refl wl.heap.size wl) hg8 (Nat.le_refl _) (by simp);have HV8:=Lib.hid hv8;have HB8:=Lib.hid hb8;clear hv8 hg8 hb8)
      obtain⟨g,hg⟩:∃g,g=wl.heap.size:=⟨_,rfl⟩
      obtain⟨X,hX⟩:∃X,X=w8.heap.size:=⟨_,rfl⟩
      have hgX:g<X:=by rw[hX,hg];exact (HV8.out.lt (k:=wl.heap.size) rfl).2
      rw[<- hg,<- hX]
      obtain⟨w9,hw9⟩:∃w9,w9=w8.alloc (.cells #[.slice (some ⟨g,0,none⟩) xs.length xs.length,.int .i64 (T:Int)] 25):=⟨_,rfl⟩
      rw[<- hw9]
      have HV9:Hid (OwnInts w9 g (.slice (some ⟨g,0,none⟩) xs.length xs.length) (padTo xs.length [0])):=by
        rw[Hid,padTo_zero (by omega),hw9]
        have:=HV8.out.below ((Below.refl w8.heap.size w8).alloc (Nat.le_refl _) (.cells #[.slice (some ⟨g,0,none⟩) xs.length xs.length,.int .i64 (T:Int)] 25))
        rw[<- hg] at this
        exact this
      have HB9:Hid (Below g wl w9):=by rw[Hid,hw9,hg];exact HB8.out.alloc (by rw[<- hX,<- hg];omega) _
      have HX0:Hid (w9.cell? ⟨X,0,none⟩=some (.slice (some ⟨g,0,none⟩) xs.length xs.length)):=by rw[Hid,hw9,hX];simp
      have HX1:Hid (w9.cell? ⟨X,1,none⟩=some (.int .i64 (T:Int))):=by rw[Hid,hw9,hX];simp
      have hX9:X<w9.heap.size:=by rw[hw9,hX];simp
      have HG:=Lib.hid hg
      have hzg:z<g:=by omega
      clear hw9 hX HV8 HB8 hg
      go_loopw [92] (λu wr=>∃(i:Nat) (L:List Int),u = .int .i64 i/\i<=ks.length/\outW xs ms (ks.take i)=some L/\OwnInts wr g (.slice (some ⟨g,0,none⟩) xs.length xs.length) (padTo xs.length (0 :: L))/\w9.grownBy wr (some g)) (λu _=>ks.length - (intOf u).toNat)
      case atStart=>exact⟨0,[],rfl,Nat.zero_le _,rfl,HV9.out,World.grownBy.refl _ _⟩
      case round =>
        obtain⟨i,L,rfl,hi,hL,hv,hgr⟩:=hrel
        have HOLD:Hid (∀b o:Nat,b<g->wr.cell? ⟨b,o,none⟩=wl.cell? ⟨b,o,none⟩/\wr.frozen? ⟨b,o,none⟩=wl.frozen? ⟨b,o,none⟩):=λb o hb=>by
          obtain⟨e1,e2⟩:=grown_cell hgr (M:=b) (i:=o) (by omega) (λe=>by simp only [Option.some.injEq] at e;omega)
          exact⟨e1.trans (HB9.out.cell (p:=⟨b,o,none⟩) hb),e2.trans (HB9.out.frozen (p:=⟨b,o,none⟩) hb)⟩
        have x0:=(grown_cell hgr (M:=X) (i:=0) hX9 (λe=>by simp only [Option.some.injEq] at e;omega)).1.trans HX0.out
        have x1:=(grown_cell hgr (M:=X) (i:=1) hX9 (λe=>by simp only [Option.some.injEq] at e;omega)).1.trans HX1.out
        have d10:=(HOLD.out w.heap.size 0 (by omega)).1.trans c10
        have d11:=(HOLD.out w.heap.size 1 (by omega)).1.trans c11
        have d20:=(HOLD.out (w.heap.size+1) 0 (by omega)).1.trans c20
        have d21:=(HOLD.out (w.heap.size+1) 1 (by omega)).1.trans c21
        have y20:=(HOLD.out (w.heap.size+1) 0 (by omega)).2.trans z20
        have y21:=(HOLD.out (w.heap.size+1) 1 (by omega)).2.trans z21
        have hsz:=hgr.size
        have HL:=Lib.hid hL;have HV:=Lib.hid hv;have HGR:=Lib.hid hgr
        clear hL hv hgr
        by_cases hik:i<ks.length
        · obtain⟨p,hp⟩:∃p,p=ks.getD i 0:=⟨_,rfl⟩
          have hpe:ks[i]=p:=by rw[hp,List.getD_eq_getElem?_getD,List.getElem?_eq_getElem hik];rfl
          have hpk:p ∈ ks:=by rw[<- hpe];exact List.getElem_mem hik
          have hpl:=HKI.out.1 p hpk
          have HTK2:Hid (ks.take (i+1)=ks.take i++[p]):=by rw[Hid,List.take_succ_eq_append_getElem hik,hpe]
          have HTO:Hid (1+L.length=topOf xs (ks.take i) 1):=outW_len _ L 1 (λq hq=>fields_len HI.out q (HKI.out.1 q (List.mem_of_mem_take hq))) HL.out
          obtain⟨o1,o2,o3,o4⟩:=places_obj HI.out.2.2.2.1 p hpl
          obtain⟨d,hd⟩:∃d,d=nf xs p:=⟨_,rfl⟩
          rw[<- hd] at o2 o3 o4
          have hfit:1+L.length+(2+d)<=t:=by
            have h1:=keep_top HI.out (keepIs_take HKI.out (i+1))
            rw[HTK2.out,topOf_snoc,<- HTO.out,<- hd] at h1
            exact h1
          have HD:=Lib.hid hd
          have himl:i<ms.length:=by rw[HML.out];exact hik
          obtain⟨tt,hto⟩:∃tt,tt=1+L.length:=⟨_,rfl⟩
          have hmi:ms[i]=(p,tt):=by
            have:=mvs_at xs ks 1 i hik (by rw[mvs_len];exact hik)
            simp only [<- HMS.out,hpe,<- HTO.out,<- hto] at this
            exact this
          rw[<- hto] at hfit
          have HTL:=Lib.hid hto
          clear hto
          obtain⟨mg,rfl,hm1,hm2,hm3,hm4⟩:=HMV.out.at himl
          rw[hmi] at hm3 hm4
          have e3:wr.cell? ⟨mg,i * 2,none⟩=some (.int .i64 (p:Int)):=(HOLD.out mg (i * 2) (by rw[HG.out];exact hm2)).1.trans hm3
          have e4:wr.cell? ⟨mg,i * 2+1,none⟩=some (.int .i64 (tt:Int)):=(HOLD.out mg (i * 2+1) (by rw[HG.out];exact hm2)).1.trans hm4
          have HPE:=Lib.hid hpe;have HMI:=Lib.hid hmi;have HPK:=Lib.hid hpk;have HPL:=Lib.hid hpl
          have HL20:=Lib.hid c20;have HL21:=Lib.hid c21;have HLZ20:=Lib.hid z20;have HLZ21:=Lib.hid z21
          clear hm3 hm4 hmi hpe hp hpk hpl hd o2 c10 c11 c20 c21 z20 z21
          obtain⟨b,bo,rfl,hbs,_⟩:=(HF.out w (Below.refl _ _)).at (by omega)
          have HWD:Hid (∀W,Below w.heap.size w W->∀j,j<xs.length->W.cell? ⟨b,bo+j,none⟩=some (.int .i64 (xs.getD j 0))):=by
            intro W hW j hj
            obtain⟨b',bo',e,_,hc⟩:=(HF.out W hW).at (by omega)
            simp only [Option.some.injEq,Addr.mk.injEq] at e
            obtain⟨rfl,rfl,_⟩:=e
            exact hc j hj
          have HBR9:Hid (Below g wl w9/\w9.grownBy wr (some g)):=⟨HB9.out,HGR.out⟩
          have hzl:z<=wl.heap.size:=by omega
          have HBWR:Hid (Below w.heap.size w wr):=HBW.out.trans ((HB9.out.mono (by omega)).grown HGR.out (by omega) (λj hj=>by simp only [Option.some.injEq] at hj;omega))
          go_upto_region 21 with (fail)
          obtain⟨Y,hY⟩:∃Y,Y=wr.heap.size:=⟨_,rfl⟩
          rw[<- hY]
          obtain⟨w10,hw10⟩:∃w10,w10=wr.alloc (.cells #[.int .i64 (p:Int),.int .i64 (tt:Int)] 73):=⟨_,rfl⟩
          have HBA:Hid (Below wr.heap.size wr w10):=by rw[Hid,hw10];exact (Below.refl _ _).alloc (Nat.le_refl _) _
          have HY0:Hid (w10.cell? ⟨Y,0,none⟩=some (.int .i64 (p:Int))):=by rw[Hid,hw10,hY];simp
          have HY1:Hid (w10.cell? ⟨Y,1,none⟩=some (.int .i64 (tt:Int))):=by rw[Hid,hw10,hY];simp
          have hY10:Y<w10.heap.size:=by rw[hw10,hY];simp
          rw[<- hw10]
          clear hw10
          have hXr:X<wr.heap.size:=by omega
          have hYX:X<Y:=by omega
          have f10:=(HBA.out.cell (p:=⟨w.heap.size,0,none⟩) (by show w.heap.size<wr.heap.size;omega)).trans d10
          have fx0:=(HBA.out.cell (p:=⟨X,0,none⟩) hXr).trans x0
          have fy0:=HY0.out
          have fy1:=HY1.out
          have HGR10:Hid (w9.grownBy w10 (some g)):=grown_tr HGR.out (grownBy_of_below (B:=0) HBA.out _)
          have HV10:=Lib.hid (HV.out.below HBA.out)
          have HBW10:Hid (Below w.heap.size w w10):=HBWR.out.trans (HBA.out.mono (by omega))
          have o2:=(places_obj HI.out.2.2.2.1 p HPL.out).2.1
          rw[<- HD.out] at o2
          have hwp0:=HWD.out w10 HBW10.out p (by omega)
          have hwp1:=HWD.out w10 HBW10.out (p+1) (by omega)
          rw[o2] at hwp1
          have HWI:Hid (I64 (xs.getD p 0)):=(HF.out w (Below.refl _ _)).range p
          obtain⟨st,hst⟩:∃st,st=xs.getD p 0:=⟨_,rfl⟩
          rw[<- hst] at hwp0 HWI
          have HST:=Lib.hid hst
          have HYY:=Lib.hid hY
          clear hst o2 d10 d11 x0 x1 e3 e4 d20 d21 y20 y21 hY
          have gy:g<w10.heap.size:=by omega
          go_wp2_with fail
          obtain⟨w11,hw11⟩:∃w11,w11=w10:=⟨_,rfl⟩
          have HB11:Hid (Below w10.heap.size w10 w11):=by rw[hw11];exact Below.refl _ _
          have k10:w11.cell? ⟨w.heap.size,0,none⟩=some (.slice (some ⟨b,bo,none⟩) xs.length c):=by rw[hw11];exact f10
          have kx0:w11.cell? ⟨X,0,none⟩=some (.slice (some ⟨g,0,none⟩) xs.length xs.length):=by rw[hw11];exact fx0
          have ky0:w11.cell? ⟨Y,0,none⟩=some (.int .i64 (p:Int)):=by rw[hw11];exact fy0
          have ky1:w11.cell? ⟨Y,1,none⟩=some (.int .i64 (tt:Int)):=by rw[hw11];exact fy1
          have kp:w11.cell? ⟨b,bo+p,none⟩=some (.int .i64 st):=by rw[hw11];exact hwp0
          have HV11:Hid (OwnInts w11 g (.slice (some ⟨g,0,none⟩) xs.length xs.length) (padTo xs.length (0 :: L))):=HV10.out.below HB11.out
          have hpl:(padTo xs.length (0 :: L)).length=xs.length:=padTo_len (by simp only [List.length_cons];have:=HTL.out;omega)
          have HPLN:=Lib.hid hpl
          obtain⟨g',eg,_,hgs,hgc,hgz⟩:=HV11.out.spot (by omega)
          simp only [Option.some.injEq,Addr.mk.injEq] at eg
          obtain⟨rfl,_⟩:=eg
          have gc0:=hgc tt (by rw[hpl];omega)
          have gc1:=hgc (tt+1) (by rw[hpl];omega)
          have gz0:=hgz tt
          have gz1:=hgz (tt+1)
          generalize (padTo xs.length (0 :: L)).getD tt 0=old0 at gc0
          generalize (padTo xs.length (0 :: L)).getD (tt+1) 0=old1 at gc1
          have hs11:w10.heap.size=w11.heap.size:=by rw[hw11]
          have HS11:=Lib.hid hs11
          clear hpl hgc hgz f10 fx0 fy0 fy1 hwp0 hwp1 hs11
          have e1:IntKind.i64.wrap ((tt:Int)+1)=(tt:Int)+1:=IntWalk.i64_in _ (by omega)
          have b1:(tt:Int)+1<(xs.length:Int):=by omega
          have b2:(0:Int)<=(tt:Int)+1:=by omega
          have b3:((tt:Int)+1).toNat=tt+1:=by omega
          have b4:(tt:Int)<(xs.length:Int):=by omega
          have b5:(p:Int)<(xs.length:Int):=by omega
          have b6:tt<xs.length:=by omega
          have b7:tt+1<xs.length:=by omega
          have b8:p<xs.length:=by omega
          have n1:X≠g:=by omega
          have n2:Y≠g:=by omega
          have n3:g≠X:=by omega
          have n4:g≠Y:=by omega
          subst hw11
          have HKEEP:Hid (∀W,w11.grownBy W (some g)->W.cell? ⟨w.heap.size,0,none⟩=some (.slice (some ⟨b,bo,none⟩) xs.length c)/\W.cell? ⟨X,0,none⟩=some (.slice (some ⟨g,0,none⟩) xs.length xs.length)/\W.cell? ⟨Y,0,none⟩=some (.int .i64 (p:Int))/\W.cell? ⟨Y,1,none⟩=some (.int .i64 (tt:Int))/\W.cell? ⟨b,bo+p,none⟩=some (.int .i64 st)):=λW hW =>
            ⟨(grown_cell hW (M:=w.heap.size) (i:=0) (by omega) (by simp only [ne_eq,Option.some.injEq];omega)).1.trans k10,(grown_cell hW (M:=X) (i:=0) (by omega) (by simp only [ne_eq,Option.some.injEq];omega)).1.trans kx0,(grown_cell hW (M:=Y) (i:=0) (by omega) (by simp only [ne_eq,Option.some.injEq];omega)).1.trans ky0,(grown_cell hW (M:=Y) (i:=1) (by omega) (by simp only [ne_eq,Option.some.injEq];omega)).1.trans ky1,(grown_cell hW (M:=b) (i:=bo+p) (by omega) (by simp only [ne_eq,Option.some.injEq];omega)).1.trans kp⟩
          have dc0:w11.drew.cell? ⟨g,tt,none⟩=some (.int .i64 old0):=gc0
          have dc1:w11.drew.cell? ⟨g,tt+1,none⟩=some (.int .i64 old1):=gc1
          have dz0:w11.drew.frozen? ⟨g,tt,none⟩=false:=gz0
          have dz1:w11.drew.frozen? ⟨g,tt+1,none⟩=false:=gz1
          have dd1:(w11.drew.setCell ⟨g,tt,none⟩ (.int .i64 st)).cell? ⟨g,tt+1,none⟩=some (.int .i64 old1):=by rw[World.cell?_setCell_other _ _ _ _ (by simp)];exact dc1
          have dy1:(w11.drew.setCell ⟨g,tt,none⟩ (.int .i64 st)).frozen? ⟨g,tt+1,none⟩=false:=by rw[frozen_setCell_any];exact dz1
          have K10:=Lib.hid k10;have KX0:=Lib.hid kx0;have KY0:=Lib.hid ky0;have KY1:=Lib.hid ky1;have KP:=Lib.hid kp
          clear k10 kx0 ky0 ky1 kp
          go_region_held3 (λW=>W.cell? ⟨w.heap.size,0,none⟩=some (.slice (some ⟨b,bo,none⟩) xs.length c)/\W.cell? ⟨X,0,none⟩=some (.slice (some ⟨g,0,none⟩) xs.length xs.length)/\W.cell? ⟨Y,0,none⟩=some (.int .i64 (p:Int))/\W.cell? ⟨Y,1,none⟩=some (.int .i64 (tt:Int))/\W.cell? ⟨b,bo+p,none⟩=some (.int .i64 st))
            (first|exact HKEEP.out _ (grown_drew _ _)|exact HKEEP.out _ (grown_tr (grown_drew _ _) (grown_set _ _ _ _))|exact HKEEP.out _ (grown_tr (grown_tr (grown_drew _ _) (grown_set _ _ _ _)) (grown_set _ _ _ _)))
            (fail)
          have k10:=K10.out;have kx0:=KX0.out;have ky0:=KY0.out;have ky1:=KY1.out;have kp:=KP.out
          clear dc0 dc1 dz0 dz1 dd1 dy1 gc0 gc1 gz0 gz1
          have HA:Hid ((0 :: L).length=tt):=by rw[Hid,HTL.out];simp;omega
          have HDI:Hid (I64 (d:Int)):=by unfold Hid I64;omega
          have HV12:Hid (OwnInts ((w11.setCell ⟨g,tt,none⟩ (.int .i64 st)).setCell ⟨g,tt+1,none⟩ (.int .i64 (d:Int))) g (.slice (some ⟨g,0,none⟩) xs.length xs.length) (padTo xs.length ((0 :: L)++[st,(d:Int)]))):=by
            have h1:=HV11.out.set (i:=tt) (by rw[HPLN.out];exact b6) HWI.out
            have e1:(padTo xs.length (0 :: L)).set tt st=padTo xs.length ((0 :: L)++[st]):=by
              rw[<- HA.out];exact padTo_set (by rw[HA.out];exact b6) st
            rw[e1] at h1
            have h2:=h1.set (i:=tt+1) (by rw[padTo_len (by rw[List.length_append,HA.out];simp;omega)];exact b7) HDI.out
            have e2:(padTo xs.length ((0 :: L)++[st])).set (tt+1) (d:Int)=padTo xs.length ((0 :: L)++[st]++[(d:Int)]):=by
              have hl:((0 :: L)++[st]).length=tt+1:=by rw[List.length_append,HA.out];rfl
              rw[<- hl];exact padTo_set (by rw[hl];exact b7) _
            rw[e2,List.append_assoc] at h2
            exact h2
          have HGR12:Hid (w9.grownBy ((w11.setCell ⟨g,tt,none⟩ (.int .i64 st)).setCell ⟨g,tt+1,none⟩ (.int .i64 (d:Int))) (some g)) :=
            grown_tr (grown_tr (grown_tr HGR10.out (grownBy_of_below (B:=0) HB11.out _)) (grown_set _ _ _ _)) (grown_set _ _ _ _)
          have HYY0:Hid (((w11.setCell ⟨g,tt,none⟩ (.int .i64 st)).setCell ⟨g,tt+1,none⟩ (.int .i64 (d:Int))).cell? ⟨Y,0,none⟩=some (.int .i64 (p:Int))):=by
            rw[Hid,World.cell?_setCell_other _ _ _ _ (by simp only [ne_eq,Addr.mk.injEq];omega),World.cell?_setCell_other _ _ _ _ (by simp only [ne_eq,Addr.mk.injEq];omega)];exact ky0
          have HYY1:Hid (((w11.setCell ⟨g,tt,none⟩ (.int .i64 st)).setCell ⟨g,tt+1,none⟩ (.int .i64 (d:Int))).cell? ⟨Y,1,none⟩=some (.int .i64 (tt:Int))):=by
            rw[Hid,World.cell?_setCell_other _ _ _ _ (by simp only [ne_eq,Addr.mk.injEq];omega),World.cell?_setCell_other _ _ _ _ (by simp only [ne_eq,Addr.mk.injEq];omega)];exact ky1
          have HFIN:Hid (∀wq ys,cvts ms (fieldsOf xs p)=some ys->OwnInts wq g (.slice (some ⟨g,0,none⟩) xs.length xs.length) (padTo xs.length ((0 :: L)++(st :: (d:Int) :: ys)))->w9.grownBy wq (some g) ->
              ∃L',outW xs ms (ks.take (i+1))=some L'/\OwnInts wq g (.slice (some ⟨g,0,none⟩) xs.length xs.length) (padTo xs.length (0 :: L'))/\w9.grownBy wq (some g)):=by
            intro wq ys h1 h2 h3
            refine⟨L++(st :: (d:Int) :: ys),?_,by simpa using h2,h3⟩
            rw[HTK2.out,outW_append,HL.out]
            simp only [outW,objW,h1,Option.map_some,Option.bind_some,<- HST.out,<- HD.out,List.append_nil]
          have HFL:Hid (fieldsOf xs p=(xs.drop (p+2)).take d):=by rw[Hid,fieldsOf,HD.out]
          have kk0:((w11.setCell ⟨g,tt,none⟩ (.int .i64 st)).setCell ⟨g,tt+1,none⟩ (.int .i64 (d:Int))).cell? ⟨w.heap.size,0,none⟩=some (.slice (some ⟨b,bo,none⟩) xs.length c):=by
            rw[World.cell?_setCell_other _ _ _ _ (by simp only [ne_eq,Addr.mk.injEq];omega),World.cell?_setCell_other _ _ _ _ (by simp only [ne_eq,Addr.mk.injEq];omega)];exact k10
          obtain⟨w12,hv12,hgr12,kky0,hyy1,kk0',hw12⟩:∃w12:World,OwnInts w12 g (.slice (some ⟨g,0,none⟩) xs.length xs.length) (padTo xs.length ((0 :: L)++[st,(d:Int)]))/\w9.grownBy w12 (some g)/\w12.cell? ⟨Y,0,none⟩=some (.int .i64 (p:Int))/\w12.cell? ⟨Y,1,none⟩=some (.int .i64 (tt:Int)) /\
              w12.cell? ⟨w.heap.size,0,none⟩=some (.slice (some ⟨b,bo,none⟩) xs.length c)/\((w11.setCell ⟨g,tt,none⟩ (.int .i64 st)).setCell ⟨g,tt+1,none⟩ (.int .i64 (d:Int))).drew=w12:=⟨((w11.setCell ⟨g,tt,none⟩ (.int .i64 st)).setCell ⟨g,tt+1,none⟩ (.int .i64 (d:Int))).drew,HV12.out,grown_tr HGR12.out (grown_drew _ _),HYY0.out,HYY1.out,kk0,rfl⟩
          rw[hw12]
          clear hw12 HV12 HGR12 HYY0 HYY1 kk0 k10 kx0 ky0 ky1 kp e1 b1 b2 b3 b4 b5
          have HV12:=Lib.hid hv12;have HGR12:=Lib.hid hgr12;have HYY0:=Lib.hid kky0;have HYY1:=Lib.hid hyy1
          clear hv12 hgr12 hyy1
          by_cases hd0:d=0
          · have hcp1:p+2<=c:=by omega
            have hcp2:p+2+d<=c:=by omega
            have hdn:¬ 0<d:=by omega
            have HF0:Hid (cvts ms (fieldsOf xs p)=some []):=by rw[Hid,HFL.out,hd0];simp[cvts]
            have HEND:=Lib.hid (HFIN.out _ [] HF0.out HV12.out HGR12.out)
            have HD0:=Lib.hid hd0
            clear hd0
            by_cases hcp:c=p+2
            · subst hcp
              go_wp2_with fail
              (try rw[Nat.add_sub_cancel_left])
              go_loopw [133] (λu wr=>u = .int .i64 0/\∃L',outW xs ms (ks.take (i+1))=some L'/\OwnInts wr g (.slice (some ⟨g,0,none⟩) xs.length xs.length) (padTo xs.length (0 :: L'))/\w9.grownBy wr (some g)) (λ_ _=>0)
              case atStart=>exact⟨rfl,HEND.out⟩
              case round =>
                obtain⟨rfl,hend⟩:=hrel
                have HE2:=Lib.hid hend
                clear hend
                go_wp2_with fail
                go_roundw
                case rel =>
                  obtain⟨L',q1,q2,q3⟩:=HE2.out
                  exact⟨i+1,L',by go_num,by omega,q1,q2,q3⟩
                case measure=>simp[intOf];omega
            · go_wp2_with fail
              (try rw[Nat.add_sub_cancel_left])
              go_loopw [133] (λu wr=>u = .int .i64 0/\∃L',outW xs ms (ks.take (i+1))=some L'/\OwnInts wr g (.slice (some ⟨g,0,none⟩) xs.length xs.length) (padTo xs.length (0 :: L'))/\w9.grownBy wr (some g)) (λ_ _=>0)
              case atStart=>exact⟨rfl,HEND.out⟩
              case round =>
                obtain⟨rfl,hend⟩:=hrel
                have HE2:=Lib.hid hend
                clear hend
                go_wp2_with fail
                go_roundw
                case rel =>
                  obtain⟨L',q1,q2,q3⟩:=HE2.out
                  exact⟨i+1,L',by go_num,by omega,q1,q2,q3⟩
                case measure=>simp[intOf];omega
          · have hcp:¬ c=p+2:=by omega
            have hcp1:p+2<=c:=by omega
            have hcp2:p+2+d<=c:=by omega
            go_wp2_with fail
            (try rw[Nat.add_sub_cancel_left])
            clear kk0' kky0
            go_loopw [133] (λu wr=>∃(j:Nat) (ys:List Int),u = .int .i64 j/\j<=d/\cvts ms ((fieldsOf xs p).take j)=some ys/\OwnInts wr g (.slice (some ⟨g,0,none⟩) xs.length xs.length) (padTo xs.length ((0 :: L)++(st :: (d:Int) :: ys)))/\w12.grownBy wr (some g)) (λu _=>d - (intOf u).toNat)
            case atStart=>exact⟨0,[],rfl,Nat.zero_le _,by simp[cvts],HV12.out,World.grownBy.refl _ _⟩
            case round =>
              obtain⟨j,ys,rfl,hj,hcv,hv,hgr⟩:=hrel
              have HCV:=Lib.hid hcv;have HVJ:=Lib.hid hv;have HGJ:=Lib.hid hgr
              have HYL:Hid (ys.length=j):=by
                have:=cvts_len _ _ _ hcv
                rw[Hid,this,List.length_take,fields_len HI.out p HPL.out,<- HD.out];omega
              clear hcv hv hgr
              by_cases hjd:j<d
              · have HBWJ:Hid (Below w.heap.size w wr):=(HBW.out.trans (HB9.out.mono (by omega))).grown (grown_tr HGR12.out HGJ.out) (by omega) (λj hj=>by simp only [Option.some.injEq] at hj;omega)
                have hw0:=HWD.out wr HBWJ.out (p+2+j) (by omega)
                rw[show bo+(p+2+j)=bo+(p+2)+j by omega] at hw0
                have hrng:=(HF.out w (Below.refl _ _)).range (p+2+j)
                obtain⟨x,hx⟩:∃x,x=xs.getD (p+2+j) 0:=⟨_,rfl⟩
                rw[<- hx] at hw0 hrng
                obtain⟨hr1,hr2⟩:=hrng
                have HTKJ:Hid ((fieldsOf xs p).take (j+1)=(fieldsOf xs p).take j++[x]):=by
                  rw[Hid,HFL.out,List.take_take,List.take_take,Nat.min_eq_left (by omega),Nat.min_eq_left (by omega),List.take_succ_eq_append_getElem (by simp;omega)]
                  congr 2
                  rw[hx,List.getElem_drop,List.getD_eq_getElem?_getD,List.getElem?_eq_getElem (by omega)]
                  rfl
                clear hx
                have hs12:=HGR12.out.size
                have hs13:=HGJ.out.size
                have hY12:Y<w12.heap.size:=World.block_lt_of_cell? w12 _ HYY1.out
                have jy1:wr.cell? ⟨Y,1,none⟩=some (.int .i64 (tt:Int)):=(grown_cell HGJ.out (M:=Y) (i:=1) hY12 (λe=>by simp only [Option.some.injEq] at e;omega)).1.trans HYY1.out
                have jx0:wr.cell? ⟨X,0,none⟩=some (.slice (some ⟨g,0,none⟩) xs.length xs.length):=(grown_cell (grown_tr HGR12.out HGJ.out) (M:=X) (i:=0) hX9 (λe=>by simp only [Option.some.injEq] at e;omega)).1.trans HX0.out
                have HFMJ:Hid (FunMap wr z (keep.length+1) (toF ms)):=(HFN.out.below (by rw[<- HG.out];exact HB9.out)).grown (grown_tr HGR12.out HGJ.out) (λe=>by simp only [Option.some.injEq] at e;omega)
                have HPL2:Hid ((padTo xs.length ((0 :: L)++(st :: (d:Int) :: ys))).length=xs.length):=padTo_len (by rw[List.length_append,HA.out];simp only [List.length_cons,HYL.out];omega)
                have hYr:Y<wr.heap.size:=by omega
                have hXr2:X<wr.heap.size:=by omega
                by_cases hodd:x % 2=1
                · have hk:ofK x=1:=hodd
                  have HNI:Hid (I64 (ofN x)):=by unfold Hid ofN I64;omega
                  have HODD:=Lib.hid hodd
                  cases htv:toF ms (ofN x) with
                  | none =>
                    have HTV:=Lib.hid htv
                    have HNONE:Hid (outW xs (mvs xs ks 1) ks=none):=by
                      have e1:cvt ms x=none:=by rw[cvt,if_pos hodd,show x / 2=ofN x from rfl,htv];rfl
                      have e2:cvts ms (fieldsOf xs p)=none:=by
                        rw[<- List.take_append_drop (j+1) (fieldsOf xs p),HTKJ.out,List.append_assoc,cvts_append,HCV.out]
                        simp[cvts,e1]
                      have e3:objW xs ms p=none:=by rw[objW,e2];rfl
                      rw[Hid,<- HMS.out,<- List.take_append_drop (i+1) ks,HTK2.out,List.append_assoc,outW_append,HL.out]
                      simp[outW,e3]
                    clear htv hodd
                    have HK:=Lib.hid hk
                    clear hk
                    go_upto_region 30 with (first
                      | (go_at_call 37;refine (of_any x _ hr1 hr2).mono ?_;rintro e w13 ⟨rfl,hb13⟩;rw[HK.out];have HB13:=Lib.hid hb13;clear hb13)
                      | (at_lookup;refine wpl_funLookOk rfl _ _ rfl z _ _ rfl (HFMJ.out.below (by ((repeat first|exact bR _ _|with_reducible first|refine bT ?_ HB13.out ?_|refine bN ?_|refine bD ?_|refine bA ?_ ?_|refine bS ?_ ?_);all_goals first|exact Nat.le_refl _|(simp;done)|omega|(simp;omega)|(have z0:=Below.size HB13.out;omega)|(have z0:=Below.size HB13.out;simp at *;omega)))) (ofN x) rfl HNI.out ?_;rw[HTV.out];simp only [Option.getD_none,Option.isSome_none]))
                    obtain⟨w15,hw15⟩:∃w15,w15=w13.alloc (.cells #[.int .i64 1,.int .i64 (ofN x)] 36):=⟨_,rfl⟩
                    have HB15:Hid (Below wr.heap.size wr w15):=by rw[Hid,hw15];exact (by ((repeat first|exact bR _ _|with_reducible first|refine bT ?_ HB13.out ?_|refine bN ?_|refine bD ?_|refine bA ?_ ?_|refine bS ?_ ?_);all_goals first|exact Nat.le_refl _|(simp;done)|omega|(simp;omega)|(have z0:=Below.size HB13.out;omega)|(have z0:=Below.size HB13.out;simp at *;omega)))
                    rw[<- hw15]
                    clear hw15
                    have hrb:w.heap.size+1<wr.heap.size:=by omega
                    have hg12:=grown_tr HGR12.out HGJ.out
                    have HOLD2:Hid (∀o:Nat,w15.cell? ⟨w.heap.size+1,o,none⟩=wl.cell? ⟨w.heap.size+1,o,none⟩/\w15.frozen? ⟨w.heap.size+1,o,none⟩=wl.frozen? ⟨w.heap.size+1,o,none⟩):=λo=>by
                      obtain⟨e1,e2⟩:=grown_cell hg12 (M:=w.heap.size+1) (i:=o) (by omega) (λe=>by simp only [Option.some.injEq] at e;omega)
                      exact⟨((HB15.out.cell (p:=⟨w.heap.size+1,o,none⟩) hrb).trans e1).trans (HB9.out.cell (p:=⟨w.heap.size+1,o,none⟩) (by show w.heap.size+1<g;omega)),((HB15.out.frozen (p:=⟨w.heap.size+1,o,none⟩) hrb).trans e2).trans (HB9.out.frozen (p:=⟨w.heap.size+1,o,none⟩) (by show w.heap.size+1<g;omega))⟩
                    clear hg12
                    have r20:=(HOLD2.out 0).1.trans HL20.out
                    have r21:=(HOLD2.out 1).1.trans HL21.out
                    have rz20:=(HOLD2.out 0).2.trans HLZ20.out
                    have rz21:=(HOLD2.out 1).2.trans HLZ21.out
                    go_wp2_with fail
                    refine bodyPost_ret (v:=.tuple #[.agg #[.slice none 0 0,.int .i64 0],.slice none 0 0,.int .i64 5]) (by simp[results,Try.results27,go_sem, *]) rfl ⟨((HBWJ.out.trans (HB15.out.mono (by omega))).setCell (by simp) _).setCell (by simp) _,.inr ⟨t,l,rfl,HI.out,.inr ⟨ks,HKE.out,HKI.out,.inl ⟨HNONE.out,rfl⟩⟩⟩⟩
                  | some y =>
                    have HTV:=Lib.hid htv
                    have hyb:=toF_le (by rw[<- HMS.out];exact htv)
                    rw[<- HTT.out] at hyb
                    obtain⟨hy1,hy2⟩:=hyb
                    have HCX:Hid (cvt ms x=some (2 * y+1)):=by
                      rw[Hid,cvt,if_pos hodd,show x / 2=ofN x from rfl,htv];rfl
                    have HVI:Hid (I64 (2 * y+1)):=by unfold Hid I64;omega
                    clear htv hodd
                    have HK:=Lib.hid hk
                    clear hk
                    go_upto_region 32 with (first
                      | (go_at_call 37;refine (of_any x _ hr1 hr2).mono ?_;rintro e w13 ⟨rfl,hb13⟩;rw[HK.out];have HB13:=Lib.hid hb13;clear hb13)
                      | (at_lookup;refine wpl_funLookOk rfl _ _ rfl z _ _ rfl (HFMJ.out.below (by ((repeat first|exact bR _ _|with_reducible first|refine bT ?_ HB13.out ?_|refine bN ?_|refine bD ?_|refine bA ?_ ?_|refine bS ?_ ?_);all_goals first|exact Nat.le_refl _|(simp;done)|omega|(simp;omega)|(have z0:=Below.size HB13.out;omega)|(have z0:=Below.size HB13.out;simp at *;omega)))) (ofN x) rfl HNI.out ?_;rw[HTV.out];simp only [Option.getD_some,Option.isSome_some])
                      | (go_at_call 53;refine (word_any 1 y _ (by omega) (by omega)).mono ?_;rintro e w14 ⟨rfl,hb14⟩;rw[show wordOf 1 y=2 * y+1 from rfl];have HB14:=Lib.hid hb14;clear hb14))
                    obtain⟨w15,hw15⟩:∃w15,w15=w14:=⟨_,rfl⟩
                    have HB15:Hid (Below wr.heap.size wr w15):=by rw[Hid,hw15];exact (by ((repeat first|exact bR _ _|with_reducible first|refine bT ?_ HB14.out ?_|refine bT ?_ HB13.out ?_|refine bN ?_|refine bD ?_|refine bA ?_ ?_|refine bS ?_ ?_);all_goals first|exact Nat.le_refl _|(simp;done)|omega|(simp;omega)|(have z0:=Below.size HB14.out;have z1:=Below.size HB13.out;omega)|(have z0:=Below.size HB14.out;have z1:=Below.size HB13.out;simp at *;omega)))
                    rw[<- hw15]
                    clear hw15
                    have q0:=(HB15.out.cell (p:=⟨X,0,none⟩) (by show X<wr.heap.size;omega)).trans jx0
                    have q1:=(HB15.out.cell (p:=⟨Y,1,none⟩) (by show Y<wr.heap.size;omega)).trans jy1
                    have HV15:=Lib.hid (HVJ.out.below HB15.out)
                    obtain⟨g',eg,_,hgs,hgc,hgz⟩:=HV15.out.spot (by rw[HPL2.out];omega)
                    simp only [Option.some.injEq,Addr.mk.injEq] at eg
                    obtain⟨rfl,_⟩:=eg
                    have gc0:=hgc (tt+2+j) (by rw[HPL2.out];omega)
                    have gz0:=hgz (tt+2+j)
                    generalize (padTo xs.length ((0 :: L)++(st :: (d:Int) :: ys))).getD (tt+2+j) 0=old0 at gc0
                    have HGR15:Hid (w12.grownBy w15 (some g)):=grown_tr HGJ.out (grownBy_of_below (B:=0) HB15.out _)
                    clear hgc hgz
                    go_wp2_with fail
                    go_roundw
                    case rel =>
                      refine⟨j+1,ys++[2 * y+1],by go_num,by omega,?_,?_,grown_tr HGR15.out (grown_set _ _ _ _)⟩
                      · rw[HTKJ.out,cvts_append,HCV.out]
                        simp only [cvts,HCX.out,Option.bind_some,Option.map_some]
                      · have h1:=HV15.out.set (i:=tt+2+j) (by rw[HPL2.out];omega) HVI.out
                        have e1:((0 :: L)++(st :: (d:Int) :: ys)).length=tt+2+j:=by rw[List.length_append,HA.out];simp only [List.length_cons,HYL.out];omega
                        have e2:=padTo_set (n:=xs.length) (A:=(0 :: L)++(st :: (d:Int) :: ys)) (by rw[e1];omega) (2 * y+1)
                        rw[e1] at e2
                        rw[e2] at h1
                        simpa using h1
                    case measure=>simp[intOf];omega
                · have hk:ofK x=0:=by unfold ofK;omega
                  have HCX:Hid (cvt ms x=some x):=by rw[Hid,cvt,if_neg hodd]
                  have HVI:Hid (I64 x):=⟨hr1,hr2⟩
                  have HK:=Lib.hid hk
                  clear hk hodd
                  go_upto_region 32 with (go_at_call 37;refine (of_any x _ hr1 hr2).mono ?_;rintro e w13 ⟨rfl,hb13⟩;rw[HK.out];have HB13:=Lib.hid hb13;clear hb13)
                  obtain⟨w15,hw15⟩:∃w15,w15=w13.alloc (.cells #[.int .i64 0,.int .i64 (ofN x)] 36):=⟨_,rfl⟩
                  have HB15:Hid (Below wr.heap.size wr w15):=by rw[Hid,hw15];exact (by ((repeat first|exact bR _ _|with_reducible first|refine bT ?_ HB13.out ?_|refine bN ?_|refine bD ?_|refine bA ?_ ?_|refine bS ?_ ?_);all_goals first|exact Nat.le_refl _|(simp;done)|omega|(simp;omega)|(have z0:=Below.size HB13.out;omega)|(have z0:=Below.size HB13.out;simp at *;omega)))
                  rw[<- hw15]
                  clear hw15
                  have q0:=(HB15.out.cell (p:=⟨X,0,none⟩) (by show X<wr.heap.size;omega)).trans jx0
                  have q1:=(HB15.out.cell (p:=⟨Y,1,none⟩) (by show Y<wr.heap.size;omega)).trans jy1
                  have HV15:=Lib.hid (HVJ.out.below HB15.out)
                  obtain⟨g',eg,_,hgs,hgc,hgz⟩:=HV15.out.spot (by rw[HPL2.out];omega)
                  simp only [Option.some.injEq,Addr.mk.injEq] at eg
                  obtain⟨rfl,_⟩:=eg
                  have gc0:=hgc (tt+2+j) (by rw[HPL2.out];omega)
                  have gz0:=hgz (tt+2+j)
                  generalize (padTo xs.length ((0 :: L)++(st :: (d:Int) :: ys))).getD (tt+2+j) 0=old0 at gc0
                  have HGR15:Hid (w12.grownBy w15 (some g)):=grown_tr HGJ.out (grownBy_of_below (B:=0) HB15.out _)
                  clear hgc hgz
                  go_wp2_with fail
                  go_roundw
                  case rel =>
                    refine⟨j+1,ys++[x],by go_num,by omega,?_,?_,grown_tr HGR15.out (grown_set _ _ _ _)⟩
                    · rw[HTKJ.out,cvts_append,HCV.out]
                      simp only [cvts,HCX.out,Option.bind_some,Option.map_some]
                    · have h1:=HV15.out.set (i:=tt+2+j) (by rw[HPL2.out];omega) HVI.out
                      have e1:((0 :: L)++(st :: (d:Int) :: ys)).length=tt+2+j:=by rw[List.length_append,HA.out];simp only [List.length_cons,HYL.out];omega
                      have e2:=padTo_set (n:=xs.length) (A:=(0 :: L)++(st :: (d:Int) :: ys)) (by rw[e1];omega) (x)
                      rw[e1] at e2
                      rw[e2] at h1
                      simpa using h1
                  case measure=>simp[intOf];omega
              · obtain rfl:j=d:=by omega
                have hcv2:=HCV.out
                rw[List.take_of_length_le (by rw[fields_len HI.out p HPL.out,<- HD.out];omega)] at hcv2
                have HEND:=Lib.hid (HFIN.out wr ys hcv2 HVJ.out (grown_tr HGR12.out HGJ.out))
                clear hcv2
                go_wp2_with fail
                go_roundw
                case rel =>
                  obtain⟨L',q1,q2,q3⟩:=HEND.out
                  exact⟨i+1,L',by go_num,by omega,q1,q2,q3⟩
                case measure=>simp[intOf];omega
        · obtain rfl:i=ks.length:=by omega
          have HLL:Hid (outW xs (mvs xs ks 1) ks=some L):=by have:=HL.out;rw[List.take_length,HMS.out] at this;exact this
          have HMVR:Hid (OwnMoves wr (z+1) (.slice ma ks.length mc) ms):=by
            have h1:OwnMoves w9 (z+1) (.slice ma ks.length mc) ms:=HMV.out.below (by rw[<- HG.out];exact HB9.out)
            exact h1.grown HGR.out (by
              cases hb:(Value.slice ma ks.length mc).ownBlock with
              | none=>exact .inl rfl
              | some j=>exact .inr (λe=>by have h2:=(HMV.out.lt hb).2;simp only [Option.some.injEq] at e;rw[<- HG.out] at h2;omega))
          have HBWR:Hid (Below w.heap.size w wr):=(HBW.out.trans (HB9.out.mono (by omega))).grown HGR.out (by omega) (λj hj=>by simp only [Option.some.injEq] at hj;omega)
          go_wp2_with fail
          refine bodyPost_ret (v:=.tuple #[.agg #[.slice (some ⟨g,0,none⟩) xs.length xs.length,.int .i64 (T:Int)],.slice ma ks.length mc,.int .i64 0]) (by simp[results,Try.results27,go_sem, *]) rfl ⟨(HBWR.out.setCell (by simp) _).setCell (by simp) _,.inr ⟨t,l,rfl,HI.out,.inr ⟨ks,HKE.out,HKI.out,.inr ⟨L,_,_,HLL.out,by rw[<- HTT.out],?_,?_⟩⟩⟩⟩
          · exact ((HV.out.setFar (by simp[Value.ownBlock];omega) _).setFar (by simp[Value.ownBlock];omega) _).mono (by omega)
          · rw[<- HMS.out]
            have hne:(Value.slice ma ks.length mc).ownBlock≠some (w.heap.size+1):=λe=>by have:=(HMVR.out.lt e).1;omega
            exact ((HMVR.out.setFar hne _).setFar hne _).mono (by omega)
set_option maxRecDepth 100000 in
set_option maxHeartbeats 400000 in
theorem compact_any (v kv:Value) (xs keep:List Int) (top:Int) (w:World) (h:Ints w v xs) (hr:Ints w kv keep) :
    Calls Try.prog 27 #[.agg #[v,.int .i64 top],kv] w (RetClosed w xs top keep):=by
  by_cases hok:HeapOk xs top
  · obtain⟨t,l,rfl,his⟩:=hok
    exact compact_ok v kv xs keep t l w h hr his
  · obtain⟨a,c,rfl,hc,hcm,_⟩:=h.len
    have HF:Hid (∀w2,Below w.heap.size w w2->Ints w2 (.slice a xs.length c) xs):=λw2 hb2=>h.below (Nat.le_refl _) hb2
    have HN:=Lib.hid hok
    clear h hr hok
    go_enter Try.func27,Try.ntmps27
    go_wp2_with (go_at_call 18;refine (Places_any _ xs _ _ (HF.out _ (by ((repeat first|exact bR _ _|with_reducible first|refine bN ?_|refine bD ?_|refine bA ?_ ?_|refine bS ?_ ?_);all_goals first|exact Nat.le_refl _|(simp;done)|omega|(simp;omega))))).mono ?_;rintro e w1 ⟨hb,⟨t',l',la,lc,ht,hi,rfl,hv⟩|⟨hno,rfl⟩⟩;(exact absurd ⟨t',l',ht,hi⟩ HN.out);have zc3:=Nat.lt_of_lt_of_le (show w.heap.size<_ from (by first|(simp;done)|omega|(simp;omega))) (Below.size hb);have fc3_0:=Below.cell hb (p:=⟨w.heap.size,0,none⟩) (by first|(simp;done)|omega|(simp;omega));have gc3_0:=Below.frozen hb (p:=⟨w.heap.size,0,none⟩) (by first|(simp;done)|omega|(simp;omega));have fc3_1:=Below.cell hb (p:=⟨w.heap.size,1,none⟩) (by first|(simp;done)|omega|(simp;omega));have gc3_1:=Below.frozen hb (p:=⟨w.heap.size,1,none⟩) (by first|(simp;done)|omega|(simp;omega));(try simp at fc3_0 gc3_0 fc3_1 gc3_1);have zc4:=Nat.lt_of_lt_of_le (show w.heap.size+1<_ from (by first|(simp;done)|omega|(simp;omega))) (Below.size hb);have fc4_0:=Below.cell hb (p:=⟨w.heap.size+1,0,none⟩) (by first|(simp;done)|omega|(simp;omega));have gc4_0:=Below.frozen hb (p:=⟨w.heap.size+1,0,none⟩) (by first|(simp;done)|omega|(simp;omega));have fc4_1:=Below.cell hb (p:=⟨w.heap.size+1,1,none⟩) (by first|(simp;done)|omega|(simp;omega));have gc4_1:=Below.frozen hb (p:=⟨w.heap.size+1,1,none⟩) (by first|(simp;done)|omega|(simp;omega));(try simp at fc4_0 gc4_0 fc4_1 gc4_1);have HB:=Lib.hid hb;clear hb)
    refine bodyPost_ret (v:=.tuple #[.agg #[.slice none 0 0,.int .i64 0],.slice none 0 0,.int .i64 5]) (by simp[results,Try.results27,go_sem, *]) rfl ⟨(by ((repeat first|exact bR _ _|with_reducible first|refine bT ?_ HB.out ?_|refine bN ?_|refine bD ?_|refine bA ?_ ?_|refine bS ?_ ?_);all_goals first|exact Nat.le_refl _|(simp;done)|omega|(simp;omega)|(have z0:=Below.size HB.out;omega)|(have z0:=Below.size HB.out;simp at *;omega))),.inl ⟨HN.out,rfl⟩⟩
end Go.Proofs.Ytbeilcaadpopmab
namespace Go.Proofs.Ytbeilcaadpopmab
open Go.RowKit
abbrev Blk:=Int × List Int
def enc (bs:List Blk):List Int:=bs.flatMap λb=>b.1 :: (b.2.length:Int) :: b.2
def starts:Nat->List Blk->List Nat
  | _,[]=>[]
  | s,b :: bs=>s :: starts (s+2+b.2.length) bs
theorem enc_cons (b:Blk) (bs:List Blk):enc (b :: bs)=(b.1 :: (b.2.length:Int) :: b.2)++enc bs:=by simp[enc]
theorem starts_len:∀(s:Nat) (bs:List Blk),(starts s bs).length=bs.length
  | _,[]=>rfl
  | s,b :: bs=>by simp[starts,starts_len]
theorem at_start:∀(bs:List Blk) (pre post:List Int) (i:Nat) (h:i<bs.length) (h':i<(starts pre.length bs).length),
    (pre++(enc bs++post)).getD (starts pre.length bs)[i] 0=bs[i].1/\(pre++(enc bs++post)).getD ((starts pre.length bs)[i]+1) 0=(bs[i].2.length:Int) /\
      (∀k (hk:k<bs[i].2.length),(pre++(enc bs++post)).getD ((starts pre.length bs)[i]+2+k) 0=bs[i].2[k])/\pre.length<=(starts pre.length bs)[i]/\(starts pre.length bs)[i]+2+bs[i].2.length<=pre.length+(enc bs).length
  | [],pre,post,i,h,_=>by simp at h
  | b :: bs,pre,post,0,_,_=>by
    simp only [starts,List.getElem_cons_zero,enc_cons]
    refine⟨?_,?_,λk hk=>?_,Nat.le_refl _,by simp;omega⟩
    · simp[List.getD_eq_getElem?_getD]
    · simp[List.getD_eq_getElem?_getD,List.getElem?_append_right]
    · rw[List.getD_eq_getElem?_getD,List.getElem?_append_right (by omega)]
      rw[show pre.length+2+k - pre.length=k+1+1 by omega]
      simp[List.getElem?_append_left hk,List.getElem?_eq_getElem hk]
  | b :: bs,pre,post,i+1,h,h'=>by
    have e1:pre++(enc (b :: bs)++post)=(pre++(b.1 :: (b.2.length:Int) :: b.2))++(enc bs++post):=by simp[enc_cons]
    have e2:(pre++(b.1 :: (b.2.length:Int) :: b.2)).length=pre.length+2+b.2.length:=by simp;omega
    have:=at_start bs (pre++(b.1 :: (b.2.length:Int) :: b.2)) post i (by simpa using h) (by rw[starts_len];simpa using h)
    simp only [e2] at this
    rw[e1]
    simp only [starts,List.getElem_cons_succ]
    refine⟨this.1,this.2.1,this.2.2.1,by have:=this.2.2.2.1;omega,?_⟩
    have h2:=this.2.2.2.2
    rw[enc_cons,List.length_append]
    simp only [List.length_cons]
    omega
theorem plF_blocks:∀(bs:List Blk) (pre post:List Int) (f:Nat),(∀b ∈ bs,b.2.length<=6)->(enc bs).length<=2 * f ->
    plF (pre++(enc bs++post)) (pre.length+(enc bs).length) f pre.length=some (starts pre.length bs)
  | [],pre,post,f,_,_=>by
    cases f <;> simp[plF,enc,starts]
  | b :: bs,pre,post,f,h6,hf=>by
    have hlen:(enc (b :: bs)).length=2+b.2.length+(enc bs).length:=by rw[enc_cons,List.length_append];simp;omega
    cases f with
    | zero=>omega
    | succ f =>
      obtain⟨_,a2,_⟩:=at_start (b :: bs) pre post 0 (by simp) (by simp[starts])
      simp only [starts,List.getElem_cons_zero] at a2
      have h1:=h6 b (by simp)
      rw[plF,if_pos (by omega),if_neg (by omega),a2,if_pos ⟨by omega,by omega,by rw[Int.toNat_natCast];omega⟩,Int.toNat_natCast]
      have e1:pre++(enc (b :: bs)++post)=(pre++(b.1 :: (b.2.length:Int) :: b.2))++(enc bs++post):=by simp[enc_cons]
      have e2:(pre++(b.1 :: (b.2.length:Int) :: b.2)).length=pre.length+2+b.2.length:=by simp;omega
      have ih:=plF_blocks bs (pre++(b.1 :: (b.2.length:Int) :: b.2)) post f (λx hx=>h6 x (by simp[hx])) (by omega)
      rw[e2] at ih
      rw[e1,hlen,show pre.length+(2+b.2.length+(enc bs).length)=pre.length+2+b.2.length+(enc bs).length by omega,ih]
      rfl
def heapOf (n:Nat) (bs:List Blk):List Int:=0 :: (enc bs++List.replicate (n - 1 - (enc bs).length) 0)
theorem heapOf_len {n:Nat} {bs:List Blk} (h:1+(enc bs).length<=n):(heapOf n bs).length=n:=by simp[heapOf];omega
theorem heapOf_is {n:Nat} {bs:List Blk} (h6:∀b ∈ bs,b.2.length<=6) (hl:1+(enc bs).length<=n) (hn:n<=400) (hst:∀b ∈ bs,0<=b.1/\b.1<=2147483648) (hw:∀b ∈ bs,∀x ∈ b.2,WordOk (starts 1 bs) x) :
    HeapIs (heapOf n bs) (1+(enc bs).length) (starts 1 bs):=by
  refine⟨by rw[heapOf_len hl];exact hn,by omega,by rw[heapOf_len hl];exact hl,?_,λp hp=>?_,λi h1 h2=>?_⟩
  · exact plF_blocks bs [0] _ 400 h6 (by omega)
  · obtain⟨i,hi,rfl⟩:=List.mem_iff_getElem.1 hp
    have hi':i<bs.length:=by rwa [starts_len] at hi
    have hm:bs[i] ∈ bs:=List.getElem_mem hi'
    obtain⟨a1,a2,a3,_⟩:=at_start bs [0] (List.replicate (n - 1 - (enc bs).length) 0) i hi' hi
    have e:∀j,(heapOf n bs).getD j 0=([0]++(enc bs++List.replicate (n - 1 - (enc bs).length) 0)).getD j 0:=λj=>rfl
    refine⟨?_,?_,λk hk=>?_⟩
    · rw[e];exact a1 ▸ (hst _ hm).1
    · rw[e];exact a1 ▸ (hst _ hm).2
    · have hk':k<bs[i].2.length:=by
        unfold nf at hk
        rw[e] at hk
        have:([0]++(enc bs++List.replicate (n - 1 - (enc bs).length) 0)).getD ((starts 1 bs)[i]+1) 0=(bs[i].2.length:Int):=a2
        rw[this] at hk
        simpa using hk
      rw[e]
      have h3:=a3 k hk'
      have h4:([0]++(enc bs++List.replicate (n - 1 - (enc bs).length) 0)).getD ((starts 1 bs)[i]+2+k) 0=bs[i].2[k]:=h3
      rw[h4]
      exact hw _ hm _ (List.getElem_mem hk')
  · rw[heapOf_len hl] at h2
    unfold heapOf
    obtain⟨j,rfl⟩:∃j,i=j+1:=⟨i - 1,by omega⟩
    rw[List.getD_cons_succ,List.getD_eq_getElem?_getD,List.getElem?_append_right (by omega),List.getElem?_replicate]
    split <;> rfl
end Go.Proofs.Ytbeilcaadpopmab
namespace Go.Proofs.Ytbeilcaadpopmab
open Go.RowKit
theorem blocks_of_out {xs:List Int} {ms:List (Nat × Nat)}:∀(ks:List Nat) (L:List Int),(∀p ∈ ks,(fieldsOf xs p).length=nf xs p)->outW xs ms ks=some L ->
    ∃bs:List Blk,L=enc bs/\bs.length=ks.length/\∀i (h:i<ks.length) (h':i<bs.length),bs[i].1=xs.getD ks[i] 0/\cvts ms (fieldsOf xs ks[i])=some bs[i].2/\bs[i].2.length=nf xs ks[i]
  | [],L,_,h=>by simp[outW] at h;subst h;exact⟨[],rfl,rfl,λi h=>by simp at h⟩
  | p :: ks,L,hf,h=>by
    simp only [outW] at h
    cases h1:objW xs ms p with
    | none=>rw[h1] at h;simp at h
    | some a =>
      cases h2:outW xs ms ks with
      | none=>rw[h1,h2] at h;simp at h
      | some b =>
        rw[h1,h2] at h
        simp at h
        subst h
        obtain⟨bs,rfl,hl,hb⟩:=blocks_of_out ks b (λq hq=>hf q (by simp[hq])) h2
        unfold objW at h1
        obtain⟨ys,hy,rfl⟩:=Option.map_eq_some_iff.1 h1
        have hyl:=cvts_len ms _ _ hy
        rw[hf p (by simp)] at hyl
        refine⟨(xs.getD p 0,ys) :: bs,?_,by simp[hl],λi hi hi'=>?_⟩
        · rw[enc_cons,hyl]
        · cases i with
          | zero=>exact⟨rfl,hy,hyl⟩
          | succ i=>exact hb i (by simpa using hi) (by simpa using hi')
theorem starts_mvs (xs:List Int):∀(ks:List Nat) (s:Nat) (bs:List Blk),bs.length=ks.length->(∀i (h:i<ks.length) (h':i<bs.length),bs[i].2.length=nf xs ks[i])->starts s bs=(mvs xs ks s).map (·.2)
  | [],s,bs,hl,_=>by
    obtain rfl:bs=[]:=List.eq_nil_of_length_eq_zero hl
    rfl
  | p :: ks,s,bs,hl,h=>by
    cases bs with
    | nil=>simp at hl
    | cons b bs =>
      have h0:b.2.length=nf xs p:=h 0 (by simp) (by simp)
      simp only [starts,mvs,List.map_cons]
      rw[starts_mvs xs ks _ bs (by simpa using hl) (λi hi hi'=>h (i+1) (by simpa using hi) (by simpa using hi')),h0]
      congr 3
      omega
theorem cvts_at {ms:List (Nat × Nat)}:∀(a ya:List Int),cvts ms a=some ya->∀k (h:k<a.length) (h':k<ya.length),cvt ms a[k]=some ya[k]
  | [],ya,_,k,h,_=>by simp at h
  | x :: a,ya,he,k,h,h'=>by
    simp only [cvts] at he
    cases h1:cvt ms x with
    | none=>rw[h1] at he;simp at he
    | some y =>
      cases h2:cvts ms a with
      | none=>rw[h1,h2] at he;simp at he
      | some ys =>
        rw[h1,h2] at he
        simp at he
        subst he
        cases k with
        | zero=>exact h1
        | succ k=>exact cvts_at a ys h2 k (by simpa using h) (by simpa using h')
theorem toF_in {ms:List (Nat × Nat)} {x y:Int} (h:toF ms x=some y):(x=0/\y=0)\/∃m ∈ ms,(m.1:Int)=x/\(m.2:Int)=y:=by
  unfold toF at h
  split at h
  · rename_i h0;cases h;exact .inl ⟨h0,rfl⟩
  · obtain⟨m,hm,rfl⟩:=Option.map_eq_some_iff.1 h
    exact .inr ⟨m,List.mem_of_find?_eq_some hm,by simpa using List.find?_some hm,rfl⟩
theorem closed_is {xs:List Int} {t:Nat} {l ks:List Nat} {L:List Int} (hi:HeapIs xs t l) (hk:KeepIs l ks) (h:outW xs (mvs xs ks 1) ks=some L) :
    ∃ bs : List Blk, L = enc bs ∧ bs.length = ks.length ∧ starts 1 bs = (mvs xs ks 1).map (·.2) ∧ topOf xs ks 1 = 1 + (enc bs).length ∧ padTo xs.length (0 :: L) = heapOf xs.length bs ∧
      (∀i (h:i<ks.length) (h':i<bs.length),bs[i].1=xs.getD ks[i] 0/\cvts (mvs xs ks 1) (fieldsOf xs ks[i])=some bs[i].2/\bs[i].2.length=nf xs ks[i]) /\
      HeapIs (heapOf xs.length bs) (1+(enc bs).length) (starts 1 bs):=by
  have hf:∀p ∈ ks,(fieldsOf xs p).length=nf xs p:=λp hp=>fields_len hi p (hk.1 p hp)
  obtain⟨bs,rfl,hl,hb⟩:=blocks_of_out ks L hf h
  have hs:=starts_mvs xs ks 1 bs hl (λi a b=>(hb i a b).2.2)
  have ht:=outW_len ks (enc bs) 1 hf h
  have hle:=keep_top hi hk
  have hlen:=hi.2.2.1
  refine⟨bs,rfl,hl,hs,ht.symm,?_,hb,?_⟩
  · simp only [padTo,heapOf,List.cons_append,List.length_cons]
    congr 3
    omega
  · refine heapOf_is (λb hm=>?_) (by omega) hi.1 (λb hm=>?_) (λb hm x hx=>?_)
    · obtain⟨i,hi',rfl⟩:=List.mem_iff_getElem.1 hm
      have h1:=hb i (by omega) hi'
      have h2:=places_obj hi.2.2.2.1 ks[i] (hk.1 _ (List.getElem_mem (by omega)))
      obtain⟨_,_,h3,_⟩:=h2
      omega
    · obtain⟨i,hi',rfl⟩:=List.mem_iff_getElem.1 hm
      have h1:=hb i (by omega) hi'
      have h2:=hi.2.2.2.2.1 ks[i] (hk.1 _ (List.getElem_mem (by omega)))
      rw[h1.1]
      exact⟨h2.1,h2.2.1⟩
    · obtain⟨i,hi',rfl⟩:=List.mem_iff_getElem.1 hm
      obtain⟨k,hk',rfl⟩:=List.mem_iff_getElem.1 hx
      have hil:i<ks.length:=by omega
      obtain⟨h1,h2,h3⟩:=hb i hil hi'
      have hkm:=hk.1 _ (List.getElem_mem hil)
      have hfl:=hf _ (List.getElem_mem hil)
      have hcv:=cvts_at _ _ h2 k (by omega) hk'
      have hok:=(hi.2.2.2.2.1 _ hkm).2.2 k (by omega)
      have hfe:(fieldsOf xs ks[i])[k]'(by omega)=xs.getD (ks[i]+2+k) 0:=by
        obtain⟨_,_,_,o4⟩:=places_obj hi.2.2.2.1 _ hkm
        simp only [fieldsOf,List.getElem_take,List.getElem_drop]
        rw[List.getD_eq_getElem?_getD,List.getElem?_eq_getElem (by omega)]
        rfl
      rw[hfe] at hcv
      unfold cvt at hcv
      split at hcv
      · obtain⟨y,hy,e⟩:=Option.map_eq_some_iff.1 hcv
        rw[<- e]
        refine⟨λh=>by omega,λ_ hne=>?_⟩
        rcases toF_in hy with ⟨_,rfl⟩|⟨m,hm',_,rfl⟩
        · omega
        · refine⟨m.2,?_,by omega⟩
          rw[hs]
          exact List.mem_map.2 ⟨m,hm',rfl⟩
      · rename_i hne
        have e:=Option.some.inj hcv
        rw[<- e]
        exact⟨hok.1,λh=>absurd h hne⟩
end Go.Proofs.Ytbeilcaadpopmab
namespace Go.Proofs.Ytbeilcaadpopmab
open Go.RowKit
theorem heapOf_at {n:Nat} {bs:List Blk} (i:Nat) (h:i<bs.length) (h':i<(starts 1 bs).length) :
    (heapOf n bs).getD (starts 1 bs)[i] 0=bs[i].1/\nf (heapOf n bs) (starts 1 bs)[i]=bs[i].2.length/\(heapOf n bs).getD ((starts 1 bs)[i]+1) 0=(bs[i].2.length:Int) /\
      (∀k (hk:k<bs[i].2.length),(heapOf n bs).getD ((starts 1 bs)[i]+2+k) 0=bs[i].2[k])/\(starts 1 bs)[i]+2+bs[i].2.length<=1+(enc bs).length:=by
  obtain⟨a1,a2,a3,_,a5⟩:=at_start bs [0] (List.replicate (n - 1 - (enc bs).length) 0) i h h'
  have a2':(heapOf n bs).getD ((starts 1 bs)[i]+1) 0=(bs[i].2.length:Int):=a2
  refine⟨a1,?_,a2',a3,a5⟩
  unfold nf
  rw[a2',Int.toNat_natCast]
end Go.Proofs.Ytbeilcaadpopmab
namespace Go.Proofs.Ytbeilcaadpopmab
open Go.RowKit
theorem cvts_some {ms:List (Nat × Nat)}:∀(ws:List Int),(∀x ∈ ws,∃y,cvt ms x=some y)->∃ys,cvts ms ws=some ys
  | [],_=>⟨[],rfl⟩
  | x :: ws,h=>by
    obtain⟨y,hy⟩:=h x (by simp)
    obtain⟨ys,hys⟩:=cvts_some ws (λz hz=>h z (by simp[hz]))
    exact⟨y :: ys,by simp[cvts,hy,hys]⟩
theorem outW_some {xs:List Int} {ms:List (Nat × Nat)}:∀(ks:List Nat),(∀p ∈ ks,∀x ∈ fieldsOf xs p,∃y,cvt ms x=some y)->∃L,outW xs ms ks=some L
  | [],_=>⟨[],rfl⟩
  | p :: ks,h=>by
    obtain⟨ys,hy⟩:=cvts_some _ (h p (by simp))
    obtain⟨L,hL⟩:=outW_some ks (λq hq=>h q (by simp[hq]))
    exact⟨(xs.getD p 0 :: (nf xs p:Int) :: ys)++L,by simp only [outW,objW,hy,hL,Option.map_some,Option.bind_some]⟩
theorem RetClosed.good {w w':World} {xs:List Int} {t:Nat} {l ks:List Nat} {L:List Int} {e:Ending} (h:RetClosed w xs t (intsOf ks) e w') (hi:HeapIs xs t l) (hk:KeepIs l ks) (hL:outW xs (mvs xs ks 1) ks=some L) :
    Below w.heap.size w w'/\∃ov mv,e = .returned (.tuple #[.agg #[ov,.int .i64 (topOf xs ks 1:Nat)],mv,.int .i64 0])/\OwnInts w' w.heap.size ov (padTo xs.length (0 :: L))/\OwnMoves w' w.heap.size mv (mvs xs ks 1):=by
  obtain⟨hb,⟨hn,_⟩|⟨t',l',ht,hi',⟨hn,_⟩|⟨ks',he,hk',⟨hn,_⟩|⟨L',ov,mv,h1,rfl,h2,h3⟩⟩⟩⟩:=h
  · exact absurd ⟨t,l,rfl,hi⟩ hn
  · obtain rfl:=Int.ofNat_inj.1 ht
    obtain rfl:=hi.uniq hi'
    exact absurd ⟨ks,rfl,hk⟩ hn
  · obtain rfl:=intsOf_inj he
    rw[hL] at hn;cases hn
  · obtain rfl:=intsOf_inj he
    rw[hL] at h1
    cases h1
    exact⟨hb,ov,mv,rfl,h2,h3⟩
end Go.Proofs.Ytbeilcaadpopmab
