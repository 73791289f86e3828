/- Texts put together: Cc, Tu. -/
import Derived.Test.YtbeilcaadpopmacYg
import Derived.Lib.AppendZerosOnto
import Derived.Test.YtbeilcaadpopmacYl
import Derived.Test.YtbeilcaadpopmacYq
import Derived.Test.YtbeilcaadpopmacYo
set_option linter.unusedVariables false
set_option linter.unusedSimpArgs false
namespace Go.Proofs.Ytbeilcaadpopmac
open Go.RowKit Go.Maps
theorem wpl_append_zeros {ops : Array Oper} {rest : List Oper} {o : Oper} {a : Act} {Q : Exit -> Act -> World -> Prop} {w : World} (hg : o.guard=none) (s x : Operand)
    (ho : o.op = .call { callee:=.builtin .append,args:=#[s,x],argTypes:=#[23,3] }) (n : Nat) (hs : a.eval s = .slice none 0 0) (hx : a.eval x = .int .i64 n) (h0 : 0 < n) (hn : n <= 400)
    (h : ∀ (C : Nat) w',n <= C -> C <= 9223372036854775807 -> OwnAct w' w.heap.size (.slice (some ⟨w.heap.size,0,none⟩) 0 C) [] -> Below w.heap.size w w' -> wpList Try.prog ops Q rest (a.put o.dst (.slice (some ⟨w.heap.size,0,none⟩) n C)) w') : wpList Try.prog ops Q (o :: rest) a w:=by
  refine wpList_plain hg fun K' hK'=>?_
  obtain ⟨i,hi,hz,h4,h5⟩:=info_parts Try.infoAct
  have hold : (Builtin.firstCells i.size 0 (.slice none 0 0)).run Try.prog w.drew = .ok ([] : List Value).toArray w.drew:=run_firstCells_none _ _ _ _ _
  have hbig : (0+n) * i.bytes <= 140737488355328:=by rw [h5];omega
  have hrun:=Go.Lib.run_append_grow_zeros w 23 3 o.type 27 i _ .i64 .i64 Try.underlying23 Try.underlying3 hi hz none 0 0 [] hold n h0 (by rw [h4];omega) (by omega) (by omega) (by rw [h5];omega) (growslice_fits (by omega) hbig)
  rw [Nat.zero_add] at hrun
  have hG1 : n <= grownCap w n 0 27:=grownCap_ge w _ _ _
  have hG2 : grownCap w n 0 27 <= maxLen:=grownCap_le_maxLen w n 0 27 (by unfold maxLen;omega)
  generalize grownCap w n 0 27 = C at hrun hG1 hG2
  obtain ⟨cur,hcur⟩ : ∃ cur : Array Value,cur=([] : List Value).toArray ++ Builtin.zeroCells (Value.agg #[.int .i64 0,.int .i64 0,.int .i64 0,.int .i64 0,.int .i64 0]).cells n ++ Builtin.zeroCells (Value.agg #[.int .i64 0,.int .i64 0,.int .i64 0,.int .i64 0,.int .i64 0]).cells (C - n):=⟨_,rfl⟩
  rw [<- hcur] at hrun
  have hcs : cur.size=C * 5:=by
    have e5 : (Value.agg #[.int .i64 0,.int .i64 0,.int .i64 0,.int .i64 0,.int .i64 0]).cells.size=5:=rfl
    have e1 : ∀ (x y z : Array Value),(x ++ y ++ z).size=x.size+y.size+z.size:=fun x y z=>by rw [Array.size_append,Array.size_append]
    rw [hcur,e1,size_zeroCells,size_zeroCells,e5]
    show 0+n * 5+(C - n) * 5=C * 5
    omega
  unfold Oper.wp
  simp [execOp,ho,resolve,invoke,builtin,hs,hx,hrun,Result.andThen]
  refine hK' _ _ (h C _ hG1 (by unfold maxLen at hG2;omega) ⟨by simp,by simp [cellsAct],.inr ⟨w.heap.size,C,cur,rfl,Nat.le_refl _,?_,Nat.zero_le _,hG2,hcs,by simp [cellsAct]⟩⟩ ?_)
  · exact heap_alloc_new w.drew _
  · exact ((Below.refl _ w).drew).alloc (Nat.le_refl _) _
set_option maxRecDepth 100000 in
theorem grow_any (n : Nat) (w : World) (h0 : 0 < n) (hn : n <= 400) : Calls Try.prog 25 #[.slice none 0 0,.int .i64 n] w fun e w'=>Below w.heap.size w w' /\ ∃ a c,e = .returned (.slice a 0 c) /\ OwnAct w' w.heap.size (.slice a 0 c) []:=by
  have h1 : ¬ ((n : Int) < 0):=by omega
  have h4 : (n : Int) > 0:=by omega
  go_enter Try.func25,Try.ntmps25
  go_wp2_with (at_builtin;refine wpl_append_zeros rfl _ _ rfl n rfl rfl h0 hn ?_;intro C w1 hC1 hC2 hv1 hb1;have HV1:=Lib.hid hv1;have HB1:=Lib.hid hb1;clear hv1 hb1)
  refine bodyPost_ret (v:=.slice (some ⟨w.heap.size,0,none⟩) 0 C) (by simp [results,Try.results25,go_sem, *]) rfl ⟨HB1.out,_,_,rfl,HV1.out⟩
def RowsA (w : World) (v : Value) (ls : List (List ActM)) : Prop :=
  ∃ b o,v = .slice (some ⟨b,o,none⟩) ls.length ls.length /\ b < w.heap.size /\ ∀ i (hi : i < ls.length),∃ a c,w.cell? ⟨b,o+i,none⟩=some (.slice a ls[i].length c) /\ Acts w (.slice a ls[i].length c) ls[i]
set_option maxRecDepth 100000 in
set_option maxHeartbeats 1000000 in
theorem concat_any (v : Value) (ls : List (List ActM)) (w : World) (h : RowsA w v ls) (hn : 0 < ls.flatten.length) (hl : ls.flatten.length <= 400) (hk : ls.length <= 100) :
    Calls Try.prog 18 #[v] w fun e w'=>Below w.heap.size w w' /\ ∃ a c,e = .returned (.slice a ls.flatten.length c) /\ OwnAct w' w.heap.size (.slice a ls.flatten.length c) ls.flatten:=by
  obtain ⟨b,o,rfl,hb,hat⟩:=h
  have HAT : Hid (∀ W,Below w.heap.size w W -> ∀ i (hi : i < ls.length),∃ a c,W.cell? ⟨b,o+i,none⟩=some (.slice a ls[i].length c) /\ Acts W (.slice a ls[i].length c) ls[i]):=fun W hW i hi=>by
    obtain ⟨a,c,h1,h2⟩:=hat i hi
    exact ⟨a,c,(hW.cell (p:=⟨b,o+i,none⟩) hb).trans h1,h2.below (Nat.le_refl _) hW⟩
  have HSUM : Hid (∀ k (hk : k < ls.length),(ls.take (k+1)).flatten=(ls.take k).flatten ++ ls[k]):=fun k hk=>by
    rw [List.take_succ_eq_append_getElem hk,List.flatten_append];simp
  have HLE : Hid (∀ k,(ls.take k).flatten.length <= 400):=fun k=>by
    have e : ls.flatten=(ls.take k).flatten ++ (ls.drop k).flatten:=by rw [<- List.flatten_append,List.take_append_drop]
    have:=congrArg List.length e
    rw [List.length_append] at this
    omega
  have HN:=Lib.hid hn;have HL:=Lib.hid hl
  clear hat hn hl
  go_enter Try.func18,Try.ntmps18
  go_wp2_with fail
  go_loopw [3,11] (fun u3 u wr=>∃ k : Nat,k <= ls.length /\ u = .int .i64 k /\ u3 = .int .i64 ((ls.take k).flatten.length : Nat) /\ Below w.heap.size w wr) (fun _ u _=>ls.length - (intOf u).toNat)
  case atStart=>exact ⟨0,Nat.zero_le _,rfl,by simp,Below.refl _ _⟩
  case round =>
    obtain ⟨k,hkl,rfl,rfl,hbw⟩:=hrel
    have HBW:=Lib.hid hbw;clear hbw
    by_cases hlt : k < ls.length
    · have hlt' : (k : Int) < (ls.length : Int):=by omega
      obtain ⟨a,c,hcell,hacts⟩:=HAT.out wr HBW.out k hlt
      have hs:=HSUM.out k hlt
      have hle1:=HLE.out (k+1)
      rw [hs,List.length_append] at hle1
      have HS:=Lib.hid hs
      clear hacts hs
      obtain ⟨m,hm⟩ : ∃ m,m=(ls.take k).flatten.length:=⟨_,rfl⟩
      obtain ⟨m2,hm2⟩ : ∃ m2,m2=ls[k].length:=⟨_,rfl⟩
      have HM:=Lib.hid hm;have HM2:=Lib.hid hm2
      rw [<- hm,<- hm2] at hle1
      rw [<- hm2] at hcell
      rw [<- hm]
      clear hm hm2
      have q1 : ¬ ((m : Int)+(m2 : Int) < 0):=by omega
      go_wp2_with fail
      refine ⟨⟨k+1,by omega,by go_num,?_,HBW.out⟩,by simp [intOf];omega⟩
      rw [HS.out,List.length_append,<- HM.out,<- HM2.out]
      go_num
    · have hke : k=ls.length:=by omega
      subst hke
      rw [List.take_length]
      obtain ⟨T,hT⟩ : ∃ T,T=ls.flatten.length:=⟨_,rfl⟩
      have HT:=Lib.hid hT
      rw [<- hT]
      have hT0 : 0 < T:=by rw [hT];exact HN.out
      have hT4 : T <= 400:=by rw [hT];exact HL.out
      clear hT
      go_upto_region 10 with (go_at_call 25;refine (grow_any T _ hT0 hT4).mono ?_;rintro e w1 ⟨hb1,ga,gc,rfl,hv1⟩;have HB1:=Lib.hid hb1;have HV1:=Lib.hid hv1;clear hb1 hv1)
      obtain ⟨z,hz⟩ : ∃ z,z=wr.heap.size:=⟨_,rfl⟩
      have HST : Hid (OwnAct w1 z (.slice ga 0 gc) ((ls.take 0).flatten)):=by rw [hz];exact HV1.out
      have HZ : Hid (w.heap.size <= z /\ z <= w1.heap.size):=by rw [hz];exact ⟨HBW.out.size,HB1.out.size⟩
      have HBW1 : Hid (Below w.heap.size w w1):=HBW.out.trans (HB1.out.mono HBW.out.size)
      clear HV1 hz
      go_wp2_with fail
      go_loopw [6,27] (fun u6 u wr2=>∃ k : Nat,k <= ls.length /\ u = .int .i64 k /\ OwnAct wr2 z u6 ((ls.take k).flatten) /\ Below w.heap.size w wr2 /\ z <= wr2.heap.size) (fun _ u _=>ls.length - (intOf u).toNat)
      case atStart=>exact ⟨0,Nat.zero_le _,rfl,HST.out,HBW1.out,HZ.out.2⟩
      case round =>
        obtain ⟨k,hkl,rfl,ho,hb2,hz2⟩:=hrel
        have HO:=Lib.hid ho;have HB2:=Lib.hid hb2;have HZ2:=Lib.hid hz2;clear ho hb2 HST HB1 HBW1 hz2
        by_cases hlt : k < ls.length
        · have hlt' : (k : Int) < (ls.length : Int):=by omega
          obtain ⟨a,c,hcell,hacts⟩:=HAT.out _ HB2.out k hlt
          have hs:=HSUM.out k hlt
          have hle1:=HLE.out (k+1)
          rw [hs,List.length_append] at hle1
          have HS:=Lib.hid hs;have HLE1:=Lib.hid hle1;have HACT:=Lib.hid hacts
          clear hs hacts hle1
          go_wp2_with (at_builtin;refine wpl_append_Act rfl _ _ rfl z u6 _ rfl HO.out _ ls[k] rfl HACT.out.2 (by have:=HLE1.out;omega) HZ2.out ?_;intro v3 w3 hv3 hg3 hn3;have HV3:=Lib.hid hv3;have HG3:=Lib.hid hg3;clear hv3 hg3 hn3)
          refine ⟨⟨k+1,by omega,by go_num,?_,HB2.out.grown HG3.out HB2.out.size fun j hj=>Nat.le_trans HZ.out.1 (HO.out.lt hj).1,Nat.le_trans HZ2.out HG3.out.size⟩,by simp [intOf];omega⟩
          rw [HS.out];exact HV3.out
        · have hke : k=ls.length:=by omega
          subst hke
          rw [List.take_length] at HO
          obtain ⟨ua,uc,rfl⟩:=HO.out.shape
          rw [<- HT.out] at HO ⊢
          go_wp2_with fail
          refine bodyPost_ret (v:=.slice ua T uc) (by simp [results,Try.results18,go_sem, *]) rfl ⟨HB2.out,ua,uc,?_,?_⟩
          · rw [HT.out]
          · rw [<- HT.out];exact HO.out.mono HZ.out.1
end Go.Proofs.Ytbeilcaadpopmac
namespace Go.Proofs.Ytbeilcaadpopmac
open Go.RowKit Go.Maps
def getsT (t : Nat) : List ActM:=[beginA t,getA t 0 0,getA t 0 1,getA t 0 2,getA t 1 0,getA t 1 1,getA t 1 2,getA t 2 0,getA t 2 1,getA t 2 2,getA t 3 0,getA t 3 1,getA t 3 2,abortA t]
def getsL : List ActM:=getsT 0 ++ getsT 1 ++ getsT 2 ++ getsT 3
theorem getsT_read {t : Nat} (ht : t < 4) : ∀ c ∈ getsT t,ReadAct c:=by
  intro c hc
  simp only [getsT,List.mem_cons,List.not_mem_nil,or_false] at hc
  rcases hc with rfl | rfl | rfl | rfl | rfl | rfl | rfl | rfl | rfl | rfl | rfl | rfl | rfl | rfl
  · exact ⟨t,ht,.inl rfl⟩
  · exact ⟨t,ht,.inr (.inr ⟨0,0,by omega,rfl⟩)⟩
  · exact ⟨t,ht,.inr (.inr ⟨0,1,by omega,rfl⟩)⟩
  · exact ⟨t,ht,.inr (.inr ⟨0,2,by omega,rfl⟩)⟩
  · exact ⟨t,ht,.inr (.inr ⟨1,0,by omega,rfl⟩)⟩
  · exact ⟨t,ht,.inr (.inr ⟨1,1,by omega,rfl⟩)⟩
  · exact ⟨t,ht,.inr (.inr ⟨1,2,by omega,rfl⟩)⟩
  · exact ⟨t,ht,.inr (.inr ⟨2,0,by omega,rfl⟩)⟩
  · exact ⟨t,ht,.inr (.inr ⟨2,1,by omega,rfl⟩)⟩
  · exact ⟨t,ht,.inr (.inr ⟨2,2,by omega,rfl⟩)⟩
  · exact ⟨t,ht,.inr (.inr ⟨3,0,by omega,rfl⟩)⟩
  · exact ⟨t,ht,.inr (.inr ⟨3,1,by omega,rfl⟩)⟩
  · exact ⟨t,ht,.inr (.inr ⟨3,2,by omega,rfl⟩)⟩
  · exact ⟨t,ht,.inr (.inl rfl)⟩
theorem getsL_read : ∀ c ∈ getsL,ReadAct c:=by
  intro c hc
  simp only [getsL,List.mem_append] at hc
  rcases hc with ((hc | hc) | hc) | hc
  · exact getsT_read (by omega) c hc
  · exact getsT_read (by omega) c hc
  · exact getsT_read (by omega) c hc
  · exact getsT_read (by omega) c hc
theorem getsL_len : getsL.length=56:=rfl
theorem gets_begin {t : Nat} (ht : t < 4) : getsL.take (14 * t) ++ [beginA t]=getsL.take (14 * t+1+3 * 0):=by
  rcases (show t=0 \/ t=1 \/ t=2 \/ t=3 by omega) with rfl | rfl | rfl | rfl <;> rfl
theorem gets_get {t r n : Nat} (ht : t < 4) (hr : r < 4) (hn : n < 3) : getsL.take (14 * t+1+3 * r+n) ++ [getA t r n]=getsL.take (14 * t+1+3 * r+(n+1)):=by
  rcases (show t=0 \/ t=1 \/ t=2 \/ t=3 by omega) with rfl | rfl | rfl | rfl <;> rcases (show r=0 \/ r=1 \/ r=2 \/ r=3 by omega) with rfl | rfl | rfl | rfl <;> rcases (show n=0 \/ n=1 \/ n=2 by omega) with rfl | rfl | rfl <;> rfl
theorem gets_abort {t : Nat} (ht : t < 4) : getsL.take (14 * t+1+3 * 4) ++ [abortA t]=getsL.take (14 * (t+1)):=by
  rcases (show t=0 \/ t=1 \/ t=2 \/ t=3 by omega) with rfl | rfl | rfl | rfl <;> rfl
theorem gets_le (k : Nat) : (getsL.take k).length < 100:=by
  rw [List.length_take,getsL_len];omega
theorem beginA_ok {t : Nat} (ht : t < 4) : OkAct (beginA t):=by constructor <;> simp only [beginA] <;> omega
theorem abortA_ok {t : Nat} (ht : t < 4) : OkAct (abortA t):=by constructor <;> simp only [abortA] <;> omega
theorem getA_ok {t r n : Nat} (ht : t < 4) (hr : r < 4) (hn : n < 3) : OkAct (getA t r n):=by constructor <;> simp only [getA] <;> omega
def midB (c : ActM) : Bool:=!(c.kind == 1) && !(c.kind == 2) && !(c.kind == 3)
theorem midB_snoc (l : List ActM) {k : Nat} (hk : k < l.length) : (l.take (k+1)).filter midB=(l.take k).filter midB ++ (if midB l[k] then [l[k]] else []):=by
  rw [List.take_succ_eq_append_getElem hk,List.filter_append]
  congr 1
  cases h : midB l[k] <;> simp [h]
theorem midB_le (l : List ActM) (k : Nat) (hl : l.length <= 20) : ((l.take k).filter midB).length <= 20:=by
  have:=List.length_filter_le midB (l.take k)
  rw [List.length_take] at this
  omega
theorem midB_act {B : List ActM} (h : ∀ r ∈ B,OkAct r /\ r.t < 1 /\ (r.kind=8 -> 0 <= r.n /\ r.n < 1)) (hc : ∀ r ∈ B,cleaning r=false) : ∀ c ∈ B.filter midB,MidAct c:=by
  intro c hc2
  obtain ⟨h1,h2⟩:=List.mem_filter.1 hc2
  obtain ⟨ho,ht,hn⟩:=h c h1
  simp only [midB,Bool.and_eq_true,Bool.not_eq_true',beq_eq_false_iff_ne] at h2
  have:=ho.t
  exact ⟨by omega,h2.1.1,h2.1.2,h2.2,hc c h1,fun q=>by have:=hn q;omega⟩
theorem rows_built (w : World) (cs : Array Value) (ls : List (List ActM)) (ty : TypeId) {n m : Nat} (hn : n=w.heap.size) (hm : m=ls.length) (hl : cs.size=ls.length)
    (h : ∀ i (hi : i < ls.length),∃ a c,cs[i]? = some (.slice a ls[i].length c) /\ Acts w (.slice a ls[i].length c) ls[i]) : RowsA (w.alloc (.cells cs ty)) (.slice (some ⟨n,0,none⟩) m m) ls:=by
  subst hn hm
  refine ⟨w.heap.size,0,rfl,by simp,fun i hi=>?_⟩
  obtain ⟨a,c,h1,h2⟩:=h i hi
  refine ⟨a,c,?_,h2.below (Nat.le_refl _) ((Below.refl _ w).alloc (Nat.le_refl _) _)⟩
  rw [Nat.zero_add]
  simpa using h1
theorem cellsAns_drop : ∀ (l : List AnsM) (k : Nat),cellsAns (l.drop k)=(cellsAns l).drop (k * 7)
  | [],k=>by simp [cellsAns]
  | m :: ms,0=>by simp
  | m :: ms,k+1=>by
    have e : cellsAns (m :: ms) = .int .i64 m.code :: .bool m.is :: .int .i64 m.number :: .bool m.yes :: .int .i64 m.words :: .bool m.going :: .int .i64 m.freed :: cellsAns ms:=rfl
    rw [List.drop_succ_cons,e,cellsAns_drop ms k,show (k+1) * 7=k * 7+1+1+1+1+1+1+1 by omega]
    simp only [List.drop_succ_cons]
theorem AnsRow.last {w : World} {b o n c k : Nat} {l : List AnsM} (h : AnsRow w (.slice (some ⟨b,o,none⟩) n c) l) (hn : n=l.length) (hk : k <= n) : AnsRow w (.slice (some ⟨b,o+k * 7,none⟩) (n - k) (c - k)) (l.drop k):=by
  subst hn
  obtain ⟨h1,h2,a',c',e,h3,h4,h5,h6⟩:=h
  simp only [Value.slice.injEq,true_and] at e
  obtain ⟨rfl,rfl⟩:=e
  refine ⟨cellsAns_len _,by rw [List.length_drop];omega,_,c - k,by rw [List.length_drop],by rw [List.length_drop];omega,by omega,fun e=>(by cases e),fun h0=>?_⟩
  rw [List.length_drop] at h0
  obtain ⟨b',o',e1,hb,hc⟩:=h6 (by omega)
  simp only [Option.some.injEq,Addr.mk.injEq,and_true] at e1
  obtain ⟨rfl,rfl⟩:=e1
  refine ⟨b,o+k * 7,rfl,hb,fun i hi=>?_⟩
  rw [cellsAns_drop,List.length_drop] at hi
  rw [Nat.add_assoc,hc _ (by omega),cellsAns_drop,List.getD_eq_getElem?_getD,List.getD_eq_getElem?_getD,List.getElem?_drop]
set_option maxRecDepth 100000 in
set_option maxHeartbeats 8000000 in
theorem topUndone_any (v m : Value) (rs ms : List Raw4) (w : World) (h : Raws w v rs) (hm : Raws w m ms) : Calls Try.prog 6 #[v,m] w fun e w'=>e = .returned (.bool true) /\ Below w.heap.size w w':=by
  have HR : Hid (∀ W,Below w.heap.size w W -> Raws W v rs):=fun W hW=>h.below (Nat.le_refl _) hW
  have HM : Hid (∀ W,Below w.heap.size w W -> Raws W m ms):=fun W hW=>hm.below (Nat.le_refl _) hW
  clear h hm
  go_enter Try.func6,Try.ntmps6
  go_upto_region 2 with (first
    | (go_at_call 7;refine (shared_any _).mono ?_;rintro e w1 ⟨hb1,a1,c1,rfl,hv1⟩;have HS1 : Hid (Sofar w w1 (.slice a1 12 c1) sharedL):=⟨hv1,hb1,shared_ok⟩;clear hb1 hv1)
    | (go_at_call 8;refine (plain_any v rs 30 4 w1 (HR.out _ HS1.out.2.1) (by omega) (by omega)).mono ?_;rintro e w2 ⟨hb2,l,a2,c2,rfl,hv2,hl,hok,hpl⟩;have HS2:=Lib.hid (HS1.out.below hb2);have HV2:=Lib.hid hv2;have HOK:=Lib.hid hok;have HPL:=Lib.hid hpl;clear hb2 hv2 hok hpl)
    | (at_builtin;refine wpl_append_So rfl _ _ rfl (.slice a1 12 c1) sharedL rfl HS2.out _ l rfl HV2.out.row (fun r hr=>(HOK.out r hr).1) (by rw [sharedL_len];omega) ?_;intro v3 w3 hs3 hg3;have HS3:=Lib.hid hs3;clear hs3 hg3))
  obtain ⟨A,hA⟩ : ∃ A,A=sharedL ++ l:=⟨_,rfl⟩
  have hAl : A.length <= 42:=by rw [hA,List.length_append,sharedL_len];omega
  have HPA : Hid (∀ r ∈ A,cleaning r=false):=fun r hr=>by rw [hA] at hr;exact (List.mem_append.1 hr).elim ((by decide : ∀ r ∈ sharedL,cleaning r=false) r) (HPL.out r)
  rw [<- hA] at HS3
  clear hA HS2 HV2 HOK HR HS1 HPL
  have HST : Hid (Sofar w w3 v3 (A ++ shutAll.take 0)):=by rw [List.take_zero,List.append_nil];exact HS3.out
  go_wp2_with fail
  go_loopw [5,22] (fun u3 u wr=>∃ k : Nat,k <= 4 /\ u = .int .i64 k /\ Sofar w wr u3 (A ++ shutAll.take k)) (fun _ u _=>4 - (intOf u).toNat)
  case atStart=>exact ⟨0,by omega,rfl,HST.out⟩
  case round =>
    obtain ⟨k,hk4,rfl,hs⟩:=hrel
    have HS:=Lib.hid hs
    clear hs HST HS3
    by_cases hk : k < 4
    · have hk' : (k : Int) < 4:=by omega
      have HN : Hid (A ++ shutAll.take k ++ [abortA k]=A ++ shutAll.take (k+1) /\ OkAct (abortA k) /\ (A ++ shutAll.take k).length < 800):=by
        refine ⟨?_,abortA_ok hk,?_⟩
        · rw [List.append_assoc];rcases (show k=0 \/ k=1 \/ k=2 \/ k=3 by omega) with rfl | rfl | rfl | rfl <;> rfl
        · rw [List.length_append,List.length_take];omega
      go_wp2_with (at_builtin;refine wpl_append_So rfl _ _ rfl u5 (A ++ shutAll.take k) rfl (HS.out.below (by repeat (first | exact Below.refl _ _ | with_reducible refine below_drewN ?_ _ | with_reducible refine Below.drew ?_ | with_reducible refine Below.alloc ?_ (by first | exact Nat.le_refl _ | (simp;done) | omega | (simp;omega)) _ | with_reducible refine Below.setCell ?_ (by first | exact Nat.le_refl _ | (simp;done) | omega | (simp;omega)) _))) _ [abortA k] rfl (row_Act _ (abortA k) rfl) (by intro r hr;rw [List.mem_singleton.1 hr];exact HN.out.2.1) (by have:=HN.out.2.2;simp only [List.length_singleton];omega) ?_;intro v9 w9 hs9 hg9;rw [HN.out.1] at hs9;have HS9:=Lib.hid hs9;clear hs9 hg9)
      exact ⟨⟨k+1,by omega,by go_num,HS9.out⟩,by simp [intOf];omega⟩
    · have : k = 4 := by omega
      subst this
      obtain ⟨L,hL⟩ : ∃ L,L=A ++ shutAll:=⟨_,rfl⟩
      have HL : Hid (L=A ++ shutAll):=hL
      have hLl : L.length <= 46 /\ 0 < L.length:=by rw [hL,List.length_append];have : shutAll.length=4:=rfl;omega
      rw [show A ++ shutAll.take 4=L from hL.symm] at HS
      clear hL
      obtain ⟨la,lc,rfl⟩:=HS.out.shape
      go_upto_region 9 with (go_at_call 8;refine (plain_any m ms 20 1 wr (HM.out _ HS.out.2.1) (by omega) (by omega)).mono ?_;rintro e w5 ⟨hb5,B,a5,c5,rfl,hv5,hBl,hok,hpl⟩;have HB5:=Lib.hid hb5;have HV5:=Lib.hid hv5;have HOK:=Lib.hid hok;have HPB:=Lib.hid hpl;clear hb5 hv5 hok hpl)
      have HS5:=Lib.hid (HS.out.below HB5.out)
      clear HS HB5 HM
      have HBR : Hid (∀ W,Below w5.heap.size w5 W -> Acts W (.slice a5 B.length c5) B):=fun W hW=>(HV5.out.below hW).acts fun r hr=>(HOK.out r hr).1.I
      have HMID : Hid (∀ c ∈ B.filter midB,MidAct c):=midB_act HOK.out HPB.out
      have HST : Hid (Sofar w5 w5 (.slice none 0 0) ((B.take 0).filter midB)):=Sofar.nil w5 (Below.refl _ _)
      have hBl2 : B.length <= 20:=by omega
      go_wp2_with fail
      go_loopw [7,34] (fun u7 u wr=>∃ k : Nat,k <= B.length /\ u = .int .i64 k /\ Sofar w5 wr u7 ((B.take k).filter midB)) (fun _ u _=>B.length - (intOf u).toNat)
      case atStart=>exact ⟨0,Nat.zero_le _,rfl,HST.out⟩
      case round =>
        obtain ⟨k,hk,rfl,hs⟩:=hrel
        have HS:=Lib.hid hs
        clear hs HST
        by_cases hlt : k < B.length
        · obtain ⟨b,o,rfl,hbz,hat⟩:=(HBR.out wr HS.out.2.1).at (by omega)
          obtain ⟨⟨q0,q1,q2,q3,q4⟩,_⟩:=hat k hlt
          have HSN : Hid ((B.take (k+1)).filter midB=(B.take k).filter midB ++ (if midB B[k] then [B[k]] else [])):=midB_snoc B hlt
          have HOX : Hid (OkAct B[k]):=(HOK.out _ (List.getElem_mem hlt)).1
          have HLE : Hid (((B.take k).filter midB).length <= 20):=midB_le B k hBl2
          have hlt' : (k : Int) < (B.length : Int):=by omega
          clear hat
          generalize B[k]=x at q0 q1 q2 q3 q4 HSN HOX
          have HSB:=Lib.hid (HS.out.below (w':=wr.alloc (.cells #[.int .i64 x.kind,.int .i64 x.t,.int .i64 x.a,.int .i64 x.b,.int .i64 x.n] 27)) (by repeat (first | exact Below.refl _ _ | with_reducible refine below_drewN ?_ _ | with_reducible refine Below.drew ?_ | with_reducible refine Below.alloc ?_ (by first | exact Nat.le_refl _ | (simp;done) | omega | (simp;omega)) _ | with_reducible refine Below.setCell ?_ (by first | exact Nat.le_refl _ | (simp;done) | omega | (simp;omega)) _)))
          by_cases e1 : x.kind=1
          · have hm : midB x=false:=by simp [midB,e1]
            rw [hm] at HSN
            rw [e1] at q0
            go_wp2_with fail
            refine ⟨⟨k+1,by omega,by go_num,?_⟩,by simp [intOf];omega⟩
            rw [HSN.out]
            simp only [Bool.false_eq_true,if_false,List.append_nil]
            exact HS.out.below (by repeat (first | exact Below.refl _ _ | with_reducible refine below_drewN ?_ _ | with_reducible refine Below.drew ?_ | with_reducible refine Below.alloc ?_ (by first | exact Nat.le_refl _ | (simp;done) | omega | (simp;omega)) _ | with_reducible refine Below.setCell ?_ (by first | exact Nat.le_refl _ | (simp;done) | omega | (simp;omega)) _))
          by_cases e2 : x.kind=2
          · have hm : midB x=false:=by simp [midB,e2]
            rw [hm] at HSN
            rw [e2] at q0
            go_wp2_with fail
            refine ⟨⟨k+1,by omega,by go_num,?_⟩,by simp [intOf];omega⟩
            rw [HSN.out]
            simp only [Bool.false_eq_true,if_false,List.append_nil]
            exact HS.out.below (by repeat (first | exact Below.refl _ _ | with_reducible refine below_drewN ?_ _ | with_reducible refine Below.drew ?_ | with_reducible refine Below.alloc ?_ (by first | exact Nat.le_refl _ | (simp;done) | omega | (simp;omega)) _ | with_reducible refine Below.setCell ?_ (by first | exact Nat.le_refl _ | (simp;done) | omega | (simp;omega)) _))
          by_cases e3 : x.kind=3
          · have hm : midB x=false:=by simp [midB,e3]
            rw [hm] at HSN
            rw [e3] at q0
            go_wp2_with fail
            refine ⟨⟨k+1,by omega,by go_num,?_⟩,by simp [intOf];omega⟩
            rw [HSN.out]
            simp only [Bool.false_eq_true,if_false,List.append_nil]
            exact HS.out.below (by repeat (first | exact Below.refl _ _ | with_reducible refine below_drewN ?_ _ | with_reducible refine Below.drew ?_ | with_reducible refine Below.alloc ?_ (by first | exact Nat.le_refl _ | (simp;done) | omega | (simp;omega)) _ | with_reducible refine Below.setCell ?_ (by first | exact Nat.le_refl _ | (simp;done) | omega | (simp;omega)) _))
          have hm : midB x=true:=by simp [midB,e1,e2,e3]
          rw [hm] at HSN
          have f1 : (x.kind == 1)=false:=beq_eq_false_iff_ne.2 e1
          have f2 : (x.kind == 2)=false:=beq_eq_false_iff_ne.2 e2
          have f3 : (x.kind == 3)=false:=beq_eq_false_iff_ne.2 e3
          have g1 : (x.kind != 1)=true:=by simp [e1]
          have g2 : (x.kind != 2)=true:=by simp [e2]
          have g3 : (x.kind != 3)=true:=by simp [e3]
          go_wp2_with (at_builtin;refine wpl_append_So rfl _ _ rfl u7 _ rfl (HS.out.below (by repeat (first | exact Below.refl _ _ | with_reducible refine below_drewN ?_ _ | with_reducible refine Below.drew ?_ | with_reducible refine Below.alloc ?_ (by first | exact Nat.le_refl _ | (simp;done) | omega | (simp;omega)) _ | with_reducible refine Below.setCell ?_ (by first | exact Nat.le_refl _ | (simp;done) | omega | (simp;omega)) _))) _ [x] rfl (row_Act _ x (by simp)) (by intro r hr;rw [List.mem_singleton.1 hr];exact HOX.out) (by have:=HLE.out;simp only [List.length_singleton];omega) ?_;intro v9 w9 hs9 hg9;have HS9:=Lib.hid hs9;clear hs9 hg9)
          refine ⟨⟨k+1,by omega,by go_num,?_⟩,by simp [intOf];omega⟩
          rw [HSN.out]
          exact HS9.out
        · have hke : k=B.length:=by omega
          subst hke
          rw [List.take_length] at HS
          rename World=>w6
          obtain ⟨M,hM⟩ : ∃ M,M=B.filter midB:=⟨_,rfl⟩
          have HMD : Hid (∀ c ∈ M,MidAct c):=by rw [hM];exact HMID.out
          have hMl : M.length <= 20:=by rw [hM];exact Nat.le_trans (List.length_filter_le _ _) hBl2
          rw [<- hM] at HS
          obtain ⟨ma,mc,rfl⟩:=HS.out.shape
          have HS6 : Hid (Sofar w w6 (.slice la L.length lc) L):=HS5.out.below HS.out.2.1
          have HM6 : Hid (Acts w6 (.slice ma M.length mc) M /\ ∀ r ∈ M,OkAct r):=⟨HS.out.acts,HS.out.2.2⟩
          have HST : Hid (Sofar w6 w6 (.slice none 0 0) (getsL.take (14 * 0))):=Sofar.nil w6 (Below.refl _ _)
          clear HS HS5 HMID hM HBR HOK HPB HV5
          go_wp2_with fail
          go_loopw [10,56] (fun u10 u wr=>∃ k : Nat,k <= 4 /\ u = .int .i64 k /\ Sofar w6 wr u10 (getsL.take (14 * k))) (fun _ u _=>4 - (intOf u).toNat)
          case atStart=>exact ⟨0,by omega,rfl,HST.out⟩
          case round =>
            obtain ⟨k,hk4,rfl,hs⟩:=hrel
            have HS:=Lib.hid hs
            clear hs HST
            by_cases hk : k < 4
            · have hk' : (k : Int) < 4:=by omega
              have HN : Hid (getsL.take (14 * k) ++ [beginA k]=getsL.take (14 * k+1+3 * 0)):=gets_begin hk
              go_wp2_with (at_builtin;refine wpl_append_So rfl _ _ rfl u10 (getsL.take (14 * k)) rfl (HS.out.below (by repeat (first | exact Below.refl _ _ | with_reducible refine below_drewN ?_ _ | with_reducible refine Below.drew ?_ | with_reducible refine Below.alloc ?_ (by first | exact Nat.le_refl _ | (simp;done) | omega | (simp;omega)) _ | with_reducible refine Below.setCell ?_ (by first | exact Nat.le_refl _ | (simp;done) | omega | (simp;omega)) _))) _ [beginA k] rfl (row_Act _ (beginA k) rfl) (by intro s hs;rw [List.mem_singleton.1 hs];exact beginA_ok hk) (by have:=gets_le (14 * k);simp only [List.length_singleton];omega) ?_;intro v9 w9 hs9 hg9;rw [HN.out] at hs9;have HS9:=Lib.hid hs9;clear hs9 hg9)
              clear HN HS
              go_loopw [10,64] (fun u10 u wq=>∃ r : Nat,r <= 4 /\ u = .int .i64 r /\ Sofar w6 wq u10 (getsL.take (14 * k+1+3 * r))) (fun _ u _=>4 - (intOf u).toNat)
              case atStart=>exact ⟨0,by omega,rfl,HS9.out⟩
              case round =>
                obtain ⟨r,hr4,rfl,hs⟩:=hrel
                have HS:=Lib.hid hs
                clear hs HS9
                by_cases hr : r < 4
                · have hr' : (r : Int) < 4:=by omega
                  have HST : Hid (Sofar w6 wr u10 (getsL.take (14 * k+1+3 * r+0))):=HS.out
                  clear HS
                  go_wp2_with fail
                  go_loopw [10,67] (fun u10 u wq=>∃ n : Nat,n <= 3 /\ u = .int .i64 n /\ Sofar w6 wq u10 (getsL.take (14 * k+1+3 * r+n))) (fun _ u _=>3 - (intOf u).toNat)
                  case atStart=>exact ⟨0,by omega,rfl,HST.out⟩
                  case round =>
                    obtain ⟨n,hn3,rfl,hs⟩:=hrel
                    have HS:=Lib.hid hs
                    clear hs HST
                    by_cases hn : n < 3
                    · have hn' : (n : Int) < 3:=by omega
                      have HN : Hid (getsL.take (14 * k+1+3 * r+n) ++ [getA k r n]=getsL.take (14 * k+1+3 * r+(n+1))):=gets_get hk hr hn
                      go_wp2_with (at_builtin;refine wpl_append_So rfl _ _ rfl u10 (getsL.take (14 * k+1+3 * r+n)) rfl (HS.out.below (by repeat (first | exact Below.refl _ _ | with_reducible refine below_drewN ?_ _ | with_reducible refine Below.drew ?_ | with_reducible refine Below.alloc ?_ (by first | exact Nat.le_refl _ | (simp;done) | omega | (simp;omega)) _ | with_reducible refine Below.setCell ?_ (by first | exact Nat.le_refl _ | (simp;done) | omega | (simp;omega)) _))) _ [getA k r n] rfl (row_Act _ (getA k r n) rfl) (by intro s hs;rw [List.mem_singleton.1 hs];exact getA_ok hk hr hn) (by have:=gets_le (14 * k+1+3 * r+n);simp only [List.length_singleton];omega) ?_;intro v9 w9 hs9 hg9;rw [HN.out] at hs9;have HS9:=Lib.hid hs9;clear hs9 hg9)
                      exact ⟨⟨n+1,by omega,by go_num,HS9.out⟩,by simp [intOf];omega⟩
                    · have : n=3:=by omega
                      subst this
                      go_wp2_with fail
                      exact ⟨⟨r+1,by omega,by go_num,HS.out⟩,by simp [intOf];omega⟩
                · have : r=4:=by omega
                  subst this
                  have HN : Hid (getsL.take (14 * k+1+3 * 4) ++ [abortA k]=getsL.take (14 * (k+1))):=gets_abort hk
                  go_wp2_with (at_builtin;refine wpl_append_So rfl _ _ rfl u10 (getsL.take (14 * k+1+3 * 4)) rfl (HS.out.below (by repeat (first | exact Below.refl _ _ | with_reducible refine below_drewN ?_ _ | with_reducible refine Below.drew ?_ | with_reducible refine Below.alloc ?_ (by first | exact Nat.le_refl _ | (simp;done) | omega | (simp;omega)) _ | with_reducible refine Below.setCell ?_ (by first | exact Nat.le_refl _ | (simp;done) | omega | (simp;omega)) _))) _ [abortA k] rfl (row_Act _ (abortA k) rfl) (by intro s hs;rw [List.mem_singleton.1 hs];exact abortA_ok hk) (by have:=gets_le (14 * k+1+3 * 4);simp only [List.length_singleton];omega) ?_;intro v9 w9 hs9 hg9;rw [HN.out] at hs9;have HS9:=Lib.hid hs9;clear hs9 hg9)
                  exact ⟨⟨k+1,by omega,by go_num,HS9.out⟩,by simp [intOf];omega⟩
            · have : k=4:=by omega
              subst this
              rename World=>w7
              have HG : Hid (Sofar w6 w7 u10 getsL):=HS.out
              clear HS
              obtain ⟨G,hG⟩ : ∃ G,G=getsL:=⟨_,rfl⟩
              have hGl : G.length=56:=by rw [hG];exact getsL_len
              have HGR : Hid (∀ c ∈ G,ReadAct c):=by rw [hG];exact getsL_read
              rw [<- hG] at HG
              clear hG
              obtain ⟨ga,gc,rfl⟩:=HG.out.shape
              have HSL : Hid (Acts w7 (.slice la L.length lc) L):=(HS6.out.below HG.out.2.1).acts
              have HML : Hid (Acts w7 (.slice ma M.length mc) M):=HM6.out.1.below (Nat.le_refl _) HG.out.2.1
              have HGL : Hid (Acts w7 (.slice ga G.length gc) G):=HG.out.acts
              have HOK : Hid ((∀ r ∈ L,OkAct r) /\ (∀ r ∈ M,OkAct r) /\ ∀ r ∈ G,OkAct r):=⟨HS6.out.2.2,HM6.out.2,HG.out.2.2⟩
              have HBW7 : Hid (Below w.heap.size w w7):=HS6.out.2.1.trans (HG.out.2.1.mono HS6.out.2.1.size)
              clear HS6 HM6 HG
              obtain ⟨L1,hL1⟩ : ∃ L1,L1=L ++ G:=⟨_,rfl⟩
              have hF1 : [L,G].flatten=L1:=by rw [hL1];simp
              have HF1:=Lib.hid hF1
              have HL1 : Hid (L1.length=L.length+56):=by rw [Hid,hL1,List.length_append,hGl]
              have HI1 : Hid (∀ r ∈ L1,I64 r.kind /\ I64 r.t /\ I64 r.a /\ I64 r.b /\ I64 r.n):=fun r hr=>by
                rw [hL1] at hr
                exact (List.mem_append.1 hr).elim (fun h=>(HOK.out.1 r h).I) (fun h=>(HOK.out.2.2 r h).I)
              have HE1:=Lib.hid hL1
              have HGLN:=Lib.hid hGl
              clear hF1 hL1 hGl
              have HRW1 : Hid (∀ n,n=w7.heap.size -> RowsA (w7.alloc (.cells #[.slice la L.length lc,.slice ga G.length gc] 23)) (.slice (some ⟨n,0,none⟩) 2 2) [L,G]):=fun n hn =>
                rows_built w7 _ [L,G] _ hn rfl rfl (fun i hi=>by
                  rcases (show i=0 \/ i=1 by simp at hi;omega) with rfl | rfl
                  · exact ⟨la,lc,rfl,HSL.out⟩
                  · exact ⟨ga,gc,rfl,HGL.out⟩)
              go_upto_region 31 with (first
                | (go_at_call 18;refine (concat_any _ [L,G] _ (HRW1.out _ rfl) (by rw [HF1.out,HL1.out];omega) (by rw [HF1.out,HL1.out];omega) (by simp)).mono ?_;rintro e w8 ⟨hb8,a8,c8,rfl,hv8⟩;rw [HF1.out] at hv8;rw [HF1.out];have HB8:=Lib.hid hb8;have HV8:=Lib.hid hv8;clear hb8 hv8)
                | (go_at_call 9;refine (trun_any _ L1 _ (HV8.out.acts HI1.out) (by rw [HL1.out];omega)).mono ?_;rintro e w9 ⟨hb9,a9,c9,rfl,hv9⟩;have HB9:=Lib.hid hb9;have HV9:=Lib.hid hv9;clear hb9 hv9))
              have HB79 : Hid (Below w7.heap.size w7 w9):=by
                have h8 : Below w7.heap.size w7 w8:=(by repeat (first | exact Below.refl _ _ | with_reducible refine Below.trans ?_ (Below.mono HB8.out (by first | exact Nat.le_refl _ | (simp;done) | omega | (simp;omega) | (have z0:=Below.size HB8.out;omega) | (have z0:=Below.size HB8.out;simp at *;omega))) | with_reducible refine below_drewN ?_ _ | with_reducible refine Below.drew ?_ | with_reducible refine Below.alloc ?_ (by first | exact Nat.le_refl _ | (simp;done) | omega | (simp;omega) | (have z0:=Below.size HB8.out;omega) | (have z0:=Below.size HB8.out;simp at *;omega)) _ | with_reducible refine Below.setCell ?_ (by first | exact Nat.le_refl _ | (simp;done) | omega | (simp;omega) | (have z0:=Below.size HB8.out;omega) | (have z0:=Below.size HB8.out;simp at *;omega)) _))
                exact h8.trans (HB9.out.mono h8.size)
              have HX1 : Hid (AnsRow w9 (.slice a9 L1.length c9) ((hall0 400).answers L1)):=HV9.out.ansRow
              have HSL9 : Hid (Acts w9 (.slice la L.length lc) L):=HSL.out.below (Nat.le_refl _) HB79.out
              have HML9 : Hid (Acts w9 (.slice ma M.length mc) M):=HML.out.below (Nat.le_refl _) HB79.out
              have HGL9 : Hid (Acts w9 (.slice ga G.length gc) G):=HGL.out.below (Nat.le_refl _) HB79.out
              have HBW9 : Hid (Below w.heap.size w w9):=HBW7.out.trans (HB79.out.mono HBW7.out.size)
              clear HSL HML HGL HV9 HB8 HV8 HB9 HB79 HBW7 HRW1 HI1 HF1
              obtain ⟨L2,hL2⟩ : ∃ L2,L2=L ++ (beginA 0 :: (M ++ [abortA 0])) ++ G:=⟨_,rfl⟩
              have HF2 : Hid ([L,[beginA 0],M,[abortA 0],G].flatten=L2):=by rw [Hid,hL2];simp
              have HL2 : Hid (L2.length=L.length+M.length+58):=by rw [Hid,hL2];simp only [List.length_append,List.length_cons,List.length_nil,HGLN.out];omega
              have HI2 : Hid (∀ r ∈ L2,I64 r.kind /\ I64 r.t /\ I64 r.a /\ I64 r.b /\ I64 r.n):=fun r hr=>by
                rw [hL2] at hr
                simp only [List.mem_append,List.mem_cons,List.not_mem_nil,or_false] at hr
                rcases hr with (hr | rfl | hr | rfl) | hr
                · exact (HOK.out.1 r hr).I
                · exact (beginA_ok (by omega)).I
                · exact (HOK.out.2.1 r hr).I
                · exact (abortA_ok (by omega)).I
                · exact (HOK.out.2.2 r hr).I
              have HE2:=Lib.hid hL2
              clear hL2
              have HRW2 : Hid (∀ n,n=w9.heap.size+1+1 -> RowsA (((w9.alloc (.cells #[.int .i64 1,.int .i64 0,.int .i64 0,.int .i64 0,.int .i64 0] 27)).alloc (.cells #[.int .i64 3,.int .i64 0,.int .i64 0,.int .i64 0,.int .i64 0] 27)).alloc (.cells #[.slice la L.length lc,.slice (some ⟨w9.heap.size,0,none⟩) 1 1,.slice ma M.length mc,.slice (some ⟨w9.heap.size+1,0,none⟩) 1 1,.slice ga G.length gc] 23)) (.slice (some ⟨n,0,none⟩) 5 5) [L,[beginA 0],M,[abortA 0],G]):=fun n hn=>by
                have hW : Below w9.heap.size w9 ((w9.alloc (.cells #[.int .i64 1,.int .i64 0,.int .i64 0,.int .i64 0,.int .i64 0] 27)).alloc (.cells #[.int .i64 3,.int .i64 0,.int .i64 0,.int .i64 0,.int .i64 0] 27)):=(by repeat (first | exact Below.refl _ _ | with_reducible refine below_drewN ?_ _ | with_reducible refine Below.drew ?_ | with_reducible refine Below.alloc ?_ (by first | exact Nat.le_refl _ | (simp;done) | omega | (simp;omega)) _ | with_reducible refine Below.setCell ?_ (by first | exact Nat.le_refl _ | (simp;done) | omega | (simp;omega)) _))
                have hb1:=acts_built w9 [beginA 0] #[.int .i64 1,.int .i64 0,.int .i64 0,.int .i64 0,.int .i64 0] 27 1 rfl rfl (by simp) (by simp) (fun r hr=>by rw [List.mem_singleton.1 hr];exact (beginA_ok (by omega)).I)
                have hb2:=acts_built (w9.alloc (.cells #[.int .i64 1,.int .i64 0,.int .i64 0,.int .i64 0,.int .i64 0] 27)) [abortA 0] #[.int .i64 3,.int .i64 0,.int .i64 0,.int .i64 0,.int .i64 0] 27 1 rfl rfl (by simp) (by simp) (fun r hr=>by rw [List.mem_singleton.1 hr];exact (abortA_ok (by omega)).I)
                refine rows_built _ _ [L,[beginA 0],M,[abortA 0],G] _ (by rw [hn];simp) rfl rfl (fun i hi=>?_)
                rcases (show i=0 \/ i=1 \/ i=2 \/ i=3 \/ i=4 by simp at hi;omega) with rfl | rfl | rfl | rfl | rfl
                · exact ⟨la,lc,rfl,HSL9.out.below (Nat.le_refl _) hW⟩
                · exact ⟨some ⟨w9.heap.size,0,none⟩,1,rfl,hb1.below (Nat.le_refl _) ((Below.refl _ _).alloc (Nat.le_refl _) _)⟩
                · exact ⟨ma,mc,rfl,HML9.out.below (Nat.le_refl _) hW⟩
                · refine ⟨some ⟨w9.heap.size+1,0,none⟩,1,rfl,?_⟩
                  simpa using hb2
                · exact ⟨ga,gc,rfl,HGL9.out.below (Nat.le_refl _) hW⟩
              go_upto_region 32 with (first
                | (go_at_call 18;refine (concat_any _ [L,[beginA 0],M,[abortA 0],G] _ (HRW2.out _ (by simp)) (by rw [HF2.out,HL2.out];omega) (by rw [HF2.out,HL2.out];omega) (by simp)).mono ?_;rintro e w10 ⟨hb10,a10,c10,rfl,hv10⟩;rw [HF2.out] at hv10;rw [HF2.out];have HB10:=Lib.hid hb10;have HV10:=Lib.hid hv10;clear hb10 hv10)
                | (go_at_call 9;refine (trun_any _ L2 _ (HV10.out.acts HI2.out) (by rw [HL2.out];omega)).mono ?_;rintro e w11 ⟨hb11,a11,c11,rfl,hv11⟩;have HB11:=Lib.hid hb11;have HV11:=Lib.hid hv11;clear hb11 hv11))
              have HB911 : Hid (Below w9.heap.size w9 w11):=by
                have h8 : Below w9.heap.size w9 w10:=(by repeat (first | exact Below.refl _ _ | with_reducible refine Below.trans ?_ (Below.mono HB10.out (by first | exact Nat.le_refl _ | (simp;done) | omega | (simp;omega) | (have z0:=Below.size HB10.out;omega) | (have z0:=Below.size HB10.out;simp at *;omega))) | with_reducible refine below_drewN ?_ _ | with_reducible refine Below.drew ?_ | with_reducible refine Below.alloc ?_ (by first | exact Nat.le_refl _ | (simp;done) | omega | (simp;omega) | (have z0:=Below.size HB10.out;omega) | (have z0:=Below.size HB10.out;simp at *;omega)) _ | with_reducible refine Below.setCell ?_ (by first | exact Nat.le_refl _ | (simp;done) | omega | (simp;omega) | (have z0:=Below.size HB10.out;omega) | (have z0:=Below.size HB10.out;simp at *;omega)) _))
                exact h8.trans (HB11.out.mono h8.size)
              have hx1:=HX1.out.below HB911.out
              have hx2:=HV11.out.ansRow
              have HBW11 : Hid (Below w.heap.size w w11):=HBW9.out.trans (HB911.out.mono HBW9.out.size)
              have hgl:=HGLN.out;have hl1:=HL1.out;have hl2:=HL2.out
              have hends : ((hall0 400).answers L1).drop L.length=((hall0 400).answers L2).drop (L.length+M.length+2):=by
                have:=undone_ends A M G HPA.out HMD.out HGR.out
                rw [<- HL.out,<- HE1.out,<- HE2.out] at this
                rw [this]
                congr 1
                simp only [List.length_append,List.length_cons,List.length_nil];omega
              have e1 : ((hall0 400).answers L1).length=L1.length:=answers_len _ _
              have e2 : ((hall0 400).answers L2).length=L2.length:=answers_len _ _
              obtain ⟨X1,hX1⟩ : ∃ X,X=(hall0 400).answers L1:=⟨_,rfl⟩
              obtain ⟨X2,hX2⟩ : ∃ X,X=(hall0 400).answers L2:=⟨_,rfl⟩
              rw [<- hX1] at hends e1 hx1
              rw [<- hX2] at hends e2 hx2
              obtain ⟨xb,xo,rfl,_,_⟩:=ansRow_at hx1 (by omega)
              obtain ⟨yb,yo,rfl,_,_⟩:=ansRow_at hx2 (by omega)
              obtain ⟨N1,hN1⟩ : ∃ N,N=L1.length:=⟨_,rfl⟩
              obtain ⟨N2,hN2⟩ : ∃ N,N=L2.length:=⟨_,rfl⟩
              obtain ⟨K,hK⟩ : ∃ N,N=L.length:=⟨_,rfl⟩
              obtain ⟨p,hp⟩ : ∃ p,p=K+M.length+2:=⟨_,rfl⟩
              rw [<- hN1] at hx1 e1 hl1
              rw [<- hN2] at hx2 e2 hl2
              rw [<- hK] at hends hl1 hl2 hLl
              rw [<- hp] at hends
              have k1 : K <= N1:=by omega
              have k2 : p <= N2:=by omega
              have k3 : N2=p+56:=by omega
              have k4 : N2 <= 200:=by omega
              have k5 : K < N1:=by omega
              have HA1:=Lib.hid (hx1.last e1.symm k1)
              have HA2:=Lib.hid (hx2.last e2.symm k2)
              rw [<- hends] at HA2
              obtain ⟨hc1,hc1'⟩ : N1 <= c9 /\ c9 <= 9223372036854775807:=by
                obtain ⟨a',c',e,h1,h2,_⟩:=Row.len hx1
                simp only [Value.slice.injEq] at e
                obtain ⟨_,_,rfl⟩:=e
                exact ⟨by omega,h2⟩
              obtain ⟨hc2,hc2'⟩ : N2 <= c11 /\ c11 <= 9223372036854775807:=by
                obtain ⟨a',c',e,h1,h2,_⟩:=Row.len hx2
                simp only [Value.slice.injEq] at e
                obtain ⟨_,_,rfl⟩:=e
                exact ⟨by omega,h2⟩
              rw [<- hN1,<- hN2,<- hK,hgl]
              clear hN1 hN2 hK hx1 hx2 hends hX1 hX2 e1 e2 HX1 HV11 HV10 HB10 HB11 HB911 HBW9 HSL9 HML9 HGL9 HRW2 HI2 HF2 HOK hgl hl1 hl2 HGLN HL1 HL2 HE1 HE2 HMD HGR HPA HL hp hMl
              have m2 : (K : Int) <= (N1 : Int):=by omega
              have m3 : (p : Int) <= (N2 : Int):=by omega
              have m4 : (N1 : Int) <= (c9 : Int):=by omega
              have m5 : (N2 : Int) <= (c11 : Int):=by omega
              have m6 : IntKind.i64.wrap ((N2 : Int) - 56)=(p : Int):=by rw [IntKind.wrap_i64];omega
              have q1 : ¬ c9=K:=by omega
              have q2 : ¬ c11=p:=by omega
              clear k3
              go_region_held3 (fun W=>Below w11.heap.size w11 W) (first | exact Below.refl _ _ | exact (Below.refl _ _).drew | exact below_drewN (Below.refl _ _) _ | exact (Below.refl _ w11).drew.trans (HB12.out.mono (Nat.le_refl _)) | exact (below_drewN (Below.refl _ w11) _).trans (HB12.out.mono (Nat.le_refl _)))
                ((go_at_call 11;refine (equalAns_same _ _ (X1.drop K) _ (HA1.out.below (by repeat (first | exact Below.refl _ _ | with_reducible refine below_drewN ?_ _ | with_reducible refine Below.drew ?_ | with_reducible refine Below.alloc ?_ (by first | exact Nat.le_refl _ | (simp;done) | omega | (simp;omega)) _ | with_reducible refine Below.setCell ?_ (by first | exact Nat.le_refl _ | (simp;done) | omega | (simp;omega)) _))) (HA2.out.below (by repeat (first | exact Below.refl _ _ | with_reducible refine below_drewN ?_ _ | with_reducible refine Below.drew ?_ | with_reducible refine Below.alloc ?_ (by first | exact Nat.le_refl _ | (simp;done) | omega | (simp;omega)) _ | with_reducible refine Below.setCell ?_ (by first | exact Nat.le_refl _ | (simp;done) | omega | (simp;omega)) _)))).mono ?_;rintro e w12 ⟨rfl,hb12⟩;have HB12:=Lib.hid hb12;clear hb12))
              have HBE : Hid (Below w11.heap.size w11 w12):=by
                rw [Hid]
                first
                  | exact (Below.refl _ w11).drew.trans (HB12.out.mono (Nat.le_refl _))
                  | exact (below_drewN (Below.refl _ w11) _).trans (HB12.out.mono (Nat.le_refl _))
              go_wp2_with fail
              refine bodyPost_ret (v:=.bool true) (by simp [results,Try.results6,go_sem, *]) rfl ⟨rfl,?_⟩
              exact HBW11.out.trans (HBE.out.mono HBW11.out.size)
end Go.Proofs.Ytbeilcaadpopmac
