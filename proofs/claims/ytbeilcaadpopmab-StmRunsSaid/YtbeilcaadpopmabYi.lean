/- Texts put together: J1, J2, J4, J5, J7. -/
import Derived.Test.YtbeilcaadpopmabYf
set_option linter.unusedVariables false
set_option linter.unusedSimpArgs false
namespace Go.Proofs.Ytbeilcaadpopmab
open Go.RowKit Go.Maps
set_option maxRecDepth 100000 in
set_option maxHeartbeats 2000000 in
theorem acted_abort (base:Nat) (w:World) (B:Nat) (nm:Rn) (H:Hall) (h:Rmem base w B nm H) (t:Nat) (ht:t<4) (a b n:Int) (ok:UndOk H t) :
    Calls Try.prog 67 #[.pointer (some ⟨B,0,none⟩),.agg #[.int .i64 3,.int .i64 (t:Int),.int .i64 a,.int .i64 b,.int .i64 n]] w (RetRA base w B nm H (H.abort t)):=by
  have HM:=Lib.hid h
  have i1:(t:Int)<4:=by omega
  have HTT:=Lib.hid ht
  have HOK:=Lib.hid ok
  clear h ok ht
  cases ho:(H.deals t).isOpen with
  | false =>
    have HP:Hid (H.abort t=(H,.err 5)):=by unfold Hid Hall.abort;rw[if_pos ho]
    rw[HP.out]
    have HO:=Lib.hid ho
    clear ho HP
    go_enter Try.func67,Try.ntmps67
    go_upto_region 40 with (first|(go_at_call 56;(with_reducible refine (in_kind 3 (by omega) _).mono ?_);rintro e w1 ⟨rfl,hb1⟩;obtain⟨HA,HR1,HR2,HB1,hz1⟩:=rows3 hb1;clear hb1;obtain⟨a0,a1,a2,a3,a4⟩:=HA.out.act)|(go_at_call 56;(with_reducible refine (in_reg t HTT.out _).mono ?_);rintro e _ ⟨rfl,rfl⟩))
    obtain⟨X2,hX2⟩:∃X2,X2=w.heap.size+1+1:=⟨_,rfl⟩
    rw[<- hX2] at HR2 ⊢
    obtain⟨X1,hX1⟩:∃X1,X1=w.heap.size+1:=⟨_,rfl⟩
    rw[<- hX1] at HR1 ⊢
    have hx:w.heap.size<X1/\X1<X2/\X2<w1.heap.size:=by omega
    have hx12:X1≠X2:=by omega
    have HF:=Lib.hid (AF.start HM.out HB1.out hx HA.out HR1.out HR2.out)
    have HM1:=Lib.hid HF.out.mem
    have hB1:=HM1.out.lt
    have hBX2:B≠X2:=by have:=HM.out.lt;omega
    have hBX1:B≠X1:=by have:=HM.out.lt;omega
    clear hX1 hX2 hz1 HA HR1 HR2
    have c0:=(HM1.out.cD HTT.out).1
    rw[HO.out] at c0
    obtain⟨⟨o0,o1,o2,o3,o4,o5,o6⟩,z0,z1,z2,z3,z4,z5,z6⟩:=HF.out.r2.ans
    obtain⟨⟨p0,p1,p2,p3,p4,p5,p6⟩,y0,y1,y2,y3,y4,y5,y6⟩:=HF.out.r1.ans
    go_wp2_with fail
    have HEND:Hid (RowAt (((((((((w1).setCell ⟨X2,0,none⟩ (.int .i64 5)).setCell ⟨X1,0,none⟩ (.int .i64 5)).setCell ⟨X1,1,none⟩ (.bool AnsM.nil.is)).setCell ⟨X1,2,none⟩ (.int .i64 AnsM.nil.number)).setCell ⟨X1,3,none⟩ (.bool AnsM.nil.yes)).setCell ⟨X1,4,none⟩ (.int .i64 AnsM.nil.words)).setCell ⟨X1,5,none⟩ (.bool AnsM.nil.going)).setCell ⟨X1,6,none⟩ (.int .i64 AnsM.nil.freed)) X1 (ansL (.err 5))) :=
      ((((((((HF.out.r1).setFar _ _ (by simp;omega)).set 0 _).set 1 _).set 2 _).set 3 _).set 4 _).set 5 _).set 6 _
    refine bodyPost_ret (v:=ansV (.err 5)) (res_acted rfl HEND.out) rfl ?_
    exact HF.out.fin (by repeat with_reducible (first|exact Chg.refl _ _|refine chgS ?_ (by first|(simp;done)|(simp;omega))))
  | true =>
    have HP:Hid (H.abort t=(H.undone t,.nil)):=by unfold Hid Hall.abort;rw[if_neg (by rw[ho];simp)]
    rw[HP.out]
    have HO:=Lib.hid ho
    clear ho HP
    go_enter Try.func67,Try.ntmps67
    go_upto_region 40 with (first|(go_at_call 56;(with_reducible refine (in_kind 3 (by omega) _).mono ?_);rintro e w1 ⟨rfl,hb1⟩;obtain⟨HA,HR1,HR2,HB1,hz1⟩:=rows3 hb1;clear hb1;obtain⟨a0,a1,a2,a3,a4⟩:=HA.out.act)|(go_at_call 56;(with_reducible refine (in_reg t HTT.out _).mono ?_);rintro e _ ⟨rfl,rfl⟩))
    obtain⟨X2,hX2⟩:∃X2,X2=w.heap.size+1+1:=⟨_,rfl⟩
    rw[<- hX2] at HR2 ⊢
    obtain⟨X1,hX1⟩:∃X1,X1=w.heap.size+1:=⟨_,rfl⟩
    rw[<- hX1] at HR1 ⊢
    have hx:w.heap.size<X1/\X1<X2/\X2<w1.heap.size:=by omega
    have hx12:X1≠X2:=by omega
    have HF:=Lib.hid (AF.start HM.out HB1.out hx HA.out HR1.out HR2.out)
    have HM1:=Lib.hid HF.out.mem
    have hB1:=HM1.out.lt
    have hBX2:B≠X2:=by have:=HM.out.lt;omega
    have hBX1:B≠X1:=by have:=HM.out.lt;omega
    clear hX1 hX2 hz1 HA HR1 HR2
    have c0:=(HM1.out.cD HTT.out).1
    rw[HO.out] at c0
    go_wp2_with (go_at_call 84;refine (undone_any base _ B nm H HM1.out t HTT.out HOK.out).mono ?_;rintro e w2 ⟨rfl,nm2,hM2,hW2⟩;have HF2:=Lib.hid (HF.out.step hM2 hW2);obtain⟨⟨o0,o1,o2,o3,o4,o5,o6⟩,z0,z1,z2,z3,z4,z5,z6⟩:=HF2.out.r2.ans;obtain⟨⟨p0,p1,p2,p3,p4,p5,p6⟩,y0,y1,y2,y3,y4,y5,y6⟩:=HF2.out.r1.ans;clear hM2 hW2 a0 a1 a2 a3 a4)
    have HEND:Hid (RowAt ((((((((w2).setCell ⟨X1,0,none⟩ (.int .i64 AnsM.nil.code)).setCell ⟨X1,1,none⟩ (.bool AnsM.nil.is)).setCell ⟨X1,2,none⟩ (.int .i64 AnsM.nil.number)).setCell ⟨X1,3,none⟩ (.bool AnsM.nil.yes)).setCell ⟨X1,4,none⟩ (.int .i64 AnsM.nil.words)).setCell ⟨X1,5,none⟩ (.bool AnsM.nil.going)).setCell ⟨X1,6,none⟩ (.int .i64 AnsM.nil.freed)) X1 (ansL AnsM.nil)) :=
      (((((((HF2.out.r1).set 0 _).set 1 _).set 2 _).set 3 _).set 4 _).set 5 _).set 6 _
    refine bodyPost_ret (v:=ansV AnsM.nil) (res_acted rfl HEND.out) rfl ?_
    exact HF2.out.fin (by repeat with_reducible (first|exact Chg.refl _ _|refine chgS ?_ (by first|(simp;done)|(simp;omega))))
set_option maxRecDepth 100000 in
set_option maxHeartbeats 2000000 in
theorem acted_stat (base:Nat) (w:World) (B:Nat) (nm:Rn) (H:Hall) (h:Rmem base w B nm H) (hf:∀x ∈ H.things,x.fields.length<=6) (t a b n:Int) :
    Calls Try.prog 67 #[.pointer (some ⟨B,0,none⟩),.agg #[.int .i64 12,.int .i64 t,.int .i64 a,.int .i64 b,.int .i64 n]] w (RetRA base w B nm H ((H,⟨0,false,0,false,(H.used:Int),H.going,0⟩))):=by
  have HM:=Lib.hid h
  have h6:∀x ∈ H.things,x.fields.length<=6:=hf
  have H6:=Lib.hid h6
  clear h h6 hf
  go_enter Try.func67,Try.ntmps67
  go_upto_region 12 with (first|(go_at_call 56;(with_reducible refine (in_kind 12 (by omega) _).mono ?_);rintro e w1 ⟨rfl,hb1⟩;obtain⟨HA,HR1,HR2,HB1,hz1⟩:=rows3 hb1;clear hb1;obtain⟨a0,a1,a2,a3,a4⟩:=HA.out.act))
  obtain⟨X2,hX2⟩:∃X2,X2=w.heap.size+1+1:=⟨_,rfl⟩
  rw[<- hX2] at HR2 ⊢
  obtain⟨X1,hX1⟩:∃X1,X1=w.heap.size+1:=⟨_,rfl⟩
  rw[<- hX1] at HR1 ⊢
  have hx:w.heap.size<X1/\X1<X2/\X2<w1.heap.size:=by omega
  have hx12:X1≠X2:=by omega
  have HF:=Lib.hid (AF.start HM.out HB1.out hx HA.out HR1.out HR2.out)
  have HM1:=Lib.hid HF.out.mem
  have hB1:=HM1.out.lt
  have hBX2:B≠X2:=by have:=HM.out.lt;omega
  have hBX1:B≠X1:=by have:=HM.out.lt;omega
  clear hX1 hX2 hz1 HA HR1 HR2
  have c82:=(HM1.out.box 82 (by omega)).1
  rw[show hallC nm H 82 = .bool H.going from rfl] at c82
  obtain⟨⟨o0,o1,o2,o3,o4,o5,o6⟩,z0,z1,z2,z3,z4,z5,z6⟩:=HF.out.r2.ans
  obtain⟨⟨p0,p1,p2,p3,p4,p5,p6⟩,y0,y1,y2,y3,y4,y5,y6⟩:=HF.out.r1.ans
  clear a0 a1 a2 a3 a4
  go_wp2_with (go_at_call 85;refine (used_any HM1.out H6.out).mono ?_;rintro e _ ⟨rfl,rfl⟩)
  have HEND:Hid (RowAt ((((((((((w1).setCell ⟨X2,4,none⟩ (.int .i64 (H.used:Int))).setCell ⟨X2,5,none⟩ (.bool H.going)).setCell ⟨X1,0,none⟩ (.int .i64 0)).setCell ⟨X1,1,none⟩ (.bool false)).setCell ⟨X1,2,none⟩ (.int .i64 0)).setCell ⟨X1,3,none⟩ (.bool false)).setCell ⟨X1,4,none⟩ (.int .i64 (H.used:Int))).setCell ⟨X1,5,none⟩ (.bool H.going)).setCell ⟨X1,6,none⟩ (.int .i64 0)) X1 (ansL ⟨0,false,0,false,(H.used:Int),H.going,0⟩)) :=
    (((((((((HF.out.r1).setFar _ _ (by simp;omega)).setFar _ _ (by simp;omega)).set 0 _).set 1 _).set 2 _).set 3 _).set 4 _).set 5 _).set 6 _
  refine bodyPost_ret (v:=ansV ⟨0,false,0,false,(H.used:Int),H.going,0⟩) (res_acted rfl HEND.out) rfl ?_
  exact HF.out.fin (by repeat with_reducible (first|exact Chg.refl _ _|refine chgS ?_ (by first|(simp;done)|(simp;omega))))
end Go.Proofs.Ytbeilcaadpopmab
namespace Go.Proofs.Ytbeilcaadpopmab
open Go.RowKit Go.Maps
set_option maxRecDepth 100000 in
set_option maxHeartbeats 2000000 in
theorem acted_none (base:Nat) (w:World) (B:Nat) (nm:Rn) (H:Hall) (h:Rmem base w B nm H) (k t a b n:Int) (hk:¬ (1<=k/\k<=12)) :
    Calls Try.prog 67 #[.pointer (some ⟨B,0,none⟩),.agg #[.int .i64 k,.int .i64 t,.int .i64 a,.int .i64 b,.int .i64 n]] w (RetRA base w B nm H ((H,.err 3))):=by
  have HM:=Lib.hid h
  have HK:Hid (∀W,Calls Try.prog 56 #[.int .i64 k,.int .i64 1,.int .i64 12] W (λe w'=>e = .returned (.bool false)/\Below W.heap.size W w')):=λW=>by
    refine (in_any k 1 12 W).mono ?_
    rintro e w' ⟨rfl,rfl⟩
    refine⟨?_,Below.refl _ _⟩
    by_cases h1:1<=k
    · rw[inB_hi (by omega)]
    · rw[inB_lo h1]
  clear h hk
  go_enter Try.func67,Try.ntmps67
  go_upto_region 3 with (first|(go_at_call 56;(with_reducible refine (HK.out _).mono ?_);rintro e w1 ⟨rfl,hb1⟩;obtain⟨HA,HR1,HR2,HB1,hz1⟩:=rows3 hb1;clear hb1;obtain⟨a0,a1,a2,a3,a4⟩:=HA.out.act))
  obtain⟨X2,hX2⟩:∃X2,X2=w.heap.size+1+1:=⟨_,rfl⟩
  rw[<- hX2] at HR2 ⊢
  obtain⟨X1,hX1⟩:∃X1,X1=w.heap.size+1:=⟨_,rfl⟩
  rw[<- hX1] at HR1 ⊢
  have hx:w.heap.size<X1/\X1<X2/\X2<w1.heap.size:=by omega
  have hx12:X1≠X2:=by omega
  have HF:=Lib.hid (AF.start HM.out HB1.out hx HA.out HR1.out HR2.out)
  have HM1:=Lib.hid HF.out.mem
  have hB1:=HM1.out.lt
  have hBX2:B≠X2:=by have:=HM.out.lt;omega
  have hBX1:B≠X1:=by have:=HM.out.lt;omega
  clear hX1 hX2 hz1 HA HR1 HR2
  obtain⟨⟨o0,o1,o2,o3,o4,o5,o6⟩,z0,z1,z2,z3,z4,z5,z6⟩:=HF.out.r2.ans
  obtain⟨⟨p0,p1,p2,p3,p4,p5,p6⟩,y0,y1,y2,y3,y4,y5,y6⟩:=HF.out.r1.ans
  go_wp2_with fail
  have HEND:Hid (RowAt (((((((((w1).setCell ⟨X2,0,none⟩ (.int .i64 3)).setCell ⟨X1,0,none⟩ (.int .i64 3)).setCell ⟨X1,1,none⟩ (.bool AnsM.nil.is)).setCell ⟨X1,2,none⟩ (.int .i64 AnsM.nil.number)).setCell ⟨X1,3,none⟩ (.bool AnsM.nil.yes)).setCell ⟨X1,4,none⟩ (.int .i64 AnsM.nil.words)).setCell ⟨X1,5,none⟩ (.bool AnsM.nil.going)).setCell ⟨X1,6,none⟩ (.int .i64 AnsM.nil.freed)) X1 (ansL (.err 3))) :=
    ((((((((HF.out.r1).setFar _ _ (by simp;omega)).set 0 _).set 1 _).set 2 _).set 3 _).set 4 _).set 5 _).set 6 _
  refine bodyPost_ret (v:=ansV (.err 3)) (res_acted rfl HEND.out) rfl ?_
  exact HF.out.fin (by repeat with_reducible (first|exact Chg.refl _ _|refine chgS ?_ (by first|(simp;done)|(simp;omega))))
set_option maxRecDepth 100000 in
set_option maxHeartbeats 8000000 in
theorem acted_bad_t (base:Nat) (w:World) (B:Nat) (nm:Rn) (H:Hall) (h:Rmem base w B nm H) (k t a b n:Int) (hk:k=1\/k=2\/k=3\/k=4\/k=5\/k=6\/k=7\/k=8\/k=9)  (ht:¬ (0<=t/\t<=3)) :
    Calls Try.prog 67 #[.pointer (some ⟨B,0,none⟩),.agg #[.int .i64 k,.int .i64 t,.int .i64 a,.int .i64 b,.int .i64 n]] w (RetRA base w B nm H ((H,.err 2))):=by
  have HM:=Lib.hid h
  have HK:Hid (∀W,Calls Try.prog 56 #[.int .i64 k,.int .i64 1,.int .i64 12] W (λe w'=>e = .returned (.bool true)/\Below W.heap.size W w')):=in_kind k (by omega)
  have It:Hid (∀W,Calls Try.prog 56 #[.int .i64 t,.int .i64 0,.int .i64 3] W (λe w'=>e = .returned (.bool false)/\W=w')):=in_no t ht
  clear h ht
  rcases hk with rfl|rfl|rfl|rfl|rfl|rfl|rfl|rfl|rfl
  all_goals
    go_enter Try.func67,Try.ntmps67
    go_upto_region 8 with (first|(go_at_call 56;(with_reducible refine (HK.out _).mono ?_);rintro e w1 ⟨rfl,hb1⟩;obtain⟨HA,HR1,HR2,HB1,hz1⟩:=rows3 hb1;clear hb1;obtain⟨a0,a1,a2,a3,a4⟩:=HA.out.act)|(go_at_call 56;(with_reducible refine (It.out _).mono ?_);rintro e _ ⟨rfl,rfl⟩))
    obtain⟨X2,hX2⟩:∃X2,X2=w.heap.size+1+1:=⟨_,rfl⟩
    rw[<- hX2] at HR2 ⊢
    obtain⟨X1,hX1⟩:∃X1,X1=w.heap.size+1:=⟨_,rfl⟩
    rw[<- hX1] at HR1 ⊢
    have hx:w.heap.size<X1/\X1<X2/\X2<w1.heap.size:=by omega
    have hx12:X1≠X2:=by omega
    have HF:=Lib.hid (AF.start HM.out HB1.out hx HA.out HR1.out HR2.out)
    have HM1:=Lib.hid HF.out.mem
    have hB1:=HM1.out.lt
    have hBX2:B≠X2:=by have:=HM.out.lt;omega
    have hBX1:B≠X1:=by have:=HM.out.lt;omega
    clear hX1 hX2 hz1 HA HR1 HR2
    obtain⟨⟨o0,o1,o2,o3,o4,o5,o6⟩,z0,z1,z2,z3,z4,z5,z6⟩:=HF.out.r2.ans
    obtain⟨⟨p0,p1,p2,p3,p4,p5,p6⟩,y0,y1,y2,y3,y4,y5,y6⟩:=HF.out.r1.ans
    go_wp2_with fail
    have HEND:Hid (RowAt (((((((((w1).setCell ⟨X2,0,none⟩ (.int .i64 2)).setCell ⟨X1,0,none⟩ (.int .i64 2)).setCell ⟨X1,1,none⟩ (.bool AnsM.nil.is)).setCell ⟨X1,2,none⟩ (.int .i64 AnsM.nil.number)).setCell ⟨X1,3,none⟩ (.bool AnsM.nil.yes)).setCell ⟨X1,4,none⟩ (.int .i64 AnsM.nil.words)).setCell ⟨X1,5,none⟩ (.bool AnsM.nil.going)).setCell ⟨X1,6,none⟩ (.int .i64 AnsM.nil.freed)) X1 (ansL (.err 2))) :=
      ((((((((HF.out.r1).setFar _ _ (by simp;omega)).set 0 _).set 1 _).set 2 _).set 3 _).set 4 _).set 5 _).set 6 _
    refine bodyPost_ret (v:=ansV (.err 2)) (res_acted rfl HEND.out) rfl ?_
    exact HF.out.fin (by repeat with_reducible (first|exact Chg.refl _ _|refine chgS ?_ (by first|(simp;done)|(simp;omega))))
set_option maxRecDepth 100000 in
set_option maxHeartbeats 8000000 in
theorem acted_bad_a (base:Nat) (w:World) (B:Nat) (nm:Rn) (H:Hall) (h:Rmem base w B nm H) (k t a b n:Int) (hk:k=4\/k=5\/k=6\/k=7\/k=8\/k=9) (ht:0<=t/\t<=3) (ha:¬ (0<=a/\a<=3)) :
    Calls Try.prog 67 #[.pointer (some ⟨B,0,none⟩),.agg #[.int .i64 k,.int .i64 t,.int .i64 a,.int .i64 b,.int .i64 n]] w (RetRA base w B nm H ((H,.err 2))):=by
  have HM:=Lib.hid h
  have HK:Hid (∀W,Calls Try.prog 56 #[.int .i64 k,.int .i64 1,.int .i64 12] W (λe w'=>e = .returned (.bool true)/\Below W.heap.size W w')):=in_kind k (by omega)
  have It:Hid (∀W,Calls Try.prog 56 #[.int .i64 t,.int .i64 0,.int .i64 3] W (λe w'=>e = .returned (.bool true)/\W=w')):=in_yes t ht
  have Ia:Hid (∀W,Calls Try.prog 56 #[.int .i64 a,.int .i64 0,.int .i64 3] W (λe w'=>e = .returned (.bool false)/\W=w')):=in_no a ha
  clear h ht ha
  rcases hk with rfl|rfl|rfl|rfl|rfl|rfl
  all_goals
    go_enter Try.func67,Try.ntmps67
    go_upto_region 8 with (first|(go_at_call 56;(with_reducible refine (HK.out _).mono ?_);rintro e w1 ⟨rfl,hb1⟩;obtain⟨HA,HR1,HR2,HB1,hz1⟩:=rows3 hb1;clear hb1;obtain⟨a0,a1,a2,a3,a4⟩:=HA.out.act)|(go_at_call 56;(with_reducible refine (It.out _).mono ?_);rintro e _ ⟨rfl,rfl⟩)|(go_at_call 56;(with_reducible refine (Ia.out _).mono ?_);rintro e _ ⟨rfl,rfl⟩))
    obtain⟨X2,hX2⟩:∃X2,X2=w.heap.size+1+1:=⟨_,rfl⟩
    rw[<- hX2] at HR2 ⊢
    obtain⟨X1,hX1⟩:∃X1,X1=w.heap.size+1:=⟨_,rfl⟩
    rw[<- hX1] at HR1 ⊢
    have hx:w.heap.size<X1/\X1<X2/\X2<w1.heap.size:=by omega
    have hx12:X1≠X2:=by omega
    have HF:=Lib.hid (AF.start HM.out HB1.out hx HA.out HR1.out HR2.out)
    have HM1:=Lib.hid HF.out.mem
    have hB1:=HM1.out.lt
    have hBX2:B≠X2:=by have:=HM.out.lt;omega
    have hBX1:B≠X1:=by have:=HM.out.lt;omega
    clear hX1 hX2 hz1 HA HR1 HR2
    obtain⟨⟨o0,o1,o2,o3,o4,o5,o6⟩,z0,z1,z2,z3,z4,z5,z6⟩:=HF.out.r2.ans
    obtain⟨⟨p0,p1,p2,p3,p4,p5,p6⟩,y0,y1,y2,y3,y4,y5,y6⟩:=HF.out.r1.ans
    go_wp2_with fail
    have HEND:Hid (RowAt (((((((((w1).setCell ⟨X2,0,none⟩ (.int .i64 2)).setCell ⟨X1,0,none⟩ (.int .i64 2)).setCell ⟨X1,1,none⟩ (.bool AnsM.nil.is)).setCell ⟨X1,2,none⟩ (.int .i64 AnsM.nil.number)).setCell ⟨X1,3,none⟩ (.bool AnsM.nil.yes)).setCell ⟨X1,4,none⟩ (.int .i64 AnsM.nil.words)).setCell ⟨X1,5,none⟩ (.bool AnsM.nil.going)).setCell ⟨X1,6,none⟩ (.int .i64 AnsM.nil.freed)) X1 (ansL (.err 2))) :=
      ((((((((HF.out.r1).setFar _ _ (by simp;omega)).set 0 _).set 1 _).set 2 _).set 3 _).set 4 _).set 5 _).set 6 _
    refine bodyPost_ret (v:=ansV (.err 2)) (res_acted rfl HEND.out) rfl ?_
    exact HF.out.fin (by repeat with_reducible (first|exact Chg.refl _ _|refine chgS ?_ (by first|(simp;done)|(simp;omega))))
set_option maxRecDepth 100000 in
set_option maxHeartbeats 8000000 in
theorem acted_bad_b (base:Nat) (w:World) (B:Nat) (nm:Rn) (H:Hall) (h:Rmem base w B nm H) (k t a b n:Int) (hk:k=5\/k=6\/k=8\/k=9) (ht:0<=t/\t<=3) (ha:0<=a/\a<=3) (hb:¬ (0<=b/\b<=3)) :
    Calls Try.prog 67 #[.pointer (some ⟨B,0,none⟩),.agg #[.int .i64 k,.int .i64 t,.int .i64 a,.int .i64 b,.int .i64 n]] w (RetRA base w B nm H ((H,.err 2))):=by
  have HM:=Lib.hid h
  have HK:Hid (∀W,Calls Try.prog 56 #[.int .i64 k,.int .i64 1,.int .i64 12] W (λe w'=>e = .returned (.bool true)/\Below W.heap.size W w')):=in_kind k (by omega)
  have It:Hid (∀W,Calls Try.prog 56 #[.int .i64 t,.int .i64 0,.int .i64 3] W (λe w'=>e = .returned (.bool true)/\W=w')):=in_yes t ht
  have Ia:Hid (∀W,Calls Try.prog 56 #[.int .i64 a,.int .i64 0,.int .i64 3] W (λe w'=>e = .returned (.bool true)/\W=w')):=in_yes a ha
  have Ib:Hid (∀W,Calls Try.prog 56 #[.int .i64 b,.int .i64 0,.int .i64 3] W (λe w'=>e = .returned (.bool false)/\W=w')):=in_no b hb
  clear h ht ha hb
  rcases hk with rfl|rfl|rfl|rfl
  all_goals
    go_enter Try.func67,Try.ntmps67
    go_upto_region 8 with (first|(go_at_call 56;(with_reducible refine (HK.out _).mono ?_);rintro e w1 ⟨rfl,hb1⟩;obtain⟨HA,HR1,HR2,HB1,hz1⟩:=rows3 hb1;clear hb1;obtain⟨a0,a1,a2,a3,a4⟩:=HA.out.act)|(go_at_call 56;(with_reducible refine (It.out _).mono ?_);rintro e _ ⟨rfl,rfl⟩)|(go_at_call 56;(with_reducible refine (Ia.out _).mono ?_);rintro e _ ⟨rfl,rfl⟩)|(go_at_call 56;(with_reducible refine (Ib.out _).mono ?_);rintro e _ ⟨rfl,rfl⟩))
    obtain⟨X2,hX2⟩:∃X2,X2=w.heap.size+1+1:=⟨_,rfl⟩
    rw[<- hX2] at HR2 ⊢
    obtain⟨X1,hX1⟩:∃X1,X1=w.heap.size+1:=⟨_,rfl⟩
    rw[<- hX1] at HR1 ⊢
    have hx:w.heap.size<X1/\X1<X2/\X2<w1.heap.size:=by omega
    have hx12:X1≠X2:=by omega
    have HF:=Lib.hid (AF.start HM.out HB1.out hx HA.out HR1.out HR2.out)
    have HM1:=Lib.hid HF.out.mem
    have hB1:=HM1.out.lt
    have hBX2:B≠X2:=by have:=HM.out.lt;omega
    have hBX1:B≠X1:=by have:=HM.out.lt;omega
    clear hX1 hX2 hz1 HA HR1 HR2
    obtain⟨⟨o0,o1,o2,o3,o4,o5,o6⟩,z0,z1,z2,z3,z4,z5,z6⟩:=HF.out.r2.ans
    obtain⟨⟨p0,p1,p2,p3,p4,p5,p6⟩,y0,y1,y2,y3,y4,y5,y6⟩:=HF.out.r1.ans
    go_wp2_with fail
    have HEND:Hid (RowAt (((((((((w1).setCell ⟨X2,0,none⟩ (.int .i64 2)).setCell ⟨X1,0,none⟩ (.int .i64 2)).setCell ⟨X1,1,none⟩ (.bool AnsM.nil.is)).setCell ⟨X1,2,none⟩ (.int .i64 AnsM.nil.number)).setCell ⟨X1,3,none⟩ (.bool AnsM.nil.yes)).setCell ⟨X1,4,none⟩ (.int .i64 AnsM.nil.words)).setCell ⟨X1,5,none⟩ (.bool AnsM.nil.going)).setCell ⟨X1,6,none⟩ (.int .i64 AnsM.nil.freed)) X1 (ansL (.err 2))) :=
      ((((((((HF.out.r1).setFar _ _ (by simp;omega)).set 0 _).set 1 _).set 2 _).set 3 _).set 4 _).set 5 _).set 6 _
    refine bodyPost_ret (v:=ansV (.err 2)) (res_acted rfl HEND.out) rfl ?_
    exact HF.out.fin (by repeat with_reducible (first|exact Chg.refl _ _|refine chgS ?_ (by first|(simp;done)|(simp;omega))))
set_option maxRecDepth 100000 in
set_option maxHeartbeats 8000000 in
theorem acted_bad_n (base:Nat) (w:World) (B:Nat) (nm:Rn) (H:Hall) (h:Rmem base w B nm H) (k t a b n:Int) (hk:k=8) (ht:0<=t/\t<=3) (ha:0<=a/\a<=3) (hb:0<=b/\b<=3) (hn:¬ (0<=n/\n<=3)) :
    Calls Try.prog 67 #[.pointer (some ⟨B,0,none⟩),.agg #[.int .i64 k,.int .i64 t,.int .i64 a,.int .i64 b,.int .i64 n]] w (RetRA base w B nm H ((H,.err 2))):=by
  have HM:=Lib.hid h
  have HK:Hid (∀W,Calls Try.prog 56 #[.int .i64 k,.int .i64 1,.int .i64 12] W (λe w'=>e = .returned (.bool true)/\Below W.heap.size W w')):=in_kind k (by omega)
  have It:Hid (∀W,Calls Try.prog 56 #[.int .i64 t,.int .i64 0,.int .i64 3] W (λe w'=>e = .returned (.bool true)/\W=w')):=in_yes t ht
  have Ia:Hid (∀W,Calls Try.prog 56 #[.int .i64 a,.int .i64 0,.int .i64 3] W (λe w'=>e = .returned (.bool true)/\W=w')):=in_yes a ha
  have Ib:Hid (∀W,Calls Try.prog 56 #[.int .i64 b,.int .i64 0,.int .i64 3] W (λe w'=>e = .returned (.bool true)/\W=w')):=in_yes b hb
  have In:Hid (∀W,Calls Try.prog 56 #[.int .i64 n,.int .i64 0,.int .i64 3] W (λe w'=>e = .returned (.bool false)/\W=w')):=in_no n hn
  clear h ht ha hb hn
  subst hk
  go_enter Try.func67,Try.ntmps67
  go_upto_region 8 with (first|(go_at_call 56;(with_reducible refine (HK.out _).mono ?_);rintro e w1 ⟨rfl,hb1⟩;obtain⟨HA,HR1,HR2,HB1,hz1⟩:=rows3 hb1;clear hb1;obtain⟨a0,a1,a2,a3,a4⟩:=HA.out.act)|(go_at_call 56;(with_reducible refine (It.out _).mono ?_);rintro e _ ⟨rfl,rfl⟩)|(go_at_call 56;(with_reducible refine (Ia.out _).mono ?_);rintro e _ ⟨rfl,rfl⟩)|(go_at_call 56;(with_reducible refine (Ib.out _).mono ?_);rintro e _ ⟨rfl,rfl⟩)|(go_at_call 56;(with_reducible refine (In.out _).mono ?_);rintro e _ ⟨rfl,rfl⟩))
  obtain⟨X2,hX2⟩:∃X2,X2=w.heap.size+1+1:=⟨_,rfl⟩
  rw[<- hX2] at HR2 ⊢
  obtain⟨X1,hX1⟩:∃X1,X1=w.heap.size+1:=⟨_,rfl⟩
  rw[<- hX1] at HR1 ⊢
  have hx:w.heap.size<X1/\X1<X2/\X2<w1.heap.size:=by omega
  have hx12:X1≠X2:=by omega
  have HF:=Lib.hid (AF.start HM.out HB1.out hx HA.out HR1.out HR2.out)
  have HM1:=Lib.hid HF.out.mem
  have hB1:=HM1.out.lt
  have hBX2:B≠X2:=by have:=HM.out.lt;omega
  have hBX1:B≠X1:=by have:=HM.out.lt;omega
  clear hX1 hX2 hz1 HA HR1 HR2
  obtain⟨⟨o0,o1,o2,o3,o4,o5,o6⟩,z0,z1,z2,z3,z4,z5,z6⟩:=HF.out.r2.ans
  obtain⟨⟨p0,p1,p2,p3,p4,p5,p6⟩,y0,y1,y2,y3,y4,y5,y6⟩:=HF.out.r1.ans
  go_wp2_with fail
  have HEND:Hid (RowAt (((((((((w1).setCell ⟨X2,0,none⟩ (.int .i64 2)).setCell ⟨X1,0,none⟩ (.int .i64 2)).setCell ⟨X1,1,none⟩ (.bool AnsM.nil.is)).setCell ⟨X1,2,none⟩ (.int .i64 AnsM.nil.number)).setCell ⟨X1,3,none⟩ (.bool AnsM.nil.yes)).setCell ⟨X1,4,none⟩ (.int .i64 AnsM.nil.words)).setCell ⟨X1,5,none⟩ (.bool AnsM.nil.going)).setCell ⟨X1,6,none⟩ (.int .i64 AnsM.nil.freed)) X1 (ansL (.err 2))) :=
    ((((((((HF.out.r1).setFar _ _ (by simp;omega)).set 0 _).set 1 _).set 2 _).set 3 _).set 4 _).set 5 _).set 6 _
  refine bodyPost_ret (v:=ansV (.err 2)) (res_acted rfl HEND.out) rfl ?_
  exact HF.out.fin (by repeat with_reducible (first|exact Chg.refl _ _|refine chgS ?_ (by first|(simp;done)|(simp;omega))))
end Go.Proofs.Ytbeilcaadpopmab
namespace Go.Proofs.Ytbeilcaadpopmab
open Go.RowKit Go.Maps
set_option maxRecDepth 100000 in
set_option maxHeartbeats 2000000 in
theorem acted_set (base:Nat) (w:World) (B:Nat) (nm:Rn) (H:Hall) (h:Rmem base w B nm H) (t a:Nat) (ht:t<4) (ha:a<4) (b n:Int) :
    Calls Try.prog 67 #[.pointer (some ⟨B,0,none⟩),.agg #[.int .i64 7,.int .i64 (t:Int),.int .i64 (a:Int),.int .i64 b,.int .i64 n]] w (RetRA base w B nm H (H.set t a n)):=by
  have HM:=Lib.hid h
  have i1:(t:Int)<4:=by omega
  have i2:(a:Int)<4:=by omega
  have HTT:=Lib.hid ht;have HAA:=Lib.hid ha
  clear h ht ha
  by_cases hn : -1099511627776<=n/\n<=1099511627776
  · have HP:Hid (H.set t a n=({ H with regs:=put2 H.regs t a (.num n) },told (.num n))):=by unfold Hid Hall.set;rw[if_pos hn]
    rw[HP.out]
    have HIN:Hid (∀W,Calls Try.prog 56 #[.int .i64 n,.int .i64 (-1099511627776),.int .i64 1099511627776] W (λe w'=>e = .returned (.bool true)/\W=w')):=λW=>by
      have:=in_any n (-1099511627776) 1099511627776 W
      rwa [inB_true hn.1 hn.2] at this
    clear hn HP
    go_enter Try.func67,Try.ntmps67
    go_upto_region 76 with (first|(go_at_call 56;(with_reducible refine (in_kind 7 (by omega) _).mono ?_);rintro e w1 ⟨rfl,hb1⟩;obtain⟨HA,HR1,HR2,HB1,hz1⟩:=rows3 hb1;clear hb1;obtain⟨a0,a1,a2,a3,a4⟩:=HA.out.act)|(go_at_call 56;(with_reducible refine (in_reg t HTT.out _).mono ?_);rintro e _ ⟨rfl,rfl⟩)|(go_at_call 56;(with_reducible refine (in_reg a HAA.out _).mono ?_);rintro e _ ⟨rfl,rfl⟩)|(go_at_call 56;(with_reducible refine (HIN.out _).mono ?_);rintro e _ ⟨rfl,rfl⟩))
    obtain⟨X2,hX2⟩:∃X2,X2=w.heap.size+1+1:=⟨_,rfl⟩
    rw[<- hX2] at HR2 ⊢
    obtain⟨X1,hX1⟩:∃X1,X1=w.heap.size+1:=⟨_,rfl⟩
    rw[<- hX1] at HR1 ⊢
    have hx:w.heap.size<X1/\X1<X2/\X2<w1.heap.size:=by omega
    have hx12:X1≠X2:=by omega
    have HF:=Lib.hid (AF.start HM.out HB1.out hx HA.out HR1.out HR2.out)
    have HM1:=Lib.hid HF.out.mem
    have hB1:=HM1.out.lt
    have hBX2:B≠X2:=by have:=HM.out.lt;omega
    have hBX1:B≠X1:=by have:=HM.out.lt;omega
    clear hX1 hX2 hz1 HA HR1 HR2
    obtain⟨w2,hw2⟩:∃w2,w2=w1.drew:=⟨_,rfl⟩
    have HF2:Hid (AF base w B nm H (actL 7 (t:Int) (a:Int) b n) X1 X2 AnsM.nil w2 nm H):=by rw[Hid,hw2];exact HF.out.below (Below.refl _ _).drew
    clear a0 a1 a2 a3 a4
    obtain⟨a0,a1,a2,a3,a4⟩:=HF2.out.ra.act
    have HBX:=Lib.hid HF2.out.mem.box
    refine still_tail_at 11 (by kernel_rfl) (by kernel_rfl) hw2 ?_;simp only [List.take_succ_cons,List.take_zero,List.drop_succ_cons,List.drop_zero];clear hw2;(repeat still_step);refine wpStill_nil ?_
    have ho:2+t * 8+a * 2+(#[.int .i64 0,.int .i64 n]:Array Value).size<=84:=by have:=HTT.out;have:=HAA.out;simp;omega
    refine wpl_storeN rfl 36 _ _ rfl B (2+t * 8+a * 2) #[.int .i64 0,.int .i64 n] rfl rfl _ HBX.out ho Try.sizeVal (by simp[Value.oneCell']) ?_
    intro hbx hcg
    rw[List.toList_toArray] at hbx hcg ⊢
    obtain⟨w3,hw3⟩:∃w3,w3=w2.setCells B (2+t * 8+a * 2) [.int .i64 0,.int .i64 n]:=⟨_,rfl⟩
    rw[<- hw3] at hbx hcg ⊢
    obtain⟨q1,q2⟩:=HF2.out.mem.setReg HTT.out HAA.out (.num n) hcg hbx
    have HF3:=Lib.hid (HF2.out.step q1 q2)
    clear hbx hcg q1 q2 hw3 ho HBX a0 a1 a2 a3 a4
    go_frame
    go_wp2_with fail
    have hB3:=HF3.out.mem.lt
    have hA3:=HF3.out.ra.1
    have hAX:w.heap.size≠X2:=by omega
    obtain⟨d0,d1⟩:=HF3.out.mem.cR HTT.out HAA.out
    have hr:({ H with regs:=put2 H.regs t a (.num n) }:Hall).regs t a = .num n:=by simp[put2]
    rw[hr] at d0 d1
    change w3.cell? _=some (.int .i64 0) at d0
    change w3.cell? _=some (.int .i64 n) at d1
    have d2:=HF3.out.ra.act.2.2.1
    have HK3:Hid (∀W,Chg (λk=>k=X2) w3 W->W.cell? ⟨w.heap.size,2,none⟩=some (.int .i64 (a:Int))/\W.cell? ⟨B,2+t * 8+a * 2,none⟩=some (.int .i64 0)/\W.cell? ⟨B,2+t * 8+a * 2+1,none⟩=some (.int .i64 n)):=λW hW=>⟨(hW.cell hA3 hAX 2).1.trans d2,(hW.cell hB3 hBX2 _).1.trans d0,(hW.cell hB3 hBX2 _).1.trans d1⟩
    have HTOLD:Hid (∀W,Calls Try.prog 88 #[.agg #[.int .i64 0,.int .i64 n]] W (λe w'=>e = .returned (.agg #[.int .i64 0,.bool true,.int .i64 n,.bool false,.int .i64 0,.bool false,.int .i64 0])/\Below W.heap.size W w')):=λW=>told_any (.num n) W
    clear d0 d1 d2
    go_region_held3 (λW=>W.cell? ⟨w.heap.size,2,none⟩=some (.int .i64 (a:Int))/\W.cell? ⟨B,2+t * 8+a * 2,none⟩=some (.int .i64 0)/\W.cell? ⟨B,2+t * 8+a * 2+1,none⟩=some (.int .i64 n))
      (first|(refine HK6.out _ ?_;(repeat (first|with_reducible exact Chg.refl _ _|with_reducible refine Chg.trans ?_ (Chg.setB _ _ _ _)|with_reducible refine Chg.trans ?_ (Chg.drew _ _)));done)|(refine HK3.out _ ?_;(repeat (first|with_reducible exact Chg.refl _ _|with_reducible refine Chg.trans ?_ (Chg.setB _ _ _ _)|with_reducible refine Chg.trans ?_ (Chg.drew _ _)));done))
      ((go_at_call 88;refine (HTOLD.out _).mono ?_;rintro e w6 ⟨rfl,hb6⟩;have HB6:=Lib.hid (show Below w3.heap.size w3 w6 from (by ((repeat first|exact bR _ _|with_reducible first|refine bT ?_ hb6 ?_|refine bN ?_|refine bD ?_|refine bA ?_ ?_|refine bS ?_ ?_);all_goals first|exact Nat.le_refl _|(simp;done)|omega|(simp;omega)|(have z0:=Below.size hb6;omega)|(have z0:=Below.size hb6;simp at *;omega))));have HF6:=Lib.hid (HF3.out.below HB6.out);have HK6:Hid (∀W,Chg (λk=>k=X2) w6 W->W.cell? ⟨w.heap.size,2,none⟩=some (.int .i64 (a:Int))/\W.cell? ⟨B,2+t * 8+a * 2,none⟩=some (.int .i64 0)/\W.cell? ⟨B,2+t * 8+a * 2+1,none⟩=some (.int .i64 n)):=(λW hW=>⟨(hW.cell (Nat.lt_of_lt_of_le hA3 HB6.out.size) hAX 2).1.trans ((HK3.out w3 (Chg.refl _ _)).1 ▸ HB6.out.cell (p:=⟨w.heap.size,2,none⟩) hA3),(hW.cell (Nat.lt_of_lt_of_le hB3 HB6.out.size) hBX2 _).1.trans ((HK3.out w3 (Chg.refl _ _)).2.1 ▸ HB6.out.cell (p:=⟨B,2+t * 8+a * 2,none⟩) hB3),(hW.cell (Nat.lt_of_lt_of_le hB3 HB6.out.size) hBX2 _).1.trans ((HK3.out w3 (Chg.refl _ _)).2.2 ▸ HB6.out.cell (p:=⟨B,2+t * 8+a * 2+1,none⟩) hB3)⟩);clear hb6;obtain⟨⟨o0,o1,o2,o3,o4,o5,o6⟩,z0,z1,z2,z3,z4,z5,z6⟩:=HF6.out.r2.ans;obtain⟨⟨p0,p1,p2,p3,p4,p5,p6⟩,y0,y1,y2,y3,y4,y5,y6⟩:=HF6.out.r1.ans))
    rename_i hHeld
    clear hHeld
    go_wp2_with fail
    have HEND:Hid (RowAt (((((((((((((((w6).setCell ⟨X2,0,none⟩ (.int .i64 0)).setCell ⟨X2,1,none⟩ (.bool true)).setCell ⟨X2,2,none⟩ (.int .i64 n)).setCell ⟨X2,3,none⟩ (.bool false)).setCell ⟨X2,4,none⟩ (.int .i64 0)).setCell ⟨X2,5,none⟩ (.bool false)).setCell ⟨X2,6,none⟩ (.int .i64 0)).setCell ⟨X1,0,none⟩ (.int .i64 0)).setCell ⟨X1,1,none⟩ (.bool true)).setCell ⟨X1,2,none⟩ (.int .i64 n)).setCell ⟨X1,3,none⟩ (.bool false)).setCell ⟨X1,4,none⟩ (.int .i64 0)).setCell ⟨X1,5,none⟩ (.bool false)).setCell ⟨X1,6,none⟩ (.int .i64 0)) X1 (ansL ⟨0,true,n,false,0,false,0⟩)) :=
      ((((((((((((((HF6.out.r1).setFar _ _ (by simp;omega)).setFar _ _ (by simp;omega)).setFar _ _ (by simp;omega)).setFar _ _ (by simp;omega)).setFar _ _ (by simp;omega)).setFar _ _ (by simp;omega)).setFar _ _ (by simp;omega)).set 0 _).set 1 _).set 2 _).set 3 _).set 4 _).set 5 _).set 6 _
    refine bodyPost_ret (v:=ansV ⟨0,true,n,false,0,false,0⟩) (res_acted rfl HEND.out) rfl ?_
    exact HF6.out.fin (by repeat with_reducible (first|exact Chg.refl _ _|refine chgS ?_ (by first|(simp;done)|(simp;omega))))
  · have HP:Hid (H.set t a n=(H,.err 2)):=by unfold Hid Hall.set;rw[if_neg hn]
    rw[HP.out]
    have HIN:Hid (∀W,Calls Try.prog 56 #[.int .i64 n,.int .i64 (-1099511627776),.int .i64 1099511627776] W (λe w'=>e = .returned (.bool false)/\W=w')):=λW=>by
      have:=in_any n (-1099511627776) 1099511627776 W
      by_cases h1 : -1099511627776<=n
      · rwa [inB_hi (by omega)] at this
      · rwa [inB_lo h1] at this
    clear hn HP
    go_enter Try.func67,Try.ntmps67
    go_upto_region 74 with (first|(go_at_call 56;(with_reducible refine (in_kind 7 (by omega) _).mono ?_);rintro e w1 ⟨rfl,hb1⟩;obtain⟨HA,HR1,HR2,HB1,hz1⟩:=rows3 hb1;clear hb1;obtain⟨a0,a1,a2,a3,a4⟩:=HA.out.act)|(go_at_call 56;(with_reducible refine (in_reg t HTT.out _).mono ?_);rintro e _ ⟨rfl,rfl⟩)|(go_at_call 56;(with_reducible refine (in_reg a HAA.out _).mono ?_);rintro e _ ⟨rfl,rfl⟩))
    obtain⟨X2,hX2⟩:∃X2,X2=w.heap.size+1+1:=⟨_,rfl⟩
    rw[<- hX2] at HR2 ⊢
    obtain⟨X1,hX1⟩:∃X1,X1=w.heap.size+1:=⟨_,rfl⟩
    rw[<- hX1] at HR1 ⊢
    have hx:w.heap.size<X1/\X1<X2/\X2<w1.heap.size:=by omega
    have hx12:X1≠X2:=by omega
    have HF:=Lib.hid (AF.start HM.out HB1.out hx HA.out HR1.out HR2.out)
    have HM1:=Lib.hid HF.out.mem
    have hB1:=HM1.out.lt
    have hBX2:B≠X2:=by have:=HM.out.lt;omega
    have hBX1:B≠X1:=by have:=HM.out.lt;omega
    clear hX1 hX2 hz1 HA HR1 HR2
    obtain⟨⟨o0,o1,o2,o3,o4,o5,o6⟩,z0,z1,z2,z3,z4,z5,z6⟩:=HF.out.r2.ans
    obtain⟨⟨p0,p1,p2,p3,p4,p5,p6⟩,y0,y1,y2,y3,y4,y5,y6⟩:=HF.out.r1.ans
    go_wp2_with (go_at_call 56;refine (HIN.out _).mono ?_;rintro e _ ⟨rfl,rfl⟩)
    have HEND:Hid (RowAt (((((((((w1).setCell ⟨X2,0,none⟩ (.int .i64 2)).setCell ⟨X1,0,none⟩ (.int .i64 2)).setCell ⟨X1,1,none⟩ (.bool AnsM.nil.is)).setCell ⟨X1,2,none⟩ (.int .i64 AnsM.nil.number)).setCell ⟨X1,3,none⟩ (.bool AnsM.nil.yes)).setCell ⟨X1,4,none⟩ (.int .i64 AnsM.nil.words)).setCell ⟨X1,5,none⟩ (.bool AnsM.nil.going)).setCell ⟨X1,6,none⟩ (.int .i64 AnsM.nil.freed)) X1 (ansL (.err 2))) :=
      ((((((((HF.out.r1).setFar _ _ (by simp;omega)).set 0 _).set 1 _).set 2 _).set 3 _).set 4 _).set 5 _).set 6 _
    refine bodyPost_ret (v:=ansV (.err 2)) (res_acted rfl HEND.out) rfl ?_
    exact HF.out.fin (by repeat with_reducible (first|exact Chg.refl _ _|refine chgS ?_ (by first|(simp;done)|(simp;omega))))
end Go.Proofs.Ytbeilcaadpopmab
namespace Go.Proofs.Ytbeilcaadpopmab
open Go.RowKit Go.Maps
set_option maxRecDepth 100000 in
set_option maxHeartbeats 8000000 in
theorem acted_copy (base:Nat) (w:World) (B:Nat) (nm:Rn) (H:Hall) (h:Rmem base w B nm H) (t a b u:Nat) (ht:t<4) (ha:a<4) (hb:b<4) (hu:u<4) :
    Calls Try.prog 67 #[.pointer (some ⟨B,0,none⟩),.agg #[.int .i64 8,.int .i64 (t:Int),.int .i64 (a:Int),.int .i64 (b:Int),.int .i64 (u:Int)]] w (RetRA base w B nm H (H.copy t a b u)):=by
  have HM:=Lib.hid h
  have i1:(t:Int)<4:=by omega
  have i2:(a:Int)<4:=by omega
  have i3:(b:Int)<4:=by omega
  have i4:(u:Int)<4:=by omega
  have HTT:=Lib.hid ht;have HAA:=Lib.hid ha;have HBB:=Lib.hid hb;have HUU:=Lib.hid hu
  clear h ht ha hb hu
  by_cases hut:u=t
  · have hne:((u:Int) != (t:Int))=false:=by simp;omega
    have hcc:¬ (u≠t/\((H.deals t).isOpen\/(H.deals u).isOpen)):=λh=>h.1 hut
    have HP:Hid (H.copy t a b u=({ H with regs:=put2 H.regs t a (H.regs u b) },.nil)):=by unfold Hid Hall.copy;rw[if_neg hcc]
    rw[HP.out]
    clear hcc HP hut
    go_enter Try.func67,Try.ntmps67
    go_upto_region 79 with (first|(go_at_call 56;(with_reducible refine (in_kind 8 (by omega) _).mono ?_);rintro e w1 ⟨rfl,hb1⟩;obtain⟨HA,HR1,HR2,HB1,hz1⟩:=rows3 hb1;clear hb1;obtain⟨a0,a1,a2,a3,a4⟩:=HA.out.act)|(go_at_call 56;(with_reducible refine (in_reg t HTT.out _).mono ?_);rintro e _ ⟨rfl,rfl⟩)|(go_at_call 56;(with_reducible refine (in_reg a HAA.out _).mono ?_);rintro e _ ⟨rfl,rfl⟩)|(go_at_call 56;(with_reducible refine (in_reg b HBB.out _).mono ?_);rintro e _ ⟨rfl,rfl⟩)|(go_at_call 56;(with_reducible refine (in_reg u HUU.out _).mono ?_);rintro e _ ⟨rfl,rfl⟩))
    obtain⟨X2,hX2⟩:∃X2,X2=w.heap.size+1+1:=⟨_,rfl⟩
    rw[<- hX2] at HR2 ⊢
    obtain⟨X1,hX1⟩:∃X1,X1=w.heap.size+1:=⟨_,rfl⟩
    rw[<- hX1] at HR1 ⊢
    have hx:w.heap.size<X1/\X1<X2/\X2<w1.heap.size:=by omega
    have hx12:X1≠X2:=by omega
    have HF:=Lib.hid (AF.start HM.out HB1.out hx HA.out HR1.out HR2.out)
    have HM1:=Lib.hid HF.out.mem
    have hB1:=HM1.out.lt
    have hBX2:B≠X2:=by have:=HM.out.lt;omega
    have hBX1:B≠X1:=by have:=HM.out.lt;omega
    clear hX1 hX2 hz1 HA HR1 HR2
    have c0:=(HM1.out.cD HTT.out).1
    have d0:=(HM1.out.cD HUU.out).1
    go_quiet (fail)
    go_wp2_with fail
    obtain⟨w2,hw2⟩:∃w2,w2=(w1.drewN nq).drew:=⟨_,rfl⟩
    have HF2:Hid (AF base w B nm H (actL 8 (t:Int) (a:Int) (b:Int) (u:Int)) X1 X2 AnsM.nil w2 nm H):=by rw[Hid,hw2];exact HF.out.below (below_drewN (Below.refl _ _) (nq+1))
    have HBX:=Lib.hid HF2.out.mem.box
    clear a0 a1 a2 a3 a4 c0 d0
    obtain⟨a0,a1,a2,a3,a4⟩:=HF2.out.ra.act
    obtain⟨v,hv⟩:∃v,v=H.regs u b:=⟨_,rfl⟩
    have HL:Hid (w2.rangeAt B (2+u * 8+b * 2) [.int .i64 v.k,.int .i64 v.n]):=HBX.out.range _ _ (by simp;omega) (λj hj=>by
      obtain⟨e1,e2⟩:=hallC_reg nm H HUU.out HBB.out
      rw[<- hv] at e1 e2
      have hj2:j=0\/j=1:=by simp at hj;omega
      rcases hj2 with rfl|rfl
      · exact e1
      · exact e2)
    obtain⟨vk,hvk⟩:∃vk,vk=v.k:=⟨_,rfl⟩
    obtain⟨vn,hvn⟩:∃vn,vn=v.n:=⟨_,rfl⟩
    rw[<- hvk,<- hvn] at HL
    have HVK:=Lib.hid hvk;have HVN:=Lib.hid hvn;have HVV:=Lib.hid hv
    clear hvk hvn hv
    refine still_tail_at 18 (by kernel_rfl) (by kernel_rfl) hw2 ?_;simp only [List.take_succ_cons,List.take_zero,List.drop_succ_cons,List.drop_zero];clear hw2;(repeat (first|(refine still_loadBox rfl _ _ rfl B (2+u * 8+b * 2) rfl _ HL.out _ Try.underlying36 rfl Try.sizeVal ?_)|still_step));refine wpStill_nil ?_
    have ho:2+t * 8+a * 2+(#[.int .i64 vk,.int .i64 vn]:Array Value).size<=84:=by have:=HTT.out;have:=HAA.out;simp;omega
    refine wpl_storeN rfl 36 _ _ rfl B (2+t * 8+a * 2) #[.int .i64 vk,.int .i64 vn] rfl rfl _ HBX.out ho Try.sizeVal (by simp[Value.oneCell']) ?_
    intro hbx hcg
    rw[List.toList_toArray] at hbx hcg ⊢
    obtain⟨w3,hw3⟩:∃w3,w3=w2.setCells B (2+t * 8+a * 2) [.int .i64 vk,.int .i64 vn]:=⟨_,rfl⟩
    rw[<- hw3] at hbx hcg ⊢
    obtain⟨q1,q2⟩:=HF2.out.mem.setReg HTT.out HAA.out (H.regs u b) hcg (by rw[HVK.out,HVN.out,HVV.out] at hbx;exact hbx)
    have HF3:=Lib.hid (HF2.out.step q1 q2)
    clear hbx hcg q1 q2 hw3 ho HBX a0 a1 a2 a3 a4
    go_frame
    obtain⟨⟨o0,o1,o2,o3,o4,o5,o6⟩,z0,z1,z2,z3,z4,z5,z6⟩:=HF3.out.r2.ans
    obtain⟨⟨p0,p1,p2,p3,p4,p5,p6⟩,y0,y1,y2,y3,y4,y5,y6⟩:=HF3.out.r1.ans
    go_wp2_with fail
    have HEND:Hid (RowAt ((((((((w3).setCell ⟨X1,0,none⟩ (.int .i64 AnsM.nil.code)).setCell ⟨X1,1,none⟩ (.bool AnsM.nil.is)).setCell ⟨X1,2,none⟩ (.int .i64 AnsM.nil.number)).setCell ⟨X1,3,none⟩ (.bool AnsM.nil.yes)).setCell ⟨X1,4,none⟩ (.int .i64 AnsM.nil.words)).setCell ⟨X1,5,none⟩ (.bool AnsM.nil.going)).setCell ⟨X1,6,none⟩ (.int .i64 AnsM.nil.freed)) X1 (ansL AnsM.nil)) :=
      (((((((HF3.out.r1).set 0 _).set 1 _).set 2 _).set 3 _).set 4 _).set 5 _).set 6 _
    refine bodyPost_ret (v:=ansV AnsM.nil) (res_acted rfl HEND.out) rfl ?_
    exact HF3.out.fin (by repeat with_reducible (first|exact Chg.refl _ _|refine chgS ?_ (by first|(simp;done)|(simp;omega))))
  · have hne:((u:Int) != (t:Int))=true:=by simp;omega
    cases hot:(H.deals t).isOpen with
    | true =>
      have hcc:u≠t/\((H.deals t).isOpen\/(H.deals u).isOpen):=⟨hut,.inl hot⟩
      have HP:Hid (H.copy t a b u=(H,.err 5)):=by unfold Hid Hall.copy;rw[if_pos hcc]
      rw[HP.out]
      have HOT:=Lib.hid hot
      clear hcc HP hut hot
      go_enter Try.func67,Try.ntmps67
      go_upto_region 79 with (first|(go_at_call 56;(with_reducible refine (in_kind 8 (by omega) _).mono ?_);rintro e w1 ⟨rfl,hb1⟩;obtain⟨HA,HR1,HR2,HB1,hz1⟩:=rows3 hb1;clear hb1;obtain⟨a0,a1,a2,a3,a4⟩:=HA.out.act)|(go_at_call 56;(with_reducible refine (in_reg t HTT.out _).mono ?_);rintro e _ ⟨rfl,rfl⟩)|(go_at_call 56;(with_reducible refine (in_reg a HAA.out _).mono ?_);rintro e _ ⟨rfl,rfl⟩)|(go_at_call 56;(with_reducible refine (in_reg b HBB.out _).mono ?_);rintro e _ ⟨rfl,rfl⟩)|(go_at_call 56;(with_reducible refine (in_reg u HUU.out _).mono ?_);rintro e _ ⟨rfl,rfl⟩))
      obtain⟨X2,hX2⟩:∃X2,X2=w.heap.size+1+1:=⟨_,rfl⟩
      rw[<- hX2] at HR2 ⊢
      obtain⟨X1,hX1⟩:∃X1,X1=w.heap.size+1:=⟨_,rfl⟩
      rw[<- hX1] at HR1 ⊢
      have hx:w.heap.size<X1/\X1<X2/\X2<w1.heap.size:=by omega
      have hx12:X1≠X2:=by omega
      have HF:=Lib.hid (AF.start HM.out HB1.out hx HA.out HR1.out HR2.out)
      have HM1:=Lib.hid HF.out.mem
      have hB1:=HM1.out.lt
      have hBX2:B≠X2:=by have:=HM.out.lt;omega
      have hBX1:B≠X1:=by have:=HM.out.lt;omega
      clear hX1 hX2 hz1 HA HR1 HR2
      have c0:=(HM1.out.cD HTT.out).1
      have d0:=(HM1.out.cD HUU.out).1
      rw[HOT.out] at c0
      go_quiet (fail)
      have HF2:=Lib.hid (HF.out.below (below_drewN (Below.refl w1.heap.size w1) nq))
      obtain⟨w2,hw2⟩:∃w2,w2=w1.drewN nq:=⟨_,rfl⟩
      rw[<- hw2] at HF2 ⊢
      clear hw2
      obtain⟨⟨o0,o1,o2,o3,o4,o5,o6⟩,z0,z1,z2,z3,z4,z5,z6⟩:=HF2.out.r2.ans
      obtain⟨⟨p0,p1,p2,p3,p4,p5,p6⟩,y0,y1,y2,y3,y4,y5,y6⟩:=HF2.out.r1.ans
      go_wp2_with fail
      have HEND:Hid (RowAt (((((((((w2).setCell ⟨X2,0,none⟩ (.int .i64 5)).setCell ⟨X1,0,none⟩ (.int .i64 5)).setCell ⟨X1,1,none⟩ (.bool AnsM.nil.is)).setCell ⟨X1,2,none⟩ (.int .i64 AnsM.nil.number)).setCell ⟨X1,3,none⟩ (.bool AnsM.nil.yes)).setCell ⟨X1,4,none⟩ (.int .i64 AnsM.nil.words)).setCell ⟨X1,5,none⟩ (.bool AnsM.nil.going)).setCell ⟨X1,6,none⟩ (.int .i64 AnsM.nil.freed)) X1 (ansL (.err 5))) :=
        ((((((((HF2.out.r1).setFar _ _ (by simp;omega)).set 0 _).set 1 _).set 2 _).set 3 _).set 4 _).set 5 _).set 6 _
      refine bodyPost_ret (v:=ansV (.err 5)) (res_acted rfl HEND.out) rfl ?_
      exact HF2.out.fin (by repeat with_reducible (first|exact Chg.refl _ _|refine chgS ?_ (by first|(simp;done)|(simp;omega))))
    | false =>
      cases hou:(H.deals u).isOpen with
      | true =>
        have hcc:u≠t/\((H.deals t).isOpen\/(H.deals u).isOpen):=⟨hut,.inr hou⟩
        have HP:Hid (H.copy t a b u=(H,.err 5)):=by unfold Hid Hall.copy;rw[if_pos hcc]
        rw[HP.out]
        have HOT:=Lib.hid hot;have HOU:=Lib.hid hou
        clear hcc HP hut hot hou
        go_enter Try.func67,Try.ntmps67
        go_upto_region 79 with (first|(go_at_call 56;(with_reducible refine (in_kind 8 (by omega) _).mono ?_);rintro e w1 ⟨rfl,hb1⟩;obtain⟨HA,HR1,HR2,HB1,hz1⟩:=rows3 hb1;clear hb1;obtain⟨a0,a1,a2,a3,a4⟩:=HA.out.act)|(go_at_call 56;(with_reducible refine (in_reg t HTT.out _).mono ?_);rintro e _ ⟨rfl,rfl⟩)|(go_at_call 56;(with_reducible refine (in_reg a HAA.out _).mono ?_);rintro e _ ⟨rfl,rfl⟩)|(go_at_call 56;(with_reducible refine (in_reg b HBB.out _).mono ?_);rintro e _ ⟨rfl,rfl⟩)|(go_at_call 56;(with_reducible refine (in_reg u HUU.out _).mono ?_);rintro e _ ⟨rfl,rfl⟩))
        obtain⟨X2,hX2⟩:∃X2,X2=w.heap.size+1+1:=⟨_,rfl⟩
        rw[<- hX2] at HR2 ⊢
        obtain⟨X1,hX1⟩:∃X1,X1=w.heap.size+1:=⟨_,rfl⟩
        rw[<- hX1] at HR1 ⊢
        have hx:w.heap.size<X1/\X1<X2/\X2<w1.heap.size:=by omega
        have hx12:X1≠X2:=by omega
        have HF:=Lib.hid (AF.start HM.out HB1.out hx HA.out HR1.out HR2.out)
        have HM1:=Lib.hid HF.out.mem
        have hB1:=HM1.out.lt
        have hBX2:B≠X2:=by have:=HM.out.lt;omega
        have hBX1:B≠X1:=by have:=HM.out.lt;omega
        clear hX1 hX2 hz1 HA HR1 HR2
        have c0:=(HM1.out.cD HTT.out).1
        have d0:=(HM1.out.cD HUU.out).1
        rw[HOT.out] at c0
        rw[HOU.out] at d0
        go_quiet (fail)
        have HF2:=Lib.hid (HF.out.below (below_drewN (Below.refl w1.heap.size w1) nq))
        obtain⟨w2,hw2⟩:∃w2,w2=w1.drewN nq:=⟨_,rfl⟩
        rw[<- hw2] at HF2 ⊢
        clear hw2
        obtain⟨⟨o0,o1,o2,o3,o4,o5,o6⟩,z0,z1,z2,z3,z4,z5,z6⟩:=HF2.out.r2.ans
        obtain⟨⟨p0,p1,p2,p3,p4,p5,p6⟩,y0,y1,y2,y3,y4,y5,y6⟩:=HF2.out.r1.ans
        go_wp2_with fail
        have HEND:Hid (RowAt (((((((((w2).setCell ⟨X2,0,none⟩ (.int .i64 5)).setCell ⟨X1,0,none⟩ (.int .i64 5)).setCell ⟨X1,1,none⟩ (.bool AnsM.nil.is)).setCell ⟨X1,2,none⟩ (.int .i64 AnsM.nil.number)).setCell ⟨X1,3,none⟩ (.bool AnsM.nil.yes)).setCell ⟨X1,4,none⟩ (.int .i64 AnsM.nil.words)).setCell ⟨X1,5,none⟩ (.bool AnsM.nil.going)).setCell ⟨X1,6,none⟩ (.int .i64 AnsM.nil.freed)) X1 (ansL (.err 5))) :=
          ((((((((HF2.out.r1).setFar _ _ (by simp;omega)).set 0 _).set 1 _).set 2 _).set 3 _).set 4 _).set 5 _).set 6 _
        refine bodyPost_ret (v:=ansV (.err 5)) (res_acted rfl HEND.out) rfl ?_
        exact HF2.out.fin (by repeat with_reducible (first|exact Chg.refl _ _|refine chgS ?_ (by first|(simp;done)|(simp;omega))))
      | false =>
        have hcc:¬ (u≠t/\((H.deals t).isOpen\/(H.deals u).isOpen)):=λh=>by rw[hot,hou] at h;simp at h
        have HP:Hid (H.copy t a b u=({ H with regs:=put2 H.regs t a (H.regs u b) },.nil)):=by unfold Hid Hall.copy;rw[if_neg hcc]
        rw[HP.out]
        have HOT:=Lib.hid hot;have HOU:=Lib.hid hou
        clear hcc HP hut hot hou
        go_enter Try.func67,Try.ntmps67
        go_upto_region 79 with (first|(go_at_call 56;(with_reducible refine (in_kind 8 (by omega) _).mono ?_);rintro e w1 ⟨rfl,hb1⟩;obtain⟨HA,HR1,HR2,HB1,hz1⟩:=rows3 hb1;clear hb1;obtain⟨a0,a1,a2,a3,a4⟩:=HA.out.act)|(go_at_call 56;(with_reducible refine (in_reg t HTT.out _).mono ?_);rintro e _ ⟨rfl,rfl⟩)|(go_at_call 56;(with_reducible refine (in_reg a HAA.out _).mono ?_);rintro e _ ⟨rfl,rfl⟩)|(go_at_call 56;(with_reducible refine (in_reg b HBB.out _).mono ?_);rintro e _ ⟨rfl,rfl⟩)|(go_at_call 56;(with_reducible refine (in_reg u HUU.out _).mono ?_);rintro e _ ⟨rfl,rfl⟩))
        obtain⟨X2,hX2⟩:∃X2,X2=w.heap.size+1+1:=⟨_,rfl⟩
        rw[<- hX2] at HR2 ⊢
        obtain⟨X1,hX1⟩:∃X1,X1=w.heap.size+1:=⟨_,rfl⟩
        rw[<- hX1] at HR1 ⊢
        have hx:w.heap.size<X1/\X1<X2/\X2<w1.heap.size:=by omega
        have hx12:X1≠X2:=by omega
        have HF:=Lib.hid (AF.start HM.out HB1.out hx HA.out HR1.out HR2.out)
        have HM1:=Lib.hid HF.out.mem
        have hB1:=HM1.out.lt
        have hBX2:B≠X2:=by have:=HM.out.lt;omega
        have hBX1:B≠X1:=by have:=HM.out.lt;omega
        clear hX1 hX2 hz1 HA HR1 HR2
        have c0:=(HM1.out.cD HTT.out).1
        have d0:=(HM1.out.cD HUU.out).1
        rw[HOT.out] at c0
        rw[HOU.out] at d0
        go_quiet (fail)
        go_wp2_with fail
        obtain⟨w2,hw2⟩:∃w2,w2=(w1.drewN nq).drew:=⟨_,rfl⟩
        have HF2:Hid (AF base w B nm H (actL 8 (t:Int) (a:Int) (b:Int) (u:Int)) X1 X2 AnsM.nil w2 nm H):=by rw[Hid,hw2];exact HF.out.below (below_drewN (Below.refl _ _) (nq+1))
        have HBX:=Lib.hid HF2.out.mem.box
        clear a0 a1 a2 a3 a4 c0 d0
        obtain⟨a0,a1,a2,a3,a4⟩:=HF2.out.ra.act
        obtain⟨v,hv⟩:∃v,v=H.regs u b:=⟨_,rfl⟩
        have HL:Hid (w2.rangeAt B (2+u * 8+b * 2) [.int .i64 v.k,.int .i64 v.n]):=HBX.out.range _ _ (by simp;omega) (λj hj=>by
          obtain⟨e1,e2⟩:=hallC_reg nm H HUU.out HBB.out
          rw[<- hv] at e1 e2
          have hj2:j=0\/j=1:=by simp at hj;omega
          rcases hj2 with rfl|rfl
          · exact e1
          · exact e2)
        obtain⟨vk,hvk⟩:∃vk,vk=v.k:=⟨_,rfl⟩
        obtain⟨vn,hvn⟩:∃vn,vn=v.n:=⟨_,rfl⟩
        rw[<- hvk,<- hvn] at HL
        have HVK:=Lib.hid hvk;have HVN:=Lib.hid hvn;have HVV:=Lib.hid hv
        clear hvk hvn hv
        refine still_tail_at 18 (by kernel_rfl) (by kernel_rfl) hw2 ?_;simp only [List.take_succ_cons,List.take_zero,List.drop_succ_cons,List.drop_zero];clear hw2;(repeat (first|(refine still_loadBox rfl _ _ rfl B (2+u * 8+b * 2) rfl _ HL.out _ Try.underlying36 rfl Try.sizeVal ?_)|still_step));refine wpStill_nil ?_
        have ho:2+t * 8+a * 2+(#[.int .i64 vk,.int .i64 vn]:Array Value).size<=84:=by have:=HTT.out;have:=HAA.out;simp;omega
        refine wpl_storeN rfl 36 _ _ rfl B (2+t * 8+a * 2) #[.int .i64 vk,.int .i64 vn] rfl rfl _ HBX.out ho Try.sizeVal (by simp[Value.oneCell']) ?_
        intro hbx hcg
        rw[List.toList_toArray] at hbx hcg ⊢
        obtain⟨w3,hw3⟩:∃w3,w3=w2.setCells B (2+t * 8+a * 2) [.int .i64 vk,.int .i64 vn]:=⟨_,rfl⟩
        rw[<- hw3] at hbx hcg ⊢
        obtain⟨q1,q2⟩:=HF2.out.mem.setReg HTT.out HAA.out (H.regs u b) hcg (by rw[HVK.out,HVN.out,HVV.out] at hbx;exact hbx)
        have HF3:=Lib.hid (HF2.out.step q1 q2)
        clear hbx hcg q1 q2 hw3 ho HBX a0 a1 a2 a3 a4
        go_frame
        obtain⟨⟨o0,o1,o2,o3,o4,o5,o6⟩,z0,z1,z2,z3,z4,z5,z6⟩:=HF3.out.r2.ans
        obtain⟨⟨p0,p1,p2,p3,p4,p5,p6⟩,y0,y1,y2,y3,y4,y5,y6⟩:=HF3.out.r1.ans
        go_wp2_with fail
        have HEND:Hid (RowAt ((((((((w3).setCell ⟨X1,0,none⟩ (.int .i64 AnsM.nil.code)).setCell ⟨X1,1,none⟩ (.bool AnsM.nil.is)).setCell ⟨X1,2,none⟩ (.int .i64 AnsM.nil.number)).setCell ⟨X1,3,none⟩ (.bool AnsM.nil.yes)).setCell ⟨X1,4,none⟩ (.int .i64 AnsM.nil.words)).setCell ⟨X1,5,none⟩ (.bool AnsM.nil.going)).setCell ⟨X1,6,none⟩ (.int .i64 AnsM.nil.freed)) X1 (ansL AnsM.nil)) :=
          (((((((HF3.out.r1).set 0 _).set 1 _).set 2 _).set 3 _).set 4 _).set 5 _).set 6 _
        refine bodyPost_ret (v:=ansV AnsM.nil) (res_acted rfl HEND.out) rfl ?_
        exact HF3.out.fin (by repeat with_reducible (first|exact Chg.refl _ _|refine chgS ?_ (by first|(simp;done)|(simp;omega))))
end Go.Proofs.Ytbeilcaadpopmab
namespace Go.Proofs.Ytbeilcaadpopmab
open Go.RowKit Go.Maps
theorem V.ext_kn {x y:V} (h1:x.k=y.k) (h2:x.n=y.n):x=y:=by
  cases x with
  | num m=>cases y with
    | num k=>exact congrArg V.num h2
    | ref k=>exact absurd h1 (show ¬ (0:Int)=1 by decide)
  | ref m=>cases y with
    | num k=>exact absurd h1 (show ¬ (1:Int)=0 by decide)
    | ref k=>exact congrArg V.ref (by have:(m:Int)=(k:Int):=h2;omega)
set_option maxRecDepth 100000 in
set_option maxHeartbeats 2000000 in
theorem acted_same (base:Nat) (w:World) (B:Nat) (nm:Rn) (H:Hall) (h:Rmem base w B nm H) (t a b:Nat) (ht:t<4) (ha:a<4) (hb:b<4) (n:Int) :
    Calls Try.prog 67 #[.pointer (some ⟨B,0,none⟩),.agg #[.int .i64 9,.int .i64 (t:Int),.int .i64 (a:Int),.int .i64 (b:Int),.int .i64 n]] w (RetRA base w B nm H (H.same t a b)):=by
  have HM:=Lib.hid h
  have i1:(t:Int)<4:=by omega
  have i2:(a:Int)<4:=by omega
  have i3:(b:Int)<4:=by omega
  have HTT:=Lib.hid ht;have HAA:=Lib.hid ha;have HBB:=Lib.hid hb
  obtain⟨q,hq⟩:∃q,q=decide (H.regs t a=H.regs t b):=⟨_,rfl⟩
  have HP:Hid (H.same t a b=(H,⟨0,false,0,q,0,false,0⟩)):=by rw[Hid,hq];rfl
  rw[HP.out]
  have HQ0:=Lib.hid hq
  clear h ht ha hb hq HP
  go_enter Try.func67,Try.ntmps67
  go_upto_region 83 with (first|(go_at_call 56;(with_reducible refine (in_kind 9 (by omega) _).mono ?_);rintro e w1 ⟨rfl,hb1⟩;obtain⟨HA,HR1,HR2,HB1,hz1⟩:=rows3 hb1;clear hb1;obtain⟨a0,a1,a2,a3,a4⟩:=HA.out.act)|(go_at_call 56;(with_reducible refine (in_reg t HTT.out _).mono ?_);rintro e _ ⟨rfl,rfl⟩)|(go_at_call 56;(with_reducible refine (in_reg a HAA.out _).mono ?_);rintro e _ ⟨rfl,rfl⟩)|(go_at_call 56;(with_reducible refine (in_reg b HBB.out _).mono ?_);rintro e _ ⟨rfl,rfl⟩))
  obtain⟨X2,hX2⟩:∃X2,X2=w.heap.size+1+1:=⟨_,rfl⟩
  rw[<- hX2] at HR2 ⊢
  obtain⟨X1,hX1⟩:∃X1,X1=w.heap.size+1:=⟨_,rfl⟩
  rw[<- hX1] at HR1 ⊢
  have hx:w.heap.size<X1/\X1<X2/\X2<w1.heap.size:=by omega
  have hx12:X1≠X2:=by omega
  have HF:=Lib.hid (AF.start HM.out HB1.out hx HA.out HR1.out HR2.out)
  have HM1:=Lib.hid HF.out.mem
  have hB1:=HM1.out.lt
  have hBX2:B≠X2:=by have:=HM.out.lt;omega
  have hBX1:B≠X1:=by have:=HM.out.lt;omega
  clear hX1 hX2 hz1 HA HR1 HR2
  obtain⟨w2,hw2⟩:∃w2,w2=w1.drew:=⟨_,rfl⟩
  have HF2:Hid (AF base w B nm H (actL 9 (t:Int) (a:Int) (b:Int) n) X1 X2 AnsM.nil w2 nm H):=by rw[Hid,hw2];exact HF.out.below (Below.refl _ _).drew
  clear a0 a1 a2 a3 a4
  obtain⟨a0,a1,a2,a3,a4⟩:=HF2.out.ra.act
  obtain⟨x,hx1⟩:∃x,x=H.regs t a:=⟨_,rfl⟩
  obtain⟨y,hy⟩:∃y,y=H.regs t b:=⟨_,rfl⟩
  obtain⟨xk,hxk⟩:∃xk,xk=x.k:=⟨_,rfl⟩
  obtain⟨xn,hxn⟩:∃xn,xn=x.n:=⟨_,rfl⟩
  obtain⟨yk,hyk⟩:∃yk,yk=y.k:=⟨_,rfl⟩
  obtain⟨yn,hyn⟩:∃yn,yn=y.n:=⟨_,rfl⟩
  have HL1:Hid (w2.rangeAt B (2+t * 8+a * 2) [.int .i64 xk,.int .i64 xn]):=HF2.out.mem.box.range _ _ (by simp;omega) (λj hj=>by
    obtain⟨e1,e2⟩:=hallC_reg nm H HTT.out HAA.out
    rw[<- hx1] at e1 e2
    rw[<- hxk] at e1
    rw[<- hxn] at e2
    have hj2:j=0\/j=1:=by simp at hj;omega
    rcases hj2 with rfl|rfl
    · exact e1
    · exact e2)
  have HL2:Hid (w2.rangeAt B (2+t * 8+b * 2) [.int .i64 yk,.int .i64 yn]):=HF2.out.mem.box.range _ _ (by simp;omega) (λj hj=>by
    obtain⟨e1,e2⟩:=hallC_reg nm H HTT.out HBB.out
    rw[<- hy] at e1 e2
    rw[<- hyk] at e1
    rw[<- hyn] at e2
    have hj2:j=0\/j=1:=by simp at hj;omega
    rcases hj2 with rfl|rfl
    · exact e1
    · exact e2)
  have HQ:Hid (decide ((xk,xn)=(yk,yn))=q):=by
    rw[Hid,HQ0.out,<- hx1,<- hy,hxk,hxn,hyk,hyn]
    refine decide_eq_decide.2 ⟨λe=>?_,λe=>by rw[e]⟩
    simp only [Prod.mk.injEq] at e
    exact V.ext_kn e.1 e.2
  clear hx1 hy hxk hxn hyk hyn
  refine still_tail_at 20 (by kernel_rfl) (by kernel_rfl) hw2 ?_;simp only [List.take_succ_cons,List.take_zero,List.drop_succ_cons,List.drop_zero];clear hw2;(repeat (first|(first|(refine still_loadBox rfl _ _ rfl B (2+t * 8+a * 2) rfl _ HL1.out _ Try.underlying36 rfl Try.sizeVal ?_)|(refine still_loadBox rfl _ _ rfl B (2+t * 8+b * 2) rfl _ HL2.out _ Try.underlying36 rfl Try.sizeVal ?_))|still_step))
  try simp only [Act.put,List.setIfInBounds_toArray,List.set_cons_zero,List.set_cons_succ]
  unfold wpStill
  rw[if_pos (by rfl)]
  unfold Oper.still
  go_simp
  have hif:∀(α:Type) (f:Bool->α),(if xk=yk then (if xn=yn then f true else f false) else f false)=f (decide ((xk,xn)=(yk,yn))):=λα f=>by
    by_cases e1:xk=yk
    · by_cases e2:xn=yn
      · simp[e1,e2]
      · simp[e1,e2]
    · simp[e1]
  have hif':=hif _ (λq=>Result.ok (Next.value (Value.bool q)) w2)
  rw[hif',HQ.out]
  clear hif hif'
  refine⟨rfl,?_⟩
  (repeat still_step);refine wpStill_nil ?_
  obtain⟨⟨o0,o1,o2,o3,o4,o5,o6⟩,z0,z1,z2,z3,z4,z5,z6⟩:=HF2.out.r2.ans
  obtain⟨⟨p0,p1,p2,p3,p4,p5,p6⟩,y0,y1,y2,y3,y4,y5,y6⟩:=HF2.out.r1.ans
  go_wp2_with fail
  have HEND:Hid (RowAt (((((((((w2).setCell ⟨X2,3,none⟩ (.bool q)).setCell ⟨X1,0,none⟩ (.int .i64 0)).setCell ⟨X1,1,none⟩ (.bool false)).setCell ⟨X1,2,none⟩ (.int .i64 0)).setCell ⟨X1,3,none⟩ (.bool q)).setCell ⟨X1,4,none⟩ (.int .i64 0)).setCell ⟨X1,5,none⟩ (.bool false)).setCell ⟨X1,6,none⟩ (.int .i64 0)) X1 (ansL ⟨0,false,0,q,0,false,0⟩)) :=
    ((((((((HF2.out.r1).setFar _ _ (by simp;omega)).set 0 _).set 1 _).set 2 _).set 3 _).set 4 _).set 5 _).set 6 _
  refine bodyPost_ret (v:=ansV ⟨0,false,0,q,0,false,0⟩) (res_acted rfl HEND.out) rfl ?_
  exact HF2.out.fin (by repeat with_reducible (first|exact Chg.refl _ _|refine chgS ?_ (by first|(simp;done)|(simp;omega))))
theorem dealL_open (nm:Rn) (t:Nat) (s:Nat->V):Value.agg (dealL (nm.deal t (.slice none 0 0) (.slice none 0 0) (.slice none 0 0)) ⟨true,s,[],[],[]⟩ t).toArray = .agg #[.bool true,.int .i64 (s 0).k,.int .i64 (s 0).n,.int .i64 (s 1).k,.int .i64 (s 1).n,.int .i64 (s 2).k,.int .i64 (s 2).n,.int .i64 (s 3).k,.int .i64 (s 3).n,.slice none 0 0,.slice none 0 0,.slice none 0 0]:=by
  have e1:(nm.deal t (.slice none 0 0) (.slice none 0 0) (.slice none 0 0)).rv t = .slice none 0 0:=by simp[Rn.deal,put1]
  have e2:(nm.deal t (.slice none 0 0) (.slice none 0 0) (.slice none 0 0)).ov t = .slice none 0 0:=by simp[Rn.deal,put1]
  have e3:(nm.deal t (.slice none 0 0) (.slice none 0 0) (.slice none 0 0)).cv t = .slice none 0 0:=by simp[Rn.deal,put1]
  have e:dealL (nm.deal t (.slice none 0 0) (.slice none 0 0) (.slice none 0 0)) ⟨true,s,[],[],[]⟩ t=[.bool true,.int .i64 (s 0).k,.int .i64 (s 0).n,.int .i64 (s 1).k,.int .i64 (s 1).n,.int .i64 (s 2).k,.int .i64 (s 2).n,.int .i64 (s 3).k,.int .i64 (s 3).n,.slice none 0 0,.slice none 0 0,.slice none 0 0]:=by
    show [dealC _ _ t 0,dealC _ _ t 1,dealC _ _ t 2,dealC _ _ t 3,dealC _ _ t 4,dealC _ _ t 5,dealC _ _ t 6,dealC _ _ t 7,dealC _ _ t 8,(nm.deal t (.slice none 0 0) (.slice none 0 0) (.slice none 0 0)).rv t,(nm.deal t (.slice none 0 0) (.slice none 0 0) (.slice none 0 0)).ov t,(nm.deal t (.slice none 0 0) (.slice none 0 0) (.slice none 0 0)).cv t]=_
    rw[e1,e2,e3]
    rfl
  rw[e]
set_option maxRecDepth 100000 in
set_option maxHeartbeats 2000000 in
theorem acted_begin (base:Nat) (w:World) (B:Nat) (nm:Rn) (H:Hall) (h:Rmem base w B nm H) (t:Nat) (ht:t<4) (a b n:Int) :
    Calls Try.prog 67 #[.pointer (some ⟨B,0,none⟩),.agg #[.int .i64 1,.int .i64 (t:Int),.int .i64 a,.int .i64 b,.int .i64 n]] w (RetRA base w B nm H (H.begin t)):=by
  have HM:=Lib.hid h
  have i1:(t:Int)<4:=by omega
  have HTT:=Lib.hid ht
  clear h ht
  cases ho:(H.deals t).isOpen with
  | true =>
    have HP:Hid (H.begin t=(H,.err 5)):=by unfold Hid Hall.begin;rw[if_pos ho]
    rw[HP.out]
    have HO:=Lib.hid ho
    clear ho HP
    go_enter Try.func67,Try.ntmps67
    go_upto_region 15 with (first|(go_at_call 56;(with_reducible refine (in_kind 1 (by omega) _).mono ?_);rintro e w1 ⟨rfl,hb1⟩;obtain⟨HA,HR1,HR2,HB1,hz1⟩:=rows3 hb1;clear hb1;obtain⟨a0,a1,a2,a3,a4⟩:=HA.out.act)|(go_at_call 56;(with_reducible refine (in_reg t HTT.out _).mono ?_);rintro e _ ⟨rfl,rfl⟩))
    obtain⟨X2,hX2⟩:∃X2,X2=w.heap.size+1+1:=⟨_,rfl⟩
    rw[<- hX2] at HR2 ⊢
    obtain⟨X1,hX1⟩:∃X1,X1=w.heap.size+1:=⟨_,rfl⟩
    rw[<- hX1] at HR1 ⊢
    have hx:w.heap.size<X1/\X1<X2/\X2<w1.heap.size:=by omega
    have hx12:X1≠X2:=by omega
    have HF:=Lib.hid (AF.start HM.out HB1.out hx HA.out HR1.out HR2.out)
    have HM1:=Lib.hid HF.out.mem
    have hB1:=HM1.out.lt
    have hBX2:B≠X2:=by have:=HM.out.lt;omega
    have hBX1:B≠X1:=by have:=HM.out.lt;omega
    clear hX1 hX2 hz1 HA HR1 HR2
    have c0:=(HM1.out.cD HTT.out).1
    rw[HO.out] at c0
    obtain⟨⟨o0,o1,o2,o3,o4,o5,o6⟩,z0,z1,z2,z3,z4,z5,z6⟩:=HF.out.r2.ans
    obtain⟨⟨p0,p1,p2,p3,p4,p5,p6⟩,y0,y1,y2,y3,y4,y5,y6⟩:=HF.out.r1.ans
    go_wp2_with fail
    have HEND:Hid (RowAt (((((((((w1).setCell ⟨X2,0,none⟩ (.int .i64 5)).setCell ⟨X1,0,none⟩ (.int .i64 5)).setCell ⟨X1,1,none⟩ (.bool AnsM.nil.is)).setCell ⟨X1,2,none⟩ (.int .i64 AnsM.nil.number)).setCell ⟨X1,3,none⟩ (.bool AnsM.nil.yes)).setCell ⟨X1,4,none⟩ (.int .i64 AnsM.nil.words)).setCell ⟨X1,5,none⟩ (.bool AnsM.nil.going)).setCell ⟨X1,6,none⟩ (.int .i64 AnsM.nil.freed)) X1 (ansL (.err 5))) :=
      ((((((((HF.out.r1).setFar _ _ (by simp;omega)).set 0 _).set 1 _).set 2 _).set 3 _).set 4 _).set 5 _).set 6 _
    refine bodyPost_ret (v:=ansV (.err 5)) (res_acted rfl HEND.out) rfl ?_
    exact HF.out.fin (by repeat with_reducible (first|exact Chg.refl _ _|refine chgS ?_ (by first|(simp;done)|(simp;omega))))
  | false =>
    have HP:Hid (H.begin t=({ H with deals:=put1 H.deals t ⟨true,H.regs t,[],[],[]⟩ },.nil)):=by unfold Hid Hall.begin;rw[if_neg (by rw[ho];simp)]
    rw[HP.out]
    have HO:=Lib.hid ho
    clear ho HP
    go_enter Try.func67,Try.ntmps67
    go_upto_region 15 with (first|(go_at_call 56;(with_reducible refine (in_kind 1 (by omega) _).mono ?_);rintro e w1 ⟨rfl,hb1⟩;obtain⟨HA,HR1,HR2,HB1,hz1⟩:=rows3 hb1;clear hb1;obtain⟨a0,a1,a2,a3,a4⟩:=HA.out.act)|(go_at_call 56;(with_reducible refine (in_reg t HTT.out _).mono ?_);rintro e _ ⟨rfl,rfl⟩))
    obtain⟨X2,hX2⟩:∃X2,X2=w.heap.size+1+1:=⟨_,rfl⟩
    rw[<- hX2] at HR2 ⊢
    obtain⟨X1,hX1⟩:∃X1,X1=w.heap.size+1:=⟨_,rfl⟩
    rw[<- hX1] at HR1 ⊢
    have hx:w.heap.size<X1/\X1<X2/\X2<w1.heap.size:=by omega
    have hx12:X1≠X2:=by omega
    have HF:=Lib.hid (AF.start HM.out HB1.out hx HA.out HR1.out HR2.out)
    have HM1:=Lib.hid HF.out.mem
    have hB1:=HM1.out.lt
    have hBX2:B≠X2:=by have:=HM.out.lt;omega
    have hBX1:B≠X1:=by have:=HM.out.lt;omega
    clear hX1 hX2 hz1 HA HR1 HR2
    have c0:=(HM1.out.cD HTT.out).1
    rw[HO.out] at c0
    go_wp2_with fail
    obtain⟨w2,hw2⟩:∃w2,w2=w1.drew:=⟨_,rfl⟩
    have HF2:Hid (AF base w B nm H (actL 1 (t:Int) a b n) X1 X2 AnsM.nil w2 nm H):=by rw[Hid,hw2];exact HF.out.below (Below.refl _ _).drew
    have HBX:=Lib.hid HF2.out.mem.box
    clear a0 a1 a2 a3 a4 c0
    have HL:Hid (w2.rangeAt B (2+t * 8) [.int .i64 (H.regs t 0).k,.int .i64 (H.regs t 0).n,.int .i64 (H.regs t 1).k,.int .i64 (H.regs t 1).n,.int .i64 (H.regs t 2).k,.int .i64 (H.regs t 2).n,.int .i64 (H.regs t 3).k,.int .i64 (H.regs t 3).n]):=HBX.out.range _ (regsL (H.regs t)) (by simp[regsL];omega) (λj hj=>by
      have hj8:j<8:=by simpa [regsL] using hj
      unfold hallC
      rw[if_neg (by omega),if_neg (by omega),if_pos (by omega),show (2+t * 8+j - 2) / 8=t by omega,show (2+t * 8+j - 2) % 8=j by omega,show (2+t * 8+j - 2) % 2=j % 2 by omega]
      simp[regsL])
    refine still_tail_at 12 (by kernel_rfl) (by kernel_rfl) hw2 ?_;simp only [List.take_succ_cons,List.take_zero,List.drop_succ_cons,List.drop_zero];clear hw2;(repeat (first|(refine still_loadBox rfl _ _ rfl B (2+t * 8) rfl _ HL.out _ undRegs rfl Try.sizeRegs ?_)|still_step));refine wpStill_nil ?_
    refine wpl_storeN rfl 123 _ _ rfl B (34+t * 12) (dealL (nm.deal t (.slice none 0 0) (.slice none 0 0) (.slice none 0 0)) ⟨true,H.regs t,[],[],[]⟩ t).toArray rfl (dealL_open nm t (H.regs t)).symm _ HBX.out (by simp[dealL];omega) (Try.sizeDeal.trans (by simp[dealL])) (dealL_one (by simp[Rn.deal,put1,Value.oneCell']) (by simp[Rn.deal,put1,Value.oneCell']) (by simp[Rn.deal,put1,Value.oneCell'])) ?_
    rw[List.toList_toArray]
    intro hbx hcg
    obtain⟨q1,q2⟩:=HF2.out.mem.endDeal HTT.out ⟨true,H.regs t,[],[],[]⟩ ⟨rfl,rfl,rfl⟩ hcg hbx
    generalize hw3:World.setCells _ _ _ _=w3 at q1 q2 ⊢
    have HF3:=Lib.hid (HF2.out.step q1 q2)
    clear hbx hcg q1 q2 hw3 HBX
    go_frame
    obtain⟨⟨o0,o1,o2,o3,o4,o5,o6⟩,z0,z1,z2,z3,z4,z5,z6⟩:=HF3.out.r2.ans
    obtain⟨⟨p0,p1,p2,p3,p4,p5,p6⟩,y0,y1,y2,y3,y4,y5,y6⟩:=HF3.out.r1.ans
    go_wp2_with fail
    have HEND:Hid (RowAt ((((((((w3).setCell ⟨X1,0,none⟩ (.int .i64 AnsM.nil.code)).setCell ⟨X1,1,none⟩ (.bool AnsM.nil.is)).setCell ⟨X1,2,none⟩ (.int .i64 AnsM.nil.number)).setCell ⟨X1,3,none⟩ (.bool AnsM.nil.yes)).setCell ⟨X1,4,none⟩ (.int .i64 AnsM.nil.words)).setCell ⟨X1,5,none⟩ (.bool AnsM.nil.going)).setCell ⟨X1,6,none⟩ (.int .i64 AnsM.nil.freed)) X1 (ansL AnsM.nil)) :=
      (((((((HF3.out.r1).set 0 _).set 1 _).set 2 _).set 3 _).set 4 _).set 5 _).set 6 _
    refine bodyPost_ret (v:=ansV AnsM.nil) (res_acted rfl HEND.out) rfl ?_
    exact HF3.out.fin (by repeat with_reducible (first|exact Chg.refl _ _|refine chgS ?_ (by first|(simp;done)|(simp;omega))))
end Go.Proofs.Ytbeilcaadpopmab
