/- Texts put together: Wr, Wq, Wi, My. -/
import Derived.Test.YtbeilcaadpopmabY1
set_option linter.unusedVariables false
set_option linter.unusedSimpArgs false
namespace Go.Proofs.Ytbeilcaadpopmab
open Go.RowKit
def inB (n lo hi:Int):Bool:=decide (lo<=n) && decide (n<=hi)
theorem inB_true {n lo hi:Int} (h1:lo<=n) (h2:n<=hi):inB n lo hi=true:=by simp[inB,h1,h2]
theorem inB_lo {n lo hi:Int} (h1:¬ lo<=n):inB n lo hi=false:=by simp[inB,h1]
theorem inB_hi {n lo hi:Int} (h1:¬ n<=hi):inB n lo hi=false:=by simp[inB,h1]
set_option maxHeartbeats 400000 in
theorem in_any (n lo hi:Int) (w:World) :
    Calls Try.prog 56 #[.int .i64 n,.int .i64 lo,.int .i64 hi] w λe w'=>e = .returned (.bool (inB n lo hi))/\w=w':=by
  by_cases h1:lo<=n
  · by_cases h2:n<=hi
    · have e:=inB_true h1 h2
      have H:=Lib.hid e;clear e
      go_enter Try.func56,Try.ntmps56
      go_wp2
      go_ret
      exact⟨ret_bool H.out.symm,rfl⟩
    · have e:=inB_hi (lo:=lo) h2
      have H:=Lib.hid e;clear e
      go_enter Try.func56,Try.ntmps56
      go_wp2
      go_ret
      exact⟨ret_bool H.out.symm,rfl⟩
  · have e:=inB_lo (hi:=hi) h1
    have H:=Lib.hid e;clear e
    go_enter Try.func56,Try.ntmps56
    go_wp2
    go_ret
    exact⟨ret_bool H.out.symm,rfl⟩
theorem odd_tmod (x:Int):(x.tmod 2 != 0)=(x % 2 != 0):=by
  have:x.tmod 2=0 ↔ x % 2=0:=by
    constructor <;> intro h
    · exact Int.emod_eq_zero_of_dvd (Int.dvd_of_tmod_eq_zero h)
    · exact Int.tmod_eq_zero_of_dvd (Int.dvd_of_emod_eq_zero h)
  by_cases h:x % 2=0
  · rw[h,this.2 h]
  · rw[bne_iff_ne.2 h,bne_iff_ne.2 (λe=>h (this.1 e))]
def oddB (x:Int):Bool:=x % 2 != 0
set_option maxHeartbeats 400000 in
theorem odd_any (x:Int) (w:World) (h0 : -9223372036854775808<=x) (h1:x<=9223372036854775807) :
    Calls Try.prog 68 #[.int .i64 x] w λe w'=>e = .returned (.bool (oddB x))/\w=w':=by
  have H:=Lib.hid (odd_tmod x)
  go_enter Try.func68,Try.ntmps68
  go_wp2
  go_ret
  exact⟨ret_bool H.out,rfl⟩
theorem half_neg (x:Int) (h:¬ x % 2=0) (h0:x<0):(x - 1).tdiv 2=ofN x:=by
  rw[tdiv_even (x - 1) (by omega)];unfold ofN;omega
set_option maxHeartbeats 400000 in
theorem half_any (x:Int) (w:World) (h0 : -9223372036854775808<=x) (h1:x<=9223372036854775807) :
    Calls Try.prog 69 #[.int .i64 x] w λe w'=>e = .returned (.int .i64 (ofN x))/\w=w':=by
  by_cases hx:x<0
  · by_cases ho:x % 2=0
    · have H:=Lib.hid (tdiv_even x ho)
      have e:oddB x=false:=by simp[oddB,ho]
      clear ho
      go_enter Try.func69,Try.ntmps69
      go_wp2_with (go_at_call 68;refine (odd_any _ _ (by omega) (by omega)).mono ?_;rintro e w' ⟨rfl,rfl⟩)
      go_ret
      exact⟨ret_int H.out,rfl⟩
    · have H:=Lib.hid (half_neg x ho hx)
      have e:oddB x=true:=by simp[oddB];omega
      have hl : -9223372036854775807<=x:=by omega
      clear ho
      go_enter Try.func69,Try.ntmps69
      go_wp2_with (go_at_call 68;refine (odd_any _ _ (by omega) (by omega)).mono ?_;rintro e w' ⟨rfl,rfl⟩)
      go_ret
      exact⟨ret_int H.out,rfl⟩
  · go_enter Try.func69,Try.ntmps69
    go_wp2
    go_ret
    exact⟨rfl,rfl⟩
end Go.Proofs.Ytbeilcaadpopmab
namespace Go.Proofs.Ytbeilcaadpopmab
open Go.RowKit
theorem in_same (n lo hi:Int) (w:World):Calls Try.prog 56 #[.int .i64 n,.int .i64 lo,.int .i64 hi] w λe w'=>e = .returned (.bool (inB n lo hi))/\w' = w :=
  (in_any n lo hi w).mono λ_ _ ⟨h1,h2⟩=>⟨h1,h2.symm⟩
set_option maxHeartbeats 1000000 in
theorem refPlaces_any (v:Value) (xs:List Int) (top:Nat) (w:World) (h:Ints w v xs) (h1:1<=top) (h2:top<=xs.length) (h3:xs.length<=400) :
    Calls Try.prog 55 #[.agg #[v,.int .i64 top]] w (RetPlaces w (places xs top)):=by
  obtain⟨a,c,rfl,hc,hcm,_⟩:=h.len
  obtain⟨b,o,rfl,hbs,hcell⟩:=h.at (by omega)
  have HC:=Lib.hid hcell;clear hcell
  have HH:=Lib.hid h;clear h
  have hb0:Below (w.heap.size+1) (w.alloc (.cells #[.slice (some ⟨b,o,none⟩) xs.length c,.int .i64 top] 25)) (w.alloc (.cells #[.slice (some ⟨b,o,none⟩) xs.length c,.int .i64 top] 25)):=Below.refl _ _
  have HB0:=Lib.hid hb0;clear hb0
  go_enter Try.func55,Try.ntmps55
  go_wp2_with fail
  go_loopw [4,5] (λl i wr=>∃(p:Nat) (acc:List Nat),i = .int .i64 p/\PlInv xs top p acc/\OwnInts wr (w.heap.size+1) l (intsOf acc)/\Below (w.heap.size+1) (w.alloc (.cells #[.slice (some ⟨b,o,none⟩) xs.length c,.int .i64 top] 25)) wr) (λ_ i _=>top - (intOf i).toNat)
  case atStart=>exact⟨1,[],rfl,PlInv.start h1 (by omega),⟨⟨by simp[intsOf],by simp[intsOf]⟩,World.ownsRow_nil _ _ _ _⟩,HB0.out⟩
  case round =>
    obtain⟨p,acc,rfl,hinv,hown,hbel⟩:=hrel
    have hsz:=hbel.size
    rw[World.size_alloc] at hsz
    have hp400:p<=top:=by obtain⟨f,_,_,h,_⟩:=hinv;exact h
    have hacc:acc.length * 2+1<=p:=by obtain⟨f,_,_,_,_,h,_⟩:=hinv;exact h
    have f0:=hbel.cell (p:=⟨w.heap.size,0,none⟩) (by first|exact Nat.le_refl _|(simp;done)|omega|(simp;omega))
    have f1:=hbel.cell (p:=⟨w.heap.size,1,none⟩) (by first|exact Nat.le_refl _|(simp;done)|omega|(simp;omega))
    simp at f0 f1
    have HBEL:Below w.heap.size w wr:=((Below.refl _ w).alloc (Nat.le_refl _) _).trans (hbel.mono (by omega))
    have HO:=Lib.hid hown;clear hown
    have HI:=Lib.hid hinv;clear hinv
    have HB:=Lib.hid hbel;clear hbel
    have HW:=Lib.hid HBEL;clear HBEL HB0
    by_cases hp:p<top
    · by_cases hs:top<p+2
      · have hd:decide ((top:Int)<(p:Int)+2)=true:=decide_eq_true (by omega)
        go_wp2
        go_quiet ((go_at_call 56;exact Calls.quiet_of_same (in_same _ _ _ _)))
        go_wp2
        go_ret2
        exact RetPlaces.bad (HI.out.short hp hs) (below_drewN HW.out _)
      · have hcl:=HC.out (p+1) (by omega)
        have hcl2:=(HW.out.cell (p:=⟨b,o+(p+1),none⟩) hbs).trans hcl
        clear hcl
        have hrg:=HH.out.range (p+1)
        obtain⟨n,hn⟩:∃n,n=xs.getD (p+1) 0:=⟨_,rfl⟩
        rw[<- hn] at hcl2 hrg
        obtain⟨hr1,hr2⟩:=hrg
        have HN:=Lib.hid hn;clear hn
        have hd:decide ((top:Int)<(p:Int)+2)=false:=decide_eq_false (by omega)
        by_cases hn6:0<=n/\n<=6
        · obtain⟨hn0,hn6⟩:=hn6
          obtain⟨m,rfl⟩:=Int.eq_ofNat_of_zero_le hn0
          have hin:=inB_true hn0 hn6
          by_cases ht:p+2+m<=top
          · have HX:=Lib.hid (HI.out.step hp hs HN.out.symm (by omega) ht)
            have hd2:decide ((top:Int)<(p:Int)+2+(m:Int))=false:=decide_eq_false (by omega)
            go_wp2
            go_quiet ((go_at_call 56;exact Calls.quiet_of_same (in_same _ _ _ _)))
            go_wp2_with (at_builtin;refine wpl_append_ints rfl _ _ rfl (w.heap.size+1) _ (intsOf acc) rfl ((HO.out.below (below_drewN (Below.refl _ _) _)).below (Below.alloc (Below.refl _ _) (Nat.le_refl _) _)) _ [(p:Int)] rfl (built_one _ _ (by unfold I64;omega)) (by simp[intsOf];omega) (by first|exact Nat.le_refl _|(simp;done)|omega|(simp;omega)) ?_;intro v2 w2 hv2 hg2 hm2;have hB2:=((below_drewN HB.out _).alloc hsz _).grown hg2 (by first|exact Nat.le_refl _|(simp;done)|omega|(simp;omega)) (λj hj=>(HO.out.lt hj).1);have f2:=hB2.cell (p:=⟨w.heap.size,0,none⟩) (by first|exact Nat.le_refl _|(simp;done)|omega|(simp;omega));have f3:=hB2.cell (p:=⟨w.heap.size,1,none⟩) (by first|exact Nat.le_refl _|(simp;done)|omega|(simp;omega));simp at f2 f3;have hW2:Below w.heap.size w w2:=((Below.refl _ w).alloc (Nat.le_refl _) _).trans (hB2.mono (by omega));have hcl3:=(hW2.cell (p:=⟨b,o+(p+1),none⟩) hbs).trans ((HW.out.cell (p:=⟨b,o+(p+1),none⟩) hbs).symm.trans hcl2);have HB2:=Lib.hid hB2;have HV2:=Lib.hid hv2;clear hB2 hW2 hg2 hm2 hv2)
            go_roundw
            case rel=>exact⟨p+2+m,acc++[p],int_eq (by omega),HX.out,by rw[intsOf_snoc];exact HV2.out,HB2.out⟩
            case measure=>simp[intOf];omega
          · have HX:=Lib.hid (HI.out.bad hp (by rw[<- HN.out];omega))
            have hd2:decide ((top:Int)<(p:Int)+2+(m:Int))=true:=decide_eq_true (by omega)
            go_wp2
            go_quiet ((go_at_call 56;exact Calls.quiet_of_same (in_same _ _ _ _)))
            go_wp2
            go_ret2
            exact RetPlaces.bad HX.out (below_drewN HW.out _)
        · have hin:inB n 0 6=false:=by
            by_cases h0:0<=n
            · exact inB_hi (by omega)
            · exact inB_lo h0
          have HX:=Lib.hid (HI.out.bad hp (by rw[<- HN.out];omega))
          go_wp2
          go_quiet ((go_at_call 56;exact Calls.quiet_of_same (in_same _ _ _ _)))
          go_wp2
          go_ret2
          exact RetPlaces.bad HX.out (below_drewN HW.out _)
    · go_wp2
      go_ret2
      exact RetPlaces.good (HI.out.done hp) HW.out HO.out (by omega)
end Go.Proofs.Ytbeilcaadpopmab
namespace Go.Proofs.Ytbeilcaadpopmab
open Go.RowKit
set_option maxHeartbeats 400000 in
theorem has_any (v:Value) (l:List Int) (n:Int) (w:World) (h:Ints w v l) :
    Calls Try.prog 57 #[v,.int .i64 n] w λe w'=>e = .returned (.bool (hasB l n))/\w=w':=by
  obtain⟨a,c,rfl,hc,hcm,_⟩:=h.len
  have hle:=h.le
  have H:=Lib.hid h;clear h
  go_enter Try.func57,Try.ntmps57
  go_wp2_with fail
  go_loop [5] (λi=>∃k:Nat,k<=l.length/\i = .int .i64 k/\∀j,j<k->l.getD j 0≠n) (λi=>l.length - (intOf i).toNat)
  case atStart=>exact⟨0,Nat.zero_le _,rfl,by omega⟩
  case round =>
    obtain⟨k,hk,rfl,hno⟩:=hrel
    have HN:=Lib.hid hno;clear hno
    by_cases hlt:k<l.length
    · obtain⟨b,o,rfl,_,hc1⟩:=H.out.at (by omega)
      replace hc1:=hc1 k hlt
      obtain⟨x,hx⟩:∃x,x=l.getD k 0:=⟨_,rfl⟩
      rw[<- hx] at hc1
      by_cases hxn:x=n
      · subst hxn
        have HX:=Lib.hid (hasB_of (n:=x) hlt (by rw[<- hx];simp));clear hx
        have hb:(x == x)=true:=by simp
        go_wp2
        go_ret
        exact⟨ret_bool HX.out.symm,rfl⟩
      · have hb:(x == n)=false:=by simpa using hxn
        have HX:=Lib.hid (show ∀j,j<k+1->l.getD j 0≠n from λj hj=>by
          by_cases e:j=k
          · subst e;rw[<- hx];exact hxn
          · exact HN.out j (by omega))
        clear hx hxn
        go_wp2
        go_round
        case rel=>exact⟨k+1,by omega,by go_num,HX.out⟩
        case measure=>simp[intOf];omega
    · have HX:=Lib.hid (hasB_not (λj hj=>HN.out j (by omega)))
      go_wp2
      go_ret
      exact⟨ret_bool HX.out.symm,rfl⟩
end Go.Proofs.Ytbeilcaadpopmab
namespace Go.Proofs.Ytbeilcaadpopmab
open Go.RowKit
def RetMay (w:World) (xs:List Int) (top:Int) (e:Ending) (w':World):Prop :=
  Below w.heap.size w w'/\((HeapOk xs top/\e = .returned (.bool true))\/(¬ HeapOk xs top/\e = .returned (.bool false)))
theorem RetMay.bad {w w':World} {xs:List Int} {top:Int} (h:¬ HeapOk xs top) (hb:Below w.heap.size w w'):RetMay w xs top (.returned (.bool false)) w':=⟨hb,.inr ⟨h,rfl⟩⟩
theorem inB_not {n lo hi:Int} (h:¬ (lo<=n/\n<=hi)):inB n lo hi=false:=by
  by_cases h1:lo<=n
  · exact inB_hi (by omega)
  · exact inB_lo h1
set_option maxHeartbeats 1000000 in
set_option maxRecDepth 100000 in
theorem may_limits (v:Value) (xs:List Int) (top:Int) (w:World) (h:Ints w v xs) (hl:¬ (1<=xs.length/\xs.length<=400/\1<=top/\top<=xs.length)) :
    Calls Try.prog 45 #[.agg #[v,.int .i64 top]] w (RetMay w xs top):=by
  obtain⟨a,c,rfl,hc,hcm,_⟩:=h.len
  have hle:=h.le
  have HN:=Lib.hid (not_ok_len hl)
  clear h
  by_cases h1:1<=xs.length/\xs.length<=400
  · have e1:inB (xs.length:Int) 1 400=true:=inB_true (by omega) (by omega)
    have e2:inB top 1 (xs.length:Int)=false:=inB_not (by omega)
    clear hl h1
    go_enter Try.func45,Try.ntmps45
    go_wp2_with (go_at_call 56;refine (in_any _ _ _ _).mono ?_;rintro e w' ⟨rfl,rfl⟩)
    go_ret
    exact RetMay.bad HN.out (by ((repeat first|exact bR _ _|with_reducible first|refine bN ?_|refine bD ?_|refine bA ?_ ?_|refine bS ?_ ?_);all_goals first|exact Nat.le_refl _|(simp;done)|omega|(simp;omega)))
  · have e1:inB (xs.length:Int) 1 400=false:=inB_not (by omega)
    clear hl h1
    go_enter Try.func45,Try.ntmps45
    go_wp2_with (go_at_call 56;refine (in_any _ _ _ _).mono ?_;rintro e w' ⟨rfl,rfl⟩)
    go_ret
    exact RetMay.bad HN.out (by ((repeat first|exact bR _ _|with_reducible first|refine bN ?_|refine bD ?_|refine bA ?_ ?_|refine bS ?_ ?_);all_goals first|exact Nat.le_refl _|(simp;done)|omega|(simp;omega)))
set_option maxHeartbeats 4000000 in
set_option maxRecDepth 100000 in
theorem may_main (v : Value) (xs : List Int) (top : Nat) (w : World) (h : Ints w v xs) (h1 : 1 ≤ top) (h2 : top ≤ xs.length) (h3 : xs.length ≤ 400) :
    Calls Try.prog 45 #[.agg #[v,.int .i64 top]] w (RetMay w xs top):=by
  obtain⟨a,c,rfl,hc,hcm,_⟩:=h.len
  obtain⟨b,o,rfl,hbs,hcell⟩:=h.at (by omega)
  have HC:=Lib.hid hcell;clear hcell
  have HH:=Lib.hid h;clear h
  have hx1:Ints (w.alloc (.cells #[.slice (some ⟨b,o,none⟩) xs.length c,.int .i64 top] 25)) (.slice (some ⟨b,o,none⟩) xs.length c) xs:=HH.out.below (Nat.le_refl _) (by ((repeat first|exact bR _ _|with_reducible first|refine bN ?_|refine bD ?_|refine bA ?_ ?_|refine bS ?_ ?_);all_goals first|exact Nat.le_refl _|(simp;done)|omega|(simp;omega)))
  have HX1:=Lib.hid hx1;clear hx1
  have e1:inB (xs.length:Int) 1 400=true:=inB_true (by omega) (by omega)
  have e2:inB (top:Int) 1 (xs.length:Int)=true:=inB_true (by omega) (by omega)
  cases hpl:places xs top with
  | none =>
    have HP:=Lib.hid hpl;clear hpl
    have HN:Hid (¬ HeapOk xs (top:Int)):=λ⟨t,l,e,_,_,_,h,_⟩=>by
      have:=Int.ofNat_inj.1 e
      subst this
      rw[HP.out] at h;cases h
    go_enter Try.func45,Try.ntmps45
    go_wp2_with (first|(go_at_call 56;refine (in_any _ _ _ _).mono ?_;rintro e w' ⟨rfl,rfl⟩)|(go_at_call 55;refine (refPlaces_any _ _ _ _ HX1.out h1 h2 h3).mono ?_;rintro e w1 ⟨hb,⟨l,a1,c1,hl,rfl,hv1⟩|⟨hl,rfl⟩⟩;(exfalso;rw[HP.out] at hl;cases hl)))
    go_ret
    exact RetMay.bad HN.out (by ((repeat first|exact bR _ _|with_reducible first|refine bT ?_ hb ?_|refine bN ?_|refine bD ?_|refine bA ?_ ?_|refine bS ?_ ?_);all_goals first|exact Nat.le_refl _|(simp;done)|omega|(simp;omega)|(have z0:=Below.size hb;omega)|(have z0:=Below.size hb;simp at *;omega)))
  | some l =>
    have hll:=places_len hpl h1
    have HP:=Lib.hid hpl;clear hpl
    go_enter Try.func45,Try.ntmps45
    go_wp2_with (first|(go_at_call 56;refine (in_any _ _ _ _).mono ?_;rintro e w' ⟨rfl,rfl⟩)|(go_at_call 55;refine (refPlaces_any _ _ _ _ HX1.out h1 h2 h3).mono ?_;rintro e w1 ⟨hb,⟨l',a1,c1,hl,rfl,hv1⟩|⟨hl,rfl⟩⟩;rotate_left;(exfalso;rw[HP.out] at hl;cases hl);rw[HP.out] at hl;obtain rfl:=Option.some.inj hl;clear hl;have zc1:=Nat.lt_of_lt_of_le (show w.heap.size<_ from (by first|(simp;done)|omega|(simp;omega))) (Below.size hb);have fc1_0:=Below.cell hb (p:=⟨w.heap.size,0,none⟩) (by first|(simp;done)|omega|(simp;omega));have gc1_0:=Below.frozen hb (p:=⟨w.heap.size,0,none⟩) (by first|(simp;done)|omega|(simp;omega));have fc1_1:=Below.cell hb (p:=⟨w.heap.size,1,none⟩) (by first|(simp;done)|omega|(simp;omega));have gc1_1:=Below.frozen hb (p:=⟨w.heap.size,1,none⟩) (by first|(simp;done)|omega|(simp;omega));(try simp at fc1_0 gc1_0 fc1_1 gc1_1);have HV:=Lib.hid hv1;have HB:=Lib.hid hb;clear hv1 hb))
    have HW0:Below w.heap.size w w1:=((Below.refl _ w).alloc (Nat.le_refl _) _).trans (HB.out.mono (by first|exact Nat.le_refl _|(simp;done)|omega|(simp;omega)))
    have HW:=Lib.hid HW0;clear HW0 e1 e2 gc1_0 gc1_1 HX1
    have HV2:Hid (Ints w1 (.slice a1 l.length c1) (intsOf l)):=HV.out.ints
    go_loop [5] (λu=>∃k:Nat,k<=l.length/\u = .int .i64 k/\(∀j,j<k->ObjOk xs l (l.getD j 0))) (λu=>l.length - (intOf u).toNat)
    case atStart=>exact⟨0,Nat.zero_le _,rfl,by omega⟩
    case round =>
      obtain⟨k,hk,rfl,hok⟩:=hrel
      have HK:=Lib.hid hok;clear hok
      by_cases hlt:k<l.length
      · obtain ⟨lb, lo, rfl, hlb, hlc⟩ := Ints.at HV.out.ints (by rw [intsOf_length]; omega)
        replace hlc:=hlc k (by rw[intsOf_length];omega)
        obtain⟨p,hp⟩:∃p,p=l.getD k 0:=⟨_,rfl⟩
        rw[show (intsOf l).getD k 0=(p:Int) by rw[hp];simp[intsOf,List.getD,hlt]] at hlc
        have hmem:p ∈ l:=by rw[hp];simp[List.getD,hlt]
        obtain⟨hp1,hpn,hp6,hpt⟩:=places_obj HP.out p hmem
        obtain⟨m,hm⟩:∃m,m=nf xs p:=⟨_,rfl⟩
        rw[<- hm] at hpn hp6 hpt
        have HM:=Lib.hid hm;clear hm
        have HPP:=Lib.hid hp;clear hp
        have HMEM:=Lib.hid hmem;clear hmem
        have cst:=(HW.out.cell (p:=⟨b,o+p,none⟩) hbs).trans (HC.out p (by omega))
        have cnf:=(HW.out.cell (p:=⟨b,o+(p+1),none⟩) hbs).trans (HC.out (p+1) (by omega))
        rw[hpn] at cnf
        clear hpn
        have hsr:=HH.out.range p
        obtain⟨s,hs⟩:∃s,s=xs.getD p 0:=⟨_,rfl⟩
        rw[<- hs] at cst hsr
        obtain⟨hsr1,hsr2⟩:=hsr
        have HS:=Lib.hid hs;clear hs
        have HNB:Hid (¬ ObjOk xs l p->¬ HeapOk xs (top:Int)):=λhno ⟨t,l',e,_,_,_,hpl,hall,_⟩=>by
          obtain rfl:=Int.ofNat_inj.1 e
          rw[HP.out] at hpl
          obtain rfl:=Option.some.inj hpl
          exact hno (hall p HMEM.out)
        by_cases hs0:0<=s/\s<=2147483648
        · have e3:=inB_true hs0.1 hs0.2
          have HS2:Hid (0<=xs.getD p 0/\xs.getD p 0<=2147483648):=by rw[Hid,<- HS.out];omega
          have HOK:Hid ((∀j,j<m->WordOk l (xs.getD (p+2+j) 0))->∀j,j<k+1->ObjOk xs l (l.getD j 0)):=λhw j hj=>by
            by_cases e:j=k
            · rw[e,<- HPP.out]
              exact⟨HS2.out.1,HS2.out.2,λi hi=>hw i (by rw[HM.out];exact hi)⟩
            · exact HK.out j (by omega)
          have HNW:Hid (∀j,j<m->¬ WordOk l (xs.getD (p+2+j) 0)->¬ HeapOk xs (top:Int)):=λj hj hw=>HNB.out (λh=>hw (h.2.2 j (by rw[<- HM.out];exact hj)))
          clear HS HNB HPP HMEM HM hs0
          go_wp2_with (go_at_call 56;refine (in_any _ _ _ _).mono ?_;rintro e w' ⟨rfl,rfl⟩)
          go_loop [7] (λu=>∃j:Nat,u = .int .i64 ((p:Int)+2+j)/\j<=m/\∀i,i<j->WordOk l (xs.getD (p+2+i) 0)) (λu=>m+p+2 - (intOf u).toNat)
          case atStart=>exact⟨0,int_eq (by omega),Nat.zero_le _,by omega⟩
          case round =>
            obtain⟨j,rfl,hj,hw⟩:=hrel
            have HWK:=Lib.hid hw;clear hw
            by_cases hjm:j<m
            · have hc1:=(HW.out.cell (p:=⟨b,o+(p+2+j),none⟩) hbs).trans (HC.out (p+2+j) (by omega))
              have hxr:=HH.out.range (p+2+j)
              obtain⟨x,hx⟩:∃x,x=xs.getD (p+2+j) 0:=⟨_,rfl⟩
              rw[<- hx] at hc1 hxr
              obtain⟨hxr1,hxr2⟩:=hxr
              have HX:=Lib.hid hx;clear hx
              have hst:Hid (WordOk l x->∀i,i<j+1->WordOk l (xs.getD (p+2+i) 0)):=λh i hi=>by
                by_cases e:i=j
                · rw[e,<- HX.out];exact h
                · exact HWK.out i (by omega)
              have htn:((p:Int)+2+(j:Int)).toNat=p+2+j:=by omega
              by_cases hx2:x % 2=0
              · have e4:oddB x=false:=by simp[oddB,hx2]
                have HX2:=Lib.hid hx2;clear hx2
                by_cases hxr : -2199023255552<=x/\x<=2199023255552
                · have e5:=inB_true hxr.1 hxr.2
                  have HY:=Lib.hid (hst.out ⟨λ_=>hxr,λh=>by have:=HX2.out;omega⟩)
                  clear hxr
                  go_wp2_with (first|(go_at_call 68;refine (odd_any _ _ (by omega) (by omega)).mono ?_;rintro e w' ⟨rfl,rfl⟩)|(go_at_call 56;refine (in_any _ _ _ _).mono ?_;rintro e w' ⟨rfl,rfl⟩))
                  go_round
                  case rel=>exact⟨j+1,int_eq (by omega),by omega,HY.out⟩
                  case measure=>simp[intOf];omega
                · have e5:inB x (-2199023255552) 2199023255552=false:=inB_not hxr
                  have HN:=Lib.hid (HNW.out j hjm (λh=>by have:=h.1;rw[<- HX.out] at this;have:=this HX2.out;omega))
                  clear hxr
                  go_wp2_with (first|(go_at_call 68;refine (odd_any _ _ (by omega) (by omega)).mono ?_;rintro e w' ⟨rfl,rfl⟩)|(go_at_call 56;refine (in_any _ _ _ _).mono ?_;rintro e w' ⟨rfl,rfl⟩))
                  go_ret
                  exact RetMay.bad HN.out HW.out
              · have e4:oddB x=true:=by simp[oddB];omega
                have HX2:=Lib.hid hx2;clear hx2
                by_cases hx1:x=1
                · subst hx1
                  have HY:=Lib.hid (hst.out ⟨λh=>by omega,λ_ h=>absurd rfl h⟩)
                  have e5:((1:Int) != 1)=false:=rfl
                  go_wp2_with (go_at_call 68;refine (odd_any _ _ (by omega) (by omega)).mono ?_;rintro e w' ⟨rfl,rfl⟩)
                  go_round
                  case rel=>exact⟨j+1,int_eq (by omega),by omega,HY.out⟩
                  case measure=>simp[intOf];omega
                · have e5:(x != 1)=true:=by simpa using hx1
                  by_cases hh:hasB (intsOf l) (ofN x)=true
                  · have HY:=Lib.hid (hst.out ⟨λh=>absurd h HX2.out,λ_ _=>hasB_places.1 hh⟩)
                    go_wp2_with (first|(go_at_call 68;refine (odd_any _ _ (by omega) (by omega)).mono ?_;rintro e w' ⟨rfl,rfl⟩)|(go_at_call 69;refine (half_any _ _ (by omega) (by omega)).mono ?_;rintro e w' ⟨rfl,rfl⟩)|(go_at_call 57;refine (has_any _ (intsOf l) _ _ HV2.out).mono ?_;rintro e w' ⟨rfl,rfl⟩))
                    go_round
                    case rel=>exact⟨j+1,int_eq (by omega),by omega,HY.out⟩
                    case measure=>simp[intOf];omega
                  · have hh:hasB (intsOf l) (ofN x)=false:=by simpa using hh
                    have HN:=Lib.hid (HNW.out j hjm (λh=>by
                      have:=h.2
                      rw[<- HX.out] at this
                      have:=hasB_places.2 (this (by have:=HX2.out;omega) hx1)
                      rw[ofN,this] at hh;cases hh))
                    go_wp2_with (first|(go_at_call 68;refine (odd_any _ _ (by omega) (by omega)).mono ?_;rintro e w' ⟨rfl,rfl⟩)|(go_at_call 69;refine (half_any _ _ (by omega) (by omega)).mono ?_;rintro e w' ⟨rfl,rfl⟩)|(go_at_call 57;refine (has_any _ (intsOf l) _ _ HV2.out).mono ?_;rintro e w' ⟨rfl,rfl⟩))
                    go_ret
                    exact RetMay.bad HN.out HW.out
            · obtain rfl:j=m:=by omega
              have HY:=Lib.hid (HOK.out HWK.out)
              go_wp2_with fail
              go_round
              case rel=>exact⟨k+1,by omega,by go_num,HY.out⟩
              case measure=>simp[intOf];omega
        · have e3:inB s 0 2147483648=false:=inB_not hs0
          have HN:=Lib.hid (HNB.out (λh=>hs0 (by have h1:=h.1;have h2:=h.2.1;rw[<- HS.out] at h1 h2;exact⟨h1,h2⟩)))
          clear hs0
          go_wp2_with (go_at_call 56;refine (in_any _ _ _ _).mono ?_;rintro e w' ⟨rfl,rfl⟩)
          go_ret
          exact RetMay.bad HN.out HW.out
      · have HALL:Hid (∀p ∈ l,ObjOk xs l p):=λp hp=>by
          obtain⟨j,hj,e⟩:=List.getElem_of_mem hp
          have:=HK.out j (by omega)
          simpa [List.getD,hj,e] using this
        clear HK
        go_wp2_with fail
        go_loop [9] (λu=>∃i:Nat,u = .int .i64 i/\top<=i/\i<=xs.length/\∀j,top<=j->j<i->xs.getD j 0=0) (λu=>xs.length - (intOf u).toNat)
        case atStart=>exact⟨top,rfl,Nat.le_refl _,h2,by omega⟩
        case round =>
          obtain⟨i,rfl,hti,hi,hz⟩:=hrel
          have HZ:=Lib.hid hz;clear hz
          by_cases hil:i<xs.length
          · have hc1:=(HW.out.cell (p:=⟨b,o+i,none⟩) hbs).trans (HC.out i hil)
            obtain⟨x,hx⟩:∃x,x=xs.getD i 0:=⟨_,rfl⟩
            rw[<- hx] at hc1
            by_cases hx0:x=0
            · subst hx0
              have HX:=Lib.hid (show ∀j,top<=j->j<i+1->xs.getD j 0=0 from λj h1 hj=>by
                by_cases e:j=i
                · rw[e];exact hx.symm
                · exact HZ.out j h1 (by omega))
              clear hx
              go_wp2
              go_round
              case rel=>exact⟨i+1,by go_num,by omega,by omega,HX.out⟩
              case measure=>simp[intOf];omega
            · have hb:(x != 0)=true:=by simpa using hx0
              have HN:Hid (¬ HeapOk xs (top:Int)):=λ⟨t,l',e,_,_,_,_,_,h⟩=>by
                obtain rfl:=Int.ofNat_inj.1 e
                exact hx0 (by rw[hx];exact h i hti hil)
              clear hx hx0
              go_wp2
              go_ret
              exact RetMay.bad HN.out HW.out
          · have HF:Hid (HeapOk xs (top:Int)):=⟨top,l,rfl,by omega,h1,h2,HP.out,HALL.out,λj hj hl=>HZ.out j hj (by omega)⟩
            go_wp2
            go_ret
            exact⟨HW.out,.inl ⟨HF.out,rfl⟩⟩
theorem may_any (v:Value) (xs:List Int) (top:Int) (w:World) (h:Ints w v xs):Calls Try.prog 45 #[.agg #[v,.int .i64 top]] w (RetMay w xs top):=by
  by_cases hl:1<=xs.length/\xs.length<=400/\1<=top/\top<=xs.length
  · obtain⟨t,rfl⟩:=Int.eq_ofNat_of_zero_le (show 0<=top by omega)
    exact may_main v xs t w h (by omega) (by omega) (by omega)
  · exact may_limits v xs top w h hl
end Go.Proofs.Ytbeilcaadpopmab
