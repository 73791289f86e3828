/- Texts put together: Ma, Ac, Ab, Ad. -/
import Derived.Test.YtbeilcaadpopmabY5
import Derived.Test.YtbeilcaadpopmabY4
import Derived.Test.YtbeilcaadpopmabY6
set_option linter.unusedVariables false
set_option linter.unusedSimpArgs false
namespace Go.Proofs.Ytbeilcaadpopmab
open Go.RowKit Go.Maps
def ansV (r:AnsM):Value:=.agg #[.int .i64 r.code,.bool r.is,.int .i64 r.number,.bool r.yes,.int .i64 r.words,.bool r.going,.int .i64 r.freed]
def toldC (v:Int × Int):AnsM:=if v.1=0 then ⟨0,true,v.2,false,0,false,0⟩ else AnsM.nil
set_option maxRecDepth 100000 in
theorem number_any (v:Int × Int) (w:World):Calls Try.prog 79 #[.agg #[.int .i64 v.1,.int .i64 v.2]] w (λe w'=>e = .returned (ansV (toldC v))/\Below w.heap.size w w'):=by
  obtain⟨k,n⟩:=v
  by_cases h:k=0
  · subst h
    go_enter Try.func79,Try.ntmps79
    go_wp2
    exact bodyPost_ret (v:=.agg #[.int .i64 0,.bool true,.int .i64 n,.bool false,.int .i64 0,.bool false,.int .i64 0]) (by simp[results,Try.results79,go_sem, *]) rfl ⟨rfl,(by ((repeat first|exact bR _ _|with_reducible first|refine bN ?_|refine bD ?_|refine bA ?_ ?_|refine bS ?_ ?_);all_goals first|exact Nat.le_refl _|(simp;done)|omega|(simp;omega)))⟩
  · have h2:(k != 0)=true:=by simpa using h
    have HT:Hid (toldC (k,n)=AnsM.nil):=by unfold Hid toldC;rw[if_neg h]
    rw[HT.out]
    go_enter Try.func79,Try.ntmps79
    go_wp2
    exact bodyPost_ret (v:=.agg #[.int .i64 0,.bool false,.int .i64 0,.bool false,.int .i64 0,.bool false,.int .i64 0]) (by simp[results,Try.results79,go_sem, *]) rfl ⟨rfl,(by ((repeat first|exact bR _ _|with_reducible first|refine bN ?_|refine bD ?_|refine bA ?_ ?_|refine bS ?_ ?_);all_goals first|exact Nat.le_refl _|(simp;done)|omega|(simp;omega)))⟩
set_option maxRecDepth 100000 in
theorem okReg_any (n:Int) (w:World):Calls Try.prog 91 #[.int .i64 n] w (λe w'=>e = .returned (.bool (in3 n))/\w' = w):=by
  by_cases h1:0<=n
  · by_cases h2:n<4
    · have HI:Hid (in3 n=true):=by unfold Hid in3;rw[decide_eq_true_eq];omega
      rw[HI.out]
      go_enter Try.func91,Try.ntmps91
      go_wp2
      exact bodyPost_ret (v:=.bool true) (by simp[results,Try.results91,go_sem, *]) rfl ⟨rfl,rfl⟩
    · have HI:Hid (in3 n=false):=by unfold Hid in3;rw[decide_eq_false_iff_not];omega
      rw[HI.out]
      go_enter Try.func91,Try.ntmps91
      go_wp2
      exact bodyPost_ret (v:=.bool false) (by simp[results,Try.results91,go_sem, *]) rfl ⟨rfl,rfl⟩
  · have HI:Hid (in3 n=false):=by unfold Hid in3;rw[decide_eq_false_iff_not];omega
    rw[HI.out]
    go_enter Try.func91,Try.ntmps91
    go_wp2
    exact bodyPost_ret (v:=.bool false) (by simp[results,Try.results91,go_sem, *]) rfl ⟨rfl,rfl⟩
def regsOk (k a b n:Int):Bool:=if k=4\/k=7 then in3 a else if k=8 then in3 a && in3 b && in3 n else if k=5\/k=6\/k=9 then in3 a && in3 b else true
set_option maxRecDepth 100000 in
set_option maxHeartbeats 2000000 in
theorem registers_any (k t a b n:Int) (w:World) (hk:1<=k/\k<=12):Calls Try.prog 74 #[.agg #[.int .i64 k,.int .i64 t,.int .i64 a,.int .i64 b,.int .i64 n]] w (λe w'=>e = .returned (.bool (regsOk k a b n))/\Below w.heap.size w w'):=by
  have hk2:k=1\/k=2\/k=3\/k=4\/k=5\/k=6\/k=7\/k=8\/k=9\/k=10\/k=11\/k=12:=by omega
  have eg:∀args w,(callFunc 91 args).run Try.prog w = .ok (.enter 91 args) w:=λ_ _=>by kernel_rfl
  clear hk
  rcases hk2 with rfl|rfl|rfl|rfl|rfl|rfl|rfl|rfl|rfl|rfl|rfl|rfl
  · have HR:Hid (regsOk 1 a b n=true):=by unfold Hid regsOk;simp
    rw[HR.out]
    clear HR
    go_enter Try.func74,Try.ntmps74
    go_wp2
    exact bodyPost_ret (v:=.bool true) (by simp[results,Try.results74,go_sem, *]) rfl ⟨rfl,(by ((repeat first|exact bR _ _|with_reducible first|refine bN ?_|refine bD ?_|refine bA ?_ ?_|refine bS ?_ ?_);all_goals first|exact Nat.le_refl _|(simp;done)|omega|(simp;omega)))⟩
  · have HR:Hid (regsOk 2 a b n=true):=by unfold Hid regsOk;simp
    rw[HR.out]
    clear HR
    go_enter Try.func74,Try.ntmps74
    go_wp2
    exact bodyPost_ret (v:=.bool true) (by simp[results,Try.results74,go_sem, *]) rfl ⟨rfl,(by ((repeat first|exact bR _ _|with_reducible first|refine bN ?_|refine bD ?_|refine bA ?_ ?_|refine bS ?_ ?_);all_goals first|exact Nat.le_refl _|(simp;done)|omega|(simp;omega)))⟩
  · have HR:Hid (regsOk 3 a b n=true):=by unfold Hid regsOk;simp
    rw[HR.out]
    clear HR
    go_enter Try.func74,Try.ntmps74
    go_wp2
    exact bodyPost_ret (v:=.bool true) (by simp[results,Try.results74,go_sem, *]) rfl ⟨rfl,(by ((repeat first|exact bR _ _|with_reducible first|refine bN ?_|refine bD ?_|refine bA ?_ ?_|refine bS ?_ ?_);all_goals first|exact Nat.le_refl _|(simp;done)|omega|(simp;omega)))⟩
  · cases ha:in3 a with
    | false =>
      have HR:Hid (regsOk 4 a b n=false):=by unfold Hid regsOk;simp[ha]
      rw[HR.out]
      clear HR
      go_enter Try.func74,Try.ntmps74
      go_wp2_with (go_at_call 91;refine (okReg_any _ _).mono ?_;rintro e w' ⟨rfl,rfl⟩;first|rw[ha])
      exact bodyPost_ret (v:=.bool false) (by simp[results,Try.results74,go_sem, *]) rfl ⟨rfl,(by ((repeat first|exact bR _ _|with_reducible first|refine bN ?_|refine bD ?_|refine bA ?_ ?_|refine bS ?_ ?_);all_goals first|exact Nat.le_refl _|(simp;done)|omega|(simp;omega)))⟩
    | true =>
      have HR:Hid (regsOk 4 a b n=true):=by unfold Hid regsOk;simp[ha]
      rw[HR.out]
      clear HR
      go_enter Try.func74,Try.ntmps74
      go_wp2_with (go_at_call 91;refine (okReg_any _ _).mono ?_;rintro e w' ⟨rfl,rfl⟩;first|rw[ha])
      exact bodyPost_ret (v:=.bool true) (by simp[results,Try.results74,go_sem, *]) rfl ⟨rfl,(by ((repeat first|exact bR _ _|with_reducible first|refine bN ?_|refine bD ?_|refine bA ?_ ?_|refine bS ?_ ?_);all_goals first|exact Nat.le_refl _|(simp;done)|omega|(simp;omega)))⟩
  · cases ha:in3 a with
    | false =>
      have HR:Hid (regsOk 5 a b n=false):=by unfold Hid regsOk;simp[ha]
      rw[HR.out]
      clear HR
      go_enter Try.func74,Try.ntmps74
      go_wp2_with (go_at_call 91;refine (okReg_any _ _).mono ?_;rintro e w' ⟨rfl,rfl⟩;first|rw[ha])
      exact bodyPost_ret (v:=.bool false) (by simp[results,Try.results74,go_sem, *]) rfl ⟨rfl,(by ((repeat first|exact bR _ _|with_reducible first|refine bN ?_|refine bD ?_|refine bA ?_ ?_|refine bS ?_ ?_);all_goals first|exact Nat.le_refl _|(simp;done)|omega|(simp;omega)))⟩
    | true =>
      cases hb:in3 b with
      | false =>
        have HR:Hid (regsOk 5 a b n=false):=by unfold Hid regsOk;simp[ha,hb]
        rw[HR.out]
        clear HR
        go_enter Try.func74,Try.ntmps74
        go_wp2_with (go_at_call 91;refine (okReg_any _ _).mono ?_;rintro e w' ⟨rfl,rfl⟩;first|rw[ha]|rw[hb])
        exact bodyPost_ret (v:=.bool false) (by simp[results,Try.results74,go_sem, *]) rfl ⟨rfl,(by ((repeat first|exact bR _ _|with_reducible first|refine bN ?_|refine bD ?_|refine bA ?_ ?_|refine bS ?_ ?_);all_goals first|exact Nat.le_refl _|(simp;done)|omega|(simp;omega)))⟩
      | true =>
        have HR:Hid (regsOk 5 a b n=true):=by unfold Hid regsOk;simp[ha,hb]
        rw[HR.out]
        clear HR
        go_enter Try.func74,Try.ntmps74
        go_wp2_with (go_at_call 91;refine (okReg_any _ _).mono ?_;rintro e w' ⟨rfl,rfl⟩;first|rw[ha]|rw[hb])
        exact bodyPost_ret (v:=.bool true) (by simp[results,Try.results74,go_sem, *]) rfl ⟨rfl,(by ((repeat first|exact bR _ _|with_reducible first|refine bN ?_|refine bD ?_|refine bA ?_ ?_|refine bS ?_ ?_);all_goals first|exact Nat.le_refl _|(simp;done)|omega|(simp;omega)))⟩
  · cases ha:in3 a with
    | false =>
      have HR:Hid (regsOk 6 a b n=false):=by unfold Hid regsOk;simp[ha]
      rw[HR.out]
      clear HR
      go_enter Try.func74,Try.ntmps74
      go_wp2_with (go_at_call 91;refine (okReg_any _ _).mono ?_;rintro e w' ⟨rfl,rfl⟩;first|rw[ha])
      exact bodyPost_ret (v:=.bool false) (by simp[results,Try.results74,go_sem, *]) rfl ⟨rfl,(by ((repeat first|exact bR _ _|with_reducible first|refine bN ?_|refine bD ?_|refine bA ?_ ?_|refine bS ?_ ?_);all_goals first|exact Nat.le_refl _|(simp;done)|omega|(simp;omega)))⟩
    | true =>
      cases hb:in3 b with
      | false =>
        have HR:Hid (regsOk 6 a b n=false):=by unfold Hid regsOk;simp[ha,hb]
        rw[HR.out]
        clear HR
        go_enter Try.func74,Try.ntmps74
        go_wp2_with (go_at_call 91;refine (okReg_any _ _).mono ?_;rintro e w' ⟨rfl,rfl⟩;first|rw[ha]|rw[hb])
        exact bodyPost_ret (v:=.bool false) (by simp[results,Try.results74,go_sem, *]) rfl ⟨rfl,(by ((repeat first|exact bR _ _|with_reducible first|refine bN ?_|refine bD ?_|refine bA ?_ ?_|refine bS ?_ ?_);all_goals first|exact Nat.le_refl _|(simp;done)|omega|(simp;omega)))⟩
      | true =>
        have HR:Hid (regsOk 6 a b n=true):=by unfold Hid regsOk;simp[ha,hb]
        rw[HR.out]
        clear HR
        go_enter Try.func74,Try.ntmps74
        go_wp2_with (go_at_call 91;refine (okReg_any _ _).mono ?_;rintro e w' ⟨rfl,rfl⟩;first|rw[ha]|rw[hb])
        exact bodyPost_ret (v:=.bool true) (by simp[results,Try.results74,go_sem, *]) rfl ⟨rfl,(by ((repeat first|exact bR _ _|with_reducible first|refine bN ?_|refine bD ?_|refine bA ?_ ?_|refine bS ?_ ?_);all_goals first|exact Nat.le_refl _|(simp;done)|omega|(simp;omega)))⟩
  · cases ha:in3 a with
    | false =>
      have HR:Hid (regsOk 7 a b n=false):=by unfold Hid regsOk;simp[ha]
      rw[HR.out]
      clear HR
      go_enter Try.func74,Try.ntmps74
      go_wp2_with (go_at_call 91;refine (okReg_any _ _).mono ?_;rintro e w' ⟨rfl,rfl⟩;first|rw[ha])
      exact bodyPost_ret (v:=.bool false) (by simp[results,Try.results74,go_sem, *]) rfl ⟨rfl,(by ((repeat first|exact bR _ _|with_reducible first|refine bN ?_|refine bD ?_|refine bA ?_ ?_|refine bS ?_ ?_);all_goals first|exact Nat.le_refl _|(simp;done)|omega|(simp;omega)))⟩
    | true =>
      have HR:Hid (regsOk 7 a b n=true):=by unfold Hid regsOk;simp[ha]
      rw[HR.out]
      clear HR
      go_enter Try.func74,Try.ntmps74
      go_wp2_with (go_at_call 91;refine (okReg_any _ _).mono ?_;rintro e w' ⟨rfl,rfl⟩;first|rw[ha])
      exact bodyPost_ret (v:=.bool true) (by simp[results,Try.results74,go_sem, *]) rfl ⟨rfl,(by ((repeat first|exact bR _ _|with_reducible first|refine bN ?_|refine bD ?_|refine bA ?_ ?_|refine bS ?_ ?_);all_goals first|exact Nat.le_refl _|(simp;done)|omega|(simp;omega)))⟩
  · cases ha:in3 a with
    | false =>
      have HR:Hid (regsOk 8 a b n=false):=by unfold Hid regsOk;simp[ha]
      rw[HR.out]
      clear HR
      go_enter Try.func74,Try.ntmps74
      go_wp2_with (go_at_call 91;refine (okReg_any _ _).mono ?_;rintro e w' ⟨rfl,rfl⟩;first|rw[ha])
      exact bodyPost_ret (v:=.bool false) (by simp[results,Try.results74,go_sem, *]) rfl ⟨rfl,(by ((repeat first|exact bR _ _|with_reducible first|refine bN ?_|refine bD ?_|refine bA ?_ ?_|refine bS ?_ ?_);all_goals first|exact Nat.le_refl _|(simp;done)|omega|(simp;omega)))⟩
    | true =>
      cases hb:in3 b with
      | false =>
        have HR:Hid (regsOk 8 a b n=false):=by unfold Hid regsOk;simp[ha,hb]
        rw[HR.out]
        clear HR
        go_enter Try.func74,Try.ntmps74
        go_wp2_with (go_at_call 91;refine (okReg_any _ _).mono ?_;rintro e w' ⟨rfl,rfl⟩;first|rw[ha]|rw[hb])
        exact bodyPost_ret (v:=.bool false) (by simp[results,Try.results74,go_sem, *]) rfl ⟨rfl,(by ((repeat first|exact bR _ _|with_reducible first|refine bN ?_|refine bD ?_|refine bA ?_ ?_|refine bS ?_ ?_);all_goals first|exact Nat.le_refl _|(simp;done)|omega|(simp;omega)))⟩
      | true =>
        by_cases h0:0<=n
        · by_cases h4:n<4
          · have hn:in3 n=true:=by unfold in3;rw[decide_eq_true_eq];omega
            have HR:Hid (regsOk 8 a b n=true):=by unfold Hid regsOk;simp[ha,hb,hn]
            rw[HR.out]
            clear HR
            go_enter Try.func74,Try.ntmps74
            go_wp2_with (go_at_call 91;refine (okReg_any _ _).mono ?_;rintro e w' ⟨rfl,rfl⟩;first|rw[ha]|rw[hb])
            exact bodyPost_ret (v:=.bool true) (by simp[results,Try.results74,go_sem, *]) rfl ⟨rfl,(by ((repeat first|exact bR _ _|with_reducible first|refine bN ?_|refine bD ?_|refine bA ?_ ?_|refine bS ?_ ?_);all_goals first|exact Nat.le_refl _|(simp;done)|omega|(simp;omega)))⟩
          · have hn:in3 n=false:=by unfold in3;rw[decide_eq_false_iff_not];omega
            have HR:Hid (regsOk 8 a b n=false):=by unfold Hid regsOk;simp[ha,hb,hn]
            rw[HR.out]
            clear HR
            go_enter Try.func74,Try.ntmps74
            go_wp2_with (go_at_call 91;refine (okReg_any _ _).mono ?_;rintro e w' ⟨rfl,rfl⟩;first|rw[ha]|rw[hb])
            exact bodyPost_ret (v:=.bool false) (by simp[results,Try.results74,go_sem, *]) rfl ⟨rfl,(by ((repeat first|exact bR _ _|with_reducible first|refine bN ?_|refine bD ?_|refine bA ?_ ?_|refine bS ?_ ?_);all_goals first|exact Nat.le_refl _|(simp;done)|omega|(simp;omega)))⟩
        · have hn:in3 n=false:=by unfold in3;rw[decide_eq_false_iff_not];omega
          have HR:Hid (regsOk 8 a b n=false):=by unfold Hid regsOk;simp[ha,hb,hn]
          rw[HR.out]
          clear HR
          go_enter Try.func74,Try.ntmps74
          go_wp2_with (go_at_call 91;refine (okReg_any _ _).mono ?_;rintro e w' ⟨rfl,rfl⟩;first|rw[ha]|rw[hb])
          exact bodyPost_ret (v:=.bool false) (by simp[results,Try.results74,go_sem, *]) rfl ⟨rfl,(by ((repeat first|exact bR _ _|with_reducible first|refine bN ?_|refine bD ?_|refine bA ?_ ?_|refine bS ?_ ?_);all_goals first|exact Nat.le_refl _|(simp;done)|omega|(simp;omega)))⟩
  · cases ha:in3 a with
    | false =>
      have HR:Hid (regsOk 9 a b n=false):=by unfold Hid regsOk;simp[ha]
      rw[HR.out]
      clear HR
      go_enter Try.func74,Try.ntmps74
      go_wp2_with (go_at_call 91;refine (okReg_any _ _).mono ?_;rintro e w' ⟨rfl,rfl⟩;first|rw[ha])
      exact bodyPost_ret (v:=.bool false) (by simp[results,Try.results74,go_sem, *]) rfl ⟨rfl,(by ((repeat first|exact bR _ _|with_reducible first|refine bN ?_|refine bD ?_|refine bA ?_ ?_|refine bS ?_ ?_);all_goals first|exact Nat.le_refl _|(simp;done)|omega|(simp;omega)))⟩
    | true =>
      cases hb:in3 b with
      | false =>
        have HR:Hid (regsOk 9 a b n=false):=by unfold Hid regsOk;simp[ha,hb]
        rw[HR.out]
        clear HR
        go_enter Try.func74,Try.ntmps74
        go_wp2_with (go_at_call 91;refine (okReg_any _ _).mono ?_;rintro e w' ⟨rfl,rfl⟩;first|rw[ha]|rw[hb])
        exact bodyPost_ret (v:=.bool false) (by simp[results,Try.results74,go_sem, *]) rfl ⟨rfl,(by ((repeat first|exact bR _ _|with_reducible first|refine bN ?_|refine bD ?_|refine bA ?_ ?_|refine bS ?_ ?_);all_goals first|exact Nat.le_refl _|(simp;done)|omega|(simp;omega)))⟩
      | true =>
        have HR:Hid (regsOk 9 a b n=true):=by unfold Hid regsOk;simp[ha,hb]
        rw[HR.out]
        clear HR
        go_enter Try.func74,Try.ntmps74
        go_wp2_with (go_at_call 91;refine (okReg_any _ _).mono ?_;rintro e w' ⟨rfl,rfl⟩;first|rw[ha]|rw[hb])
        exact bodyPost_ret (v:=.bool true) (by simp[results,Try.results74,go_sem, *]) rfl ⟨rfl,(by ((repeat first|exact bR _ _|with_reducible first|refine bN ?_|refine bD ?_|refine bA ?_ ?_|refine bS ?_ ?_);all_goals first|exact Nat.le_refl _|(simp;done)|omega|(simp;omega)))⟩
  · have HR:Hid (regsOk 10 a b n=true):=by unfold Hid regsOk;simp
    rw[HR.out]
    clear HR
    go_enter Try.func74,Try.ntmps74
    go_wp2
    exact bodyPost_ret (v:=.bool true) (by simp[results,Try.results74,go_sem, *]) rfl ⟨rfl,(by ((repeat first|exact bR _ _|with_reducible first|refine bN ?_|refine bD ?_|refine bA ?_ ?_|refine bS ?_ ?_);all_goals first|exact Nat.le_refl _|(simp;done)|omega|(simp;omega)))⟩
  · have HR:Hid (regsOk 11 a b n=true):=by unfold Hid regsOk;simp
    rw[HR.out]
    clear HR
    go_enter Try.func74,Try.ntmps74
    go_wp2
    exact bodyPost_ret (v:=.bool true) (by simp[results,Try.results74,go_sem, *]) rfl ⟨rfl,(by ((repeat first|exact bR _ _|with_reducible first|refine bN ?_|refine bD ?_|refine bA ?_ ?_|refine bS ?_ ?_);all_goals first|exact Nat.le_refl _|(simp;done)|omega|(simp;omega)))⟩
  · have HR:Hid (regsOk 12 a b n=true):=by unfold Hid regsOk;simp
    rw[HR.out]
    clear HR
    go_enter Try.func74,Try.ntmps74
    go_wp2
    exact bodyPost_ret (v:=.bool true) (by simp[results,Try.results74,go_sem, *]) rfl ⟨rfl,(by ((repeat first|exact bR _ _|with_reducible first|refine bN ?_|refine bD ?_|refine bA ?_ ?_|refine bS ?_ ?_);all_goals first|exact Nat.le_refl _|(simp;done)|omega|(simp;omega)))⟩
end Go.Proofs.Ytbeilcaadpopmab
namespace Go.Proofs.Ytbeilcaadpopmab
open Go.RowKit Go.Maps
def RowAt (w:World) (X:Nat) (cs:List Value):Prop:=X<w.heap.size/\∀i (h:i<cs.length),w.cell? ⟨X,i,none⟩=some cs[i]/\w.frozen? ⟨X,i,none⟩=false
def ansL (r:AnsM):List Value:=[.int .i64 r.code,.bool r.is,.int .i64 r.number,.bool r.yes,.int .i64 r.words,.bool r.going,.int .i64 r.freed]
def actL (k t a b n:Int):List Value:=[.int .i64 k,.int .i64 t,.int .i64 a,.int .i64 b,.int .i64 n]
theorem RowAt.keep {w w':World} {X:Nat} {cs:List Value} (h:RowAt w X cs) (hs:w.heap.size<=w'.heap.size) (k:w'.heap[X]? = w.heap[X]?):RowAt w' X cs:=by
  refine⟨Nat.lt_of_lt_of_le h.1 hs,λi hi=>?_⟩
  exact⟨(World.cell?_of_block (w:=w) (a:=⟨X,i,none⟩) k).trans (h.2 i hi).1,(World.frozen?_of_block (w:=w) (a:=⟨X,i,none⟩) k).trans (h.2 i hi).2⟩
theorem RowAt.below {w w':World} {X:Nat} {cs:List Value} (h:RowAt w X cs) (hb:Below w.heap.size w w'):RowAt w' X cs:=h.keep hb.size (hb.block X h.1)
theorem RowAt.belowN {w w':World} {X n:Nat} {cs:List Value} (h:RowAt w X cs) (hb:Below n w w') (hn:X<n):RowAt w' X cs:=h.keep hb.size (hb.block X hn)
theorem RowAt.chg {Y:Nat->Prop} {w w':World} {X:Nat} {cs:List Value} (h:RowAt w X cs) (hc:Chg Y w w') (hn:¬ Y X):RowAt w' X cs:=h.keep hc.size (hc.block X h.1 hn)
theorem RowAt.went {d B:Nat} {w w':World} {nm nm':Nm} {X:Nat} {cs:List Value} (h:RowAt w X cs) (hw:Went d w w' B nm nm') (hn:¬ Has B nm X):RowAt w' X cs:=h.chg hw.chg hn
theorem RowAt.set {w:World} {X:Nat} {cs:List Value} (h:RowAt w X cs) (i:Nat) (v:Value):RowAt (w.setCell ⟨X,i,none⟩ v) X (cs.set i v):=by
  refine⟨by simpa [World.setCell] using h.1,λj hj=>?_⟩
  have hj':j<cs.length:=by simpa using hj
  refine⟨?_,by rw[frozen_setCell_any];exact (h.2 j hj').2⟩
  by_cases e:i=j
  · subst e
    rw[World.cell?_setCell_same _ _ _ (h.2 i hj').1]
    simp
  · rw[World.cell?_setCell_other _ _ _ _ (by simp only [ne_eq,Addr.mk.injEq];omega),List.getElem_set_ne e]
    exact (h.2 j hj').1
theorem RowAt.setFar {w:World} {X:Nat} {cs:List Value} (h:RowAt w X cs) (a:Addr) (v:Value) (ha:a.block≠X):RowAt (w.setCell a v) X cs:=h.keep (by simp[World.setCell]) (Below.heap_setCell _ _ _ _ (λe=>ha e.symm))
theorem RowAt.alloc (w:World) (cs:Array Value) (ty:TypeId):RowAt (w.alloc (.cells cs ty)) w.heap.size cs.toList:=by
  refine⟨by simp,λi hi=>?_⟩
  have h2:i<cs.size:=by simpa using hi
  simp[h2]
theorem rows3 {w w1:World} {k t a b n:Int} {T1 T2 T3:TypeId}
    (hb:Below (((w.alloc (.cells #[.int .i64 k,.int .i64 t,.int .i64 a,.int .i64 b,.int .i64 n] T1)).alloc (.cells #[.int .i64 0,.bool false,.int .i64 0,.bool false,.int .i64 0,.bool false,.int .i64 0] T2)).alloc (.cells #[.int .i64 0,.bool false,.int .i64 0,.bool false,.int .i64 0,.bool false,.int .i64 0] T3)).heap.size
      (((w.alloc (.cells #[.int .i64 k,.int .i64 t,.int .i64 a,.int .i64 b,.int .i64 n] T1)).alloc (.cells #[.int .i64 0,.bool false,.int .i64 0,.bool false,.int .i64 0,.bool false,.int .i64 0] T2)).alloc (.cells #[.int .i64 0,.bool false,.int .i64 0,.bool false,.int .i64 0,.bool false,.int .i64 0] T3)) w1) :
    Hid (RowAt w1 w.heap.size (actL k t a b n))/\Hid (RowAt w1 (w.heap.size+1) (ansL AnsM.nil))/\Hid (RowAt w1 (w.heap.size+1+1) (ansL AnsM.nil))/\Hid (Below w.heap.size w w1)/\w.heap.size+1+1+1<=w1.heap.size:=by
  have hz:=hb.size
  simp only [World.size_alloc] at hz
  have r1:=((((RowAt.alloc w #[.int .i64 k,.int .i64 t,.int .i64 a,.int .i64 b,.int .i64 n] T1).below (bA (bR _ _) (Nat.le_refl _))).below (bA (bR _ _) (Nat.le_refl _))).below hb)
  have r2:=(((RowAt.alloc (w.alloc (.cells #[.int .i64 k,.int .i64 t,.int .i64 a,.int .i64 b,.int .i64 n] T1)) #[.int .i64 0,.bool false,.int .i64 0,.bool false,.int .i64 0,.bool false,.int .i64 0] T2).below (bA (bR _ _) (Nat.le_refl _))).below hb)
  have r3:=((RowAt.alloc ((w.alloc (.cells #[.int .i64 k,.int .i64 t,.int .i64 a,.int .i64 b,.int .i64 n] T1)).alloc (.cells #[.int .i64 0,.bool false,.int .i64 0,.bool false,.int .i64 0,.bool false,.int .i64 0] T2)) #[.int .i64 0,.bool false,.int .i64 0,.bool false,.int .i64 0,.bool false,.int .i64 0] T3).below hb)
  simp only [World.size_alloc] at r2 r3
  exact⟨r1,r2,r3,bT (bA (bA (bA (bR _ _) (Nat.le_refl _)) (by simp)) (by simp;omega)) hb (by simp;omega),hz⟩
theorem RowAt.act {w:World} {X:Nat} {k t a b n:Int} (h:RowAt w X (actL k t a b n)) :
    w.cell? ⟨X,0,none⟩=some (.int .i64 k)/\w.cell? ⟨X,1,none⟩=some (.int .i64 t)/\w.cell? ⟨X,2,none⟩=some (.int .i64 a)/\w.cell? ⟨X,3,none⟩=some (.int .i64 b)/\w.cell? ⟨X,4,none⟩=some (.int .i64 n) :=
  ⟨(h.2 0 (by simp[actL])).1,(h.2 1 (by simp[actL])).1,(h.2 2 (by simp[actL])).1,(h.2 3 (by simp[actL])).1,(h.2 4 (by simp[actL])).1⟩
theorem RowAt.ans {w:World} {X:Nat} {r:AnsM} (h:RowAt w X (ansL r)) :
    (w.cell? ⟨X,0,none⟩=some (.int .i64 r.code)/\w.cell? ⟨X,1,none⟩=some (.bool r.is)/\w.cell? ⟨X,2,none⟩=some (.int .i64 r.number)/\w.cell? ⟨X,3,none⟩=some (.bool r.yes)/\w.cell? ⟨X,4,none⟩=some (.int .i64 r.words)/\w.cell? ⟨X,5,none⟩=some (.bool r.going)/\w.cell? ⟨X,6,none⟩=some (.int .i64 r.freed)) /\
    (w.frozen? ⟨X,0,none⟩=false/\w.frozen? ⟨X,1,none⟩=false/\w.frozen? ⟨X,2,none⟩=false/\w.frozen? ⟨X,3,none⟩=false/\w.frozen? ⟨X,4,none⟩=false/\w.frozen? ⟨X,5,none⟩=false/\w.frozen? ⟨X,6,none⟩=false) :=
  ⟨⟨(h.2 0 (by simp[ansL])).1,(h.2 1 (by simp[ansL])).1,(h.2 2 (by simp[ansL])).1,(h.2 3 (by simp[ansL])).1,(h.2 4 (by simp[ansL])).1,(h.2 5 (by simp[ansL])).1,(h.2 6 (by simp[ansL])).1⟩,
   (h.2 0 (by simp[ansL])).2,(h.2 1 (by simp[ansL])).2,(h.2 2 (by simp[ansL])).2,(h.2 3 (by simp[ansL])).2,(h.2 4 (by simp[ansL])).2,(h.2 5 (by simp[ansL])).2,(h.2 6 (by simp[ansL])).2⟩
theorem Chg.setB (w:World) (X o:Nat) (v:Value):Chg (λk=>k=X) w (w.setCell ⟨X,o,none⟩ v):=Chg.set _ _ _ _ rfl
theorem res_act {tmps:Array Value} {w:World} {X:Nat} {r:AnsM} (h4:tmps[4]?.getD undef = .pointer (some ⟨X,0,none⟩)) (h:RowAt w X (ansL r)):(results Try.f66 tmps).run Try.prog w = .ok (ansV r) w:=by
  obtain⟨⟨o0,o1,o2,o3,o4,o5,o6⟩,_⟩:=h.ans
  simp[results,Try.results66,go_sem,h4,o0,o1,o2,o3,o4,o5,o6]
  rfl
def RetC (d base:Nat) (w:World) (B:Nat) (nm:Nm) (P:Int->CM->Prop) (e:Ending) (w':World):Prop:=∃(c:Int) (M':CM),P c M'/\e = .returned (.int .i64 c)/\∃nm',Mach base w' B nm' M'/\Went d w w' B nm nm'
def RetA (d base:Nat) (w:World) (B:Nat) (nm:Nm) (P:AnsM->CM->Prop) (e:Ending) (w':World):Prop:=∃(r:AnsM) (M':CM),P r M'/\e = .returned (ansV r)/\∃nm',Mach base w' B nm' M'/\Went d w w' B nm nm'
theorem retA {d base B:Nat} {w w1 w2 w3:World} {nm nm2:Nm} {M M2:CM} {P:AnsM->CM->Prop} (r:AnsM) (hP:P r M2) (h:Mach base w B nm M) (hb:Below w.heap.size w w1) (h2:Mach base w2 B nm2 M2) (hw:Went d w1 w2 B nm nm2)
    (hc:Chg (λk=>w.heap.size<=k/\k<w1.heap.size) w2 w3):RetA d base w B nm P (.returned (ansV r)) w3 :=
  ⟨r,M2,hP,(ret_more (ansV r) h hb h2 hw hc).1,(ret_more (ansV r) h hb h2 hw hc).2⟩
end Go.Proofs.Ytbeilcaadpopmab
namespace Go.Proofs.Ytbeilcaadpopmab
open Go.RowKit Go.Maps
set_option maxRecDepth 100000 in
set_option maxHeartbeats 2000000 in
theorem act_commit (base:Nat) (w:World) (B:Nat) (nm:Nm) (M:CM) (h:Mach base w B nm M) (t:Nat) (ht:t<4) (a b n:Int) (ok:CommitOk M t) :
    Calls Try.prog 66 #[.pointer (some ⟨B,0,none⟩),.agg #[.int .i64 2,.int .i64 (t:Int),.int .i64 a,.int .i64 b,.int .i64 n]] w
      (RetA 0 base w B nm (λr M'=>(r = .err 5/\(M.txs t).op=false/\M' = M)\/(r = .err 0/\(M.txs t).op=true/\M.Fits t/\M' = M.done t)\/(r = .err 6/\(M.txs t).op=true/\¬ M.Fits t/\M' = M.abort t))):=by
  have HM:=Lib.hid h
  have i1:(t:Int)<4:=by omega
  have HR:Hid (∀W,Calls Try.prog 74 #[.agg #[.int .i64 2,.int .i64 (t:Int),.int .i64 a,.int .i64 b,.int .i64 n]] W (λe w'=>e = .returned (.bool true)/\Below W.heap.size W w')):=λW=>by
    have:=registers_any 2 t a b n W (by omega)
    simpa [regsOk] using this
  have HC:Hid (∀W,Below w.heap.size w W->Calls Try.prog 75 #[.pointer (some ⟨B,0,none⟩),.int .i64 (t:Int)] W (RetC 0 base W B nm (λc M'=>(c=5/\(M.txs t).op=false/\M' = M)\/(c=0/\(M.txs t).op=true/\M.Fits t/\M' = M.done t)\/(c=6/\(M.txs t).op=true/\¬ M.Fits t/\M' = M.abort t)))):=λW hW=>by
    refine (commit_any base W B nm M (h.below hW) t ht ok).mono ?_
    rintro e w' (⟨h1,h2⟩|⟨h1,h2,h3⟩|⟨h1,h2,h3⟩)
    · exact⟨5,M,.inl ⟨rfl,h1,rfl⟩,h2⟩
    · exact⟨0,M.done t,.inr (.inl ⟨rfl,h1,h2,rfl⟩),h3⟩
    · exact⟨6,M.abort t,.inr (.inr ⟨rfl,h1,h2,rfl⟩),h3⟩
  clear h ok ht
  go_enter Try.func66,Try.ntmps66
  go_upto_region 16 with (go_at_call 74;refine (HR.out _).mono ?_;rintro e w1 ⟨rfl,hb1⟩;obtain⟨HA,HR1,HR2,HB1,hz1⟩:=rows3 hb1;clear hb1;obtain⟨a0,a1,a2,a3,a4⟩:=HA.out.act)
  obtain⟨X2,hX2⟩:∃X2,X2=w.heap.size+1+1:=⟨_,rfl⟩
  rw[<- hX2] at HR2 ⊢
  obtain⟨X1,hX1⟩:∃X1,X1=w.heap.size+1:=⟨_,rfl⟩
  rw[<- hX1] at HR1 ⊢
  have hx:w.heap.size<X1/\X1<X2/\X2<w1.heap.size:=by omega
  clear hX1 hX2 hz1
  go_wp2_with (go_at_call 75;refine (HC.out _ HB1.out).mono ?_;rintro e w2 ⟨c,M',hP,rfl,nm2,hM2,hW2⟩;have HM2:=Lib.hid hM2;have HW2:=Lib.hid hW2;have HP:=Lib.hid hP;have HO1:=Lib.hid (HR1.out.went hW2 (HM.out.not_has (by omega)));have HO2:=Lib.hid (HR2.out.went hW2 (HM.out.not_has (by omega)));obtain⟨⟨o0,o1,o2,o3,o4,o5,o6⟩,z0,z1,z2,z3,z4,z5,z6⟩:=HO2.out.ans;obtain⟨⟨p0,p1,p2,p3,p4,p5,p6⟩,y0,y1,y2,y3,y4,y5,y6⟩:=HO1.out.ans;have hx12:X1≠X2:=(by omega);clear hM2 hW2 hP a0 a1 a2 a3 a4)
  have HF:Hid (RowAt ((((((((w2.setCell ⟨X2,0,none⟩ (.int .i64 c)).setCell ⟨X1,0,none⟩ (.int .i64 c)).setCell ⟨X1,1,none⟩ (.bool AnsM.nil.is)).setCell ⟨X1,2,none⟩ (.int .i64 AnsM.nil.number)).setCell ⟨X1,3,none⟩ (.bool AnsM.nil.yes)).setCell ⟨X1,4,none⟩ (.int .i64 AnsM.nil.words)).setCell ⟨X1,5,none⟩ (.bool AnsM.nil.going)).setCell ⟨X1,6,none⟩ (.int .i64 AnsM.nil.freed)) X1 (ansL (.err c))) :=
    ((((((((HO1.out.setFar _ _ (by simp;omega)).set 0 _).set 1 _).set 2 _).set 3 _).set 4 _).set 5 _).set 6 _)
  refine bodyPost_ret (v:=ansV (.err c)) (res_act rfl HF.out) rfl ?_
  refine retA (.err c) ?_ HM.out HB1.out HM2.out HW2.out (by repeat with_reducible (first|exact Chg.refl _ _|refine chgS ?_ (by first|(simp;done)|(simp;omega))))
  rcases HP.out with ⟨rfl,h1,h2⟩|⟨rfl,h1,h2⟩|⟨rfl,h1,h2⟩
  · exact .inl ⟨rfl,h1,h2⟩
  · exact .inr (.inl ⟨rfl,h1,h2⟩)
  · exact .inr (.inr ⟨rfl,h1,h2⟩)
end Go.Proofs.Ytbeilcaadpopmab
namespace Go.Proofs.Ytbeilcaadpopmab
open Go.RowKit Go.Maps
set_option maxRecDepth 100000 in
set_option maxHeartbeats 2000000 in
theorem act_new (base:Nat) (w:World) (B:Nat) (nm:Nm) (M:CM) (h:Mach base w B nm M) (t:Nat) (ht:t<4) (a:Nat) (ha:a<4) (b n:Int) (hn:I64 n) (ok:HeapOk M.xs (M.top:Int)) (hS:M.going=true->M.S.length<900000) :
    Calls Try.prog 66 #[.pointer (some ⟨B,0,none⟩),.agg #[.int .i64 4,.int .i64 (t:Int),.int .i64 (a:Int),.int .i64 b,.int .i64 n]] w
      (RetA 0 base w B nm (λr M'=>r = .err (M.allocE t n)/\M' = if M.allocE t n=0 then M.newObj t a n.toNat else M)):=by
  have HM:=Lib.hid h
  have i1:(t:Int)<4:=by omega
  obtain⟨PA,hPA⟩:∃PA:AnsM->CM->Prop,PA=(λr M'=>r = .err (M.allocE t n)/\M' = if M.allocE t n=0 then M.newObj t a n.toNat else M):=⟨_,rfl⟩
  rw[<- hPA]
  have HPA:=Lib.hid hPA
  clear hPA
  have HR:Hid (∀W,Calls Try.prog 74 #[.agg #[.int .i64 4,.int .i64 (t:Int),.int .i64 (a:Int),.int .i64 b,.int .i64 n]] W (λe w'=>e = .returned (.bool true)/\Below W.heap.size W w')):=λW=>by
    have:=registers_any 4 t (a:Int) b n W (by omega)
    rw[show regsOk 4 (a:Int) b n=true from by unfold regsOk in3;simp;omega] at this
    exact this
  have HC:Hid (∀W,Below w.heap.size w W->Calls Try.prog 77 #[.pointer (some ⟨B,0,none⟩),.int .i64 (t:Int),.agg #[.int .i64 4,.int .i64 (t:Int),.int .i64 (a:Int),.int .i64 b,.int .i64 n]] W (RetC 0 base W B nm (λc M'=>c=M.allocE t n/\M' = if M.allocE t n=0 then M.newObj t a n.toNat else M))):=λW hW=>by
    refine (allocM_any base W B nm M (h.below hW) t a ht ha 4 t b n hn ok hS).mono ?_
    intro e w' hr
    by_cases hE:M.allocE t n=0
    · rw[if_pos hE] at hr
      exact⟨0,_,⟨hE.symm,by rw[if_pos hE]⟩,hr⟩
    · rw[if_neg hE] at hr
      exact⟨_,_,⟨rfl,by rw[if_neg hE]⟩,hr⟩
  clear h ok hS ht ha hn
  go_enter Try.func66,Try.ntmps66
  go_upto_region 22 with (go_at_call 74;refine (HR.out _).mono ?_;rintro e w1 ⟨rfl,hb1⟩;obtain⟨HA,HR1,HR2,HB1,hz1⟩:=rows3 hb1;clear hb1;obtain⟨a0,a1,a2,a3,a4⟩:=HA.out.act)
  obtain⟨X2,hX2⟩:∃X2,X2=w.heap.size+1+1:=⟨_,rfl⟩
  rw[<- hX2] at HR2 ⊢
  obtain⟨X1,hX1⟩:∃X1,X1=w.heap.size+1:=⟨_,rfl⟩
  rw[<- hX1] at HR1 ⊢
  have hx:w.heap.size<X1/\X1<X2/\X2<w1.heap.size:=by omega
  clear hX1 hX2 hz1
  go_wp2_with (go_at_call 77;refine (HC.out _ HB1.out).mono ?_;rintro e w2 ⟨c,M',hP,rfl,nm2,hM2,hW2⟩;have HM2:=Lib.hid hM2;have HW2:=Lib.hid hW2;have HP:=Lib.hid hP;have HO1:=Lib.hid (HR1.out.went hW2 (HM.out.not_has (by omega)));have HO2:=Lib.hid (HR2.out.went hW2 (HM.out.not_has (by omega)));obtain⟨⟨o0,o1,o2,o3,o4,o5,o6⟩,z0,z1,z2,z3,z4,z5,z6⟩:=HO2.out.ans;obtain⟨⟨p0,p1,p2,p3,p4,p5,p6⟩,y0,y1,y2,y3,y4,y5,y6⟩:=HO1.out.ans;have hx12:X1≠X2:=(by omega);clear hM2 hW2 hP a0 a1 a2 a3 a4)
  have HF:Hid (RowAt ((((((((w2.setCell ⟨X2,0,none⟩ (.int .i64 c)).setCell ⟨X1,0,none⟩ (.int .i64 c)).setCell ⟨X1,1,none⟩ (.bool AnsM.nil.is)).setCell ⟨X1,2,none⟩ (.int .i64 AnsM.nil.number)).setCell ⟨X1,3,none⟩ (.bool AnsM.nil.yes)).setCell ⟨X1,4,none⟩ (.int .i64 AnsM.nil.words)).setCell ⟨X1,5,none⟩ (.bool AnsM.nil.going)).setCell ⟨X1,6,none⟩ (.int .i64 AnsM.nil.freed)) X1 (ansL (.err c))) :=
    ((((((((HO1.out.setFar _ _ (by simp;omega)).set 0 _).set 1 _).set 2 _).set 3 _).set 4 _).set 5 _).set 6 _)
  refine bodyPost_ret (v:=ansV (.err c)) (res_act rfl HF.out) rfl ?_
  refine retA (.err c) ?_ HM.out HB1.out HM2.out HW2.out (by repeat with_reducible (first|exact Chg.refl _ _|refine chgS ?_ (by first|(simp;done)|(simp;omega))))
  rw[HPA.out]
  exact⟨by rw[HP.out.1],HP.out.2⟩
set_option maxRecDepth 100000 in
set_option maxHeartbeats 2000000 in
theorem act_put (base:Nat) (w:World) (B:Nat) (nm:Nm) (M:CM) (h:Mach base w B nm M) (t:Nat) (ht:t<4) (a b:Nat) (ha:a<4) (hb:b<4) (n:Int) (hn:I64 n) (ok:PutOk M t a b n) (hN:nm.N<900000) :
    Calls Try.prog 66 #[.pointer (some ⟨B,0,none⟩),.agg #[.int .i64 6,.int .i64 (t:Int),.int .i64 (a:Int),.int .i64 (b:Int),.int .i64 n]] w
      (RetA 1 base w B nm (λr M'=>r = .err (M.object t a n)/\M' = if M.object t a n=0 then M.put t (M.regs t a).2.toNat n.toNat (M.regs t b) else M.failed t (M.object t a n))):=by
  have HM:=Lib.hid h
  have i1:(t:Int)<4:=by omega
  obtain⟨PA,hPA⟩:∃PA:AnsM->CM->Prop,PA=(λr M'=>r = .err (M.object t a n)/\M' = if M.object t a n=0 then M.put t (M.regs t a).2.toNat n.toNat (M.regs t b) else M.failed t (M.object t a n)):=⟨_,rfl⟩
  rw[<- hPA]
  have HPA:=Lib.hid hPA
  clear hPA
  have HR:Hid (∀W,Calls Try.prog 74 #[.agg #[.int .i64 6,.int .i64 (t:Int),.int .i64 (a:Int),.int .i64 (b:Int),.int .i64 n]] W (λe w'=>e = .returned (.bool true)/\Below W.heap.size W w')):=λW=>by
    have:=registers_any 6 t (a:Int) (b:Int) n W (by omega)
    rw[show regsOk 6 (a:Int) (b:Int) n=true from by unfold regsOk in3;simp;omega] at this
    exact this
  have HC:Hid (∀W,Below w.heap.size w W->Calls Try.prog 80 #[.pointer (some ⟨B,0,none⟩),.int .i64 (t:Int),.agg #[.int .i64 6,.int .i64 (t:Int),.int .i64 (a:Int),.int .i64 (b:Int),.int .i64 n]] W (RetC 1 base W B nm (λc M'=>c=M.object t a n/\M' = if M.object t a n=0 then M.put t (M.regs t a).2.toNat n.toNat (M.regs t b) else M.failed t (M.object t a n)))):=λW hW=>by
    refine (put_any base W B nm M (h.below hW) t a b ht ha hb 6 t n hn ok hN).mono ?_
    intro e w' hr
    by_cases hE:M.object t a n=0
    · rw[if_pos hE] at hr
      exact⟨0,_,⟨hE.symm,by rw[if_pos hE]⟩,hr⟩
    · rw[if_neg hE] at hr
      exact⟨_,_,⟨rfl,by rw[if_neg hE]⟩,hr⟩
  clear h ok ht ha hb hn hN
  go_enter Try.func66,Try.ntmps66
  go_upto_region 29 with (go_at_call 74;refine (HR.out _).mono ?_;rintro e w1 ⟨rfl,hb1⟩;obtain⟨HA,HR1,HR2,HB1,hz1⟩:=rows3 hb1;clear hb1;obtain⟨a0,a1,a2,a3,a4⟩:=HA.out.act)
  obtain⟨X2,hX2⟩:∃X2,X2=w.heap.size+1+1:=⟨_,rfl⟩
  rw[<- hX2] at HR2 ⊢
  obtain⟨X1,hX1⟩:∃X1,X1=w.heap.size+1:=⟨_,rfl⟩
  rw[<- hX1] at HR1 ⊢
  have hx:w.heap.size<X1/\X1<X2/\X2<w1.heap.size:=by omega
  clear hX1 hX2 hz1
  go_wp2_with (go_at_call 80;refine (HC.out _ HB1.out).mono ?_;rintro e w2 ⟨c,M',hP,rfl,nm2,hM2,hW2⟩;have HM2:=Lib.hid hM2;have HW2:=Lib.hid hW2;have HP:=Lib.hid hP;have HO1:=Lib.hid (HR1.out.went hW2 (HM.out.not_has (by omega)));have HO2:=Lib.hid (HR2.out.went hW2 (HM.out.not_has (by omega)));obtain⟨⟨o0,o1,o2,o3,o4,o5,o6⟩,z0,z1,z2,z3,z4,z5,z6⟩:=HO2.out.ans;obtain⟨⟨p0,p1,p2,p3,p4,p5,p6⟩,y0,y1,y2,y3,y4,y5,y6⟩:=HO1.out.ans;have hx12:X1≠X2:=(by omega);clear hM2 hW2 hP a0 a1 a2 a3 a4)
  have HF:Hid (RowAt ((((((((w2.setCell ⟨X2,0,none⟩ (.int .i64 c)).setCell ⟨X1,0,none⟩ (.int .i64 c)).setCell ⟨X1,1,none⟩ (.bool AnsM.nil.is)).setCell ⟨X1,2,none⟩ (.int .i64 AnsM.nil.number)).setCell ⟨X1,3,none⟩ (.bool AnsM.nil.yes)).setCell ⟨X1,4,none⟩ (.int .i64 AnsM.nil.words)).setCell ⟨X1,5,none⟩ (.bool AnsM.nil.going)).setCell ⟨X1,6,none⟩ (.int .i64 AnsM.nil.freed)) X1 (ansL (.err c))) :=
    ((((((((HO1.out.setFar _ _ (by simp;omega)).set 0 _).set 1 _).set 2 _).set 3 _).set 4 _).set 5 _).set 6 _)
  refine bodyPost_ret (v:=ansV (.err c)) (res_act rfl HF.out) rfl ?_
  refine retA (.err c) ?_ HM.out HB1.out HM2.out HW2.out (by repeat with_reducible (first|exact Chg.refl _ _|refine chgS ?_ (by first|(simp;done)|(simp;omega))))
  rw[HPA.out]
  exact⟨by rw[HP.out.1],HP.out.2⟩
end Go.Proofs.Ytbeilcaadpopmab
