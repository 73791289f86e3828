/- Texts put together: Qe. -/
import Derived.Test.YtbeilcaadpopmacYj
set_option linter.unusedVariables false
set_option linter.unusedSimpArgs false
namespace Go.Proofs.Ytbeilcaadpopmac
open Go.RowKit Go.Maps
set_option maxHeartbeats 1000000 in
set_option maxRecDepth 100000 in
theorem equalAns_same (a b:Value) (X:List AnsM) (w:World) (ha:AnsRow w a X) (hb:AnsRow w b X) :
    Calls Try.prog 11 #[a,b] w λe w'=>e = .returned (.bool true)/\Below w.heap.size w w':=by
  obtain⟨aa,ac,rfl,hac,hacm,_⟩:=Row.len ha
  obtain⟨ba,bc,rfl,hbc,hbcm,_⟩:=Row.len hb
  have hle:X.length<=140737488355328:=ha.2.1
  have HA:=Lib.hid ha;clear ha
  have HB:=Lib.hid hb;clear hb
  go_enter Try.func11,Try.ntmps11
  go_wp2
  go_loopw [13] (λi wr=>∃k:Nat,k<=X.length/\i = .int .i64 k/\Below w.heap.size w wr) (λi _=>X.length - (intOf i).toNat)
  case atStart=>exact⟨0,Nat.zero_le _,rfl,Below.refl _ _⟩
  case round =>
    obtain⟨k,hk,rfl,hbel⟩:=hrel
    by_cases hlt:k<X.length
    · obtain⟨ab,ao,rfl,_,c1⟩:=ansRow_at (HA.out.below hbel) (by omega)
      obtain⟨bb,bo,rfl,_,c2⟩:=ansRow_at (HB.out.below hbel) (by omega)
      obtain⟨c10,c11,c12,c13,c14,c15,c16⟩:=c1 k hlt
      obtain⟨c20,c21,c22,c23,c24,c25,c26⟩:=c2 k hlt
      clear c1 c2
      generalize X[k]=x at c10 c11 c12 c13 c14 c15 c16 c20 c21 c22 c23 c24 c25 c26
      go_wp2
      go_quiet (fail)
      go_wp2
      go_roundw
      case rel=>exact⟨k+1,by omega,by go_num,below_drewN hbel _⟩
      case measure=>simp[intOf];omega
    · go_wp2
      go_ret
      exact⟨rfl,hbel⟩
end Go.Proofs.Ytbeilcaadpopmac
