/- Texts put together: Rw. -/
import Derived.Test.YtbeilcaadpopmabYd
import Derived.Test.YtbeilcaadpopmabY4
set_option linter.unusedVariables false
set_option linter.unusedSimpArgs false
namespace Go.Proofs.Ytbeilcaadpopmab
open Go.RowKit Go.Maps
theorem cellsAns_at:∀(l:List AnsM) (i:Nat) (h:i<l.length),(cellsAns l)[i * 7+0]? = some (.int .i64 l[i].code)/\(cellsAns l)[i * 7+1]? = some (.bool l[i].is)/\(cellsAns l)[i * 7+2]? = some (.int .i64 l[i].number)/\(cellsAns l)[i * 7+3]? = some (.bool l[i].yes)/\(cellsAns l)[i * 7+4]? = some (.int .i64 l[i].words)/\(cellsAns l)[i * 7+5]? = some (.bool l[i].going)/\(cellsAns l)[i * 7+6]? = some (.int .i64 l[i].freed)
  | [],i,h=>by simp at h
  | m :: ms,0,h=>⟨rfl,rfl,rfl,rfl,rfl,rfl,rfl⟩
  | m :: ms,i+1,h=>by
    have:=cellsAns_at ms i (by simpa using h)
    have e:cellsAns (m :: ms) = .int .i64 m.code :: .bool m.is :: .int .i64 m.number :: .bool m.yes :: .int .i64 m.words :: .bool m.going :: .int .i64 m.freed :: cellsAns ms:=rfl
    rw[e]
    simp only [show ∀k,(i+1) * 7+k=i * 7+k+1+1+1+1+1+1+1 by intro k;omega]
    simpa using this
theorem ansRow_at {w:World} {a:Option Addr} {n c:Nat} {l:List AnsM} (h:Row w (.slice a n c) l.length 7 (cellsAns l)) (hn:0<l.length) :
    ∃b o,a=some ⟨b,o,none⟩/\b<w.heap.size/\∀i (hi:i<l.length),w.cell? ⟨b,o+i * 7,none⟩=some (.int .i64 l[i].code)/\w.cell? ⟨b,o+i * 7+1,none⟩=some (.bool l[i].is)/\w.cell? ⟨b,o+i * 7+2,none⟩=some (.int .i64 l[i].number)/\w.cell? ⟨b,o+i * 7+3,none⟩=some (.bool l[i].yes)/\w.cell? ⟨b,o+i * 7+4,none⟩=some (.int .i64 l[i].words)/\w.cell? ⟨b,o+i * 7+5,none⟩=some (.bool l[i].going)/\w.cell? ⟨b,o+i * 7+6,none⟩=some (.int .i64 l[i].freed):=by
  have hl:=h.1
  obtain⟨b,o,rfl,hb,hc⟩:=h.at hn
  refine⟨b,o,rfl,hb,λi hi=>?_⟩
  obtain⟨h0,h1,h2,h3,h4,h5,h6⟩:=cellsAns_at l i hi
  have key:∀k,k<7->w.cell? ⟨b,o+(i * 7+k),none⟩=(cellsAns l)[i * 7+k]?:=λk hk=>by
    have hlt:i * 7+k<(cellsAns l).length:=by omega
    rw[hc _ hlt,List.getD_eq_getElem?_getD,List.getElem?_eq_getElem hlt];rfl
  exact⟨by have e:=(key 0 (by omega)).trans h0;rwa [<- Nat.add_assoc] at e,by have e:=(key 1 (by omega)).trans h1;rwa [<- Nat.add_assoc] at e,by have e:=(key 2 (by omega)).trans h2;rwa [<- Nat.add_assoc] at e,by have e:=(key 3 (by omega)).trans h3;rwa [<- Nat.add_assoc] at e,by have e:=(key 4 (by omega)).trans h4;rwa [<- Nat.add_assoc] at e,by have e:=(key 5 (by omega)).trans h5;rwa [<- Nat.add_assoc] at e,by have e:=(key 6 (by omega)).trans h6;rwa [<- Nat.add_assoc] at e⟩
end Go.Proofs.Ytbeilcaadpopmab
