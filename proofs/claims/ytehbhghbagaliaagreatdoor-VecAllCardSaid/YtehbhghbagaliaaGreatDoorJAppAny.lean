/- Appending whatever number of elements, none too, to a row of one's own. No program in sight. -/
import Derived.Test.YtehbhghbagaliaaGreatDoorJVecD
import Derived.Test.YtehbhghbagaliaaGreatDoorJStepRun
set_option linter.unusedVariables false
set_option linter.unusedSimpArgs false
namespace Vic
open Go Go.RowKit
theorem run_append_zero {P:Program}{w:World}{t ty e:TypeId}{i:TypeInfo}(ht:P.underlying t=some (.slice e)) (hi:P.info? e=some i) (B:Option Addr) (n cap:Nat) (h:n≤cap) (A:Option Addr) (c:Nat) :
 (Builtin.append_ #[t,t] ty #[.slice B n cap,.slice A 0 c]).run P w=.ok (.slice B n cap) w:=by
 cases A<;>cases B<;>simp[Builtin.append_,run_underlying ht,Go.sizeOf,typeInfo,hi,Builtin.lenOf,h,run_firstCells_none,Builtin.firstCells,loadCells,loadCellsFrom,storeCells]
theorem OwnK.appendAny {P:Program}{Kd:Value→Prop}{w:World}{base:Nat}{t ty e:TypeId}{i:TypeInfo}{z:Value}{size:Nat}(ht:P.underlying t=some (.slice e)) (hi:P.info? e=some i) (hz:i.zero=some z)
 (hsize:i.size=size) (hzs:z.cells.size=size) (hsz:0<size)
 {v:Value}{n:Nat}{xs:List Value}(hown:OwnK Kd w base e size v n xs)
 (A:Option Addr) (m c:Nat) (news:List Value) (hl:news.length=m*size) (hnews:∀ j u,news[j]?=some u→∃ a,A=some a∧w.cell? (a.add j)=some u) (h1:∀ u∈news,u.oneCell'=true)
 (hk:∀ u∈news,Kd u) (hkz:∀ u∈z.cells,Kd u)
 (h63:n+m≤maxLen) (hbytes:(n+m)*i.bytes≤140737488355328) (hbase:base≤w.heap.size) :
 ∃ v' w',(Builtin.append_ #[t,t] ty #[v,.slice A m c]).run P w=.ok v' w'∧OwnK Kd w' base e size v' (n+m) (xs ++ news)∧w.grownBy w' v.ownBlock∧(v'.ownBlock=v.ownBlock∨v'.ownBlock=some w.heap.size):=by
 rcases Nat.eq_zero_or_pos m with h0|h0
 ·subst h0
  have:news = []:=List.eq_nil_of_length_eq_zero (by simpa using hl)
  subst this
  obtain ⟨B,cap,rfl,hc⟩:∃ B cap,v=.slice B n cap∧n≤cap:=by
   obtain ⟨_,⟨h1,h2⟩|⟨g,cap,cur,rfl,_,_,h2,_⟩⟩:=id hown
   ·subst h2;exact ⟨none,0,h1,Nat.le_refl _⟩
   ·exact ⟨_,_,rfl,h2⟩
  exact ⟨_,_,run_append_zero ht hi B n cap hc A c,by simpa using hown,⟨rfl,rfl,rfl,Nat.le_refl _,fun _ _ _=>rfl⟩,.inl rfl⟩
 ·obtain ⟨a,rfl⟩:∃ a,A=some a:=by
   have h2:0<news.length:=by rw[hl];exact Nat.mul_pos h0 hsz
   obtain ⟨a,ha,_⟩:=hnews 0 news[0] (by simp[h2])
   exact ⟨a,ha⟩
  exact OwnK.append ht hi hz hsize hzs hsz hown a m c news hl (fun j u hj=>by obtain ⟨a',h2,h3⟩:=hnews j u hj;cases h2;exact h3) h1 hk hkz h0 h63 hbytes hbase
def CoefsOk (cs:List VCoef):Prop:=cs.Pairwise (fun x y=>x.1<y.1)∧∀ x∈cs,(0≤x.1∧x.1<30)∧FracGood x.2
theorem CoefsOk.good {cs:List VCoef}(h:CoefsOk cs):GoodCoefs cs:=by
 refine ⟨fun x hx=>?_,?_⟩
 ·obtain ⟨h1,h2⟩:=h.2 x hx
  exact ⟨h1.1,by omega,h2⟩
 ·rw[List.Nodup,List.pairwise_map]
  exact h.1.imp fun h=>by omega
theorem CoefsOk.insert {cs:List VCoef}(h:CoefsOk cs) {k:Nat}{c:Int}{v:List UInt8}(hlow:∀ (j:Nat) x,j<k→cs[j]?=some x→x.1<c) (hup:∀ x,cs[k]?=some x→c<x.1) (hc:0≤c∧c<30) (hv:FracGood v) :
 CoefsOk (cs.take k ++ (c,v) :: cs.drop k):=by
 have hup2:∀ x∈cs.drop k,c<x.1:=by
  intro x hx
  rcases hd:cs.drop k with _|⟨y,r⟩
  ·rw[hd]at hx;cases hx
  ·have hy:cs[k]?=some y:=by
    have:=congrArg List.head? hd
    rw[List.head?_drop]at this
    simpa using this
   have h1:=hup y hy
   have h2:(y :: r).Pairwise (fun x y=>x.1<y.1):=by rw[← hd];exact h.1.sublist (List.drop_sublist _ _)
   rw[hd]at hx
   rcases List.mem_cons.1 hx with rfl|hx
   ·exact h1
   ·have:=(List.pairwise_cons.1 h2).1 x hx;omega
 have hlow2:∀ x∈cs.take k,x.1<c:=by
  intro x hx
  obtain ⟨j,hj⟩:=List.getElem?_of_mem hx
  have hjk:j<k:=by
   have:=(List.getElem?_eq_some_iff.1 hj).1
   simp at this;omega
  rw[List.getElem?_take_of_lt hjk]at hj
  exact hlow j x hjk hj
 refine ⟨?_,fun x hx=>?_⟩
 ·rw[List.pairwise_append]
  refine ⟨h.1.sublist (List.take_sublist _ _),List.pairwise_cons.2 ⟨hup2,h.1.sublist (List.drop_sublist _ _)⟩,fun x hx y hy=>?_⟩
  have h1:=hlow2 x hx
  rcases List.mem_cons.1 hy with rfl|hy
  ·exact h1
  ·have:=hup2 y hy;omega
 ·rcases List.mem_append.1 hx with hx|hx
  ·exact h.2 x (List.mem_of_mem_take hx)
  ·rcases List.mem_cons.1 hx with rfl|hx
   ·exact ⟨hc,hv⟩
   ·exact h.2 x (List.mem_of_mem_drop hx)
end Vic
