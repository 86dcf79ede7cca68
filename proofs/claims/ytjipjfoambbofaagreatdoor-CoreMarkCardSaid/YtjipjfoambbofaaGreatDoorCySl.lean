/- From an argument that is a slice to what the walks ask of it. -/
import Derived.Test.YtjipjfoambbofaaGreatDoorCyLaw
import Derived.Test.YtjipjfoambbofaaGreatDoorKav
import Derived.Carry
import Derived.ChangeSlices
import Derived.SliceStrings
set_option linter.unusedVariables false
set_option linter.unusedSimpArgs false
namespace Vic
open Go Go.ChangeShapes Go.WideShapes Go.RowKit
variable {H:Type}{enc:TypeId × Value→H}{P:Program}{W:World}
theorem slice_of_ok {t e:TypeId}{v:Value}{r:Reach}{base:Nat}(ht:P.underlying t=some (.slice e)) (h:Value.okWide P W r base t v):∃ A n c,v=.slice A n c:=by
 unfold Value.okWide at h
 rw[ht]at h
 simp only[Cell.okWide,ht]at h
 unfold Cell.ok at h
 rw[ht]at h
 cases v<;>first|exact ⟨_,_,_,rfl⟩|(exfalso;simp at h)
theorem spot_none {a:Addr}{u0:Value}(h0:W.cell? (a.add 0)=some u0) {i:Nat}{u:Value}(h:W.cell? (a.add i)=some u):a=⟨a.block,a.off,none⟩∧W.cell? ⟨a.block,a.off+i,none⟩=some u:=by
 obtain ⟨b,o,s⟩:=a
 cases s with
 | none=>
   refine ⟨rfl,?_⟩
   have e:(⟨b,o,none⟩:Addr).add i=⟨b,o+i,none⟩:=by
    rcases i with _|i
    ·rfl
    ·simp[Addr.add]
   rwa [e]at h
 | some s=>
   exfalso
   have hs:∀ (x:Addr) (u:Value),x.spot.isSome=true→W.cell? x≠some u:=fun x u hx he=>by
    unfold World.cell? at he
    split at he
    ·simp[hx]at he
    ·cases he
   exact hs _ u0 (by simp[Addr.add]) h0
theorem ints_arg {t e:TypeId}{v:Value}{d:DataW H}{p:List MemPlace}{base:Nat}(ht:P.underlying t=some (.slice e)) (he:P.underlying e=some (.int .i64)) (hc:P.cellsOf e=1) (hval:Value.okWide P W .any base t v)
 (h:DataW.Trod enc P W 0 (fun _=>true) true t v d p):∃ xs:List Int,IntsArg W v xs∧xs.length≤9223372036854775807∧∀ x∈xs,-9223372036854775808≤x∧x≤9223372036854775807:=by
 obtain ⟨A,n,c,rfl⟩:=slice_of_ok ht hval
 obtain ⟨fuel,hf⟩:=h
 rcases open_ints ht he hc hf with ⟨hcs,_⟩|⟨a,len,cap,zs,hcs,_,hl,hm,hz,_,hcell,hwz⟩
 ·simp[Value.cells]at hcs
  obtain ⟨rfl,rfl,rfl⟩:=hcs
  exact ⟨[],⟨none,0,rfl,fun i x hx=>by simp at hx⟩,by simp,fun x hx=>by cases hx⟩
 ·simp[Value.cells]at hcs
  obtain ⟨rfl,rfl,rfl⟩:=hcs
  simp only[if_true]at hz
  have hl2:(zs.take n).length=n:=by rw[List.length_take];omega
  refine ⟨zs.take n,⟨some a,c,by rw[hl2],fun i x hx=>?_⟩,by rw[hl2];unfold maxLen at hm;omega,fun x hx=>?_⟩
  ·have hi:i<n:=by have:=(List.getElem?_eq_some_iff.1 hx).1;omega
   rw[List.getElem?_take_of_lt hi]at hx
   have h1:=hcell i (by omega)
   have e1:zs.getD i 0=x:=by simp[List.getD,hx]
   rw[e1]at h1
   obtain ⟨h2,h3⟩:=spot_none (hcell 0 (by omega)) h1
   exact ⟨a.block,a.off,by rw[← h2],h3⟩
  ·have:=hwz x (List.mem_of_mem_take hx)
   simpa [Lit.wf,IntKind.min,IntKind.max,IntKind.signed,IntKind.bits]using this
end Vic
namespace Go.Proofs.YtjipjfoambbofaaGreatDoor
theorem laidOut:laidOutB Tryz.prog=true:=by kernel_rfl
end Go.Proofs.YtjipjfoambbofaaGreatDoor
