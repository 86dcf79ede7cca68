/- From a row with listed variables to the walks: the world's shape and the listed tables, both handed on. -/
import Derived.Test.YtbdfhnelmojbpaaGreatDoorRows
import Derived.Test.YtbdfhnelmojbpaaGreatDoorWai
import Derived.ProofKit
import Derived.OpenShut
import Derived.HandedShaped
import Derived.Lay
import Derived.Lib.LaidU8
set_option linter.unusedVariables false
set_option linter.unusedSimpArgs false
namespace Vic
open Go Go.Lib
theorem tabIs_of_reads {P:Program}{W:World}{name:String}{k:IntKind}{zs:List Int}{g:Nat}{t e:TypeId}{n:Nat}
 (hg:P.globalNamed name=some g) (hty:(P.globals[g]?).map (·.type)=some t) (ht:P.underlying t=some (.array n e)) (he:P.underlying e=some (.int k)) (hce:P.cellsOf e=1) (hct:P.cellsOf t=n)
 (h:VarReads P W name (tabData k zs)):TabIs P W name k zs:=by
 obtain ⟨g',t',cs,fuel,p,hg',ht',hvar,hd⟩:=h
 obtain rfl:=Option.some.inj (hg.symm.trans hg')
 obtain rfl:=Option.some.inj (hty.symm.trans ht')
 unfold TabIs
 rw[hvar,← cells_of_tab ht he hce hct hd]
variable {H:Type}{enc:TypeId × Value→H}
end Vic
namespace Go.Proofs.YtbdfhnelmojbpaaGreatDoor
open Go.RowKit Go.Lib Vic Am
theorem own:ownKnob Tryz.prog.godebug=none:=by kernel_rfl
theorem gPow:Tryz.prog.globalNamed "internal/strconv.uint64pow10" = some 3:=by kernel_rfl
theorem gPowT:(Tryz.prog.globals[3]?).map (·.type)=some 376:=by kernel_rfl
theorem powData:(Rows.laid_internal_strconv_uint64pow10:DataW Unit)=tabData .u64 pow10Tab:=by kernel_rfl
theorem t7_of_row {W:World}{l:List (String × DataW Unit)}(hL:laidMet Tryz.prog l W) (hm:("internal/strconv.uint64pow10",Rows.laid_internal_strconv_uint64pow10)∈l) (hsh:W.ShapedOpen Tryz.prog):T7 W:=by
 have h:TabIs Tryz.prog W "internal/strconv.uint64pow10" .u64 pow10Tab:=tabIs_of_reads (n:=20) (e:=112) gPow gPowT (by kernel_rfl) (by kernel_rfl) (by kernel_rfl) (by kernel_rfl) (powData▸laidMet.reads hL hm)
 obtain ⟨cs,hh,_,_⟩:=hsh.1 3 (Array.replicate 20 (.int .u64 0)) 376 (of_decide_eq_true (by kernel_rfl)) (by kernel_rfl)
 unfold TabIs World.var? at h
 rw[gPow,Option.bind_some,hh]at h
 obtain rfl:=Option.some.inj h
 exact ⟨_,hh⟩
end Go.Proofs.YtbdfhnelmojbpaaGreatDoor
