/- From a row with listed variables to the walks of law7: the tables, both handed on. -/
import Derived.Test.YtbdfhnelmojbpaaGreatDoorCxLaw
import Derived.Test.YtbdfhnelmojbpaaGreatDoorWas
import Derived.Shelf.Vars
set_option linter.unusedVariables false
set_option linter.unusedSimpArgs false
namespace Go.Proofs.YtbdfhnelmojbpaaGreatDoor
open Go.RowKit Go.Lib Vic
theorem tab_of {W:World}{l:List (String × DataW Unit)}(hL:laidMet Tryz.prog l W) (hm:("internal/strconv.uint64pow10",Rows.laid_internal_strconv_uint64pow10)∈l) (hsh:W.ShapedOpen Tryz.prog):Tab W:=by
 refine ⟨tabIs_of_reads (n:=20) (e:=112) gPow gPowT (by kernel_rfl) (by kernel_rfl) (by kernel_rfl) (by kernel_rfl) (powData▸laidMet.reads hL hm),?_⟩
 exact cell_of_shapedOpen_int (t:=3) (zero:=#[.int .i64 0]) hsh (of_decide_eq_true (by kernel_rfl)) (by kernel_rfl) (by kernel_rfl) (by kernel_rfl) (by kernel_rfl) (by kernel_rfl)
end Go.Proofs.YtbdfhnelmojbpaaGreatDoor
