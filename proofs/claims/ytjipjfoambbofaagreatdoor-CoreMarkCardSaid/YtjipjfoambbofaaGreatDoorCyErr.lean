/- From a row with listed variables to the walks: the two errors of strconv, too. -/
import Derived.Test.YtjipjfoambbofaaGreatDoorCyLaw
import Derived.Test.YtjipjfoambbofaaGreatDoorKay
import Derived.LaidLaws
set_option linter.unusedVariables false
set_option linter.unusedSimpArgs false
namespace Go.Proofs.YtjipjfoambbofaaGreatDoor
open Go.RowKit Go.Lib Vic
theorem errCell_of {W:World}{name:String}{g:Nat}{t:TypeId}{ms:Array (String × TypeId)}{nm:String}{d:DataW Unit}(hg:Tryz.prog.globalNamed name=some g) (hty:(Tryz.prog.globals[g]?).map (·.type)=some t) (ht:Tryz.prog.underlying t=some (.interface ms))
 (h:VarReads Tryz.prog W name (.iface nm d)):ErrCell W g:=by
 obtain ⟨g',t',cs,fuel,p,hg',ht',hvar,hd⟩:=h
 obtain rfl:=Option.some.inj (hg.symm.trans hg')
 obtain rfl:=Option.some.inj (hty.symm.trans ht')
 obtain ⟨_,u,v,hcs,_⟩:=iface_of_trod ht hd
 have hcs2:cs=#[.iface u v]:=by cases cs;simp_all
 subst hcs2
 refine ⟨.iface u v,?_,.inr ⟨u,v,rfl⟩⟩
 unfold World.var? at hvar
 rw[hg]at hvar
 simp only[Option.bind_some]at hvar
 unfold World.cell?
 split at hvar
 case h_1 cs' ty fr hh=>
  cases hvar
  simp[hh]
 case h_2=>cases hvar
theorem gEs:Tryz.prog.globalNamed "strconv.ErrSyntax" = some 1:=by kernel_rfl
theorem gEr:Tryz.prog.globalNamed "strconv.ErrRange" = some 2:=by kernel_rfl
theorem gEsT:(Tryz.prog.globals[1]?).map (·.type)=some 187:=by kernel_rfl
theorem gErT:(Tryz.prog.globals[2]?).map (·.type)=some 187:=by kernel_rfl
theorem tabE_of {W:World}{l:List (String × DataW Unit)}(hL:laidMet Tryz.prog l W) (hm:("internal/strconv.uint64pow10",Rows.laid_internal_strconv_uint64pow10)∈l) (hs:("strconv.ErrSyntax",Rows.laid_strconv_ErrSyntax)∈l) (hr:("strconv.ErrRange",Rows.laid_strconv_ErrRange)∈l) (hsh:W.ShapedOpen Tryz.prog):TabE W:=
 ⟨tab_of hL hm hsh,errCell_of gEs gEsT Tryz.underlying187 (laidMet.reads hL hs),errCell_of gEr gErT Tryz.underlying187 (laidMet.reads hL hr)⟩
end Go.Proofs.YtjipjfoambbofaaGreatDoor
