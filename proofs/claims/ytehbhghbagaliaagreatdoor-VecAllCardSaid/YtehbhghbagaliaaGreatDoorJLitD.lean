/- Package lit: a fraction's text is a literal; a long one is none. Two fractions that are one. -/
import Derived.Test.YtehbhghbagaliaaGreatDoorJWalkE
set_option linter.unusedVariables false
set_option linter.unusedSimpArgs false
namespace Go.Proofs.YtehbhghbagaliaaGreatDoor
open Go.RowKit Vic
set_option maxRecDepth 100000 in
set_option maxHeartbeats 4000000 in
theorem lit_Get_long (w:World) (l:List UInt8) (hl:40<l.length) (hl2:l.length≤1000000000):Calls Tryz.prog 26 #[.string ⟨l.toArray⟩] w (GivesNo w):=by
 have h1:(40:Int)<(l.length:Int):=by omega
 go_enter Tryz.func26,Tryz.ntmps26
 go_wp2_with fail
 go_ret2
 exact ⟨rfl,Below.refl _ _⟩
set_option maxRecDepth 100000 in
set_option maxHeartbeats 4000000 in
theorem lit_Get_frac (w:World) (ht:Tab w) (l:List UInt8) (hl:l.length≤40) (hg:FracGood l):Calls Tryz.prog 26 #[.string ⟨l.toArray⟩] w (GivesOk (fun x w'=>FracPtr w' x (fracOf l)) w):=by
 have CF:Hid (Calls Tryz.prog 25 #[.string ⟨l.toArray⟩] w (fun e w'=>∃ z,e=.returned (.tuple #[z,.bool true])∧FracPtr w' z (fracOf l)∧Below w.heap.size w w')):=by
  refine (frac_Get w l (by omega) ht).mono ?_
  rintro e w' (⟨h,_⟩|⟨_,z,rfl,hz,_,hb⟩)
  ·exact absurd hg h
  ·exact ⟨z,rfl,hz,hb⟩
 clear ht hg
 go_enter Tryz.func26,Tryz.ntmps26
 go_wp2_with fail
 refine CF.out.mono ?_
 rintro e w1 ⟨z,rfl,hz,hb1⟩
 obtain ⟨z0,rfl⟩:∃ z0,z=.pointer z0:=by
  obtain ⟨bz,_,_,h,_⟩:=hz
  exact ⟨_,h⟩
 have HZ:=Lib.hid hz
 clear hz CF
 go_wp2_with fail
 go_ret2
 exact ⟨_,rfl,HZ.out,hb1⟩
end Go.Proofs.YtehbhghbagaliaaGreatDoor
