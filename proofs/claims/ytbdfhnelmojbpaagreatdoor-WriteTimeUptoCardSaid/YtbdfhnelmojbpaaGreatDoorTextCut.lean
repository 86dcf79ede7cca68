/- Package victuallerlaw1: a text cut. -/
import Derived.Test.YtbdfhnelmojbpaaGreatDoorWap
import Derived.Test.YtbdfhnelmojbpaaGreatDoorProg
import Derived.WalkKit
set_option linter.unusedVariables false
set_option linter.unusedSimpArgs false
namespace Go.Proofs.YtbdfhnelmojbpaaGreatDoor
open Go.RowKit Vic
set_option maxRecDepth 100000 in
set_option maxHeartbeats 4000000 in
theorem law_Text (w:World) (l:List UInt8) (n:Nat) (hl:l.length≤9223372036854775807) (hn:n≤100000) :
 Calls Tryz.prog 13 #[.string ⟨l.toArray⟩,.int .i64 n] w (Keeps (.string ⟨(l.take n).toArray⟩) w):=by
 have H1:Hid ((⟨l.toArray⟩:ByteArray).extract 0 n=⟨(l.take n).toArray⟩):=Lib.hid (take_bytes l n)
 have H2:Hid (l.length≤n→(⟨l.toArray⟩:ByteArray).extract 0 l.length=⟨(l.take n).toArray⟩):=Lib.hid fun h=>by
  rw[take_bytes,List.take_of_length_le (Nat.le_refl _),List.take_of_length_le h]
 by_cases h:(n:Int)<(l.length:Int)
 ·go_enter Tryz.func13,Tryz.ntmps13
  go_wp2_with fail
  go_ret
  exact ⟨by rw[H1.out];rfl,Below.refl _ _⟩
 ·have HE:=Lib.hid (H2.out (by omega))
  go_enter Tryz.func13,Tryz.ntmps13
  go_wp2_with fail
  go_ret
  exact ⟨by rw[HE.out];rfl,Below.refl _ _⟩
end Go.Proofs.YtbdfhnelmojbpaaGreatDoor
