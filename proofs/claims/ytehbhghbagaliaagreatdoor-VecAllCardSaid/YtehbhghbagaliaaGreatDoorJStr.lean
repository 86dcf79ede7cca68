/- What package strings and strconv compute at our calls, over the shelf's contracts. -/
import Derived.Test.YtehbhghbagaliaaGreatDoorShelf
import Derived.Shelf.Strings.SlTrimAscii
import Derived.Lib.AtoiErrMem
import Derived.Test.YtehbhghbagaliaaGreatDoorJFmt
import Derived.Test.YtehbhghbagaliaaGreatDoorJPlainB
import Derived.Test.YtehbhghbagaliaaGreatDoorJRegion
set_option linter.unusedVariables false
set_option linter.unusedSimpArgs false
namespace Go.Proofs.YtehbhghbagaliaaGreatDoor
open Go.Shelf Go.RowKit Vic
theorem strings_Trim_digs (w:World) (s:List UInt8) (hs:s.length≤9223372036854775806) :
 Calls Tryz.prog 56 #[.string ⟨s.toArray⟩,.string ⟨#[48,49,50,51,52,53,54,55,56,57]⟩] w (Keeps (.string ⟨(Lib.trimS s tenDigs).toArray⟩) w):=
 Any.strings_Trim_laid Go.Proofs.Tryz.lays160 (by kernel_rfl) ⟨s.toArray⟩ ⟨#[48,49,50,51,52,53,54,55,56,57]⟩ w (by show s.toArray.size≤_;simp;omega) (by decide) (ascii_of_all (by decide))
theorem strconv_ParseUint_digs (w:World) (s:List UInt8) (h:∀ c∈s,isDig c=true) (h0:s≠[]) (h9:s.length≤9) :
 Calls Tryz.prog 58 #[.string ⟨s.toArray⟩,.int .i64 10,.int .i64 32] w (Keeps (.tuple #[.int .u64 (numOf 0 s:Nat),.nilIface]) w):=by
 refine (Go.Proofs.Tryz.strconv_ParseUint_10_at32_ok ⟨s.toArray⟩ (by show s.toArray.size≤_;simp;omega) (numOf 0 s) (parse32_ok s h h0 h9) w).mono ?_
 rintro e w' ⟨rfl,rfl|rfl⟩
 ·exact ⟨rfl,Below.refl _ _⟩
 ·exact ⟨rfl,Lib.bytesWorld_below _ _ _⟩
theorem strings_CutPrefix (w:World) (s p:List UInt8) :
 Calls Tryz.prog 62 #[.string ⟨s.toArray⟩,.string ⟨p.toArray⟩] w (Rets (.tuple #[.string ⟨(Lib.trimPrefix s p).toArray⟩,.bool (Lib.hasPrefix s p)]) w):=by
 refine (Go.Proofs.Tryz.strings_CutPrefix ⟨s.toArray⟩ ⟨p.toArray⟩ w).mono ?_
 rintro e w' ⟨rfl,rfl⟩
 exact ⟨rfl,rfl⟩
theorem strings_Cut (w:World) (ht:Tab w) (s p:List UInt8) (hs:s.length<4294967281) :
 Calls Tryz.prog 63 #[.string ⟨s.toArray⟩,.string ⟨p.toArray⟩] w (Keeps (.tuple #[.string ⟨(Lib.cut s p).1.toArray⟩,.string ⟨(Lib.cut s p).2.1.toArray⟩,.bool (Lib.cut s p).2.2]) w):=by
 obtain ⟨m,hm⟩:=ht.maxLen
 refine (Go.Proofs.Tryz.strings_Cut ⟨s.toArray⟩ ⟨p.toArray⟩ m w (by show s.toArray.size<_;simpa using hs) hm).mono ?_
 rintro e w' ⟨rfl,n,rfl⟩
 exact ⟨rfl,Vic.Below.drewN_ (Below.refl _ _) _⟩
end Go.Proofs.YtehbhghbagaliaaGreatDoor
