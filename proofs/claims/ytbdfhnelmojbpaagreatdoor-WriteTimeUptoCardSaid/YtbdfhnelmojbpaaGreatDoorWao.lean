/- begun7 returns true, and all that was there is as it was. -/
import Derived.Test.YtbdfhnelmojbpaaGreatDoorWai
import Derived.Test.YtbdfhnelmojbpaaGreatDoorWak
import Derived.Test.YtbdfhnelmojbpaaGreatDoorWal
import Derived.Test.YtbdfhnelmojbpaaGreatDoorWam
import Derived.Test.YtbdfhnelmojbpaaGreatDoorWan
set_option linter.unusedVariables false
set_option linter.unusedSimpArgs false
namespace Go.Proofs.YtbdfhnelmojbpaaGreatDoor
open Go Am Go.RowKit
theorem hold7:∀ id b,S7.lk id=some b→id<K7.g:=fun id b hb=>by
 rcases T.get_put (Blk.cells 376 pow10L 20 true) (full Blk 7) 3 id hb with ⟨rfl,_⟩|⟨_,h1⟩
 ·decide
 ·rw[full_get]at h1;cases h1
theorem reach7:Am.Reach Tryz.prog K7 (nt7 6) (body7 6) enew S7 (dropS 12 (body7 6)) (litE e12) (litS b12 n12):=by
 have h1:=part_ok (fuel:=200) known7 run7b
 have h2:=part_ok (fuel:=200) known7 run7c
 have h3:=part_ok (fuel:=200) known7 run7d
 rw[dropS_add]at h2 h3
 exact (h1.trans h2).trans h3
theorem fn7_body:Tryz.f6.body=some (body7 6):=by kernel_rfl
theorem fn7_nt:Tryz.f6.ntmps=nt7 6:=by kernel_rfl
theorem fn7_res:Tryz.f6.results.toList = [.tmp 0]:=by kernel_rfl
theorem begun7 {w:World}(h:T7 w):Calls Tryz.prog 6 #[] w fun e w'=>e=.returned (.bool true)∧Below w.heap.size w w':=by
 obtain ⟨o,env',S',ho,hs,hv⟩:=last_ok (fuel:=199) known7 run7e
 have hs:=reach7 o env' S' hs
 rw[← fn7_nt]at hs
 exact calls_closed (v:=.b true) Tryz.func6 fn7_body fn7_res hs ho hv (fun m=>rfl) (r7 h) (fre7 _) gl7 hold7
end Go.Proofs.YtbdfhnelmojbpaaGreatDoor
