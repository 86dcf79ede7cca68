/- Package victuallerref1: what stands behind the digits of a literal, whatever it is. And: Package victuallerref1: a literal, whatever the text. -/
import Derived.Test.YtehbhghbagaliaaGreatDoorJWalkJ
import Derived.Test.YtehbhghbagaliaaGreatDoorJPlainC
import Derived.Deep.QuietTactic
import Derived.BigQuiet
import Derived.Test.YtehbhghbagaliaaGreatDoorJWalkQ
import Derived.Deep.RegionWith
set_option linter.unusedVariables false
set_option linter.unusedSimpArgs false
namespace Vic
open Go Go.RowKit
def RexpGot (o:Option Int) (w:World) (e:Ending) (w':World):Prop:=
 (∃ v,o=some v∧e=.returned (.tuple #[.int .i64 v,.bool true])∧Below w.heap.size w w')∨(o=none∧∃ k,e=.returned (.tuple #[.int .i64 k,.bool false])∧Below w.heap.size w w')
theorem exp_none {neg:Bool}{t:List UInt8}(h:¬ (t≠[]∧t.length≤3∧(∀ c∈t,isDig c=true)∧numOf 0 t≤100)):expD neg t=none:=by unfold expD;rw[if_neg h]
theorem exp_some {neg:Bool}{t:List UInt8}(h:t≠[]∧t.length≤3∧(∀ c∈t,isDig c=true)∧numOf 0 t≤100):expD neg t=some (sgn neg (numOf 0 t)):=by unfold expD;rw[if_pos h]
theorem exp_parts (X:List UInt8):∃ (D:List UInt8) (neg sg:Bool),expo X=expD neg D∧D.length≤X.length∧(sg=false→X=D∧neg=false∧(D = []∨∃ g0:0<(⟨X.toArray⟩:ByteArray).size,X.isEmpty=false∧((((⟨X.toArray⟩:ByteArray)[0]'g0).toNat:Int) == 43)=false∧((((⟨X.toArray⟩:ByteArray)[0]'g0).toNat:Int) == 45)=false)) ∧
 (sg=true→X.isEmpty=false∧1≤X.length∧(⟨X.toArray⟩:ByteArray).extract 1 X.length=⟨D.toArray⟩∧∃ g0:0<(⟨X.toArray⟩:ByteArray).size,((((⟨X.toArray⟩:ByteArray)[0]'g0).toNat:Int) == 43)=(!neg)∧((((⟨X.toArray⟩:ByteArray)[0]'g0).toNat:Int) == 45)=neg):=by
 rcases X with _|⟨c,r⟩
 ·exact ⟨[],false,false,(exp_none fun h=>h.1 rfl).symm,Nat.le_refl _,fun _=>⟨rfl,rfl,.inl rfl⟩,fun h=>by cases h⟩
 ·have h0:0<(⟨(c :: r).toArray⟩:ByteArray).size:=by show 0<(c :: r).toArray.size;simp
  by_cases h43:c=43
  ·subst h43
   exact ⟨r,false,true,by simp[expo],by simp,fun h=>(by cases h),fun _=>⟨rfl,by simp,by rw[bytes_drop _ _ _ rfl];rfl,h0,rfl,rfl⟩⟩
  ·by_cases h45:c=45
   ·subst h45
    exact ⟨r,true,true,by simp[expo],by simp,fun h=>(by cases h),fun _=>⟨rfl,by simp,by rw[bytes_drop _ _ _ rfl];rfl,h0,rfl,rfl⟩⟩
   ·refine ⟨c :: r,false,false,by simp[expo,h43,h45],Nat.le_refl _,fun _=>⟨rfl,rfl,.inr ⟨h0,rfl,?_,?_⟩⟩,fun h=>(by cases h)⟩
    ·have h2:c.toNat≠43:=fun e=>h43 (UInt8.toNat_inj.1 e)
     show ((c.toNat:Int) == 43)=false
     rw[beq_eq_false_iff_ne];omega
    ·have h2:c.toNat≠45:=fun e=>h45 (UInt8.toNat_inj.1 e)
     show ((c.toNat:Int) == 45)=false
     rw[beq_eq_false_iff_ne];omega
end Vic
namespace Go.Proofs.YtehbhghbagaliaaGreatDoor
open Go.RowKit Vic
end Go.Proofs.YtehbhghbagaliaaGreatDoor
set_option linter.unusedVariables false
set_option linter.unusedSimpArgs false
namespace Vic
open Go Go.RowKit
theorem qstepA {T:TypeId}{w W:World}{b:Nat}{ng:Bool}{A A2 A9:Option Addr}{m c m2 c2 m9 c9 n9 d:Nat}(hr:Row W b T #[.bool ng,.slice A m c,.slice A2 m2 c2]) (hB:Below w.heap.size w W) (hb:w.heap.size≤b)
 (hx:RefN W (.slice A9 m9 c9) n9) (hy:RefN W (.slice A2 m2 c2) d) :
 Row (W.setCell ⟨b,1,none⟩ (.slice A9 m9 c9)) b T #[.bool ng,.slice A9 m9 c9,.slice A2 m2 c2]∧RefN (W.setCell ⟨b,1,none⟩ (.slice A9 m9 c9)) (.slice A9 m9 c9) n9∧RefN (W.setCell ⟨b,1,none⟩ (.slice A9 m9 c9)) (.slice A2 m2 c2) d∧Below w.heap.size w (W.setCell ⟨b,1,none⟩ (.slice A9 m9 c9)):=by
 have hO:Only b W (W.setCell ⟨b,1,none⟩ (.slice A9 m9 c9)):=(Only.refl _ _).setCell 1 _
 have hcs:=qrow_far ng (.slice A m c) (.slice A2 m2 c2) (fun _ _ h=>by cases h) (fun _ _ h=>by cases h)
 exact ⟨Row.set hr 1 _,Ints.rowfar hx hr (hcs _) hO,Ints.rowfar hy hr (hcs _) hO,hB.trans (hO.below hb)⟩
theorem qstepB {T:TypeId}{w W:World}{b:Nat}{ng:Bool}{A A2 A9:Option Addr}{m c m2 c2 m9 c9 n d9:Nat}(hr:Row W b T #[.bool ng,.slice A m c,.slice A2 m2 c2]) (hB:Below w.heap.size w W) (hb:w.heap.size≤b)
 (hx:RefN W (.slice A m c) n) (hy:RefN W (.slice A9 m9 c9) d9) :
 Row (W.setCell ⟨b,2,none⟩ (.slice A9 m9 c9)) b T #[.bool ng,.slice A m c,.slice A9 m9 c9]∧RefN (W.setCell ⟨b,2,none⟩ (.slice A9 m9 c9)) (.slice A m c) n∧RefN (W.setCell ⟨b,2,none⟩ (.slice A9 m9 c9)) (.slice A9 m9 c9) d9∧Below w.heap.size w (W.setCell ⟨b,2,none⟩ (.slice A9 m9 c9)):=by
 have hO:Only b W (W.setCell ⟨b,2,none⟩ (.slice A9 m9 c9)):=(Only.refl _ _).setCell 2 _
 have hcs:=qrow_far ng (.slice A m c) (.slice A2 m2 c2) (fun _ _ h=>by cases h) (fun _ _ h=>by cases h)
 exact ⟨Row.set hr 2 _,Ints.rowfar hx hr (hcs _) hO,Ints.rowfar hy hr (hcs _) hO,hB.trans (hO.below hb)⟩
theorem qput {T:TypeId}{w W:World}{b:Nat}(v0 v1 v2:Value) (hr:Row W b T #[.bool false,.slice none 0 0,.slice none 0 0]) (hB:Below w.heap.size w W) (hb:w.heap.size≤b) :
 ∃ w9,w9=((W.setCell ⟨b,0,none⟩ v0).setCell ⟨b,1,none⟩ v1).setCell ⟨b,2,none⟩ v2∧Row w9 b T #[v0,v1,v2]∧Below w.heap.size w w9 ∧
   W.cell? ⟨b,0,none⟩=some (.bool false)∧W.cell? ⟨b,1,none⟩=some (.slice none 0 0)∧W.cell? ⟨b,2,none⟩=some (.slice none 0 0) ∧
   W.frozen? ⟨b,0,none⟩=false∧W.frozen? ⟨b,1,none⟩=false∧W.frozen? ⟨b,2,none⟩=false:=by
 have hO:Only b W (((W.setCell ⟨b,0,none⟩ v0).setCell ⟨b,1,none⟩ v1).setCell ⟨b,2,none⟩ v2):=(((Only.refl _ _).setCell 0 _).setCell 1 _).setCell 2 _
 exact ⟨_,rfl,Row.set (Row.set (Row.set hr 0 v0) 1 v1) 2 v2,hB.trans (hO.below hb),hr.cell 0,hr.cell 1,hr.cell 2,hr.free 0,hr.free 1,hr.free 2⟩
theorem tdg_p40 {n q:Nat}(hn:n<10 ^ 40) (h:q≤140):(tdg (n*10 ^ q)).length≤45:=by
 refine tdg_len (k:=45) ?_
 have h1:n*10 ^ q<10 ^ 40*10 ^ 140:=Nat.mul_lt_mul_of_lt_of_le hn (Nat.pow_le_pow_right (by omega) h) (Nat.pow_pos (by omega))
 exact Nat.lt_of_lt_of_le h1 (by decide +kernel)
def RefLitGot (S:List UInt8) (w:World) (e:Ending) (w':World):Prop:=
 (refBody (strip S)=none∧∃ g,e=.returned (.tuple #[.agg #[.bool false,.slice none 0 0,.slice (some ⟨g,0,none⟩) 1 1],.bool false])∧Below w.heap.size w w') ∨
 (∃ n p,refBody (strip S)=some (n,p)∧n<10 ^ 40∧-140≤p∧p≤100∧∃ v,e=.returned (.tuple #[v,.bool true])∧RefQ w' v (neg0 S && decide (n≠0)) (n*10 ^ p.toNat) (10 ^ (-p).toNat)∧Below w.heap.size w w')
end Vic
namespace Go.Proofs.YtehbhghbagaliaaGreatDoor
open Go.RowKit Vic
set_option maxRecDepth 100000 in
set_option maxHeartbeats 2000000 in
theorem ref_Zero (w:World):Calls Tryz.prog 12 #[] w (fun e w'=>∃ g,e=.returned (.agg #[.bool false,.slice none 0 0,.slice (some ⟨g,0,none⟩) 1 1])∧RefN w' (.slice (some ⟨g,0,none⟩) 1 1) 1∧Below w.heap.size w w'):=by
 obtain ⟨w0,hw0⟩:∃ w0,w0=w.alloc (.cells #[.bool false,.slice none 0 0,.slice (some ⟨w.heap.size+1,0,none⟩) 1 1] 35):=⟨_,rfl⟩
 have r1:Row w0 w.heap.size 35 #[.bool false,.slice none 0 0,.slice (some ⟨w.heap.size+1,0,none⟩) 1 1]:=by rw[hw0];exact Row.new _ _ _
 have b0:Below w.heap.size w w0:=by rw[hw0];exact (Below.refl _ _).alloc (Nat.le_refl _) _
 have e0:w0.heap.size=w.heap.size+1:=by rw[hw0];simp
 obtain ⟨w1,hw1⟩:∃ w1,w1=w0.alloc (.cells #[.int .i64 1] 3):=⟨_,rfl⟩
 have b1:Below w0.heap.size w0 w1:=by rw[hw1];exact (Below.refl _ _).alloc (Nat.le_refl _) _
 have hone:RefN w1 (.slice (some ⟨w0.heap.size,0,none⟩) 1 1) 1:=ref_one (d:=1) (by rw[hw1];exact Row.new _ _ _) (by omega) (by omega)
 rw[e0]at hone
 have HW0:=Lib.hid hw0;have HW1:=Lib.hid hw1;have HR1:=Lib.hid (r1.keep b1);have H1:=Lib.hid hone;have HB:=Lib.hid (below_seq b0 b1)
 have hsz:(Tryz.prog.info? 35).map (·.size)=some 3:=by kernel_rfl
 clear hw0 hw1 hone r1 b0 b1
 go_enter Tryz.func12,Tryz.ntmps12
 go_wp2_with fail
 rw[← HW0.out,← HW1.out]
 refine bodyPost_ret (v:=.agg #[.bool false,.slice none 0 0,.slice (some ⟨w.heap.size+1,0,none⟩) 1 1]) (results_cell_row (p:=0) (ty:=35) Tryz.results12 _ _ w.heap.size 35 #[.bool false,.slice none 0 0,.slice (some ⟨w.heap.size+1,0,none⟩) 1 1] (0,0) _ (by simp[go_sem]) HR1.out Tryz.underlying35 rfl hsz) rfl ?_
 exact ⟨_,rfl,H1.out,HB.out⟩
end Go.Proofs.YtehbhghbagaliaaGreatDoor
