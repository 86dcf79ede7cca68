/- Package split: bounds that cross; what is wrong with stages. -/
import Derived.Test.YtbdfhnelmojbpaaGreatDoorKap
import Derived.Test.YtbdfhnelmojbpaaGreatDoorKax
import Derived.Test.YtbdfhnelmojbpaaGreatDoorKaw
import Derived.Deep.RegionHeld
import Derived.Lib.SliceRun
set_option linter.unusedVariables false
set_option linter.unusedSimpArgs false
section
namespace Vic
open Go Go.RowKit
theorem signI_pos (q:Rat):decide (0<signI q)=decide (0<q.num):=by
 unfold signI
 apply decide_eq_decide.2
 split
 ·omega
 ·split<;>omega
theorem num_pos (x y:Rat):(0<(x - y).num)↔y<x:=by
 have e:(y - x)=-(x - y):=by
  first|exact (Rat.neg_sub _ _).symm|(rw[Rat.sub_eq_add_neg,Rat.sub_eq_add_neg,Rat.neg_add,Rat.neg_neg,Rat.add_comm])
 have h1:0≤(y - x).num↔x≤y:=Rat.num_nonneg.trans (Rat.le_iff_sub_nonneg x y).symm
 rw[e,Rat.neg_num]at h1
 rw[← Rat.not_le,← h1]
 omega
end Vic
namespace Go.Proofs.YtbdfhnelmojbpaaGreatDoor
open Go.RowKit Vic
theorem frac_Cmp (w:World) (u v:Value) (x y:Rat) (hu:FracAt w u x) (hv:FracAt w v y) (hx:Fits 1000000 x) (hy:Fits 1000000 y):Calls Tryz.prog 160 #[u,v] w (Keeps (.int .i64 (signI (x - y))) w):=by
 have hS:=frac_Sub w u v x y hu hv (hx.mono (by omega)) (hy.mono (by omega))
 have HS:=Lib.hid hS
 have hf:Fits 1000000000 (x - y):=by
  rw[Rat.sub_eq_add_neg]
  exact (fits_add hx (fits_neg hy)).mono (by omega)
 have CG:Hid (∀ wr z,FracPtr wr z (x - y)→Calls Tryz.prog 100 #[z] wr (Keeps (.int .i64 (signI (x - y))) wr)):=Lib.hid fun wr z hz=>frac_Sign wr z _ hz.at_ hf
 clear hu hv hf hS hx hy
 go_enter Tryz.func160,Tryz.ntmps160
 go_wp2_with fail
 refine HS.out.mono ?_
 rintro e w1 ⟨z,rfl,hz,hb1⟩
 have C2:=Lib.hid (CG.out _ _ hz)
 clear hz HS CG
 go_wp2_with fail
 refine C2.out.mono ?_
 rintro e w2 ⟨rfl,hb2⟩
 go_wp2_with fail
 go_ret
 exact ⟨rfl,below_seq hb1 hb2⟩
abbrev vcrs1_0:Oper:={ dst:=some 3,op:=Go.Op.fieldAddr 31 (Go.Operand.tmp 1) 1,type:=0,pos:="split.go:53",after:=#[],guard:=none }
abbrev vcrs1_1:Oper:={ dst:=some 4,op:=Go.Op.load 9 (Go.Operand.tmp 3),type:=9,pos:="split.go:53",after:=#[{ on:=0,ground:=Go.Ground.data }],guard:=none }
abbrev vcrs1_2:Oper:={ dst:=some 5,op:=Go.Op.binOp Go.BinOp.neq 9 (Go.Operand.tmp 4) (Go.Operand.const (Go.Value.string { data:=#[] })) 9,type:=4,pos:="split.go:53",after:=#[{ on:=1,ground:=Go.Ground.data }],guard:=none }
abbrev vcrs1_3:Oper:={ dst:=some 6,op:=Go.Op.move (Go.Operand.tmp 5),type:=4,pos:="split.go:53",after:=#[{ on:=2,ground:=Go.Ground.data }],guard:=none }
abbrev vcrs1_4:Oper:={ dst:=some 7,op:=Go.Op.fieldAddr 31 (Go.Operand.tmp 1) 2,type:=0,pos:="split.go:53",after:=#[{ on:=3,ground:=Go.Ground.guard }],guard:=some (3,true) }
abbrev vcrs1_5:Oper:={ dst:=some 8,op:=Go.Op.load 9 (Go.Operand.tmp 7),type:=9,pos:="split.go:53",after:=#[{ on:=4,ground:=Go.Ground.data },{ on:=3,ground:=Go.Ground.guard }],guard:=some (3,true) }
abbrev vcrs1_6:Oper:={ dst:=some 9,op:=Go.Op.binOp Go.BinOp.neq 9 (Go.Operand.tmp 8) (Go.Operand.const (Go.Value.string { data:=#[] })) 9,type:=4,pos:="split.go:53",after:=#[{ on:=5,ground:=Go.Ground.data },{ on:=3,ground:=Go.Ground.guard }],guard:=some (3,true) }
abbrev vcrs1_7:Oper:={ dst:=some 10,op:=Go.Op.pick (Go.Operand.tmp 6) (Go.Operand.tmp 9) (Go.Operand.const (Go.Value.bool false)),type:=4,pos:="split.go:53",after:=#[{ on:=3,ground:=Go.Ground.data },{ on:=6,ground:=Go.Ground.data }],guard:=none }
abbrev vcrs1_8:Oper:={ dst:=some 11,op:=Go.Op.move (Go.Operand.tmp 10),type:=4,pos:="split.go:53",after:=#[{ on:=7,ground:=Go.Ground.data },{ on:=3,ground:=Go.Ground.chain }],guard:=none }
abbrev vcrs1_9:Oper:={ dst:=some 12,op:=Go.Op.fieldAddr 31 (Go.Operand.tmp 1) 1,type:=0,pos:="split.go:53",after:=#[{ on:=8,ground:=Go.Ground.guard }],guard:=some (8,true) }
abbrev vcrs1_10:Oper:={ dst:=some 13,op:=Go.Op.load 9 (Go.Operand.tmp 12),type:=9,pos:="split.go:53",after:=#[{ on:=9,ground:=Go.Ground.data },{ on:=8,ground:=Go.Ground.guard }],guard:=some (8,true) }
abbrev vcrs1_11:Oper:={ dst:=some 14,op:=Go.Op.call { callee:=Go.Callee.value (Go.Operand.func 99),args:=#[Go.Operand.tmp 13],argTypes:=#[9] },type:=177,pos:="split.go:53",after:=#[{ on:=10,ground:=Go.Ground.data },{ on:=8,ground:=Go.Ground.chain },{ on:=8,ground:=Go.Ground.guard }],guard:=some (8,true) }
abbrev vcrs1_12:Oper:={ dst:=some 15,op:=Go.Op.fieldAddr 31 (Go.Operand.tmp 1) 2,type:=0,pos:="split.go:53",after:=#[{ on:=8,ground:=Go.Ground.guard }],guard:=some (8,true) }
abbrev vcrs1_13:Oper:={ dst:=some 16,op:=Go.Op.load 9 (Go.Operand.tmp 15),type:=9,pos:="split.go:53",after:=#[{ on:=12,ground:=Go.Ground.data },{ on:=8,ground:=Go.Ground.guard }],guard:=some (8,true) }
abbrev vcrs1_14:Oper:={ dst:=some 17,op:=Go.Op.call { callee:=Go.Callee.value (Go.Operand.func 99),args:=#[Go.Operand.tmp 16],argTypes:=#[9] },type:=177,pos:="split.go:53",after:=#[{ on:=13,ground:=Go.Ground.data },{ on:=11,ground:=Go.Ground.chain },{ on:=8,ground:=Go.Ground.guard }],guard:=some (8,true) }
abbrev vcrs1_15:Oper:={ dst:=some 18,op:=Go.Op.call { callee:=Go.Callee.value (Go.Operand.func 160),args:=#[Go.Operand.tmp 14,Go.Operand.tmp 17],argTypes:=#[177,177] },type:=3,pos:="split.go:53",after:=#[{ on:=11,ground:=Go.Ground.data },{ on:=14,ground:=Go.Ground.data },{ on:=14,ground:=Go.Ground.chain },{ on:=8,ground:=Go.Ground.guard }],guard:=some (8,true) }
abbrev vcrs1_16:Oper:={ dst:=some 19,op:=Go.Op.binOp Go.BinOp.gtr 3 (Go.Operand.tmp 18) (Go.Operand.const (Go.Value.int Go.IntKind.i64 0)) 3,type:=4,pos:="split.go:53",after:=#[{ on:=15,ground:=Go.Ground.data },{ on:=8,ground:=Go.Ground.guard }],guard:=some (8,true) }
abbrev vcrs1_17:Oper:={ dst:=some 20,op:=Go.Op.pick (Go.Operand.tmp 11) (Go.Operand.tmp 19) (Go.Operand.const (Go.Value.bool false)),type:=4,pos:="split.go:53",after:=#[{ on:=8,ground:=Go.Ground.data },{ on:=16,ground:=Go.Ground.data }],guard:=none }
abbrev vcrs1_18:Oper:={ dst:=some 2,op:=Go.Op.assign (Go.Operand.tmp 20),type:=4,pos:="split.go:53",after:=#[{ on:=17,ground:=Go.Ground.data },{ on:=15,ground:=Go.Ground.chain },{ on:=0,ground:=Go.Ground.phase },{ on:=1,ground:=Go.Ground.phase },{ on:=2,ground:=Go.Ground.phase },{ on:=3,ground:=Go.Ground.phase },{ on:=4,ground:=Go.Ground.phase },{ on:=5,ground:=Go.Ground.phase },{ on:=6,ground:=Go.Ground.phase },{ on:=7,ground:=Go.Ground.phase },{ on:=8,ground:=Go.Ground.phase },{ on:=9,ground:=Go.Ground.phase },{ on:=10,ground:=Go.Ground.phase },{ on:=11,ground:=Go.Ground.phase },{ on:=12,ground:=Go.Ground.phase },{ on:=13,ground:=Go.Ground.phase },{ on:=14,ground:=Go.Ground.phase },{ on:=15,ground:=Go.Ground.phase },{ on:=16,ground:=Go.Ground.phase },{ on:=17,ground:=Go.Ground.phase }],guard:=none }
set_option maxRecDepth 100000 in
set_option maxHeartbeats 8000000 in
theorem scrosses (w:World) (x:ColM) (ht:Tab w) (hf:FitCol x) (hlo:maybeM x.low=true) (hup:maybeM x.up=true):Calls Tryz.prog 98 (#[.agg #[.string ⟨x.name.toArray⟩,.string ⟨x.low.toArray⟩,.string ⟨x.up.toArray⟩,.string ⟨x.cost.toArray⟩,.bool x.int]] ++ #[]) w (Keeps (.bool (crossesM x)) w):=by
 have hM:Hid (crossesM x=(!x.low.isEmpty && !x.up.isEmpty && decide (fracOf x.up<fracOf x.low))):=rfl
 generalize crossesM x=b at *
 obtain ⟨_,hl,hu,_⟩:=hf
 obtain ⟨name,low,up,cost,int⟩:=x
 dsimp only at hM hl hu hlo hup ⊢
 obtain ⟨w1,hw1⟩:∃ X,X=w.alloc (.cells #[.string ⟨name.toArray⟩,.string ⟨low.toArray⟩,.string ⟨up.toArray⟩,.string ⟨cost.toArray⟩,.bool int] 31):=⟨_,rfl⟩
 have hb1:Below w.heap.size w w1:=by rw[hw1];exact (Below.refl _ _).alloc (Nat.le_refl _) _
 have hrow:Row w1 w.heap.size 31 #[.string ⟨name.toArray⟩,.string ⟨low.toArray⟩,.string ⟨up.toArray⟩,.string ⟨cost.toArray⟩,.bool int]:=by rw[hw1];exact Row.new _ _ _
 have HA':Hid (∀ W,Below w1.heap.size w1 W→W.cell? ⟨w.heap.size,1,none⟩=some (.string ⟨low.toArray⟩)∧W.cell? ⟨w.heap.size,2,none⟩=some (.string ⟨up.toArray⟩)):=Lib.hid fun W hW=>⟨cell_keep (hrow.cell 1) hW,cell_keep (hrow.cell 2) hW⟩
 have HT:=Lib.hid (ht.keep hb1)
 have HB1:=Lib.hid hb1
 obtain ⟨p1,hp1⟩:∃ p,p=w.heap.size:=⟨_,rfl⟩
 rw[← hp1]at HA'
 clear hrow hb1 ht
 go_enter Tryz.func98,Tryz.ntmps98
 go_upto_region 1 with fail
 rw[← hw1,← hp1]
 clear hw1 hp1
 by_cases h1:low = []
 ·have c1:(low == [])=true:=beq_iff_eq.2 h1
  have HZ:Hid (b=false):=Lib.hid (by rw[hM.out,h1];rfl)
  clear h1 hM hlo hup
  refine wp_region_held (S:=fun W=>Below w1.heap.size w1 W) (by kernel_rfl) ?_
  change wpAnyH _ _ _ _ _ _ _ _ (World.drew _)
  obtain ⟨W0,hW0⟩:∃ X,X=(w1).drew:=⟨_,rfl⟩
  rw[← hW0]
  have z0:Below (w1).heap.size (w1) W0:=by rw[hW0];exact Below.drewN_ (Below.refl _ _) 1
  clear hW0
  refine tkH (i:=0) (oi:=vcrs1_0) (v:=.pointer (some ⟨p1,1,none⟩)) (by kernel_rfl) rfl (fun _ _ _ h=>h) ?_ (z0) ?_
  ·intro w hSw;go_simp<;>first|omega|(intro hh;exfalso;omega)|rfl
  try simp only[Act.put,qa,qb,qc,vcrs1_0]
  refine tkH (i:=1) (oi:=vcrs1_1) (v:=.string ⟨low.toArray⟩) (by kernel_rfl) rfl (fun _ _ _ h=>h) ?_ (z0) ?_
  ·intro w hSw;obtain ⟨C1,C2⟩:=HA'.out w hSw;go_simp<;>first|omega|(intro hh;exfalso;omega)|rfl
  try simp only[Act.put,qa,qb,qc,vcrs1_1]
  refine tkH (i:=2) (oi:=vcrs1_2) (v:=.bool false) (by kernel_rfl) rfl (fun _ _ _ h=>h) ?_ (z0) ?_
  ·intro w hSw;go_simp<;>first|omega|(intro hh;exfalso;omega)|rfl
  try simp only[Act.put,qa,qb,qc,vcrs1_2]
  refine tkH (i:=3) (oi:=vcrs1_3) (v:=.bool false) (by kernel_rfl) rfl (fun _ _ _ h=>h) ?_ (z0) ?_
  ·intro w hSw;go_simp<;>first|omega|(intro hh;exfalso;omega)|rfl
  try simp only[Act.put,qa,qb,qc,vcrs1_3]
  refine wpAnyH_take (i:=4) (oi:=vcrs1_4) (v:=undef) rfl (by kernel_rfl) (by kernel_rfl) (by kernel_rfl) (fun _ _ _ h=>h) (Or.inr ⟨by kernel_rfl,rfl⟩) (z0) ?_
  try simp only[Act.put,qa,qb,qc,vcrs1_4]
  refine wpAnyH_take (i:=5) (oi:=vcrs1_5) (v:=undef) rfl (by kernel_rfl) (by kernel_rfl) (by kernel_rfl) (fun _ _ _ h=>h) (Or.inr ⟨by kernel_rfl,rfl⟩) (z0) ?_
  try simp only[Act.put,qa,qb,qc,vcrs1_5]
  refine wpAnyH_take (i:=6) (oi:=vcrs1_6) (v:=undef) rfl (by kernel_rfl) (by kernel_rfl) (by kernel_rfl) (fun _ _ _ h=>h) (Or.inr ⟨by kernel_rfl,rfl⟩) (z0) ?_
  try simp only[Act.put,qa,qb,qc,vcrs1_6]
  refine tkH (i:=7) (oi:=vcrs1_7) (v:=.bool false) (by kernel_rfl) rfl (fun _ _ _ h=>h) ?_ (z0) ?_
  ·intro w hSw;go_simp<;>first|omega|(intro hh;exfalso;omega)|rfl
  try simp only[Act.put,qa,qb,qc,vcrs1_7]
  refine tkH (i:=8) (oi:=vcrs1_8) (v:=.bool false) (by kernel_rfl) rfl (fun _ _ _ h=>h) ?_ (z0) ?_
  ·intro w hSw;go_simp<;>first|omega|(intro hh;exfalso;omega)|rfl
  try simp only[Act.put,qa,qb,qc,vcrs1_8]
  refine wpAnyH_take (i:=9) (oi:=vcrs1_9) (v:=undef) rfl (by kernel_rfl) (by kernel_rfl) (by kernel_rfl) (fun _ _ _ h=>h) (Or.inr ⟨by kernel_rfl,rfl⟩) (z0) ?_
  try simp only[Act.put,qa,qb,qc,vcrs1_9]
  refine wpAnyH_take (i:=10) (oi:=vcrs1_10) (v:=undef) rfl (by kernel_rfl) (by kernel_rfl) (by kernel_rfl) (fun _ _ _ h=>h) (Or.inr ⟨by kernel_rfl,rfl⟩) (z0) ?_
  try simp only[Act.put,qa,qb,qc,vcrs1_10]
  refine wpAnyH_take (i:=11) (oi:=vcrs1_11) (v:=undef) rfl (by kernel_rfl) (by kernel_rfl) (by kernel_rfl) (fun _ _ _ h=>h) (Or.inr ⟨by kernel_rfl,rfl⟩) (z0) ?_
  try simp only[Act.put,qa,qb,qc,vcrs1_11]
  refine wpAnyH_take (i:=12) (oi:=vcrs1_12) (v:=undef) rfl (by kernel_rfl) (by kernel_rfl) (by kernel_rfl) (fun _ _ _ h=>h) (Or.inr ⟨by kernel_rfl,rfl⟩) (z0) ?_
  try simp only[Act.put,qa,qb,qc,vcrs1_12]
  refine wpAnyH_take (i:=13) (oi:=vcrs1_13) (v:=undef) rfl (by kernel_rfl) (by kernel_rfl) (by kernel_rfl) (fun _ _ _ h=>h) (Or.inr ⟨by kernel_rfl,rfl⟩) (z0) ?_
  try simp only[Act.put,qa,qb,qc,vcrs1_13]
  refine wpAnyH_take (i:=14) (oi:=vcrs1_14) (v:=undef) rfl (by kernel_rfl) (by kernel_rfl) (by kernel_rfl) (fun _ _ _ h=>h) (Or.inr ⟨by kernel_rfl,rfl⟩) (z0) ?_
  try simp only[Act.put,qa,qb,qc,vcrs1_14]
  refine wpAnyH_take (i:=15) (oi:=vcrs1_15) (v:=undef) rfl (by kernel_rfl) (by kernel_rfl) (by kernel_rfl) (fun _ _ _ h=>h) (Or.inr ⟨by kernel_rfl,rfl⟩) (z0) ?_
  try simp only[Act.put,qa,qb,qc,vcrs1_15]
  refine wpAnyH_take (i:=16) (oi:=vcrs1_16) (v:=undef) rfl (by kernel_rfl) (by kernel_rfl) (by kernel_rfl) (fun _ _ _ h=>h) (Or.inr ⟨by kernel_rfl,rfl⟩) (z0) ?_
  try simp only[Act.put,qa,qb,qc,vcrs1_16]
  refine tkH (i:=17) (oi:=vcrs1_17) (v:=.bool false) (by kernel_rfl) rfl (fun _ _ _ h=>h) ?_ (z0) ?_
  ·intro w hSw;go_simp<;>first|omega|(intro hh;exfalso;omega)|rfl
  try simp only[Act.put,qa,qb,qc,vcrs1_17]
  refine tkH (i:=18) (oi:=vcrs1_18) (v:=.bool false) (by kernel_rfl) rfl (fun _ _ _ h=>h) ?_ (z0) ?_
  ·intro w hSw;go_simp<;>first|omega|(intro hh;exfalso;omega)|rfl
  try simp only[Act.put,qa,qb,qc,vcrs1_18]
  refine wpAnyH_done (by kernel_rfl) ?_ _
  have ZZ:=Lib.hid (below_seq HB1.out z0)
  go_wp2_with fail
  go_ret
  exact ⟨by rw[HZ.out];rfl,ZZ.out⟩
 ·have c1:(low == [])=false:=beq_eq_false_iff_ne.2 h1
  have e1:low.isEmpty=false:=by cases low with|nil=>exact absurd rfl h1|cons a b=>rfl
  by_cases h2:up = []
  ·have c2:(up == [])=true:=beq_iff_eq.2 h2
   have HZ:Hid (b=false):=Lib.hid (by rw[hM.out,h2];simp)
   clear h1 h2 hM hlo hup
   refine wp_region_held (S:=fun W=>Below w1.heap.size w1 W) (by kernel_rfl) ?_
   change wpAnyH _ _ _ _ _ _ _ _ (World.drew _)
   obtain ⟨W0,hW0⟩:∃ X,X=(w1).drew:=⟨_,rfl⟩
   rw[← hW0]
   have z0:Below (w1).heap.size (w1) W0:=by rw[hW0];exact Below.drewN_ (Below.refl _ _) 1
   clear hW0
   refine tkH (i:=0) (oi:=vcrs1_0) (v:=.pointer (some ⟨p1,1,none⟩)) (by kernel_rfl) rfl (fun _ _ _ h=>h) ?_ (z0) ?_
   ·intro w hSw;go_simp<;>first|omega|(intro hh;exfalso;omega)|rfl
   try simp only[Act.put,qa,qb,qc,vcrs1_0]
   refine tkH (i:=1) (oi:=vcrs1_1) (v:=.string ⟨low.toArray⟩) (by kernel_rfl) rfl (fun _ _ _ h=>h) ?_ (z0) ?_
   ·intro w hSw;obtain ⟨C1,C2⟩:=HA'.out w hSw;go_simp<;>first|omega|(intro hh;exfalso;omega)|rfl
   try simp only[Act.put,qa,qb,qc,vcrs1_1]
   refine tkH (i:=2) (oi:=vcrs1_2) (v:=.bool true) (by kernel_rfl) rfl (fun _ _ _ h=>h) ?_ (z0) ?_
   ·intro w hSw;go_simp<;>first|omega|(intro hh;exfalso;omega)|rfl
   try simp only[Act.put,qa,qb,qc,vcrs1_2]
   refine tkH (i:=3) (oi:=vcrs1_3) (v:=.bool true) (by kernel_rfl) rfl (fun _ _ _ h=>h) ?_ (z0) ?_
   ·intro w hSw;go_simp<;>first|omega|(intro hh;exfalso;omega)|rfl
   try simp only[Act.put,qa,qb,qc,vcrs1_3]
   refine tkH (i:=4) (oi:=vcrs1_4) (v:=.pointer (some ⟨p1,2,none⟩)) (by kernel_rfl) rfl (fun _ _ _ h=>h) ?_ (z0) ?_
   ·intro w hSw;go_simp<;>first|omega|(intro hh;exfalso;omega)|rfl
   try simp only[Act.put,qa,qb,qc,vcrs1_4]
   refine tkH (i:=5) (oi:=vcrs1_5) (v:=.string ⟨up.toArray⟩) (by kernel_rfl) rfl (fun _ _ _ h=>h) ?_ (z0) ?_
   ·intro w hSw;obtain ⟨C1,C2⟩:=HA'.out w hSw;go_simp<;>first|omega|(intro hh;exfalso;omega)|rfl
   try simp only[Act.put,qa,qb,qc,vcrs1_5]
   refine tkH (i:=6) (oi:=vcrs1_6) (v:=.bool false) (by kernel_rfl) rfl (fun _ _ _ h=>h) ?_ (z0) ?_
   ·intro w hSw;go_simp<;>first|omega|(intro hh;exfalso;omega)|rfl
   try simp only[Act.put,qa,qb,qc,vcrs1_6]
   refine tkH (i:=7) (oi:=vcrs1_7) (v:=.bool false) (by kernel_rfl) rfl (fun _ _ _ h=>h) ?_ (z0) ?_
   ·intro w hSw;go_simp<;>first|omega|(intro hh;exfalso;omega)|rfl
   try simp only[Act.put,qa,qb,qc,vcrs1_7]
   refine tkH (i:=8) (oi:=vcrs1_8) (v:=.bool false) (by kernel_rfl) rfl (fun _ _ _ h=>h) ?_ (z0) ?_
   ·intro w hSw;go_simp<;>first|omega|(intro hh;exfalso;omega)|rfl
   try simp only[Act.put,qa,qb,qc,vcrs1_8]
   refine wpAnyH_take (i:=9) (oi:=vcrs1_9) (v:=undef) rfl (by kernel_rfl) (by kernel_rfl) (by kernel_rfl) (fun _ _ _ h=>h) (Or.inr ⟨by kernel_rfl,rfl⟩) (z0) ?_
   try simp only[Act.put,qa,qb,qc,vcrs1_9]
   refine wpAnyH_take (i:=10) (oi:=vcrs1_10) (v:=undef) rfl (by kernel_rfl) (by kernel_rfl) (by kernel_rfl) (fun _ _ _ h=>h) (Or.inr ⟨by kernel_rfl,rfl⟩) (z0) ?_
   try simp only[Act.put,qa,qb,qc,vcrs1_10]
   refine wpAnyH_take (i:=11) (oi:=vcrs1_11) (v:=undef) rfl (by kernel_rfl) (by kernel_rfl) (by kernel_rfl) (fun _ _ _ h=>h) (Or.inr ⟨by kernel_rfl,rfl⟩) (z0) ?_
   try simp only[Act.put,qa,qb,qc,vcrs1_11]
   refine wpAnyH_take (i:=12) (oi:=vcrs1_12) (v:=undef) rfl (by kernel_rfl) (by kernel_rfl) (by kernel_rfl) (fun _ _ _ h=>h) (Or.inr ⟨by kernel_rfl,rfl⟩) (z0) ?_
   try simp only[Act.put,qa,qb,qc,vcrs1_12]
   refine wpAnyH_take (i:=13) (oi:=vcrs1_13) (v:=undef) rfl (by kernel_rfl) (by kernel_rfl) (by kernel_rfl) (fun _ _ _ h=>h) (Or.inr ⟨by kernel_rfl,rfl⟩) (z0) ?_
   try simp only[Act.put,qa,qb,qc,vcrs1_13]
   refine wpAnyH_take (i:=14) (oi:=vcrs1_14) (v:=undef) rfl (by kernel_rfl) (by kernel_rfl) (by kernel_rfl) (fun _ _ _ h=>h) (Or.inr ⟨by kernel_rfl,rfl⟩) (z0) ?_
   try simp only[Act.put,qa,qb,qc,vcrs1_14]
   refine wpAnyH_take (i:=15) (oi:=vcrs1_15) (v:=undef) rfl (by kernel_rfl) (by kernel_rfl) (by kernel_rfl) (fun _ _ _ h=>h) (Or.inr ⟨by kernel_rfl,rfl⟩) (z0) ?_
   try simp only[Act.put,qa,qb,qc,vcrs1_15]
   refine wpAnyH_take (i:=16) (oi:=vcrs1_16) (v:=undef) rfl (by kernel_rfl) (by kernel_rfl) (by kernel_rfl) (fun _ _ _ h=>h) (Or.inr ⟨by kernel_rfl,rfl⟩) (z0) ?_
   try simp only[Act.put,qa,qb,qc,vcrs1_16]
   refine tkH (i:=17) (oi:=vcrs1_17) (v:=.bool false) (by kernel_rfl) rfl (fun _ _ _ h=>h) ?_ (z0) ?_
   ·intro w hSw;go_simp<;>first|omega|(intro hh;exfalso;omega)|rfl
   try simp only[Act.put,qa,qb,qc,vcrs1_17]
   refine tkH (i:=18) (oi:=vcrs1_18) (v:=.bool false) (by kernel_rfl) rfl (fun _ _ _ h=>h) ?_ (z0) ?_
   ·intro w hSw;go_simp<;>first|omega|(intro hh;exfalso;omega)|rfl
   try simp only[Act.put,qa,qb,qc,vcrs1_18]
   refine wpAnyH_done (by kernel_rfl) ?_ _
   have ZZ:=Lib.hid (below_seq HB1.out z0)
   go_wp2_with fail
   go_ret
   exact ⟨by rw[HZ.out];rfl,ZZ.out⟩
  ·have c2:(up == [])=false:=beq_eq_false_iff_ne.2 h2
   have e2:up.isEmpty=false:=by cases up with|nil=>exact absurd rfl h2|cons a b=>rfl
   have HZ:Hid (b=decide (0<signI (fracOf low - fracOf up))):=Lib.hid (by
    rw[hM.out,e1,e2,signI_pos]
    simp only[Bool.not_false,Bool.true_and]
    exact decide_eq_decide.2 (num_pos _ _).symm)
   have hg1:FracGood low:=by unfold maybeM numberM at hlo;rw[e1]at hlo;simpa using hlo
   have hg2:FracGood up:=by unfold maybeM numberM at hup;rw[e2]at hup;simpa using hup
   have CL:Hid (∀ W,Below w1.heap.size w1 W→Calls Tryz.prog 99 #[.string ⟨low.toArray⟩] W (fun e w'=>∃ x,e=.returned x∧FracPtr w' x (fracOf low)∧Fits 1000000 (fracOf low)∧Below W.heap.size W w')):=Lib.hid fun W hW=>split_number W low hl (HT.out.keep hW) hg1
   have CU:Hid (∀ W,Below w1.heap.size w1 W→Calls Tryz.prog 99 #[.string ⟨up.toArray⟩] W (fun e w'=>∃ x,e=.returned x∧FracPtr w' x (fracOf up)∧Fits 1000000 (fracOf up)∧Below W.heap.size W w')):=Lib.hid fun W hW=>split_number W up hu (HT.out.keep hW) hg2
   clear h1 h2 hM hlo hup e1 e2 hg1 hg2
   refine wp_region_held (S:=fun W=>Below w1.heap.size w1 W) (by kernel_rfl) ?_
   change wpAnyH _ _ _ _ _ _ _ _ (World.drew _)
   obtain ⟨W0,hW0⟩:∃ X,X=(w1).drew:=⟨_,rfl⟩
   rw[← hW0]
   have z0:Below (w1).heap.size (w1) W0:=by rw[hW0];exact Below.drewN_ (Below.refl _ _) 1
   clear hW0
   refine tkH (i:=0) (oi:=vcrs1_0) (v:=.pointer (some ⟨p1,1,none⟩)) (by kernel_rfl) rfl (fun _ _ _ h=>h) ?_ (z0) ?_
   ·intro w hSw;go_simp<;>first|omega|(intro hh;exfalso;omega)|rfl
   try simp only[Act.put,qa,qb,qc,vcrs1_0]
   refine tkH (i:=1) (oi:=vcrs1_1) (v:=.string ⟨low.toArray⟩) (by kernel_rfl) rfl (fun _ _ _ h=>h) ?_ (z0) ?_
   ·intro w hSw;obtain ⟨C1,C2⟩:=HA'.out w hSw;go_simp<;>first|omega|(intro hh;exfalso;omega)|rfl
   try simp only[Act.put,qa,qb,qc,vcrs1_1]
   refine tkH (i:=2) (oi:=vcrs1_2) (v:=.bool true) (by kernel_rfl) rfl (fun _ _ _ h=>h) ?_ (z0) ?_
   ·intro w hSw;go_simp<;>first|omega|(intro hh;exfalso;omega)|rfl
   try simp only[Act.put,qa,qb,qc,vcrs1_2]
   refine tkH (i:=3) (oi:=vcrs1_3) (v:=.bool true) (by kernel_rfl) rfl (fun _ _ _ h=>h) ?_ (z0) ?_
   ·intro w hSw;go_simp<;>first|omega|(intro hh;exfalso;omega)|rfl
   try simp only[Act.put,qa,qb,qc,vcrs1_3]
   refine tkH (i:=4) (oi:=vcrs1_4) (v:=.pointer (some ⟨p1,2,none⟩)) (by kernel_rfl) rfl (fun _ _ _ h=>h) ?_ (z0) ?_
   ·intro w hSw;go_simp<;>first|omega|(intro hh;exfalso;omega)|rfl
   try simp only[Act.put,qa,qb,qc,vcrs1_4]
   refine tkH (i:=5) (oi:=vcrs1_5) (v:=.string ⟨up.toArray⟩) (by kernel_rfl) rfl (fun _ _ _ h=>h) ?_ (z0) ?_
   ·intro w hSw;obtain ⟨C1,C2⟩:=HA'.out w hSw;go_simp<;>first|omega|(intro hh;exfalso;omega)|rfl
   try simp only[Act.put,qa,qb,qc,vcrs1_5]
   refine tkH (i:=6) (oi:=vcrs1_6) (v:=.bool true) (by kernel_rfl) rfl (fun _ _ _ h=>h) ?_ (z0) ?_
   ·intro w hSw;go_simp<;>first|omega|(intro hh;exfalso;omega)|rfl
   try simp only[Act.put,qa,qb,qc,vcrs1_6]
   refine tkH (i:=7) (oi:=vcrs1_7) (v:=.bool true) (by kernel_rfl) rfl (fun _ _ _ h=>h) ?_ (z0) ?_
   ·intro w hSw;go_simp<;>first|omega|(intro hh;exfalso;omega)|rfl
   try simp only[Act.put,qa,qb,qc,vcrs1_7]
   refine tkH (i:=8) (oi:=vcrs1_8) (v:=.bool true) (by kernel_rfl) rfl (fun _ _ _ h=>h) ?_ (z0) ?_
   ·intro w hSw;go_simp<;>first|omega|(intro hh;exfalso;omega)|rfl
   try simp only[Act.put,qa,qb,qc,vcrs1_8]
   refine tkH (i:=9) (oi:=vcrs1_9) (v:=.pointer (some ⟨p1,1,none⟩)) (by kernel_rfl) rfl (fun _ _ _ h=>h) ?_ (z0) ?_
   ·intro w hSw;go_simp<;>first|omega|(intro hh;exfalso;omega)|rfl
   try simp only[Act.put,qa,qb,qc,vcrs1_9]
   refine tkH (i:=10) (oi:=vcrs1_10) (v:=.string ⟨low.toArray⟩) (by kernel_rfl) rfl (fun _ _ _ h=>h) ?_ (z0) ?_
   ·intro w hSw;obtain ⟨C1,C2⟩:=HA'.out w hSw;go_simp<;>first|omega|(intro hh;exfalso;omega)|rfl
   try simp only[Act.put,qa,qb,qc,vcrs1_10]
   refine tkH (i:=12) (oi:=vcrs1_12) (v:=.pointer (some ⟨p1,2,none⟩)) (by kernel_rfl) rfl (fun _ _ _ h=>h) ?_ (z0) ?_
   ·intro w hSw;go_simp<;>first|omega|(intro hh;exfalso;omega)|rfl
   try simp only[Act.put,qa,qb,qc,vcrs1_12]
   refine tkH (i:=13) (oi:=vcrs1_13) (v:=.string ⟨up.toArray⟩) (by kernel_rfl) rfl (fun _ _ _ h=>h) ?_ (z0) ?_
   ·intro w hSw;obtain ⟨C1,C2⟩:=HA'.out w hSw;go_simp<;>first|omega|(intro hh;exfalso;omega)|rfl
   try simp only[Act.put,qa,qb,qc,vcrs1_13]
   refine oneH (i:=11) (o:=vcrs1_11) (by kernel_rfl) rfl ?_
   intro K hK
   simp only[vcrs1_11]
   go_simp
   go_at_call 99
   refine (CL.out _ z0).mono ?_
   rintro e' V1 ⟨x1,rfl,hx1,hf1,b1⟩
   obtain ⟨q1,rfl⟩:=hx1.ptr
   have z1:=below_seq z0 b1
   refine hK.out _ _ (z1) (fun hHeld=>?_)
   clear hK K hHeld
   try simp only[Act.put,qa,qb,qc]
   refine oneH (i:=14) (o:=vcrs1_14) (by kernel_rfl) rfl ?_
   intro K hK
   simp only[vcrs1_14]
   go_simp
   go_at_call 99
   refine (CU.out _ z1).mono ?_
   rintro e' V2 ⟨x2,rfl,hx2,hf2,b2⟩
   obtain ⟨q2,rfl⟩:=hx2.ptr
   have z2:=below_seq z1 b2
   refine hK.out _ _ (z2) (fun hHeld=>?_)
   clear hK K hHeld
   try simp only[Act.put,qa,qb,qc]
   refine oneH (i:=15) (o:=vcrs1_15) (by kernel_rfl) rfl ?_
   intro K hK
   simp only[vcrs1_15]
   go_simp
   go_at_call 160
   refine (frac_Cmp V2 _ _ _ _ (hx1.keep b2).at_ hx2.at_ hf1 hf2).mono ?_
   rintro e' V3 ⟨rfl,b3⟩
   have z3:=below_seq z2 b3
   generalize signI (fracOf low - fracOf up)=sg at HZ ⊢
   clear hx1 hx2 hf1 hf2
   refine hK.out _ _ (z3) (fun hHeld=>?_)
   clear hK K hHeld
   try simp only[Act.put,qa,qb,qc]
   refine tkH (i:=16) (oi:=vcrs1_16) (v:=.bool (decide (0<sg))) (by kernel_rfl) rfl (fun _ _ _ h=>h) ?_ (z3) ?_
   ·intro w hSw;go_simp<;>first|omega|(intro hh;exfalso;omega)|rfl
   try simp only[Act.put,qa,qb,qc,vcrs1_16]
   refine tkH (i:=17) (oi:=vcrs1_17) (v:=.bool (decide (0<sg))) (by kernel_rfl) rfl (fun _ _ _ h=>h) ?_ (z3) ?_
   ·intro w hSw;go_simp<;>first|omega|(intro hh;exfalso;omega)|rfl
   try simp only[Act.put,qa,qb,qc,vcrs1_17]
   refine tkH (i:=18) (oi:=vcrs1_18) (v:=.bool (decide (0<sg))) (by kernel_rfl) rfl (fun _ _ _ h=>h) ?_ (z3) ?_
   ·intro w hSw;go_simp<;>first|omega|(intro hh;exfalso;omega)|rfl
   try simp only[Act.put,qa,qb,qc,vcrs1_18]
   refine wpAnyH_done (by kernel_rfl) ?_ _
   have ZZ:=Lib.hid (below_seq HB1.out z3)
   go_wp2_with fail
   go_ret
   exact ⟨by rw[HZ.out];rfl,ZZ.out⟩
end Go.Proofs.YtbdfhnelmojbpaaGreatDoor
end
section
namespace Vic
open Go Go.RowKit
theorem SlIn.take_ {α:Type}{R:World→Nat→Nat→α→Prop}{size:Nat}{w:World}{A:Option Addr}{n c:Nat}{l:List α}(h:SlIn R size w (.slice A n c) l) {k:Nat}(hk:k≤l.length):SlIn R size w (.slice A k c) (l.take k):=by
 obtain ⟨A',c',e,h2,h3⟩:=h
 injection e with e1 e2 e3
 subst e1;subst e3
 have hl:(l.take k).length=k:=by rw[List.length_take,Nat.min_eq_left hk]
 refine ⟨A,c,by rw[hl],by rw[hl];omega,fun i x hx=>?_⟩
 have hi:i<k:=by have:=(List.getElem?_eq_some_iff.1 hx).1;omega
 rw[List.getElem?_take_of_lt hi]at hx
 exact h3 i x hx
theorem SlIn.drop_ {α:Type}{R:World→Nat→Nat→α→Prop}{size:Nat}{w:World}{g o n c:Nat}{l:List α}(h:SlIn R size w (.slice (some ⟨g,o,none⟩) n c) l) {k:Nat}(hk:k≤l.length):SlIn R size w (.slice (some ⟨g,o+k*size,none⟩) (n - k) (c - k)) (l.drop k):=by
 obtain ⟨A',c',e,h2,h3⟩:=h
 injection e with e1 e2 e3
 subst e1;subst e3
 have hl:(l.drop k).length=n - k:=by rw[List.length_drop,e2]
 refine ⟨_,_,by rw[hl],by rw[hl];omega,fun i x hx=>?_⟩
 rw[List.getElem?_drop]at hx
 obtain ⟨g',o',e,h4⟩:=h3 (k+i) x hx
 injection e with e
 injection e with e4 e5
 subst e4;subst e5
 exact ⟨g,o+k*size,rfl,by rw[show o+k*size+i*size=o+(k+i)*size by rw[Nat.add_mul];omega];exact h4⟩
theorem SlIn.some_ {α:Type}{R:World→Nat→Nat→α→Prop}{size:Nat}{w:World}{A:Option Addr}{n c:Nat}{l:List α}(h:SlIn R size w (.slice A n c) l) (hl:0<l.length):∃ g o,A=some ⟨g,o,none⟩:=by
 obtain ⟨A',c',e,_,h3⟩:=h
 injection e with e1 _ _
 subst e1
 obtain ⟨g,o,e,_⟩:=h3 0 _ (List.getElem?_eq_getElem hl)
 exact ⟨g,o,e⟩
end Vic
namespace Go.Proofs.YtbdfhnelmojbpaaGreatDoor
open Go.RowKit Vic
set_option maxRecDepth 100000 in
set_option maxHeartbeats 8000000 in
theorem split_look (w:World) (v:Value) (c:CoreM) (col row:Nat) (hv:CoreIn w v c) (hf:FitCore c) (hb:∀ x∈c.cols,maybeM x.low=true∧maybeM x.up=true) (hcf:∀ r∈c.rows,r.coef.length≤1000000) (ht:Tab w) (hc:col<c.cols.length) (hr:row<c.rows.length):Calls Tryz.prog 31 #[v,.int .i64 col,.int .i64 row] w (Keeps (.int .i64 (lookM c col row)) w):=by
 have hM:Hid (lookM c col row=if (c.rows.take row).any (fun r=>r.coef.any fun x=>decide ((col:Int)≤x.1))then 5 else if (c.cols.drop col).any (fun x=>x.int)then 7 else if (c.cols.take col).any openM || c.cols.any crossesM then 10 else 0):=rfl
 obtain ⟨rv,cv,rfl,hrs,hcs⟩:=hv
 obtain ⟨rA,rc,rfl,hrc,_⟩:=id hrs
 obtain ⟨cA,cc,rfl,hcc,_⟩:=id hcs
 obtain ⟨g,o,rfl⟩:=SlIn.some_ hrs (by omega)
 obtain ⟨g',o',rfl⟩:=SlIn.some_ hcs (by omega)
 have hrl:c.rows.length≤1000000:=hf.rl
 have hcl:c.cols.length≤1000000:=hf.cl
 obtain ⟨w1,hw1⟩:∃ X,X=(w.alloc (.cells #[.string ⟨c.name.toArray⟩,.string ⟨c.obj.toArray⟩,.slice (some ⟨g,o,none⟩) c.rows.length rc,.slice (some ⟨g',o',none⟩) c.cols.length cc] 34)).alloc (.cells #[.int .i64 col] 3):=⟨_,rfl⟩
 have hb1:Below w.heap.size w w1:=by rw[hw1];exact ((Below.refl _ _).alloc (Nat.le_refl _) _).alloc (by simp) _
 have hrow:=(Row.new w 34 #[.string ⟨c.name.toArray⟩,.string ⟨c.obj.toArray⟩,.slice (some ⟨g,o,none⟩) c.rows.length rc,.slice (some ⟨g',o',none⟩) c.cols.length cc]).alloc (.cells #[.int .i64 col] 3)
 rw[← hw1]at hrow
 have c2:w1.cell? ⟨w.heap.size,2,none⟩=some (.slice (some ⟨g,o,none⟩) c.rows.length rc):=hrow.cell 2
 have c3:w1.cell? ⟨w.heap.size,3,none⟩=some (.slice (some ⟨g',o',none⟩) c.cols.length cc):=hrow.cell 3
 have s0:w1.cell? ⟨w.heap.size+1,0,none⟩=some (.int .i64 col):=by
  have:=(Row.new (w.alloc (.cells #[.string ⟨c.name.toArray⟩,.string ⟨c.obj.toArray⟩,.slice (some ⟨g,o,none⟩) c.rows.length rc,.slice (some ⟨g',o',none⟩) c.cols.length cc] 34)) 3 #[.int .i64 col]).cell 0
  rw[World.size_alloc,← hw1]at this
  exact this
 have C1:=Lib.hid (anyf_row (p:=fun r=>r.coef.any fun x=>decide ((col:Int)≤x.1)) w1 _ (c.rows.take row) ((SlIn.take_ hrs (by omega)).keep RowR.firm hb1) (by rw[List.length_take];omega) enter_slook1 (lb:=#[.pointer (some ⟨w.heap.size+1,0,none⟩)]) fun W r cv hr' hW hc'=>slook1 W r cv hc' (hcf r (List.mem_of_mem_take hr')) _ col (cell_keep s0 hW))
 have C2:Hid (∀ W,Below w1.heap.size w1 W→Calls Tryz.prog 81 #[.slice (some ⟨g',o'+col*5,none⟩) (c.cols.length - col) (cc - col),.func (.func 96) #[] #[]] W (Keeps (.bool ((c.cols.drop col).any fun x=>x.int)) W)):=Lib.hid fun W hW=>anyf_col W _ _ ((SlIn.drop_ hcs (by omega)).keep ColR.firm (below_seq hb1 hW)) (by rw[List.length_drop];omega) enter_slook2 fun W2 x _ _=>slook2 W2 x
 have C3:Hid (∀ W,Below w1.heap.size w1 W→Calls Tryz.prog 81 #[.slice (some ⟨g',o',none⟩) col cc,.func (.func 97) #[] #[]] W (Keeps (.bool ((c.cols.take col).any openM)) W)):=Lib.hid fun W hW=>anyf_col W _ _ ((SlIn.take_ hcs (by omega)).keep ColR.firm (below_seq hb1 hW)) (by rw[List.length_take];omega) enter_sopen fun W2 x _ _=>sopen W2 x
 have C4:Hid (∀ W,Below w1.heap.size w1 W→Calls Tryz.prog 81 #[.slice (some ⟨g',o',none⟩) c.cols.length cc,.func (.func 98) #[] #[]] W (Keeps (.bool (c.cols.any crossesM)) W)):=Lib.hid fun W hW=>anyf_col W _ _ (hcs.keep ColR.firm (below_seq hb1 hW)) hcl enter_scrosses fun W2 x hx hW2=>scrosses W2 x (ht.keep (below_seq (below_seq hb1 hW) hW2)) (hf.cols x hx) (hb x hx).1 (hb x hx).2
 obtain ⟨k1,hk1⟩:∃ x,x=(c.rows.take row).any (fun r=>r.coef.any fun x=>decide ((col:Int)≤x.1)):=⟨_,rfl⟩
 obtain ⟨k2,hk2⟩:∃ x,x=(c.cols.drop col).any (fun x=>x.int):=⟨_,rfl⟩
 obtain ⟨k3,hk3⟩:∃ x,x=(c.cols.take col).any openM:=⟨_,rfl⟩
 obtain ⟨k4,hk4⟩:∃ x,x=c.cols.any crossesM:=⟨_,rfl⟩
 rw[← hk1]at C1 hM
 rw[← hk2]at C2 hM
 rw[← hk3]at C3 hM
 rw[← hk4]at C4 hM
 generalize lookM c col row=res at *
 obtain ⟨nr,hnr⟩:∃ n,n=c.rows.length:=⟨_,rfl⟩
 obtain ⟨nc,hnc⟩:∃ n,n=c.cols.length:=⟨_,rfl⟩
 rw[← hnr]at hr hrc hrl c2
 rw[← hnc]at hc hcc hcl c3 C2 C4
 have HB1:=Lib.hid hb1
 have hr1:(row:Int)≤(rc:Int):=by omega
 have hc1:(col:Int)≤(nc:Int):=by omega
 have hc2:(col:Int)≤(cc:Int):=by omega
 clear hk1 hk2 hk3 hk4 hrow hb1 ht hrs hcs hf hb hcf
 go_enter Tryz.func31,Tryz.ntmps31
 go_upto_region 1 with fail
 rw[← hnr,← hnc]at hw1
 try rw[← hnr,← hnc]
 rw[← hw1]
 clear hw1 hnr hnc
 go_wp2_with fail
 refine C1.out.mono ?_
 rintro e w2 ⟨rfl,h2⟩
 have d3:=cell_keep c3 h2
 have s2:=cell_keep s0 h2
 have P2:=Lib.hid (C2.out w2 h2)
 have H2:=Lib.hid h2
 clear h2 c2 c3 s0 C1 C2
 cases k1
 ·go_wp2_with fail
  refine P2.out.mono ?_
  rintro e w3 ⟨rfl,h3⟩
  have e3:=cell_keep d3 h3
  have s3:=cell_keep s2 h3
  have H3:=Lib.hid (below_seq H2.out h3)
  have P3:=Lib.hid (C3.out w3 H3.out)
  clear h3 d3 s2 P2 C3 H2
  cases k2
  ·go_wp2_with fail
   refine P3.out.mono ?_
   rintro e w4 ⟨rfl,h4⟩
   have f3:=cell_keep e3 h4
   have H4:=Lib.hid (below_seq H3.out h4)
   have P4:=Lib.hid (C4.out w4 H4.out)
   clear h4 e3 s3 P3 C4 H3
   cases k3
   ·go_wp2_with fail
    refine P4.out.mono ?_
    rintro e w5 ⟨rfl,h5⟩
    have H5:=Lib.hid (below_seq HB1.out (below_seq H4.out h5))
    clear h5 f3
    cases k4
    ·go_wp2_with fail
     go_ret
     exact ⟨by rw[hM.out];rfl,H5.out⟩
    ·go_wp2_with fail
     go_ret
     exact ⟨by rw[hM.out];rfl,H5.out⟩
   ·go_wp2_with fail
    go_ret
    exact ⟨by rw[hM.out];rfl,below_seq HB1.out H4.out⟩
  ·go_wp2_with fail
   go_ret
   exact ⟨by rw[hM.out];rfl,below_seq HB1.out H3.out⟩
 ·go_wp2_with fail
  go_ret
  exact ⟨by rw[hM.out];rfl,below_seq HB1.out H2.out⟩
end Go.Proofs.YtbdfhnelmojbpaaGreatDoor
end
section
namespace Vic
open Go Go.RowKit
def NilOr {α:Type}(v:Value) (l:List α):Prop:=v=.slice none 0 0∨0<l.length
theorem fl_cells {α:Type}{enc:α→List Value}{size:Nat}(he:∀ x,(enc x).length=size) (hs:0<size) (l:List α) (P:Nat→Value→Prop) (h:∀ (i:Nat) x (k:Nat) u,l[i]?=some x→(enc x)[k]?=some u→P (i*size+k) u):∀ (j:Nat) u,(l.flatMap enc)[j]?=some u→P j u:=by
 intro j u hj
 have hlen:j<l.length*size:=by
  have:=(List.getElem?_eq_some_iff.1 hj).1
  rwa [fl_len he]at this
 have hi:j / size<l.length:=Nat.div_lt_of_lt_mul (by rwa [Nat.mul_comm]at hlen)
 have hk:j % size<size:=Nat.mod_lt _ hs
 have e:j / size*size+j % size=j:=by rw[Nat.mul_comm];exact Nat.div_add_mod j size
 have hx:l[j / size]?=some l[j / size]:=List.getElem?_eq_getElem hi
 have hg:=fl_get he hx hk
 rw[e,hj]at hg
 rw[← e]
 exact h _ _ _ _ hx hg.symm
theorem cs_cells {w:World}{g o n c:Nat}{cs:List CoefM}(h:CsIn w (.slice (some ⟨g,o,none⟩) n c) cs):∀ (j:Nat) u,(cs.flatMap encCf)[j]?=some u→w.cell? ⟨g,o+j,none⟩=some u:=by
 obtain ⟨A',c',e,_,h3⟩:=h
 injection e with e1 _ _
 subst e1
 refine fl_cells encCf_len (by omega) cs (fun j u=>w.cell? ⟨g,o+j,none⟩=some u) fun i x k u hx hu=>?_
 obtain ⟨g',o',e,h0,h1⟩:=h3 i x hx
 injection e with e
 injection e with e4 e5
 subst e4;subst e5
 rcases k with _|_|k
 ·simp[encCf]at hu;subst hu;simpa using h0
 ·simp[encCf]at hu;subst hu;rw[show o+(i*2+1)=o+i*2+1 by omega];exact h1
 ·simp[encCf]at hu
theorem cols_cells {w:World}{g o n c:Nat}{cs:List ColM}(h:ColsIn w (.slice (some ⟨g,o,none⟩) n c) cs):∀ (j:Nat) u,(cs.flatMap encCol)[j]?=some u→w.cell? ⟨g,o+j,none⟩=some u:=by
 obtain ⟨A',c',e,_,h3⟩:=h
 injection e with e1 _ _
 subst e1
 refine fl_cells encCol_len (by omega) cs (fun j u=>w.cell? ⟨g,o+j,none⟩=some u) fun i x k u hx hu=>?_
 obtain ⟨g',o',e,h0,h1,h2,h3',h4⟩:=h3 i x hx
 injection e with e
 injection e with e4 e5
 subst e4;subst e5
 rw[← Nat.add_assoc]
 rcases k with _|_|_|_|_|k<;>simp[encCol]at hu<;>subst hu
 ·exact h0
 ·exact h1
 ·exact h2
 ·exact h3'
 ·exact h4
end Vic
namespace Go.Proofs.YtbdfhnelmojbpaaGreatDoor
open Go.RowKit Vic
theorem info_Cf0:(Tryz.prog.info? 24).map (fun i=>(i.zero,i.size,i.bytes))=some (some (.agg #[.int .i64 0,.string ⟨#[]⟩]),2,24):=by kernel_rfl
theorem info_Cf:∃ i:TypeInfo,Tryz.prog.info? 24=some i∧i.zero=some (.agg #[.int .i64 0,.string ⟨#[]⟩])∧i.size=2∧i.bytes=24:=by
 have h:=info_Cf0
 cases hi:Tryz.prog.info? 24 with
 | none=>rw[hi]at h;simp at h
 | some i=>rw[hi]at h;simp at h;exact ⟨i,rfl,h.1,h.2.1,h.2.2⟩
theorem clone_none (w:World):Calls Tryz.prog 105 #[.slice none 0 0] w (fun e w'=>e=.returned (.slice none 0 0)∧w'=w):=by
 have heq:∀ W,(binOp .eql 25 (.slice none 0 0) (.slice none 0 0)).run Tryz.prog W=.ok (.bool true) W:=fun W=>by
  first|exact Lib.run_eql_slice_nil W _ _ _ _ _ _ _ Tryz.underlying25|kernel_rfl
 go_enter Tryz.func105,Tryz.ntmps105
 go_wp2_with fail
 go_ret
 exact ⟨rfl,rfl⟩
set_option maxRecDepth 100000 in
set_option maxHeartbeats 4000000 in
theorem clone_coefs (w:World) (g o c:Nat) (cs:List CoefM) (h:CsIn w (.slice (some ⟨g,o,none⟩) cs.length c) cs) (hn:0<cs.length) (hl:cs.length≤1000000000) :
 Calls Tryz.prog 105 #[.slice (some ⟨g,o,none⟩) cs.length c] w (fun e w'=>∃ v,e=.returned v∧Own w' w.heap.size 24 2 v cs.length (cs.flatMap encCf)∧Below w.heap.size w w'):=by
 obtain ⟨i1,hi1,hz1,hsz1,hby1⟩:=info_Cf
 have hcells:=cs_cells h
 have hnews:∀ (j:Nat) u,(cs.flatMap encCf)[j]?=some u→(w.alloc (.cells #[] 24)).cell? ((⟨g,o,none⟩:Addr).add j)=some u:=fun j u hj=>by
  rw[show (⟨g,o,none⟩:Addr).add j=⟨g,o+j,none⟩ by simp[Addr.add]]
  exact cell_keep (hcells j u hj) ((Below.refl _ _).alloc (Nat.le_refl _) (.cells #[] 24))
 have hem:Own (w.alloc (.cells #[] 24)) w.heap.size 24 2 (.slice (some ⟨w.heap.size,0,none⟩) 0 0) 0 []:=OwnK.empty (Row.new _ _ _) (Nat.le_refl _)
 have heq:∀ W,(binOp .eql 25 (.slice (some ⟨g,o,none⟩) cs.length c) (.slice none 0 0)).run Tryz.prog W=.ok (.bool false) W:=fun W=>Lib.run_eql_slice_nil W _ _ _ _ _ _ _ Tryz.underlying25
 have hlen:(cs.flatMap encCf).length=cs.length*2:=fl_len encCf_len cs
 have hone:∀ u∈cs.flatMap encCf,u.oneCell'=true:=fun u hu=>by
  obtain ⟨x,_,hx⟩:=List.mem_flatMap.1 hu
  simp[encCf]at hx
  rcases hx with rfl|rfl<;>rfl
 have HN:=Lib.hid hnews;have HE:=Lib.hid hem
 clear hnews hem h hcells
 go_enter Tryz.func105,Tryz.ntmps105
 go_wp2_with (at_builtin;refine wpList_append_ownK (Kd:=fun _=>True) rfl (.tmp 5) (.tmp 6) 25 rfl w.heap.size 24 i1 _ 2 Tryz.underlying25 hi1 hz1 hsz1 rfl (by omega) _ 0 [] rfl HE.out ⟨g,o,none⟩ cs.length c (cs.flatMap encCf) rfl hlen HN.out (by first|exact hone|simpa using hone) (by simp) (by simp) hn (by unfold maxLen;omega) (by rw[hby1];omega) (by simp) ?_;intro v6 w6 hown6 hgr6 hloc6)
 obtain ⟨g6,cap6,rfl⟩:=hown6.shape (by omega)
 go_wp2_with fail
 go_ret
 refine ⟨_,rfl,?_,?_⟩
 ·simpa using hown6
 ·have h1:Below w.heap.size w (w.alloc (.cells #[] 24)):=(Below.refl _ _).alloc (Nat.le_refl _) _
  exact ⟨hgr6.os.trans h1.os,hgr6.tape.trans h1.tape,hgr6.output.trans h1.output,Nat.le_trans h1.size hgr6.size,fun j hj=>(hgr6.block j (Nat.lt_of_lt_of_le hj h1.size) (fun e=>by
   have:=Option.some.inj e
   simp only at this
   omega)).trans (h1.block j hj)⟩
theorem info_Cl0:(Tryz.prog.info? 31).map (fun i=>(i.zero,i.size,i.bytes))=some (some (.agg #[.string ⟨#[]⟩,.string ⟨#[]⟩,.string ⟨#[]⟩,.string ⟨#[]⟩,.bool false]),5,72):=by kernel_rfl
theorem info_Cl:∃ i:TypeInfo,Tryz.prog.info? 31=some i∧i.zero=some (.agg #[.string ⟨#[]⟩,.string ⟨#[]⟩,.string ⟨#[]⟩,.string ⟨#[]⟩,.bool false])∧i.size=5∧i.bytes=72:=by
 have h:=info_Cl0
 cases hi:Tryz.prog.info? 31 with
 | none=>rw[hi]at h;simp at h
 | some i=>rw[hi]at h;simp at h;exact ⟨i,rfl,h.1,h.2.1,h.2.2⟩
set_option maxRecDepth 100000 in
set_option maxHeartbeats 4000000 in
theorem clone_cols (w:World) (g o c:Nat) (cs:List ColM) (h:ColsIn w (.slice (some ⟨g,o,none⟩) cs.length c) cs) (hn:0<cs.length) (hl:cs.length≤1000000000) :
 Calls Tryz.prog 32 #[.slice (some ⟨g,o,none⟩) cs.length c] w (fun e w'=>∃ v,e=.returned v∧Own w' w.heap.size 31 5 v cs.length (cs.flatMap encCol)∧Below w.heap.size w w'):=by
 obtain ⟨i1,hi1,hz1,hsz1,hby1⟩:=info_Cl
 have hcells:=cols_cells h
 have hnews:∀ (j:Nat) u,(cs.flatMap encCol)[j]?=some u→(w.alloc (.cells #[] 31)).cell? ((⟨g,o,none⟩:Addr).add j)=some u:=fun j u hj=>by
  rw[show (⟨g,o,none⟩:Addr).add j=⟨g,o+j,none⟩ by simp[Addr.add]]
  exact cell_keep (hcells j u hj) ((Below.refl _ _).alloc (Nat.le_refl _) (.cells #[] 31))
 have hem:Own (w.alloc (.cells #[] 31)) w.heap.size 31 5 (.slice (some ⟨w.heap.size,0,none⟩) 0 0) 0 []:=OwnK.empty (Row.new _ _ _) (Nat.le_refl _)
 have heq:∀ W,(binOp .eql 32 (.slice (some ⟨g,o,none⟩) cs.length c) (.slice none 0 0)).run Tryz.prog W=.ok (.bool false) W:=fun W=>Lib.run_eql_slice_nil W _ _ _ _ _ _ _ Tryz.underlying32
 have hlen:(cs.flatMap encCol).length=cs.length*5:=fl_len encCol_len cs
 have hone:∀ u∈cs.flatMap encCol,u.oneCell'=true:=fun u hu=>by
  obtain ⟨x,_,hx⟩:=List.mem_flatMap.1 hu
  simp[encCol]at hx
  rcases hx with rfl|rfl|rfl|rfl|rfl<;>rfl
 have HN:=Lib.hid hnews;have HE:=Lib.hid hem
 clear hnews hem h hcells
 go_enter Tryz.func32,Tryz.ntmps32
 go_wp2_with (at_builtin;refine wpList_append_ownK (Kd:=fun _=>True) rfl (.tmp 5) (.tmp 6) 32 rfl w.heap.size 31 i1 _ 5 Tryz.underlying32 hi1 hz1 hsz1 rfl (by omega) _ 0 [] rfl HE.out ⟨g,o,none⟩ cs.length c (cs.flatMap encCol) rfl hlen HN.out (by first|exact hone|simpa using hone) (by simp) (by simp) hn (by unfold maxLen;omega) (by rw[hby1];omega) (by simp) ?_;intro v6 w6 hown6 hgr6 hloc6)
 obtain ⟨g6,cap6,rfl⟩:=hown6.shape (by omega)
 go_wp2_with fail
 go_ret
 refine ⟨_,rfl,?_,?_⟩
 ·simpa using hown6
 ·have h1:Below w.heap.size w (w.alloc (.cells #[] 31)):=(Below.refl _ _).alloc (Nat.le_refl _) _
  exact ⟨hgr6.os.trans h1.os,hgr6.tape.trans h1.tape,hgr6.output.trans h1.output,Nat.le_trans h1.size hgr6.size,fun j hj=>(hgr6.block j (Nat.lt_of_lt_of_le hj h1.size) (fun e=>by
   have:=Option.some.inj e
   simp only at this
   omega)).trans (h1.block j hj)⟩
def Two_ (w:World) (B:Nat) (a b:Value) (x y:List CoefM):Prop:=OwnF w B 24 2 (fun _:Bool=>True) (fun i=>if i then b else a) (fun i=>if i then y.length else x.length) (fun i=>if i then y.flatMap encCf else x.flatMap encCf)
theorem Two_.fst {w w':World}{B:Nat}{a b a':Value}{x y:List CoefM}{z:CoefM}(h:Two_ w B a b x y) (ho:Own w' B 24 2 a' (x.length+1) (x.flatMap encCf ++ encCf z)) (hg:w.grownBy w' a.ownBlock) (hl:a'.ownBlock=a.ownBlock∨a'.ownBlock=some w.heap.size):Two_ w' B a' b (x ++ [z]) y:=by
 have:=OwnF.app h false trivial ho hg hl
 refine this.sub fun i _=>?_
 cases i<;>simp
theorem Two_.snd {w w':World}{B:Nat}{a b b':Value}{x y:List CoefM}{z:CoefM}(h:Two_ w B a b x y) (ho:Own w' B 24 2 b' (y.length+1) (y.flatMap encCf ++ encCf z)) (hg:w.grownBy w' b.ownBlock) (hl:b'.ownBlock=b.ownBlock∨b'.ownBlock=some w.heap.size):Two_ w' B a b' x (y ++ [z]):=by
 have:=OwnF.app h true trivial ho hg hl
 refine this.sub fun i _=>?_
 cases i<;>simp
theorem Two_.keep {w w':World}{B:Nat}{a b:Value}{x y:List CoefM}(h:Two_ w B a b x y) (hb:Below w.heap.size w w'):Two_ w' B a b x y:=OwnF.keep h hb
theorem Two_.nil (w:World) (B:Nat):Two_ w B (.slice none 0 0) (.slice none 0 0) [] []:=⟨fun i _=>by cases i<;>exact OwnK.nil_ _ _ _ _ _,fun i j g _ _ h1 _=>by cases i<;>cases h1⟩
theorem techM_snoc (l:List CoefM) (x:CoefM) (col:Int):techM (l ++ [x]) col=techM l col ++ (if x.1<col then [x]else []):=by
 unfold techM
 rw[List.filter_append]
 congr 1
 by_cases h:x.1<col<;>simp[h]
theorem ownM_snoc (l:List CoefM) (x:CoefM) (col:Int):ownM (l ++ [x]) col=ownM l col ++ (if x.1<col then []else [(x.1 - col,x.2)]):=by
 unfold ownM
 rw[List.filter_append,List.map_append]
 congr 1
 by_cases h:x.1<col<;>simp[h]
set_option maxRecDepth 100000 in
set_option maxHeartbeats 8000000 in
theorem split_parted (w:World) (v:Value) (cs:List CoefM) (col:Nat) (hv:CsIn w v cs) (hl:cs.length≤1000000) (hc:col≤1000000) (hb:∀ x∈cs,-9223372036854775808≤x.1∧x.1≤9223372036854775807) :
 Calls Tryz.prog 35 #[v,.int .i64 col] w (fun e w'=>∃ a b,e=.returned (.tuple #[a,b])∧Two_ w' w.heap.size a b (techM cs col) (ownM cs col)∧(NilOr a (techM cs col)∧NilOr b (ownM cs col))∧Below w.heap.size w w'):=by
 obtain ⟨A,c,rfl,hlc,hcell⟩:=hv
 have HC:=Lib.hid hcell
 have HB:=Lib.hid hb
 obtain ⟨i1,hi1,hz1,hsz1,hby1⟩:=info_Cf
 clear hcell hb
 go_enter Tryz.func35,Tryz.ntmps35
 go_wp2_with fail
 go_loopg [12,6,7] cs.length (fun g t av bv wr=>∃ k:Nat,t=.int .i64 k∧k+g=cs.length∧Hid (Two_ wr w.heap.size av bv (techM (cs.take k) col) (ownM (cs.take k) col))∧Hid (NilOr av (techM (cs.take k) col)∧NilOr bv (ownM (cs.take k) col))∧Hid (Below w.heap.size w wr))
 case atStart=>exact ⟨0,rfl,by omega,Lib.hid (Two_.nil _ _),Lib.hid ⟨.inl rfl,.inl rfl⟩,Lib.hid (Below.refl _ _)⟩
 case round=>
  obtain ⟨k,rfl,hk,HTW,HNO,HBR⟩:=hrel
  by_cases hlt:k<cs.length
  ·obtain ⟨x,hx⟩:∃ x,cs[k]?=some x:=⟨cs[k],by simp[hlt]⟩
   obtain ⟨g,o,rfl,hc1,hc2⟩:=HC.out k x hx
   have d1:=cell_keep hc1 HBR.out;have d2:=cell_keep hc2 HBR.out
   obtain ⟨hx1,hx2⟩:=HB.out x (List.mem_of_getElem? hx)
   have HTK:Hid (cs.take (k+1)=cs.take k ++ [x]):=Lib.hid (by rw[List.take_add_one,hx];rfl)
   have HK:=Lib.hid hk
   obtain ⟨i,s⟩:=x
   dsimp only at d1 d2 hx1 hx2
   obtain ⟨w1,hw1⟩:∃ X,X=wr.alloc (.cells #[.int .i64 i,.string ⟨s.toArray⟩] 24):=⟨_,rfl⟩
   have hb1:Below wr.heap.size wr w1:=by rw[hw1];exact (Below.refl _ _).alloc (Nat.le_refl _) _
   have hrow:Row w1 wr.heap.size 24 #[.int .i64 i,.string ⟨s.toArray⟩]:=by rw[hw1];exact Row.new _ _ _
   have v0:w1.cell? ⟨wr.heap.size,0,none⟩=some (.int .i64 i):=hrow.cell 0
   have v1:w1.cell? ⟨wr.heap.size,1,none⟩=some (.string ⟨s.toArray⟩):=hrow.cell 1
   have HB1:=Lib.hid (HBR.out.trans (hb1.mono HBR.out.size))
   have HTW1:=Lib.hid (HTW.out.keep hb1)
   have hlk:(techM (cs.take k) col).length≤cs.length∧(ownM (cs.take k) col).length≤cs.length:=by
    have h1:(cs.take k).length≤cs.length:=by rw[List.length_take];omega
    constructor
    ·exact Nat.le_trans (List.length_filter_le _ _) h1
    ·unfold ownM;rw[List.length_map];exact Nat.le_trans (List.length_filter_le _ _) h1
   obtain ⟨hl1,hl2⟩:=hlk
   obtain ⟨X,hX⟩:∃ X,X=techM (cs.take k) col:=⟨_,rfl⟩
   obtain ⟨Y,hY⟩:∃ Y,Y=ownM (cs.take k) col:=⟨_,rfl⟩
   have HX:Hid (techM (cs.take (k+1)) col=X ++ (if i<(col:Int)then [((i,s):CoefM)]else [])):=Lib.hid (by rw[HTK.out,techM_snoc,hX])
   have HY:Hid (ownM (cs.take (k+1)) col=Y ++ (if i<(col:Int)then []else [((i - (col:Int),s):CoefM)])):=Lib.hid (by rw[HTK.out,ownM_snoc,hY])
   rw[← hX,← hY]at HTW1 HNO
   rw[← hX]at hl1
   rw[← hY]at hl2
   clear hc1 hc2 hx hk hrow hb1 HTW HBR hX hY HTK
   go_upto_region 5 with fail
   rw[← hw1]
   clear hw1 d1 d2
   obtain ⟨bl,hbl⟩:∃ b,b=wr.heap.size:=⟨_,rfl⟩
   rw[← hbl]at v0 v1 ⊢
   clear hbl
   by_cases hlo:i<(col:Int)
   ·have hal:Below w1.heap.size w1 (w1.alloc (.cells #[.int .i64 i,.string ⟨s.toArray⟩] 24)):= (Below.refl _ _).alloc (Nat.le_refl _) _
    have hr2:Row (w1.alloc (.cells #[.int .i64 i,.string ⟨s.toArray⟩] 24)) w1.heap.size 24 #[.int .i64 i,.string ⟨s.toArray⟩]:=Row.new _ _ _
    have hnew:Hid (∀ (j:Nat) u,[.int .i64 i,.string ⟨s.toArray⟩][j]?=some u→(w1.alloc (.cells #[.int .i64 i,.string ⟨s.toArray⟩] 24)).cell? ((⟨w1.heap.size,0,none⟩:Addr).add j)=some u):=Lib.hid fun j u hj=>by
     rcases j with _|_|j
     ·cases hj;exact hr2.cell 0
     ·cases hj;exact hr2.cell 1
     ·simp at hj
    have HTW2:=Lib.hid (HTW1.out.keep hal)
    have hA:Hid (Own (w1.alloc (.cells #[.int .i64 i,.string ⟨s.toArray⟩] 24)) w.heap.size 24 2 u6 X.length (X.flatMap encCf)):=Lib.hid (by have:=HTW2.out.own false trivial;simpa using this)
    have hk1:w.heap.size≤(w1.alloc (.cells #[.int .i64 i,.string ⟨s.toArray⟩] 24)).heap.size:=Nat.le_trans HB1.out.size hal.size
    have HB2:=Lib.hid (HB1.out.trans (hal.mono HB1.out.size))
    clear hal hr2
    go_wp2_with (at_builtin;refine wpList_append_ownK (Kd:=fun _=>True) rfl (.tmp 20) (.tmp 22) 25 rfl w.heap.size 24 i1 _ 2 Tryz.underlying25 hi1 hz1 hsz1 rfl (by omega) _ X.length _ rfl hA.out ⟨w1.heap.size,0,none⟩ 1 1 [.int .i64 i,.string ⟨s.toArray⟩] rfl (by simp) hnew.out (by simp[Value.oneCell']) (by simp) (by simp) (by omega) (by unfold maxLen;omega) (by rw[hby1];omega) hk1 ?_;intro v6 w6 hown6 hgr6 hloc6;refine Hid.out ?_)
    have HT6:Hid (Two_ w6 w.heap.size v6 u7 (techM (cs.take (k+1)) col) (ownM (cs.take (k+1)) col)):=Lib.hid (by rw[HX.out,HY.out,if_pos hlo,if_pos hlo,List.append_nil];exact HTW2.out.fst (z:=(i,s)) (by simpa [encCf]using hown6) hgr6 hloc6)
    have HN6:Hid (NilOr v6 (techM (cs.take (k+1)) col)∧NilOr u7 (ownM (cs.take (k+1)) col)):=Lib.hid (by rw[HX.out,HY.out,if_pos hlo,if_pos hlo,List.append_nil];exact ⟨.inr (by simp),HNO.out.2⟩)
    have HB6:=Lib.hid (HB2.out.grown hgr6 hk1 fun j hj=>(hA.out.lt hj).1)
    refine Lib.hid ?_
    clear hown6 hgr6 hloc6 hnew hk1 hA HTW2
    go_wp2_with fail
    go_roundg (gk - 1)
    case measure=>have:=HK.out;omega
    case rel=>exact ⟨k+1,by go_num,by have:=HK.out;omega,HT6,HN6,HB6⟩
   ·have hal:Below w1.heap.size w1 (w1.alloc (.cells #[.int .i64 (i - (col:Int)),.string ⟨s.toArray⟩] 24)):= (Below.refl _ _).alloc (Nat.le_refl _) _
    have hr2:Row (w1.alloc (.cells #[.int .i64 (i - (col:Int)),.string ⟨s.toArray⟩] 24)) w1.heap.size 24 #[.int .i64 (i - (col:Int)),.string ⟨s.toArray⟩]:=Row.new _ _ _
    have hnew:Hid (∀ (j:Nat) u,[.int .i64 (i - (col:Int)),.string ⟨s.toArray⟩][j]?=some u→(w1.alloc (.cells #[.int .i64 (i - (col:Int)),.string ⟨s.toArray⟩] 24)).cell? ((⟨w1.heap.size,0,none⟩:Addr).add j)=some u):=Lib.hid fun j u hj=>by
     rcases j with _|_|j
     ·cases hj;exact hr2.cell 0
     ·cases hj;exact hr2.cell 1
     ·simp at hj
    have HTW2:=Lib.hid (HTW1.out.keep hal)
    have hA:Hid (Own (w1.alloc (.cells #[.int .i64 (i - (col:Int)),.string ⟨s.toArray⟩] 24)) w.heap.size 24 2 u7 Y.length (Y.flatMap encCf)):=Lib.hid (by have:=HTW2.out.own true trivial;simpa using this)
    have hk1:w.heap.size≤(w1.alloc (.cells #[.int .i64 (i - (col:Int)),.string ⟨s.toArray⟩] 24)).heap.size:=Nat.le_trans HB1.out.size hal.size
    have HB2:=Lib.hid (HB1.out.trans (hal.mono HB1.out.size))
    clear hal hr2
    go_wp2_with (at_builtin;refine wpList_append_ownK (Kd:=fun _=>True) rfl (.tmp 24) (.tmp 32) 25 rfl w.heap.size 24 i1 _ 2 Tryz.underlying25 hi1 hz1 hsz1 rfl (by omega) _ Y.length _ rfl hA.out ⟨w1.heap.size,0,none⟩ 1 1 [.int .i64 (i - (col:Int)),.string ⟨s.toArray⟩] rfl (by simp) hnew.out (by simp[Value.oneCell']) (by simp) (by simp) (by omega) (by unfold maxLen;omega) (by rw[hby1];omega) hk1 ?_;intro v6 w6 hown6 hgr6 hloc6;refine Hid.out ?_)
    have HT6:Hid (Two_ w6 w.heap.size u6 v6 (techM (cs.take (k+1)) col) (ownM (cs.take (k+1)) col)):=Lib.hid (by rw[HX.out,HY.out,if_neg (by omega),if_neg (by omega),List.append_nil];exact HTW2.out.snd (z:=(i - (col:Int),s)) (by simpa [encCf]using hown6) hgr6 hloc6)
    have HN6:Hid (NilOr u6 (techM (cs.take (k+1)) col)∧NilOr v6 (ownM (cs.take (k+1)) col)):=Lib.hid (by rw[HX.out,HY.out,if_neg (by omega),if_neg (by omega),List.append_nil];exact ⟨HNO.out.1,.inr (by simp)⟩)
    have HB6:=Lib.hid (HB2.out.grown hgr6 hk1 fun j hj=>(hA.out.lt hj).1)
    refine Lib.hid ?_
    clear hown6 hgr6 hloc6 hnew hk1 hA HTW2
    go_wp2_with fail
    go_roundg (gk - 1)
    case measure=>have:=HK.out;omega
    case rel=>exact ⟨k+1,by go_num,by have:=HK.out;omega,HT6,HN6,HB6⟩
  ·obtain rfl:k=cs.length:=by omega
   rw[List.take_length]at HTW HNO
   clear hk
   go_wp2_with fail
   go_ret2
   exact ⟨_,_,rfl,HTW.out,HNO.out,HBR.out⟩
end Go.Proofs.YtbdfhnelmojbpaaGreatDoor
end
section
namespace Go.Proofs.YtbdfhnelmojbpaaGreatDoor
open Go.RowKit Vic
def Clonable (w:World) (v:Value) (cs:List CoefM):Prop:=CsIn w v cs∧(v=.slice none 0 0∨0<cs.length)
theorem clone_any (w:World) (v:Value) (cs:List CoefM) (h:Clonable w v cs) (hl:cs.length≤1000000000) :
 Calls Tryz.prog 105 #[v] w (fun e w'=>∃ v',e=.returned v'∧Own w' w.heap.size 24 2 v' cs.length (cs.flatMap encCf)∧Below w.heap.size w w'∧(∃ A n c,v'=.slice A n c)):=by
 obtain ⟨h1,h2⟩:=h
 obtain ⟨A,c,rfl,h3,h4⟩:=id h1
 rcases h2 with h2|h2
 ·injection h2 with _ e2 _
  have hn:cs.length=0:=e2
  obtain rfl:cs = []:=List.eq_nil_of_length_eq_zero hn
  have hA:A=none∧c=0:=by
   rename_i e1 e3
   exact ⟨e1,e3⟩
  obtain ⟨rfl,rfl⟩:=hA
  refine (clone_none w).mono ?_
  rintro e w' ⟨rfl,rfl⟩
  exact ⟨_,rfl,OwnK.nil_ _ _ _ _ _,Below.refl _ _,_,_,_,rfl⟩
 ·obtain ⟨g,o,rfl⟩:=SlIn.some_ h1 h2
  refine (clone_coefs w g o c cs h1 h2 hl).mono ?_
  rintro e w' ⟨v',rfl,ho,hb⟩
  obtain ⟨A',c',rfl,_⟩:=ho.sl
  exact ⟨_,rfl,ho,hb,_,_,_,rfl⟩
theorem und_Row_sz:(Tryz.prog.info? 28).map (·.size)=some 5:=by kernel_rfl
set_option maxRecDepth 100000 in
set_option maxHeartbeats 8000000 in
theorem split_copied (w:World) (name rhs range:Txt) (kind:Int) (A0:Option Addr) (n0 c0:Nat) (v:Value) (cs:List CoefM) (h:Clonable w v cs) (hl:cs.length≤1000000000) :
 Calls Tryz.prog 34 #[.agg #[.string ⟨name.toArray⟩,.int .i64 kind,.slice A0 n0 c0,.string ⟨rhs.toArray⟩,.string ⟨range.toArray⟩],v] w (fun e w'=>∃ cv,e=.returned (.agg #[.string ⟨name.toArray⟩,.int .i64 kind,cv,.string ⟨rhs.toArray⟩,.string ⟨range.toArray⟩])∧Own w' w.heap.size 24 2 cv cs.length (cs.flatMap encCf)∧Below w.heap.size w w'∧(∃ A n c,cv=.slice A n c)):=by
 obtain ⟨w1,hw1⟩:∃ X,X=(w.alloc (.cells #[.string ⟨name.toArray⟩,.int .i64 kind,.slice A0 n0 c0,.string ⟨rhs.toArray⟩,.string ⟨range.toArray⟩] 28)).alloc (.cells #[.string ⟨#[]⟩,.int .i64 0,.slice none 0 0,.string ⟨#[]⟩,.string ⟨#[]⟩] 28):=⟨_,rfl⟩
 have hb1:Below w.heap.size w w1:=by rw[hw1];exact ((Below.refl _ _).alloc (Nat.le_refl _) _).alloc (by simp) _
 have r1:=(Row.new w 28 #[.string ⟨name.toArray⟩,.int .i64 kind,.slice A0 n0 c0,.string ⟨rhs.toArray⟩,.string ⟨range.toArray⟩]).alloc (.cells #[.string ⟨#[]⟩,.int .i64 0,.slice none 0 0,.string ⟨#[]⟩,.string ⟨#[]⟩] 28)
 rw[← hw1]at r1
 have r2:Row w1 (w.heap.size+1) 28 #[.string ⟨#[]⟩,.int .i64 0,.slice none 0 0,.string ⟨#[]⟩,.string ⟨#[]⟩]:=by
  have:=Row.new (w.alloc (.cells #[.string ⟨name.toArray⟩,.int .i64 kind,.slice A0 n0 c0,.string ⟨rhs.toArray⟩,.string ⟨range.toArray⟩] 28)) 28 #[.string ⟨#[]⟩,.int .i64 0,.slice none 0 0,.string ⟨#[]⟩,.string ⟨#[]⟩]
  rw[World.size_alloc,← hw1]at this
  exact this
 have hsz1:w1.heap.size=w.heap.size+2:=by rw[hw1];simp
 have CC:=Lib.hid (clone_any w1 v cs ⟨h.1.keep CoefR.firm hb1,h.2⟩ hl)
 have HB1:=Lib.hid hb1;have R1:=Lib.hid r1;have R2:=Lib.hid r2
 clear hb1 r1 r2 h
 go_enter Tryz.func34,Tryz.ntmps34
 go_upto_region 1 with fail
 try rw[← hw1]
 clear hw1
 go_wp2_with fail
 refine CC.out.mono ?_
 rintro e w2 ⟨cv,rfl,ho,hb2,A,n,c,rfl⟩
 have q1:=R1.out.keep hb2
 have q2:=R2.out.keep hb2
 obtain ⟨b,hb⟩:∃ b,b=w.heap.size:=⟨_,rfl⟩
 rw[← hb]at q1 q2
 have a0:w2.cell? ⟨b,0,none⟩=some (.string ⟨name.toArray⟩):=q1.cell 0
 have a1:w2.cell? ⟨b,1,none⟩=some (.int .i64 kind):=q1.cell 1
 have a2:w2.cell? ⟨b,2,none⟩=some (.slice A0 n0 c0):=q1.cell 2
 have a3:w2.cell? ⟨b,3,none⟩=some (.string ⟨rhs.toArray⟩):=q1.cell 3
 have a4:w2.cell? ⟨b,4,none⟩=some (.string ⟨range.toArray⟩):=q1.cell 4
 have z0:w2.cell? ⟨b+1,0,none⟩=some (.string ⟨#[]⟩):=q2.cell 0
 have z1:w2.cell? ⟨b+1,1,none⟩=some (.int .i64 0):=q2.cell 1
 have z2:w2.cell? ⟨b+1,2,none⟩=some (.slice none 0 0):=q2.cell 2
 have z3:w2.cell? ⟨b+1,3,none⟩=some (.string ⟨#[]⟩):=q2.cell 3
 have z4:w2.cell? ⟨b+1,4,none⟩=some (.string ⟨#[]⟩):=q2.cell 4
 have f2:=q1.free 2
 have y0:=q2.free 0;have y1:=q2.free 1;have y2:=q2.free 2;have y3:=q2.free 3;have y4:=q2.free 4
 have HO:=Lib.hid ho;have HB2:=Lib.hid hb2;have Q2:=Lib.hid q2;have HBQ:=Lib.hid hb;have HSZ:=Lib.hid hsz1
 clear ho hb2 q1 q2 CC
 rw[← hb]
 clear hb hsz1
 have hf0:Row (w2.setCell ⟨b,2,none⟩ (.slice A n c)) (b+1) 28 #[.string ⟨#[]⟩,.int .i64 0,.slice none 0 0,.string ⟨#[]⟩,.string ⟨#[]⟩]:=(set_other w2 b 2 _ (b+1) (by omega)).trans Q2.out
 have HF:=Lib.hid (((((hf0.set 0 (.string ⟨name.toArray⟩)).set 1 (.int .i64 kind)).set 2 (.slice A n c)).set 3 (.string ⟨rhs.toArray⟩)).set 4 (.string ⟨range.toArray⟩))
 have HG:Hid (∀ g,g≠b→g≠b+1→((((((w2.setCell ⟨b,2,none⟩ (.slice A n c)).setCell ⟨b+1,0,none⟩ (.string ⟨name.toArray⟩)).setCell ⟨b+1,1,none⟩ (.int .i64 kind)).setCell ⟨b+1,2,none⟩ (.slice A n c)).setCell ⟨b+1,3,none⟩ (.string ⟨rhs.toArray⟩)).setCell ⟨b+1,4,none⟩ (.string ⟨range.toArray⟩)).heap[g]?=w2.heap[g]?):=Lib.hid fun g h1 h2=>by
  rw[set_other _ _ _ _ g h2,set_other _ _ _ _ g h2,set_other _ _ _ _ g h2,set_other _ _ _ _ g h2,set_other _ _ _ _ g h2,set_other _ _ _ _ g h1]
 have HBF:Hid (Below w.heap.size w ((((((w2.setCell ⟨b,2,none⟩ (.slice A n c)).setCell ⟨b+1,0,none⟩ (.string ⟨name.toArray⟩)).setCell ⟨b+1,1,none⟩ (.int .i64 kind)).setCell ⟨b+1,2,none⟩ (.slice A n c)).setCell ⟨b+1,3,none⟩ (.string ⟨rhs.toArray⟩)).setCell ⟨b+1,4,none⟩ (.string ⟨range.toArray⟩))):=by
  have h0:=below_seq HB1.out HB2.out
  have hb:w.heap.size≤b:=by have:=HBQ.out;omega
  have hb':w.heap.size≤b+1:=by omega
  exact Lib.hid ((((((h0.setCell (p:=⟨b,2,none⟩) hb _).setCell (p:=⟨b+1,0,none⟩) hb' _).setCell (p:=⟨b+1,1,none⟩) hb' _).setCell (p:=⟨b+1,2,none⟩) hb' _).setCell (p:=⟨b+1,3,none⟩) hb' _).setCell (p:=⟨b+1,4,none⟩) hb' _)
 clear hf0
 go_wp2_with fail
 refine bodyPost_ret (v:=.agg #[.string ⟨name.toArray⟩,.int .i64 kind,.slice A n c,.string ⟨rhs.toArray⟩,.string ⟨range.toArray⟩]) (results_cell_row (p:=4) (ty:=28) Tryz.results34 _ _ (b+1) 28 #[.string ⟨name.toArray⟩,.int .i64 kind,.slice A n c,.string ⟨rhs.toArray⟩,.string ⟨range.toArray⟩] (0,0) _ (by simp[go_sem]) HF.out Tryz.underlying28 rfl und_Row_sz) rfl ?_
 refine ⟨_,rfl,?_,HBF.out,_,_,_,rfl⟩
 have hlow:=HO.out.low (base':=w.heap.size) (by have:=HSZ.out;omega)
 refine hlow.stay fun g hg=>?_
 have hlt:=HO.out.lt hg
 have h1:=HSZ.out;have h2:=HBQ.out
 exact HG.out g (by omega) (by omega)
end Go.Proofs.YtbdfhnelmojbpaaGreatDoor
end
