/- Package period: May. -/
import Derived.Test.YtbdfhnelmojbpaaGreatDoorRap
import Derived.Test.YtbdfhnelmojbpaaGreatDoorRay
import Derived.Deep.RegionHeld3
import Derived.Deep.RegionHeld
set_option linter.unusedVariables false
set_option linter.unusedSimpArgs false
namespace Vic
open Go Go.RowKit
theorem two_rows (w:World) (t:TypeId) (xs ys:Array Value):Row (((w.alloc (.cells xs t)).alloc (.cells ys t)).drew) w.heap.size t xs∧Row (((w.alloc (.cells xs t)).alloc (.cells ys t)).drew) (w.heap.size+1) t ys∧Below w.heap.size w (((w.alloc (.cells xs t)).alloc (.cells ys t)).drew):=by
 refine ⟨(Row.new w t xs).alloc _,?_,((((Below.refl _ _).alloc (Nat.le_refl _) _).alloc (by simp) _)).trans (Below.refl _ _).drew⟩
 have:=Row.new (w.alloc (.cells xs t)) t ys
 rw[World.size_alloc]at this
 exact this
end Vic
namespace Go.Proofs.YtbdfhnelmojbpaaGreatDoor
open Go.RowKit Vic
abbrev vpm8_0:Oper:={ dst:=some 54,op:=Go.Op.load 34 (Go.Operand.tmp 2),type:=34,pos:="period.go:111",after:=#[],guard:=none }
abbrev vpm8_1:Oper:={ dst:=some 55,op:=Go.Op.fieldAddr 44 (Go.Operand.tmp 5) 0,type:=0,pos:="period.go:111",after:=#[],guard:=none }
abbrev vpm8_2:Oper:={ dst:=some 56,op:=Go.Op.load 9 (Go.Operand.tmp 55),type:=9,pos:="period.go:111",after:=#[{ on:=1,ground:=Go.Ground.data }],guard:=none }
abbrev vpm8_3:Oper:={ dst:=some 57,op:=Go.Op.call { callee:=Go.Callee.value (Go.Operand.func 44),args:=#[Go.Operand.tmp 54,Go.Operand.tmp 56],argTypes:=#[34,9] },type:=3,pos:="period.go:111",after:=#[{ on:=0,ground:=Go.Ground.data },{ on:=2,ground:=Go.Ground.data }],guard:=none }
abbrev vpm8_4:Oper:={ dst:=some 58,op:=Go.Op.binOp Go.BinOp.neq 3 (Go.Operand.tmp 57) (Go.Operand.const (Go.Value.int Go.IntKind.i64 0)) 3,type:=4,pos:="period.go:111",after:=#[{ on:=3,ground:=Go.Ground.data }],guard:=none }
abbrev vpm8_5:Oper:={ dst:=some 59,op:=Go.Op.move (Go.Operand.tmp 58),type:=4,pos:="period.go:111",after:=#[{ on:=4,ground:=Go.Ground.data },{ on:=3,ground:=Go.Ground.chain }],guard:=none }
abbrev vpm8_6:Oper:={ dst:=some 60,op:=Go.Op.load 34 (Go.Operand.tmp 2),type:=34,pos:="period.go:111",after:=#[{ on:=5,ground:=Go.Ground.guard }],guard:=some (5,false) }
abbrev vpm8_7:Oper:={ dst:=some 61,op:=Go.Op.fieldAddr 44 (Go.Operand.tmp 5) 1,type:=0,pos:="period.go:111",after:=#[{ on:=5,ground:=Go.Ground.guard }],guard:=some (5,false) }
abbrev vpm8_8:Oper:={ dst:=some 62,op:=Go.Op.load 9 (Go.Operand.tmp 61),type:=9,pos:="period.go:111",after:=#[{ on:=7,ground:=Go.Ground.data },{ on:=5,ground:=Go.Ground.guard }],guard:=some (5,false) }
abbrev vpm8_9:Oper:={ dst:=some 63,op:=Go.Op.call { callee:=Go.Callee.value (Go.Operand.func 45),args:=#[Go.Operand.tmp 60,Go.Operand.tmp 62],argTypes:=#[34,9] },type:=3,pos:="period.go:111",after:=#[{ on:=6,ground:=Go.Ground.data },{ on:=8,ground:=Go.Ground.data },{ on:=5,ground:=Go.Ground.chain },{ on:=5,ground:=Go.Ground.guard }],guard:=some (5,false) }
abbrev vpm8_10:Oper:={ dst:=some 64,op:=Go.Op.binOp Go.BinOp.gtr 3 (Go.Operand.tmp 63) (Go.Operand.const (Go.Value.int Go.IntKind.i64 1)) 3,type:=4,pos:="period.go:111",after:=#[{ on:=9,ground:=Go.Ground.data },{ on:=5,ground:=Go.Ground.guard }],guard:=some (5,false) }
abbrev vpm8_11:Oper:={ dst:=some 65,op:=Go.Op.pick (Go.Operand.tmp 59) (Go.Operand.const (Go.Value.bool true)) (Go.Operand.tmp 64),type:=4,pos:="period.go:111",after:=#[{ on:=5,ground:=Go.Ground.data },{ on:=10,ground:=Go.Ground.data }],guard:=none }
abbrev vpm8_12:Oper:={ dst:=some 66,op:=Go.Op.move (Go.Operand.tmp 65),type:=4,pos:="period.go:111",after:=#[{ on:=11,ground:=Go.Ground.data },{ on:=9,ground:=Go.Ground.chain }],guard:=none }
abbrev vpm8_13:Oper:={ dst:=some 67,op:=Go.Op.load 34 (Go.Operand.tmp 2),type:=34,pos:="period.go:111",after:=#[{ on:=12,ground:=Go.Ground.guard }],guard:=some (12,false) }
abbrev vpm8_14:Oper:={ dst:=some 68,op:=Go.Op.fieldAddr 44 (Go.Operand.tmp 6) 0,type:=0,pos:="period.go:111",after:=#[{ on:=12,ground:=Go.Ground.guard }],guard:=some (12,false) }
abbrev vpm8_15:Oper:={ dst:=some 69,op:=Go.Op.load 9 (Go.Operand.tmp 68),type:=9,pos:="period.go:111",after:=#[{ on:=14,ground:=Go.Ground.data },{ on:=12,ground:=Go.Ground.guard }],guard:=some (12,false) }
abbrev vpm8_16:Oper:={ dst:=some 70,op:=Go.Op.call { callee:=Go.Callee.value (Go.Operand.func 44),args:=#[Go.Operand.tmp 67,Go.Operand.tmp 69],argTypes:=#[34,9] },type:=3,pos:="period.go:111",after:=#[{ on:=13,ground:=Go.Ground.data },{ on:=15,ground:=Go.Ground.data },{ on:=12,ground:=Go.Ground.chain },{ on:=12,ground:=Go.Ground.guard }],guard:=some (12,false) }
abbrev vpm8_17:Oper:={ dst:=some 71,op:=Go.Op.binOp Go.BinOp.leq 3 (Go.Operand.tmp 70) (Go.Operand.const (Go.Value.int Go.IntKind.i64 0)) 3,type:=4,pos:="period.go:111",after:=#[{ on:=16,ground:=Go.Ground.data },{ on:=12,ground:=Go.Ground.guard }],guard:=some (12,false) }
abbrev vpm8_18:Oper:={ dst:=some 72,op:=Go.Op.pick (Go.Operand.tmp 66) (Go.Operand.const (Go.Value.bool true)) (Go.Operand.tmp 71),type:=4,pos:="period.go:111",after:=#[{ on:=12,ground:=Go.Ground.data },{ on:=17,ground:=Go.Ground.data }],guard:=none }
abbrev vpm8_19:Oper:={ dst:=some 73,op:=Go.Op.move (Go.Operand.tmp 72),type:=4,pos:="period.go:111",after:=#[{ on:=18,ground:=Go.Ground.data },{ on:=16,ground:=Go.Ground.chain }],guard:=none }
abbrev vpm8_20:Oper:={ dst:=some 74,op:=Go.Op.load 34 (Go.Operand.tmp 2),type:=34,pos:="period.go:111",after:=#[{ on:=19,ground:=Go.Ground.guard }],guard:=some (19,false) }
abbrev vpm8_21:Oper:={ dst:=some 75,op:=Go.Op.fieldAddr 44 (Go.Operand.tmp 6) 1,type:=0,pos:="period.go:111",after:=#[{ on:=19,ground:=Go.Ground.guard }],guard:=some (19,false) }
abbrev vpm8_22:Oper:={ dst:=some 76,op:=Go.Op.load 9 (Go.Operand.tmp 75),type:=9,pos:="period.go:111",after:=#[{ on:=21,ground:=Go.Ground.data },{ on:=19,ground:=Go.Ground.guard }],guard:=some (19,false) }
abbrev vpm8_23:Oper:={ dst:=some 77,op:=Go.Op.call { callee:=Go.Callee.value (Go.Operand.func 45),args:=#[Go.Operand.tmp 74,Go.Operand.tmp 76],argTypes:=#[34,9] },type:=3,pos:="period.go:111",after:=#[{ on:=20,ground:=Go.Ground.data },{ on:=22,ground:=Go.Ground.data },{ on:=19,ground:=Go.Ground.chain },{ on:=19,ground:=Go.Ground.guard }],guard:=some (19,false) }
abbrev vpm8_24:Oper:={ dst:=some 78,op:=Go.Op.load 34 (Go.Operand.tmp 2),type:=34,pos:="period.go:111",after:=#[{ on:=19,ground:=Go.Ground.guard }],guard:=some (19,false) }
abbrev vpm8_25:Oper:={ dst:=some 79,op:=Go.Op.fieldAddr 44 (Go.Operand.tmp 5) 1,type:=0,pos:="period.go:111",after:=#[{ on:=19,ground:=Go.Ground.guard }],guard:=some (19,false) }
abbrev vpm8_26:Oper:={ dst:=some 80,op:=Go.Op.load 9 (Go.Operand.tmp 79),type:=9,pos:="period.go:111",after:=#[{ on:=25,ground:=Go.Ground.data },{ on:=19,ground:=Go.Ground.guard }],guard:=some (19,false) }
abbrev vpm8_27:Oper:={ dst:=some 81,op:=Go.Op.call { callee:=Go.Callee.value (Go.Operand.func 45),args:=#[Go.Operand.tmp 78,Go.Operand.tmp 80],argTypes:=#[34,9] },type:=3,pos:="period.go:111",after:=#[{ on:=24,ground:=Go.Ground.data },{ on:=26,ground:=Go.Ground.data },{ on:=23,ground:=Go.Ground.chain },{ on:=19,ground:=Go.Ground.guard }],guard:=some (19,false) }
abbrev vpm8_28:Oper:={ dst:=some 82,op:=Go.Op.binOp Go.BinOp.leq 3 (Go.Operand.tmp 77) (Go.Operand.tmp 81) 3,type:=4,pos:="period.go:111",after:=#[{ on:=23,ground:=Go.Ground.data },{ on:=27,ground:=Go.Ground.data },{ on:=19,ground:=Go.Ground.guard }],guard:=some (19,false) }
abbrev vpm8_29:Oper:={ dst:=some 83,op:=Go.Op.pick (Go.Operand.tmp 73) (Go.Operand.const (Go.Value.bool true)) (Go.Operand.tmp 82),type:=4,pos:="period.go:111",after:=#[{ on:=19,ground:=Go.Ground.data },{ on:=28,ground:=Go.Ground.data }],guard:=none }
set_option maxRecDepth 100000 in
set_option maxHeartbeats 8000000 in
theorem period_May (w:World) (v u:Value) (c:CoreM) (ps:List PerM) (hv:CoreIn w v c) (hu:PersIn w u ps) (hrl:c.rows.length≤1000000) (hcl:c.cols.length≤1000000) (hpl:ps.length≤1000000000):Calls Tryz.prog 12 #[v,u] w (Keeps (.int .i64 (mayTime c ps)) w):=by
 have HV:=Lib.hid hv
 obtain ⟨rv,cv,rfl,⟨rA,rc,rfl,hrc,_⟩,⟨cA,cc,rfl,hcc,_⟩⟩:=hv
 obtain ⟨pA,pc,rfl,hpc,hper⟩:=hu
 have HP:=Lib.hid hper
 clear hper
 obtain ⟨n,hn⟩:∃ n,n=ps.length:=⟨_,rfl⟩
 rw[← hn]at hpl hpc
 by_cases h2:n<2
 ·have hR:Hid (mayTime c ps=1):=by
   rcases ps with _|⟨a,_|⟨b,l⟩⟩
   ·exact Lib.hid rfl
   ·exact Lib.hid rfl
   ·exfalso;simp at hn;omega
  rw[hR.out,← hn]
  have h2i:(n:Int)<2:=by omega
  clear hn h2
  go_enter Tryz.func12,Tryz.ntmps12
  go_wp2_with fail
  go_ret
  exact ⟨rfl,(Below.refl _ _).alloc (Nat.le_refl _) _⟩
 ·by_cases h3:2<n
  ·have hR:Hid (mayTime c ps=7):=by
    rcases ps with _|⟨a,_|⟨b,_|⟨d,l⟩⟩⟩
    ·exfalso;simp at hn;omega
    ·exfalso;simp at hn;omega
    ·exfalso;simp at hn;omega
    ·exact Lib.hid rfl
   rw[hR.out,← hn]
   have h2i:¬ (n:Int)<2:=by omega
   have h3i:(2:Int)<(n:Int):=by omega
   clear hn h2 h3
   go_enter Tryz.func12,Tryz.ntmps12
   go_wp2_with fail
   go_ret
   exact ⟨rfl,(Below.refl _ _).alloc (Nat.le_refl _) _⟩
  ·obtain rfl:n=2:=by omega
   obtain ⟨a,b,rfl⟩:∃ a b,ps = [a,b]:=by
    rcases ps with _|⟨a,_|⟨b,_|⟨d,l⟩⟩⟩
    ·simp at hn
    ·simp at hn
    ·exact ⟨a,b,rfl⟩
    ·simp at hn
   obtain ⟨g,o,rfl,a0,a1,a2⟩:=HP.out 0 a rfl
   obtain ⟨g',o',e,b0,b1,b2⟩:=HP.out 1 b rfl
   injection e with e;injection e with e1 e2
   subst e1;subst e2
   obtain ⟨ac,ar,an⟩:=a
   obtain ⟨bc,br,bn⟩:=b
   dsimp only at a0 a1 a2 b0 b1 b2
   have hM:Hid (mayTime c [(ac,ar,an),(bc,br,bn)]=if colAt c ac<0∨colAt c bc<0∨Vic.rowAt c ar<0∨Vic.rowAt c br<0∨an=bn then 4 else if colAt c ac≠0∨1<Vic.rowAt c ar∨colAt c bc≤0∨Vic.rowAt c br≤Vic.rowAt c ar then 5 else 0):=rfl
   generalize mayTime c [(ac,ar,an),(bc,br,bn)]=res at *
   obtain ⟨w1,hw1⟩:∃ X,X=w.alloc (.cells #[.string ⟨c.name.toArray⟩,.string ⟨c.obj.toArray⟩,.slice rA c.rows.length rc,.slice cA c.cols.length cc] 34):=⟨_,rfl⟩
   have hb1:Below w.heap.size w w1:=by rw[hw1];exact (Below.refl _ _).alloc (Nat.le_refl _) _
   have hrow:Row w1 w.heap.size 34 #[.string ⟨c.name.toArray⟩,.string ⟨c.obj.toArray⟩,.slice rA c.rows.length rc,.slice cA c.cols.length cc]:=by rw[hw1];exact Row.new _ _ _
   have A0:=cell_keep a0 hb1;have A1:=cell_keep a1 hb1;have A2:=cell_keep a2 hb1
   have B0:=cell_keep b0 hb1;have B1:=cell_keep b1 hb1;have B2:=cell_keep b2 hb1
   have HROW:=Lib.hid hrow
   have HB1:=Lib.hid hb1
   have HV1:=Lib.hid (HV.out.keep hb1)
   clear a0 a1 a2 b0 b1 b2 hb1 hrow HV h2 h3 hn
   go_enter Tryz.func12,Tryz.ntmps12
   go_upto_region 5 with fail
   rw[← hw1]
   clear hw1
   have gl:g<w1.heap.size:=block_lt A0
   have n0:=World.new_ne w1 ⟨g,o+0*3,none⟩ A0
   have A0':w1.cell? ⟨g,o,none⟩=some (.string ⟨ac.toArray⟩):=by simpa using A0
   have A1':w1.cell? ⟨g,o+1,none⟩=some (.string ⟨ar.toArray⟩):=by simpa using A1
   have A2':w1.cell? ⟨g,o+2,none⟩=some (.string ⟨an.toArray⟩):=by simpa using A2
   have B0':w1.cell? ⟨g,o+3,none⟩=some (.string ⟨bc.toArray⟩):=by simpa using B0
   have B1':w1.cell? ⟨g,o+4,none⟩=some (.string ⟨br.toArray⟩):=by simpa using B1
   have B2':w1.cell? ⟨g,o+5,none⟩=some (.string ⟨bn.toArray⟩):=by simpa using B2
   clear A0 A1 A2 B0 B1 B2
   go_cut [5,6] (fun p q wc=>∃ p1 p2:Nat,p=.pointer (some ⟨p1,0,none⟩)∧q=.pointer (some ⟨p2,0,none⟩)∧Hid (Row wc p1 44 #[.string ⟨ac.toArray⟩,.string ⟨ar.toArray⟩,.string ⟨an.toArray⟩])∧Hid (Row wc p2 44 #[.string ⟨bc.toArray⟩,.string ⟨br.toArray⟩,.string ⟨bn.toArray⟩])∧Hid (Below w1.heap.size w1 wc))
   case first=>
    go_region_held3 (fun W=>W.cell? ⟨g,o,none⟩=some (.string ⟨ac.toArray⟩)∧W.cell? ⟨g,o+1,none⟩=some (.string ⟨ar.toArray⟩)∧W.cell? ⟨g,o+2,none⟩=some (.string ⟨an.toArray⟩)∧W.cell? ⟨g,o+3,none⟩=some (.string ⟨bc.toArray⟩)∧W.cell? ⟨g,o+4,none⟩=some (.string ⟨br.toArray⟩)∧W.cell? ⟨g,o+5,none⟩=some (.string ⟨bn.toArray⟩)) (first|go_keep|(exact ⟨A0',A1',A2',B0',B1',B2'⟩)) (fail)
    ·go_wp2_with fail
     go_meet
     have tr:=two_rows w1 44 #[.string ⟨ac.toArray⟩,.string ⟨ar.toArray⟩,.string ⟨an.toArray⟩] #[.string ⟨bc.toArray⟩,.string ⟨br.toArray⟩,.string ⟨bn.toArray⟩]
     exact ⟨_,_,rfl,rfl,Lib.hid tr.1,Lib.hid tr.2.1,Lib.hid tr.2.2⟩
    ·go_wp2_with fail
     go_meet
     have tr:=two_rows w1 44 #[.string ⟨bc.toArray⟩,.string ⟨br.toArray⟩,.string ⟨bn.toArray⟩] #[.string ⟨ac.toArray⟩,.string ⟨ar.toArray⟩,.string ⟨an.toArray⟩]
     exact ⟨_,_,rfl,rfl,Lib.hid tr.2.1,Lib.hid tr.1,Lib.hid tr.2.2⟩
   case rest=>
    obtain ⟨p1,p2,rfl,rfl,HA,HB,HBC⟩:=hcut
    obtain ⟨bx,hbq⟩:∃ b,b=w.heap.size:=⟨_,rfl⟩
    have HALL:Hid (∀ W,Below wc.heap.size wc W→W.cell? ⟨bx,0,none⟩=some (.string ⟨c.name.toArray⟩)∧W.cell? ⟨bx,1,none⟩=some (.string ⟨c.obj.toArray⟩)∧W.cell? ⟨bx,2,none⟩=some (.slice rA c.rows.length rc)∧W.cell? ⟨bx,3,none⟩=some (.slice cA c.cols.length cc) ∧
     W.cell? ⟨p1,0,none⟩=some (.string ⟨ac.toArray⟩)∧W.cell? ⟨p1,1,none⟩=some (.string ⟨ar.toArray⟩)∧W.cell? ⟨p1,2,none⟩=some (.string ⟨an.toArray⟩)∧W.cell? ⟨p2,0,none⟩=some (.string ⟨bc.toArray⟩)∧W.cell? ⟨p2,1,none⟩=some (.string ⟨br.toArray⟩)∧W.cell? ⟨p2,2,none⟩=some (.string ⟨bn.toArray⟩)):=Lib.hid fun W hW=>by
     have h0:=(HROW.out.keep HBC.out).keep hW
     have h1:=HA.out.keep hW
     have h2:=HB.out.keep hW
     rw[← hbq]at h0
     exact ⟨h0.cell 0,h0.cell 1,h0.cell 2,h0.cell 3,h1.cell 0,h1.cell 1,h1.cell 2,h2.cell 0,h2.cell 1,h2.cell 2⟩
    have PC:Hid (∀ W s,Below wc.heap.size wc W→Calls Tryz.prog 44 #[.agg #[.string ⟨c.name.toArray⟩,.string ⟨c.obj.toArray⟩,.slice rA c.rows.length rc,.slice cA c.cols.length cc],.string ⟨s.toArray⟩] W (Keeps (.int .i64 (colAt c s)) W)):=Lib.hid fun W s hW=>period_col W _ c s ((HV1.out.keep HBC.out).keep hW) hcl
    have PR:Hid (∀ W s,Below wc.heap.size wc W→Calls Tryz.prog 45 #[.agg #[.string ⟨c.name.toArray⟩,.string ⟨c.obj.toArray⟩,.slice rA c.rows.length rc,.slice cA c.cols.length cc],.string ⟨s.toArray⟩] W (Keeps (.int .i64 (Vic.rowAt c s)) W)):=Lib.hid fun W s hW=>period_row W _ c s ((HV1.out.keep HBC.out).keep hW) hrl
    have HWC:=Lib.hid (below_seq HB1.out HBC.out)
    rw[← hbq]
    have hka:=idxT_ge (c.cols.map (·.name)) ac
    have hkb:=idxT_ge (c.cols.map (·.name)) bc
    have hra : -1≤Vic.rowAt c ar∧Vic.rowAt c ar≤1000000:=rowAt_ge c ar hrl
    have hrb : -1≤Vic.rowAt c br∧Vic.rowAt c br≤1000000:=rowAt_ge c br hrl
    have hka2 : -1≤colAt c ac∧colAt c ac≤1000000:=⟨hka.1,by have:=hka.2;rw[List.length_map]at this;show idxT _ _≤_;omega⟩
    have hkb2 : -1≤colAt c bc∧colAt c bc≤1000000:=⟨hkb.1,by have:=hkb.2;rw[List.length_map]at this;show idxT _ _≤_;omega⟩
    clear hka hkb HROW HB1 HV1 HA HB HBC hbq A0' A1' A2' B0' B1' B2' n0 gl
    have PCA:Hid (∀ W,Below wc.heap.size wc W→Calls Tryz.prog 44 #[.agg #[.string ⟨c.name.toArray⟩,.string ⟨c.obj.toArray⟩,.slice rA c.rows.length rc,.slice cA c.cols.length cc],.string ⟨ac.toArray⟩] W (Keeps (.int .i64 (colAt c ac)) W)):=Lib.hid fun W hW=>PC.out W ac hW
    have PCB:Hid (∀ W,Below wc.heap.size wc W→Calls Tryz.prog 44 #[.agg #[.string ⟨c.name.toArray⟩,.string ⟨c.obj.toArray⟩,.slice rA c.rows.length rc,.slice cA c.cols.length cc],.string ⟨bc.toArray⟩] W (Keeps (.int .i64 (colAt c bc)) W)):=Lib.hid fun W hW=>PC.out W bc hW
    have PRA:Hid (∀ W,Below wc.heap.size wc W→Calls Tryz.prog 45 #[.agg #[.string ⟨c.name.toArray⟩,.string ⟨c.obj.toArray⟩,.slice rA c.rows.length rc,.slice cA c.cols.length cc],.string ⟨ar.toArray⟩] W (Keeps (.int .i64 (Vic.rowAt c ar)) W)):=Lib.hid fun W hW=>PR.out W ar hW
    have PRB:Hid (∀ W,Below wc.heap.size wc W→Calls Tryz.prog 45 #[.agg #[.string ⟨c.name.toArray⟩,.string ⟨c.obj.toArray⟩,.slice rA c.rows.length rc,.slice cA c.cols.length cc],.string ⟨br.toArray⟩] W (Keeps (.int .i64 (Vic.rowAt c br)) W)):=Lib.hid fun W hW=>PR.out W br hW
    clear PC PR
    generalize colAt c ac=k1 at *
    generalize colAt c bc=k2 at *
    generalize Vic.rowAt c ar=r1 at *
    generalize Vic.rowAt c br=r2 at *
    obtain ⟨q1,q2⟩:=hka2;obtain ⟨q3,q4⟩:=hkb2;obtain ⟨q5,q6⟩:=hra;obtain ⟨q7,q8⟩:=hrb
    obtain ⟨C0,C1,C2,C3,A0,A1,A2,B0,B1,B2⟩:=HALL.out wc (Below.refl _ _)
    go_upto_region 6 with fail
    go_cut [53] (fun t wd=>∃ b:Bool,t=.bool b∧Hid (b=decide (k1<0∨k2<0∨r1<0∨r2<0∨an=bn))∧Hid (Below wc.heap.size wc wd))
    case first=>
     have P1:=Lib.hid (PCA.out wc (Below.refl _ _))
     go_wp2_with fail
     refine P1.out.mono ?_
     rintro e w2 ⟨rfl,H2⟩
     have P2:=Lib.hid (PCB.out w2 H2)
     obtain ⟨C0',C1',C2',C3',A0',A1',A2',B0',B1',B2'⟩:=HALL.out w2 H2
     have H2h:=Lib.hid H2
     clear H2 C0 C1 C2 C3 A0 A1 A2 B0 B1 B2
     by_cases c1:k1<0
     ·go_wp2_with fail
      go_meet
      exact ⟨true,rfl,Lib.hid (by simp[c1]),H2h⟩
     ·go_wp2_with fail
      refine P2.out.mono ?_
      rintro e w3 ⟨rfl,H3'⟩
      have H3:=below_seq H2h.out H3'
      have P3:=Lib.hid (PRA.out w3 H3)
      obtain ⟨C0,C1,C2,C3,A0,A1,A2,B0,B1,B2⟩:=HALL.out w3 H3
      have H3h:=Lib.hid H3
      clear H3 H3' C0' C1' C2' C3' A0' A1' A2' B0' B1' B2' P2
      by_cases c2:k2<0
      ·go_wp2_with fail
       go_meet
       exact ⟨true,rfl,Lib.hid (by simp[c2]),H3h⟩
      ·go_wp2_with fail
       refine P3.out.mono ?_
       rintro e w4 ⟨rfl,H4'⟩
       have H4:=below_seq H3h.out H4'
       have P4:=Lib.hid (PRB.out w4 H4)
       obtain ⟨C0',C1',C2',C3',A0',A1',A2',B0',B1',B2'⟩:=HALL.out w4 H4
       have H4h:=Lib.hid H4
       clear H4 H4' C0 C1 C2 C3 A0 A1 A2 B0 B1 B2 P3
       by_cases c3:r1<0
       ·go_wp2_with fail
        go_meet
        exact ⟨true,rfl,Lib.hid (by simp[c3]),H4h⟩
       ·go_wp2_with fail
        refine P4.out.mono ?_
        rintro e w5 ⟨rfl,H5'⟩
        have H5:=below_seq H4h.out H5'
        obtain ⟨C0,C1,C2,C3,A0,A1,A2,B0,B1,B2⟩:=HALL.out w5 H5
        have H5h:=Lib.hid H5
        clear H5 H5' C0' C1' C2' C3' A0' A1' A2' B0' B1' B2' P4
        by_cases c4:r2<0
        ·go_wp2_with fail
         go_meet
         exact ⟨true,rfl,Lib.hid (by simp[c4]),H5h⟩
        ·by_cases c5:an=bn
         ·have c51:(an == bn)=true:=beq_iff_eq.2 c5
          have HC:=Lib.hid c5
          clear c5
          go_wp2_with fail
          go_meet
          exact ⟨true,rfl,Lib.hid (by simp[HC.out]),H5h⟩
         ·have c51:(an == bn)=false:=beq_eq_false_iff_ne.2 c5
          have HC:=Lib.hid c5
          clear c5
          go_wp2_with fail
          go_meet
          exact ⟨false,congrArg Value.bool (by rw[decide_eq_false (by omega),decide_eq_false (by omega),decide_eq_false (by omega),decide_eq_false (by omega)];rfl),Lib.hid (decide_eq_false (by
           rintro (h|h|h|h|h)
           ·omega
           ·omega
           ·omega
           ·omega
           ·exact HC.out h)).symm,H5h⟩
    case rest=>
     obtain ⟨b,rfl,HBQ,HWD⟩:=hcut
     clear C0 C1 C2 C3 A0 A1 A2 B0 B1 B2
     cases b
     ·have hcn:¬ (k1<0∨k2<0∨r1<0∨r2<0∨an=bn):=of_decide_eq_false HBQ.out.symm
      have HM2:Hid (res=if k1≠0∨1<r1∨k2≤0∨r2≤r1 then 5 else 0):=Lib.hid (by rw[hM.out,if_neg hcn])
      clear hM hcn HBQ
      have PCA':=Lib.hid (fun W (hW:Below wc.heap.size wc W)=>PCA.out W (below_seq HWD.out hW))
      have PCB':=Lib.hid (fun W (hW:Below wc.heap.size wc W)=>PCB.out W (below_seq HWD.out hW))
      have PRA':=Lib.hid (fun W (hW:Below wc.heap.size wc W)=>PRA.out W (below_seq HWD.out hW))
      have PRB':=Lib.hid (fun W (hW:Below wc.heap.size wc W)=>PRB.out W (below_seq HWD.out hW))
      have HA':=Lib.hid (fun W (hW:Below wc.heap.size wc W)=>HALL.out W (below_seq HWD.out hW))
      have HBW:=Lib.hid (below_seq HWC.out HWD.out)
      obtain ⟨C0,C1,C2,C3,A0,A1,A2,B0,B1,B2⟩:=HA'.out wc (Below.refl _ _)
      have hb0:Below wc.heap.size wc wc:=Below.refl _ _
      clear PCA PCB PRA PRB HALL HWD HWC
      go_upto_region 8 with fail
      by_cases c1:k1≠0
      ·have c11:(k1 != 0)=true:=by simp[c1]
       refine wp_region_held (S:=fun W=>Below wc.heap.size wc W) (by kernel_rfl) ?_
       change wpAnyH _ _ _ _ _ _ _ _ (World.drew _)
       obtain ⟨W0,hW0⟩:∃ X,X=(wc).drew:=⟨_,rfl⟩
       rw[← hW0]
       have z0:Below (wc).heap.size (wc) W0:=by rw[hW0];exact Below.drewN_ (Below.refl _ _) 1
       clear hW0
       refine tkH (i:=0) (oi:=vpm8_0) (v:=.agg #[.string ⟨c.name.toArray⟩,.string ⟨c.obj.toArray⟩,.slice rA c.rows.length rc,.slice cA c.cols.length cc]) (by kernel_rfl) rfl (fun _ _ _ h=>h) ?_ (z0) ?_
       ·intro w hSw;obtain ⟨C0,C1,C2,C3,A0,A1,A2,B0,B1,B2⟩:=HA'.out w hSw;go_simp<;>first|omega|(intro hh;exfalso;omega)|rfl
       try simp only[Act.put,qa,qb,qc,vpm8_0]
       refine tkH (i:=1) (oi:=vpm8_1) (v:=.pointer (some ⟨p1,0,none⟩)) (by kernel_rfl) rfl (fun _ _ _ h=>h) ?_ (z0) ?_
       ·intro w hSw;go_simp<;>first|omega|(intro hh;exfalso;omega)|rfl
       try simp only[Act.put,qa,qb,qc,vpm8_1]
       refine tkH (i:=2) (oi:=vpm8_2) (v:=.string ⟨ac.toArray⟩) (by kernel_rfl) rfl (fun _ _ _ h=>h) ?_ (z0) ?_
       ·intro w hSw;obtain ⟨C0,C1,C2,C3,A0,A1,A2,B0,B1,B2⟩:=HA'.out w hSw;go_simp<;>first|omega|(intro hh;exfalso;omega)|rfl
       try simp only[Act.put,qa,qb,qc,vpm8_2]
       refine oneH (i:=3) (o:=vpm8_3) (by kernel_rfl) rfl ?_
       intro K hK
       simp only[vpm8_3]
       go_simp
       go_at_call 44
       refine (PCA'.out _ z0).mono ?_
       rintro e' V1 ⟨rfl,b1⟩
       have z1:=below_seq z0 b1
       refine hK.out _ _ (z1) (fun hHeld=>?_)
       clear hK K hHeld
       try simp only[Act.put,qa,qb,qc]
       refine tkH (i:=4) (oi:=vpm8_4) (v:=.bool true) (by kernel_rfl) rfl (fun _ _ _ h=>h) ?_ (z1) ?_
       ·intro w hSw;go_simp<;>first|omega|(intro hh;exfalso;omega)|rfl
       try simp only[Act.put,qa,qb,qc,vpm8_4]
       refine tkH (i:=5) (oi:=vpm8_5) (v:=.bool true) (by kernel_rfl) rfl (fun _ _ _ h=>h) ?_ (z1) ?_
       ·intro w hSw;go_simp<;>first|omega|(intro hh;exfalso;omega)|rfl
       try simp only[Act.put,qa,qb,qc,vpm8_5]
       refine wpAnyH_take (i:=6) (oi:=vpm8_6) (v:=undef) rfl (by kernel_rfl) (by kernel_rfl) (by kernel_rfl) (fun _ _ _ h=>h) (Or.inr ⟨by kernel_rfl,rfl⟩) (z1) ?_
       try simp only[Act.put,qa,qb,qc,vpm8_6]
       refine wpAnyH_take (i:=7) (oi:=vpm8_7) (v:=undef) rfl (by kernel_rfl) (by kernel_rfl) (by kernel_rfl) (fun _ _ _ h=>h) (Or.inr ⟨by kernel_rfl,rfl⟩) (z1) ?_
       try simp only[Act.put,qa,qb,qc,vpm8_7]
       refine wpAnyH_take (i:=8) (oi:=vpm8_8) (v:=undef) rfl (by kernel_rfl) (by kernel_rfl) (by kernel_rfl) (fun _ _ _ h=>h) (Or.inr ⟨by kernel_rfl,rfl⟩) (z1) ?_
       try simp only[Act.put,qa,qb,qc,vpm8_8]
       refine wpAnyH_take (i:=9) (oi:=vpm8_9) (v:=undef) rfl (by kernel_rfl) (by kernel_rfl) (by kernel_rfl) (fun _ _ _ h=>h) (Or.inr ⟨by kernel_rfl,rfl⟩) (z1) ?_
       try simp only[Act.put,qa,qb,qc,vpm8_9]
       refine wpAnyH_take (i:=10) (oi:=vpm8_10) (v:=undef) rfl (by kernel_rfl) (by kernel_rfl) (by kernel_rfl) (fun _ _ _ h=>h) (Or.inr ⟨by kernel_rfl,rfl⟩) (z1) ?_
       try simp only[Act.put,qa,qb,qc,vpm8_10]
       refine tkH (i:=11) (oi:=vpm8_11) (v:=.bool true) (by kernel_rfl) rfl (fun _ _ _ h=>h) ?_ (z1) ?_
       ·intro w hSw;go_simp<;>first|omega|(intro hh;exfalso;omega)|rfl
       try simp only[Act.put,qa,qb,qc,vpm8_11]
       refine tkH (i:=12) (oi:=vpm8_12) (v:=.bool true) (by kernel_rfl) rfl (fun _ _ _ h=>h) ?_ (z1) ?_
       ·intro w hSw;go_simp<;>first|omega|(intro hh;exfalso;omega)|rfl
       try simp only[Act.put,qa,qb,qc,vpm8_12]
       refine wpAnyH_take (i:=13) (oi:=vpm8_13) (v:=undef) rfl (by kernel_rfl) (by kernel_rfl) (by kernel_rfl) (fun _ _ _ h=>h) (Or.inr ⟨by kernel_rfl,rfl⟩) (z1) ?_
       try simp only[Act.put,qa,qb,qc,vpm8_13]
       refine wpAnyH_take (i:=14) (oi:=vpm8_14) (v:=undef) rfl (by kernel_rfl) (by kernel_rfl) (by kernel_rfl) (fun _ _ _ h=>h) (Or.inr ⟨by kernel_rfl,rfl⟩) (z1) ?_
       try simp only[Act.put,qa,qb,qc,vpm8_14]
       refine wpAnyH_take (i:=15) (oi:=vpm8_15) (v:=undef) rfl (by kernel_rfl) (by kernel_rfl) (by kernel_rfl) (fun _ _ _ h=>h) (Or.inr ⟨by kernel_rfl,rfl⟩) (z1) ?_
       try simp only[Act.put,qa,qb,qc,vpm8_15]
       refine wpAnyH_take (i:=16) (oi:=vpm8_16) (v:=undef) rfl (by kernel_rfl) (by kernel_rfl) (by kernel_rfl) (fun _ _ _ h=>h) (Or.inr ⟨by kernel_rfl,rfl⟩) (z1) ?_
       try simp only[Act.put,qa,qb,qc,vpm8_16]
       refine wpAnyH_take (i:=17) (oi:=vpm8_17) (v:=undef) rfl (by kernel_rfl) (by kernel_rfl) (by kernel_rfl) (fun _ _ _ h=>h) (Or.inr ⟨by kernel_rfl,rfl⟩) (z1) ?_
       try simp only[Act.put,qa,qb,qc,vpm8_17]
       refine tkH (i:=18) (oi:=vpm8_18) (v:=.bool true) (by kernel_rfl) rfl (fun _ _ _ h=>h) ?_ (z1) ?_
       ·intro w hSw;go_simp<;>first|omega|(intro hh;exfalso;omega)|rfl
       try simp only[Act.put,qa,qb,qc,vpm8_18]
       refine tkH (i:=19) (oi:=vpm8_19) (v:=.bool true) (by kernel_rfl) rfl (fun _ _ _ h=>h) ?_ (z1) ?_
       ·intro w hSw;go_simp<;>first|omega|(intro hh;exfalso;omega)|rfl
       try simp only[Act.put,qa,qb,qc,vpm8_19]
       refine wpAnyH_take (i:=20) (oi:=vpm8_20) (v:=undef) rfl (by kernel_rfl) (by kernel_rfl) (by kernel_rfl) (fun _ _ _ h=>h) (Or.inr ⟨by kernel_rfl,rfl⟩) (z1) ?_
       try simp only[Act.put,qa,qb,qc,vpm8_20]
       refine wpAnyH_take (i:=21) (oi:=vpm8_21) (v:=undef) rfl (by kernel_rfl) (by kernel_rfl) (by kernel_rfl) (fun _ _ _ h=>h) (Or.inr ⟨by kernel_rfl,rfl⟩) (z1) ?_
       try simp only[Act.put,qa,qb,qc,vpm8_21]
       refine wpAnyH_take (i:=22) (oi:=vpm8_22) (v:=undef) rfl (by kernel_rfl) (by kernel_rfl) (by kernel_rfl) (fun _ _ _ h=>h) (Or.inr ⟨by kernel_rfl,rfl⟩) (z1) ?_
       try simp only[Act.put,qa,qb,qc,vpm8_22]
       refine wpAnyH_take (i:=23) (oi:=vpm8_23) (v:=undef) rfl (by kernel_rfl) (by kernel_rfl) (by kernel_rfl) (fun _ _ _ h=>h) (Or.inr ⟨by kernel_rfl,rfl⟩) (z1) ?_
       try simp only[Act.put,qa,qb,qc,vpm8_23]
       refine wpAnyH_take (i:=24) (oi:=vpm8_24) (v:=undef) rfl (by kernel_rfl) (by kernel_rfl) (by kernel_rfl) (fun _ _ _ h=>h) (Or.inr ⟨by kernel_rfl,rfl⟩) (z1) ?_
       try simp only[Act.put,qa,qb,qc,vpm8_24]
       refine wpAnyH_take (i:=25) (oi:=vpm8_25) (v:=undef) rfl (by kernel_rfl) (by kernel_rfl) (by kernel_rfl) (fun _ _ _ h=>h) (Or.inr ⟨by kernel_rfl,rfl⟩) (z1) ?_
       try simp only[Act.put,qa,qb,qc,vpm8_25]
       refine wpAnyH_take (i:=26) (oi:=vpm8_26) (v:=undef) rfl (by kernel_rfl) (by kernel_rfl) (by kernel_rfl) (fun _ _ _ h=>h) (Or.inr ⟨by kernel_rfl,rfl⟩) (z1) ?_
       try simp only[Act.put,qa,qb,qc,vpm8_26]
       refine wpAnyH_take (i:=27) (oi:=vpm8_27) (v:=undef) rfl (by kernel_rfl) (by kernel_rfl) (by kernel_rfl) (fun _ _ _ h=>h) (Or.inr ⟨by kernel_rfl,rfl⟩) (z1) ?_
       try simp only[Act.put,qa,qb,qc,vpm8_27]
       refine wpAnyH_take (i:=28) (oi:=vpm8_28) (v:=undef) rfl (by kernel_rfl) (by kernel_rfl) (by kernel_rfl) (fun _ _ _ h=>h) (Or.inr ⟨by kernel_rfl,rfl⟩) (z1) ?_
       try simp only[Act.put,qa,qb,qc,vpm8_28]
       refine tkH (i:=29) (oi:=vpm8_29) (v:=.bool true) (by kernel_rfl) rfl (fun _ _ _ h=>h) ?_ (z1) ?_
       ·intro w hSw;go_simp<;>first|omega|(intro hh;exfalso;omega)|rfl
       try simp only[Act.put,qa,qb,qc,vpm8_29]
       refine wpAnyH_done (by kernel_rfl) ?_ _
       have ZZ:=Lib.hid (below_seq HBW.out z1)
       go_wp2_with fail
       go_ret
       exact ⟨by rw[HM2.out,if_pos (.inl c1)];rfl,ZZ.out⟩
      ·have c11:(k1 != 0)=false:=by simpa using c1
       have c12:k1=0:=by omega
       by_cases c2:1<r1
       ·have HC1:=Lib.hid c1
        clear c1 c12
        refine wp_region_held (S:=fun W=>Below wc.heap.size wc W) (by kernel_rfl) ?_
        change wpAnyH _ _ _ _ _ _ _ _ (World.drew _)
        obtain ⟨W0,hW0⟩:∃ X,X=(wc).drew:=⟨_,rfl⟩
        rw[← hW0]
        have z0:Below (wc).heap.size (wc) W0:=by rw[hW0];exact Below.drewN_ (Below.refl _ _) 1
        clear hW0
        refine tkH (i:=0) (oi:=vpm8_0) (v:=.agg #[.string ⟨c.name.toArray⟩,.string ⟨c.obj.toArray⟩,.slice rA c.rows.length rc,.slice cA c.cols.length cc]) (by kernel_rfl) rfl (fun _ _ _ h=>h) ?_ (z0) ?_
        ·intro w hSw;obtain ⟨C0,C1,C2,C3,A0,A1,A2,B0,B1,B2⟩:=HA'.out w hSw;go_simp<;>first|omega|(intro hh;exfalso;omega)|rfl
        try simp only[Act.put,qa,qb,qc,vpm8_0]
        refine tkH (i:=1) (oi:=vpm8_1) (v:=.pointer (some ⟨p1,0,none⟩)) (by kernel_rfl) rfl (fun _ _ _ h=>h) ?_ (z0) ?_
        ·intro w hSw;go_simp<;>first|omega|(intro hh;exfalso;omega)|rfl
        try simp only[Act.put,qa,qb,qc,vpm8_1]
        refine tkH (i:=2) (oi:=vpm8_2) (v:=.string ⟨ac.toArray⟩) (by kernel_rfl) rfl (fun _ _ _ h=>h) ?_ (z0) ?_
        ·intro w hSw;obtain ⟨C0,C1,C2,C3,A0,A1,A2,B0,B1,B2⟩:=HA'.out w hSw;go_simp<;>first|omega|(intro hh;exfalso;omega)|rfl
        try simp only[Act.put,qa,qb,qc,vpm8_2]
        refine oneH (i:=3) (o:=vpm8_3) (by kernel_rfl) rfl ?_
        intro K hK
        simp only[vpm8_3]
        go_simp
        go_at_call 44
        refine (PCA'.out _ z0).mono ?_
        rintro e' V1 ⟨rfl,b1⟩
        have z1:=below_seq z0 b1
        refine hK.out _ _ (z1) (fun hHeld=>?_)
        clear hK K hHeld
        try simp only[Act.put,qa,qb,qc]
        refine tkH (i:=4) (oi:=vpm8_4) (v:=.bool false) (by kernel_rfl) rfl (fun _ _ _ h=>h) ?_ (z1) ?_
        ·intro w hSw;go_simp<;>first|omega|(intro hh;exfalso;omega)|rfl
        try simp only[Act.put,qa,qb,qc,vpm8_4]
        refine tkH (i:=5) (oi:=vpm8_5) (v:=.bool false) (by kernel_rfl) rfl (fun _ _ _ h=>h) ?_ (z1) ?_
        ·intro w hSw;go_simp<;>first|omega|(intro hh;exfalso;omega)|rfl
        try simp only[Act.put,qa,qb,qc,vpm8_5]
        refine tkH (i:=6) (oi:=vpm8_6) (v:=.agg #[.string ⟨c.name.toArray⟩,.string ⟨c.obj.toArray⟩,.slice rA c.rows.length rc,.slice cA c.cols.length cc]) (by kernel_rfl) rfl (fun _ _ _ h=>h) ?_ (z1) ?_
        ·intro w hSw;obtain ⟨C0,C1,C2,C3,A0,A1,A2,B0,B1,B2⟩:=HA'.out w hSw;go_simp<;>first|omega|(intro hh;exfalso;omega)|rfl
        try simp only[Act.put,qa,qb,qc,vpm8_6]
        refine tkH (i:=7) (oi:=vpm8_7) (v:=.pointer (some ⟨p1,1,none⟩)) (by kernel_rfl) rfl (fun _ _ _ h=>h) ?_ (z1) ?_
        ·intro w hSw;go_simp<;>first|omega|(intro hh;exfalso;omega)|rfl
        try simp only[Act.put,qa,qb,qc,vpm8_7]
        refine tkH (i:=8) (oi:=vpm8_8) (v:=.string ⟨ar.toArray⟩) (by kernel_rfl) rfl (fun _ _ _ h=>h) ?_ (z1) ?_
        ·intro w hSw;obtain ⟨C0,C1,C2,C3,A0,A1,A2,B0,B1,B2⟩:=HA'.out w hSw;go_simp<;>first|omega|(intro hh;exfalso;omega)|rfl
        try simp only[Act.put,qa,qb,qc,vpm8_8]
        refine oneH (i:=9) (o:=vpm8_9) (by kernel_rfl) rfl ?_
        intro K hK
        simp only[vpm8_9]
        go_simp
        go_at_call 45
        refine (PRA'.out _ z1).mono ?_
        rintro e' V2 ⟨rfl,b2⟩
        have z2:=below_seq z1 b2
        refine hK.out _ _ (z2) (fun hHeld=>?_)
        clear hK K hHeld
        try simp only[Act.put,qa,qb,qc]
        refine tkH (i:=10) (oi:=vpm8_10) (v:=.bool true) (by kernel_rfl) rfl (fun _ _ _ h=>h) ?_ (z2) ?_
        ·intro w hSw;go_simp<;>first|omega|(intro hh;exfalso;omega)|rfl
        try simp only[Act.put,qa,qb,qc,vpm8_10]
        refine tkH (i:=11) (oi:=vpm8_11) (v:=.bool true) (by kernel_rfl) rfl (fun _ _ _ h=>h) ?_ (z2) ?_
        ·intro w hSw;go_simp<;>first|omega|(intro hh;exfalso;omega)|rfl
        try simp only[Act.put,qa,qb,qc,vpm8_11]
        refine tkH (i:=12) (oi:=vpm8_12) (v:=.bool true) (by kernel_rfl) rfl (fun _ _ _ h=>h) ?_ (z2) ?_
        ·intro w hSw;go_simp<;>first|omega|(intro hh;exfalso;omega)|rfl
        try simp only[Act.put,qa,qb,qc,vpm8_12]
        refine wpAnyH_take (i:=13) (oi:=vpm8_13) (v:=undef) rfl (by kernel_rfl) (by kernel_rfl) (by kernel_rfl) (fun _ _ _ h=>h) (Or.inr ⟨by kernel_rfl,rfl⟩) (z2) ?_
        try simp only[Act.put,qa,qb,qc,vpm8_13]
        refine wpAnyH_take (i:=14) (oi:=vpm8_14) (v:=undef) rfl (by kernel_rfl) (by kernel_rfl) (by kernel_rfl) (fun _ _ _ h=>h) (Or.inr ⟨by kernel_rfl,rfl⟩) (z2) ?_
        try simp only[Act.put,qa,qb,qc,vpm8_14]
        refine wpAnyH_take (i:=15) (oi:=vpm8_15) (v:=undef) rfl (by kernel_rfl) (by kernel_rfl) (by kernel_rfl) (fun _ _ _ h=>h) (Or.inr ⟨by kernel_rfl,rfl⟩) (z2) ?_
        try simp only[Act.put,qa,qb,qc,vpm8_15]
        refine wpAnyH_take (i:=16) (oi:=vpm8_16) (v:=undef) rfl (by kernel_rfl) (by kernel_rfl) (by kernel_rfl) (fun _ _ _ h=>h) (Or.inr ⟨by kernel_rfl,rfl⟩) (z2) ?_
        try simp only[Act.put,qa,qb,qc,vpm8_16]
        refine wpAnyH_take (i:=17) (oi:=vpm8_17) (v:=undef) rfl (by kernel_rfl) (by kernel_rfl) (by kernel_rfl) (fun _ _ _ h=>h) (Or.inr ⟨by kernel_rfl,rfl⟩) (z2) ?_
        try simp only[Act.put,qa,qb,qc,vpm8_17]
        refine tkH (i:=18) (oi:=vpm8_18) (v:=.bool true) (by kernel_rfl) rfl (fun _ _ _ h=>h) ?_ (z2) ?_
        ·intro w hSw;go_simp<;>first|omega|(intro hh;exfalso;omega)|rfl
        try simp only[Act.put,qa,qb,qc,vpm8_18]
        refine tkH (i:=19) (oi:=vpm8_19) (v:=.bool true) (by kernel_rfl) rfl (fun _ _ _ h=>h) ?_ (z2) ?_
        ·intro w hSw;go_simp<;>first|omega|(intro hh;exfalso;omega)|rfl
        try simp only[Act.put,qa,qb,qc,vpm8_19]
        refine wpAnyH_take (i:=20) (oi:=vpm8_20) (v:=undef) rfl (by kernel_rfl) (by kernel_rfl) (by kernel_rfl) (fun _ _ _ h=>h) (Or.inr ⟨by kernel_rfl,rfl⟩) (z2) ?_
        try simp only[Act.put,qa,qb,qc,vpm8_20]
        refine wpAnyH_take (i:=21) (oi:=vpm8_21) (v:=undef) rfl (by kernel_rfl) (by kernel_rfl) (by kernel_rfl) (fun _ _ _ h=>h) (Or.inr ⟨by kernel_rfl,rfl⟩) (z2) ?_
        try simp only[Act.put,qa,qb,qc,vpm8_21]
        refine wpAnyH_take (i:=22) (oi:=vpm8_22) (v:=undef) rfl (by kernel_rfl) (by kernel_rfl) (by kernel_rfl) (fun _ _ _ h=>h) (Or.inr ⟨by kernel_rfl,rfl⟩) (z2) ?_
        try simp only[Act.put,qa,qb,qc,vpm8_22]
        refine wpAnyH_take (i:=23) (oi:=vpm8_23) (v:=undef) rfl (by kernel_rfl) (by kernel_rfl) (by kernel_rfl) (fun _ _ _ h=>h) (Or.inr ⟨by kernel_rfl,rfl⟩) (z2) ?_
        try simp only[Act.put,qa,qb,qc,vpm8_23]
        refine wpAnyH_take (i:=24) (oi:=vpm8_24) (v:=undef) rfl (by kernel_rfl) (by kernel_rfl) (by kernel_rfl) (fun _ _ _ h=>h) (Or.inr ⟨by kernel_rfl,rfl⟩) (z2) ?_
        try simp only[Act.put,qa,qb,qc,vpm8_24]
        refine wpAnyH_take (i:=25) (oi:=vpm8_25) (v:=undef) rfl (by kernel_rfl) (by kernel_rfl) (by kernel_rfl) (fun _ _ _ h=>h) (Or.inr ⟨by kernel_rfl,rfl⟩) (z2) ?_
        try simp only[Act.put,qa,qb,qc,vpm8_25]
        refine wpAnyH_take (i:=26) (oi:=vpm8_26) (v:=undef) rfl (by kernel_rfl) (by kernel_rfl) (by kernel_rfl) (fun _ _ _ h=>h) (Or.inr ⟨by kernel_rfl,rfl⟩) (z2) ?_
        try simp only[Act.put,qa,qb,qc,vpm8_26]
        refine wpAnyH_take (i:=27) (oi:=vpm8_27) (v:=undef) rfl (by kernel_rfl) (by kernel_rfl) (by kernel_rfl) (fun _ _ _ h=>h) (Or.inr ⟨by kernel_rfl,rfl⟩) (z2) ?_
        try simp only[Act.put,qa,qb,qc,vpm8_27]
        refine wpAnyH_take (i:=28) (oi:=vpm8_28) (v:=undef) rfl (by kernel_rfl) (by kernel_rfl) (by kernel_rfl) (fun _ _ _ h=>h) (Or.inr ⟨by kernel_rfl,rfl⟩) (z2) ?_
        try simp only[Act.put,qa,qb,qc,vpm8_28]
        refine tkH (i:=29) (oi:=vpm8_29) (v:=.bool true) (by kernel_rfl) rfl (fun _ _ _ h=>h) ?_ (z2) ?_
        ·intro w hSw;go_simp<;>first|omega|(intro hh;exfalso;omega)|rfl
        try simp only[Act.put,qa,qb,qc,vpm8_29]
        refine wpAnyH_done (by kernel_rfl) ?_ _
        have ZZ:=Lib.hid (below_seq HBW.out z2)
        go_wp2_with fail
        go_ret
        exact ⟨by rw[HM2.out,if_pos (.inr (.inl c2))];rfl,ZZ.out⟩
       ·by_cases c3:k2≤0
        ·have HC1:=Lib.hid c1
         clear c1 c12
         refine wp_region_held (S:=fun W=>Below wc.heap.size wc W) (by kernel_rfl) ?_
         change wpAnyH _ _ _ _ _ _ _ _ (World.drew _)
         obtain ⟨W0,hW0⟩:∃ X,X=(wc).drew:=⟨_,rfl⟩
         rw[← hW0]
         have z0:Below (wc).heap.size (wc) W0:=by rw[hW0];exact Below.drewN_ (Below.refl _ _) 1
         clear hW0
         refine tkH (i:=0) (oi:=vpm8_0) (v:=.agg #[.string ⟨c.name.toArray⟩,.string ⟨c.obj.toArray⟩,.slice rA c.rows.length rc,.slice cA c.cols.length cc]) (by kernel_rfl) rfl (fun _ _ _ h=>h) ?_ (z0) ?_
         ·intro w hSw;obtain ⟨C0,C1,C2,C3,A0,A1,A2,B0,B1,B2⟩:=HA'.out w hSw;go_simp<;>first|omega|(intro hh;exfalso;omega)|rfl
         try simp only[Act.put,qa,qb,qc,vpm8_0]
         refine tkH (i:=1) (oi:=vpm8_1) (v:=.pointer (some ⟨p1,0,none⟩)) (by kernel_rfl) rfl (fun _ _ _ h=>h) ?_ (z0) ?_
         ·intro w hSw;go_simp<;>first|omega|(intro hh;exfalso;omega)|rfl
         try simp only[Act.put,qa,qb,qc,vpm8_1]
         refine tkH (i:=2) (oi:=vpm8_2) (v:=.string ⟨ac.toArray⟩) (by kernel_rfl) rfl (fun _ _ _ h=>h) ?_ (z0) ?_
         ·intro w hSw;obtain ⟨C0,C1,C2,C3,A0,A1,A2,B0,B1,B2⟩:=HA'.out w hSw;go_simp<;>first|omega|(intro hh;exfalso;omega)|rfl
         try simp only[Act.put,qa,qb,qc,vpm8_2]
         refine oneH (i:=3) (o:=vpm8_3) (by kernel_rfl) rfl ?_
         intro K hK
         simp only[vpm8_3]
         go_simp
         go_at_call 44
         refine (PCA'.out _ z0).mono ?_
         rintro e' V1 ⟨rfl,b1⟩
         have z1:=below_seq z0 b1
         refine hK.out _ _ (z1) (fun hHeld=>?_)
         clear hK K hHeld
         try simp only[Act.put,qa,qb,qc]
         refine tkH (i:=4) (oi:=vpm8_4) (v:=.bool false) (by kernel_rfl) rfl (fun _ _ _ h=>h) ?_ (z1) ?_
         ·intro w hSw;go_simp<;>first|omega|(intro hh;exfalso;omega)|rfl
         try simp only[Act.put,qa,qb,qc,vpm8_4]
         refine tkH (i:=5) (oi:=vpm8_5) (v:=.bool false) (by kernel_rfl) rfl (fun _ _ _ h=>h) ?_ (z1) ?_
         ·intro w hSw;go_simp<;>first|omega|(intro hh;exfalso;omega)|rfl
         try simp only[Act.put,qa,qb,qc,vpm8_5]
         refine tkH (i:=6) (oi:=vpm8_6) (v:=.agg #[.string ⟨c.name.toArray⟩,.string ⟨c.obj.toArray⟩,.slice rA c.rows.length rc,.slice cA c.cols.length cc]) (by kernel_rfl) rfl (fun _ _ _ h=>h) ?_ (z1) ?_
         ·intro w hSw;obtain ⟨C0,C1,C2,C3,A0,A1,A2,B0,B1,B2⟩:=HA'.out w hSw;go_simp<;>first|omega|(intro hh;exfalso;omega)|rfl
         try simp only[Act.put,qa,qb,qc,vpm8_6]
         refine tkH (i:=7) (oi:=vpm8_7) (v:=.pointer (some ⟨p1,1,none⟩)) (by kernel_rfl) rfl (fun _ _ _ h=>h) ?_ (z1) ?_
         ·intro w hSw;go_simp<;>first|omega|(intro hh;exfalso;omega)|rfl
         try simp only[Act.put,qa,qb,qc,vpm8_7]
         refine tkH (i:=8) (oi:=vpm8_8) (v:=.string ⟨ar.toArray⟩) (by kernel_rfl) rfl (fun _ _ _ h=>h) ?_ (z1) ?_
         ·intro w hSw;obtain ⟨C0,C1,C2,C3,A0,A1,A2,B0,B1,B2⟩:=HA'.out w hSw;go_simp<;>first|omega|(intro hh;exfalso;omega)|rfl
         try simp only[Act.put,qa,qb,qc,vpm8_8]
         refine oneH (i:=9) (o:=vpm8_9) (by kernel_rfl) rfl ?_
         intro K hK
         simp only[vpm8_9]
         go_simp
         go_at_call 45
         refine (PRA'.out _ z1).mono ?_
         rintro e' V2 ⟨rfl,b2⟩
         have z2:=below_seq z1 b2
         refine hK.out _ _ (z2) (fun hHeld=>?_)
         clear hK K hHeld
         try simp only[Act.put,qa,qb,qc]
         refine tkH (i:=10) (oi:=vpm8_10) (v:=.bool false) (by kernel_rfl) rfl (fun _ _ _ h=>h) ?_ (z2) ?_
         ·intro w hSw;go_simp<;>first|omega|(intro hh;exfalso;omega)|rfl
         try simp only[Act.put,qa,qb,qc,vpm8_10]
         refine tkH (i:=11) (oi:=vpm8_11) (v:=.bool false) (by kernel_rfl) rfl (fun _ _ _ h=>h) ?_ (z2) ?_
         ·intro w hSw;go_simp<;>first|omega|(intro hh;exfalso;omega)|rfl
         try simp only[Act.put,qa,qb,qc,vpm8_11]
         refine tkH (i:=12) (oi:=vpm8_12) (v:=.bool false) (by kernel_rfl) rfl (fun _ _ _ h=>h) ?_ (z2) ?_
         ·intro w hSw;go_simp<;>first|omega|(intro hh;exfalso;omega)|rfl
         try simp only[Act.put,qa,qb,qc,vpm8_12]
         refine tkH (i:=13) (oi:=vpm8_13) (v:=.agg #[.string ⟨c.name.toArray⟩,.string ⟨c.obj.toArray⟩,.slice rA c.rows.length rc,.slice cA c.cols.length cc]) (by kernel_rfl) rfl (fun _ _ _ h=>h) ?_ (z2) ?_
         ·intro w hSw;obtain ⟨C0,C1,C2,C3,A0,A1,A2,B0,B1,B2⟩:=HA'.out w hSw;go_simp<;>first|omega|(intro hh;exfalso;omega)|rfl
         try simp only[Act.put,qa,qb,qc,vpm8_13]
         refine tkH (i:=14) (oi:=vpm8_14) (v:=.pointer (some ⟨p2,0,none⟩)) (by kernel_rfl) rfl (fun _ _ _ h=>h) ?_ (z2) ?_
         ·intro w hSw;go_simp<;>first|omega|(intro hh;exfalso;omega)|rfl
         try simp only[Act.put,qa,qb,qc,vpm8_14]
         refine tkH (i:=15) (oi:=vpm8_15) (v:=.string ⟨bc.toArray⟩) (by kernel_rfl) rfl (fun _ _ _ h=>h) ?_ (z2) ?_
         ·intro w hSw;obtain ⟨C0,C1,C2,C3,A0,A1,A2,B0,B1,B2⟩:=HA'.out w hSw;go_simp<;>first|omega|(intro hh;exfalso;omega)|rfl
         try simp only[Act.put,qa,qb,qc,vpm8_15]
         refine oneH (i:=16) (o:=vpm8_16) (by kernel_rfl) rfl ?_
         intro K hK
         simp only[vpm8_16]
         go_simp
         go_at_call 44
         refine (PCB'.out _ z2).mono ?_
         rintro e' V3 ⟨rfl,b3⟩
         have z3:=below_seq z2 b3
         refine hK.out _ _ (z3) (fun hHeld=>?_)
         clear hK K hHeld
         try simp only[Act.put,qa,qb,qc]
         refine tkH (i:=17) (oi:=vpm8_17) (v:=.bool true) (by kernel_rfl) rfl (fun _ _ _ h=>h) ?_ (z3) ?_
         ·intro w hSw;go_simp<;>first|omega|(intro hh;exfalso;omega)|rfl
         try simp only[Act.put,qa,qb,qc,vpm8_17]
         refine tkH (i:=18) (oi:=vpm8_18) (v:=.bool true) (by kernel_rfl) rfl (fun _ _ _ h=>h) ?_ (z3) ?_
         ·intro w hSw;go_simp<;>first|omega|(intro hh;exfalso;omega)|rfl
         try simp only[Act.put,qa,qb,qc,vpm8_18]
         refine tkH (i:=19) (oi:=vpm8_19) (v:=.bool true) (by kernel_rfl) rfl (fun _ _ _ h=>h) ?_ (z3) ?_
         ·intro w hSw;go_simp<;>first|omega|(intro hh;exfalso;omega)|rfl
         try simp only[Act.put,qa,qb,qc,vpm8_19]
         refine wpAnyH_take (i:=20) (oi:=vpm8_20) (v:=undef) rfl (by kernel_rfl) (by kernel_rfl) (by kernel_rfl) (fun _ _ _ h=>h) (Or.inr ⟨by kernel_rfl,rfl⟩) (z3) ?_
         try simp only[Act.put,qa,qb,qc,vpm8_20]
         refine wpAnyH_take (i:=21) (oi:=vpm8_21) (v:=undef) rfl (by kernel_rfl) (by kernel_rfl) (by kernel_rfl) (fun _ _ _ h=>h) (Or.inr ⟨by kernel_rfl,rfl⟩) (z3) ?_
         try simp only[Act.put,qa,qb,qc,vpm8_21]
         refine wpAnyH_take (i:=22) (oi:=vpm8_22) (v:=undef) rfl (by kernel_rfl) (by kernel_rfl) (by kernel_rfl) (fun _ _ _ h=>h) (Or.inr ⟨by kernel_rfl,rfl⟩) (z3) ?_
         try simp only[Act.put,qa,qb,qc,vpm8_22]
         refine wpAnyH_take (i:=23) (oi:=vpm8_23) (v:=undef) rfl (by kernel_rfl) (by kernel_rfl) (by kernel_rfl) (fun _ _ _ h=>h) (Or.inr ⟨by kernel_rfl,rfl⟩) (z3) ?_
         try simp only[Act.put,qa,qb,qc,vpm8_23]
         refine wpAnyH_take (i:=24) (oi:=vpm8_24) (v:=undef) rfl (by kernel_rfl) (by kernel_rfl) (by kernel_rfl) (fun _ _ _ h=>h) (Or.inr ⟨by kernel_rfl,rfl⟩) (z3) ?_
         try simp only[Act.put,qa,qb,qc,vpm8_24]
         refine wpAnyH_take (i:=25) (oi:=vpm8_25) (v:=undef) rfl (by kernel_rfl) (by kernel_rfl) (by kernel_rfl) (fun _ _ _ h=>h) (Or.inr ⟨by kernel_rfl,rfl⟩) (z3) ?_
         try simp only[Act.put,qa,qb,qc,vpm8_25]
         refine wpAnyH_take (i:=26) (oi:=vpm8_26) (v:=undef) rfl (by kernel_rfl) (by kernel_rfl) (by kernel_rfl) (fun _ _ _ h=>h) (Or.inr ⟨by kernel_rfl,rfl⟩) (z3) ?_
         try simp only[Act.put,qa,qb,qc,vpm8_26]
         refine wpAnyH_take (i:=27) (oi:=vpm8_27) (v:=undef) rfl (by kernel_rfl) (by kernel_rfl) (by kernel_rfl) (fun _ _ _ h=>h) (Or.inr ⟨by kernel_rfl,rfl⟩) (z3) ?_
         try simp only[Act.put,qa,qb,qc,vpm8_27]
         refine wpAnyH_take (i:=28) (oi:=vpm8_28) (v:=undef) rfl (by kernel_rfl) (by kernel_rfl) (by kernel_rfl) (fun _ _ _ h=>h) (Or.inr ⟨by kernel_rfl,rfl⟩) (z3) ?_
         try simp only[Act.put,qa,qb,qc,vpm8_28]
         refine tkH (i:=29) (oi:=vpm8_29) (v:=.bool true) (by kernel_rfl) rfl (fun _ _ _ h=>h) ?_ (z3) ?_
         ·intro w hSw;go_simp<;>first|omega|(intro hh;exfalso;omega)|rfl
         try simp only[Act.put,qa,qb,qc,vpm8_29]
         refine wpAnyH_done (by kernel_rfl) ?_ _
         have ZZ:=Lib.hid (below_seq HBW.out z3)
         go_wp2_with fail
         go_ret
         exact ⟨by rw[HM2.out,if_pos (.inr (.inr (.inl c3)))];rfl,ZZ.out⟩
        ·by_cases c4:r2≤r1
         ·have HC1:=Lib.hid c1
          clear c1 c12
          refine wp_region_held (S:=fun W=>Below wc.heap.size wc W) (by kernel_rfl) ?_
          change wpAnyH _ _ _ _ _ _ _ _ (World.drew _)
          obtain ⟨W0,hW0⟩:∃ X,X=(wc).drew:=⟨_,rfl⟩
          rw[← hW0]
          have z0:Below (wc).heap.size (wc) W0:=by rw[hW0];exact Below.drewN_ (Below.refl _ _) 1
          clear hW0
          refine tkH (i:=0) (oi:=vpm8_0) (v:=.agg #[.string ⟨c.name.toArray⟩,.string ⟨c.obj.toArray⟩,.slice rA c.rows.length rc,.slice cA c.cols.length cc]) (by kernel_rfl) rfl (fun _ _ _ h=>h) ?_ (z0) ?_
          ·intro w hSw;obtain ⟨C0,C1,C2,C3,A0,A1,A2,B0,B1,B2⟩:=HA'.out w hSw;go_simp<;>first|omega|(intro hh;exfalso;omega)|rfl
          try simp only[Act.put,qa,qb,qc,vpm8_0]
          refine tkH (i:=1) (oi:=vpm8_1) (v:=.pointer (some ⟨p1,0,none⟩)) (by kernel_rfl) rfl (fun _ _ _ h=>h) ?_ (z0) ?_
          ·intro w hSw;go_simp<;>first|omega|(intro hh;exfalso;omega)|rfl
          try simp only[Act.put,qa,qb,qc,vpm8_1]
          refine tkH (i:=2) (oi:=vpm8_2) (v:=.string ⟨ac.toArray⟩) (by kernel_rfl) rfl (fun _ _ _ h=>h) ?_ (z0) ?_
          ·intro w hSw;obtain ⟨C0,C1,C2,C3,A0,A1,A2,B0,B1,B2⟩:=HA'.out w hSw;go_simp<;>first|omega|(intro hh;exfalso;omega)|rfl
          try simp only[Act.put,qa,qb,qc,vpm8_2]
          refine oneH (i:=3) (o:=vpm8_3) (by kernel_rfl) rfl ?_
          intro K hK
          simp only[vpm8_3]
          go_simp
          go_at_call 44
          refine (PCA'.out _ z0).mono ?_
          rintro e' V1 ⟨rfl,b1⟩
          have z1:=below_seq z0 b1
          refine hK.out _ _ (z1) (fun hHeld=>?_)
          clear hK K hHeld
          try simp only[Act.put,qa,qb,qc]
          refine tkH (i:=4) (oi:=vpm8_4) (v:=.bool false) (by kernel_rfl) rfl (fun _ _ _ h=>h) ?_ (z1) ?_
          ·intro w hSw;go_simp<;>first|omega|(intro hh;exfalso;omega)|rfl
          try simp only[Act.put,qa,qb,qc,vpm8_4]
          refine tkH (i:=5) (oi:=vpm8_5) (v:=.bool false) (by kernel_rfl) rfl (fun _ _ _ h=>h) ?_ (z1) ?_
          ·intro w hSw;go_simp<;>first|omega|(intro hh;exfalso;omega)|rfl
          try simp only[Act.put,qa,qb,qc,vpm8_5]
          refine tkH (i:=6) (oi:=vpm8_6) (v:=.agg #[.string ⟨c.name.toArray⟩,.string ⟨c.obj.toArray⟩,.slice rA c.rows.length rc,.slice cA c.cols.length cc]) (by kernel_rfl) rfl (fun _ _ _ h=>h) ?_ (z1) ?_
          ·intro w hSw;obtain ⟨C0,C1,C2,C3,A0,A1,A2,B0,B1,B2⟩:=HA'.out w hSw;go_simp<;>first|omega|(intro hh;exfalso;omega)|rfl
          try simp only[Act.put,qa,qb,qc,vpm8_6]
          refine tkH (i:=7) (oi:=vpm8_7) (v:=.pointer (some ⟨p1,1,none⟩)) (by kernel_rfl) rfl (fun _ _ _ h=>h) ?_ (z1) ?_
          ·intro w hSw;go_simp<;>first|omega|(intro hh;exfalso;omega)|rfl
          try simp only[Act.put,qa,qb,qc,vpm8_7]
          refine tkH (i:=8) (oi:=vpm8_8) (v:=.string ⟨ar.toArray⟩) (by kernel_rfl) rfl (fun _ _ _ h=>h) ?_ (z1) ?_
          ·intro w hSw;obtain ⟨C0,C1,C2,C3,A0,A1,A2,B0,B1,B2⟩:=HA'.out w hSw;go_simp<;>first|omega|(intro hh;exfalso;omega)|rfl
          try simp only[Act.put,qa,qb,qc,vpm8_8]
          refine oneH (i:=9) (o:=vpm8_9) (by kernel_rfl) rfl ?_
          intro K hK
          simp only[vpm8_9]
          go_simp
          go_at_call 45
          refine (PRA'.out _ z1).mono ?_
          rintro e' V2 ⟨rfl,b2⟩
          have z2:=below_seq z1 b2
          refine hK.out _ _ (z2) (fun hHeld=>?_)
          clear hK K hHeld
          try simp only[Act.put,qa,qb,qc]
          refine tkH (i:=10) (oi:=vpm8_10) (v:=.bool false) (by kernel_rfl) rfl (fun _ _ _ h=>h) ?_ (z2) ?_
          ·intro w hSw;go_simp<;>first|omega|(intro hh;exfalso;omega)|rfl
          try simp only[Act.put,qa,qb,qc,vpm8_10]
          refine tkH (i:=11) (oi:=vpm8_11) (v:=.bool false) (by kernel_rfl) rfl (fun _ _ _ h=>h) ?_ (z2) ?_
          ·intro w hSw;go_simp<;>first|omega|(intro hh;exfalso;omega)|rfl
          try simp only[Act.put,qa,qb,qc,vpm8_11]
          refine tkH (i:=12) (oi:=vpm8_12) (v:=.bool false) (by kernel_rfl) rfl (fun _ _ _ h=>h) ?_ (z2) ?_
          ·intro w hSw;go_simp<;>first|omega|(intro hh;exfalso;omega)|rfl
          try simp only[Act.put,qa,qb,qc,vpm8_12]
          refine tkH (i:=13) (oi:=vpm8_13) (v:=.agg #[.string ⟨c.name.toArray⟩,.string ⟨c.obj.toArray⟩,.slice rA c.rows.length rc,.slice cA c.cols.length cc]) (by kernel_rfl) rfl (fun _ _ _ h=>h) ?_ (z2) ?_
          ·intro w hSw;obtain ⟨C0,C1,C2,C3,A0,A1,A2,B0,B1,B2⟩:=HA'.out w hSw;go_simp<;>first|omega|(intro hh;exfalso;omega)|rfl
          try simp only[Act.put,qa,qb,qc,vpm8_13]
          refine tkH (i:=14) (oi:=vpm8_14) (v:=.pointer (some ⟨p2,0,none⟩)) (by kernel_rfl) rfl (fun _ _ _ h=>h) ?_ (z2) ?_
          ·intro w hSw;go_simp<;>first|omega|(intro hh;exfalso;omega)|rfl
          try simp only[Act.put,qa,qb,qc,vpm8_14]
          refine tkH (i:=15) (oi:=vpm8_15) (v:=.string ⟨bc.toArray⟩) (by kernel_rfl) rfl (fun _ _ _ h=>h) ?_ (z2) ?_
          ·intro w hSw;obtain ⟨C0,C1,C2,C3,A0,A1,A2,B0,B1,B2⟩:=HA'.out w hSw;go_simp<;>first|omega|(intro hh;exfalso;omega)|rfl
          try simp only[Act.put,qa,qb,qc,vpm8_15]
          refine oneH (i:=16) (o:=vpm8_16) (by kernel_rfl) rfl ?_
          intro K hK
          simp only[vpm8_16]
          go_simp
          go_at_call 44
          refine (PCB'.out _ z2).mono ?_
          rintro e' V3 ⟨rfl,b3⟩
          have z3:=below_seq z2 b3
          refine hK.out _ _ (z3) (fun hHeld=>?_)
          clear hK K hHeld
          try simp only[Act.put,qa,qb,qc]
          refine tkH (i:=17) (oi:=vpm8_17) (v:=.bool false) (by kernel_rfl) rfl (fun _ _ _ h=>h) ?_ (z3) ?_
          ·intro w hSw;go_simp<;>first|omega|(intro hh;exfalso;omega)|rfl
          try simp only[Act.put,qa,qb,qc,vpm8_17]
          refine tkH (i:=18) (oi:=vpm8_18) (v:=.bool false) (by kernel_rfl) rfl (fun _ _ _ h=>h) ?_ (z3) ?_
          ·intro w hSw;go_simp<;>first|omega|(intro hh;exfalso;omega)|rfl
          try simp only[Act.put,qa,qb,qc,vpm8_18]
          refine tkH (i:=19) (oi:=vpm8_19) (v:=.bool false) (by kernel_rfl) rfl (fun _ _ _ h=>h) ?_ (z3) ?_
          ·intro w hSw;go_simp<;>first|omega|(intro hh;exfalso;omega)|rfl
          try simp only[Act.put,qa,qb,qc,vpm8_19]
          refine tkH (i:=20) (oi:=vpm8_20) (v:=.agg #[.string ⟨c.name.toArray⟩,.string ⟨c.obj.toArray⟩,.slice rA c.rows.length rc,.slice cA c.cols.length cc]) (by kernel_rfl) rfl (fun _ _ _ h=>h) ?_ (z3) ?_
          ·intro w hSw;obtain ⟨C0,C1,C2,C3,A0,A1,A2,B0,B1,B2⟩:=HA'.out w hSw;go_simp<;>first|omega|(intro hh;exfalso;omega)|rfl
          try simp only[Act.put,qa,qb,qc,vpm8_20]
          refine tkH (i:=21) (oi:=vpm8_21) (v:=.pointer (some ⟨p2,1,none⟩)) (by kernel_rfl) rfl (fun _ _ _ h=>h) ?_ (z3) ?_
          ·intro w hSw;go_simp<;>first|omega|(intro hh;exfalso;omega)|rfl
          try simp only[Act.put,qa,qb,qc,vpm8_21]
          refine tkH (i:=22) (oi:=vpm8_22) (v:=.string ⟨br.toArray⟩) (by kernel_rfl) rfl (fun _ _ _ h=>h) ?_ (z3) ?_
          ·intro w hSw;obtain ⟨C0,C1,C2,C3,A0,A1,A2,B0,B1,B2⟩:=HA'.out w hSw;go_simp<;>first|omega|(intro hh;exfalso;omega)|rfl
          try simp only[Act.put,qa,qb,qc,vpm8_22]
          refine tkH (i:=24) (oi:=vpm8_24) (v:=.agg #[.string ⟨c.name.toArray⟩,.string ⟨c.obj.toArray⟩,.slice rA c.rows.length rc,.slice cA c.cols.length cc]) (by kernel_rfl) rfl (fun _ _ _ h=>h) ?_ (z3) ?_
          ·intro w hSw;obtain ⟨C0,C1,C2,C3,A0,A1,A2,B0,B1,B2⟩:=HA'.out w hSw;go_simp<;>first|omega|(intro hh;exfalso;omega)|rfl
          try simp only[Act.put,qa,qb,qc,vpm8_24]
          refine tkH (i:=25) (oi:=vpm8_25) (v:=.pointer (some ⟨p1,1,none⟩)) (by kernel_rfl) rfl (fun _ _ _ h=>h) ?_ (z3) ?_
          ·intro w hSw;go_simp<;>first|omega|(intro hh;exfalso;omega)|rfl
          try simp only[Act.put,qa,qb,qc,vpm8_25]
          refine tkH (i:=26) (oi:=vpm8_26) (v:=.string ⟨ar.toArray⟩) (by kernel_rfl) rfl (fun _ _ _ h=>h) ?_ (z3) ?_
          ·intro w hSw;obtain ⟨C0,C1,C2,C3,A0,A1,A2,B0,B1,B2⟩:=HA'.out w hSw;go_simp<;>first|omega|(intro hh;exfalso;omega)|rfl
          try simp only[Act.put,qa,qb,qc,vpm8_26]
          refine oneH (i:=23) (o:=vpm8_23) (by kernel_rfl) rfl ?_
          intro K hK
          simp only[vpm8_23]
          go_simp
          go_at_call 45
          refine (PRB'.out _ z3).mono ?_
          rintro e' V4 ⟨rfl,b4⟩
          have z4:=below_seq z3 b4
          refine hK.out _ _ (z4) (fun hHeld=>?_)
          clear hK K hHeld
          try simp only[Act.put,qa,qb,qc]
          refine oneH (i:=27) (o:=vpm8_27) (by kernel_rfl) rfl ?_
          intro K hK
          simp only[vpm8_27]
          go_simp
          go_at_call 45
          refine (PRA'.out _ z4).mono ?_
          rintro e' V5 ⟨rfl,b5⟩
          have z5:=below_seq z4 b5
          refine hK.out _ _ (z5) (fun hHeld=>?_)
          clear hK K hHeld
          try simp only[Act.put,qa,qb,qc]
          refine tkH (i:=28) (oi:=vpm8_28) (v:=.bool true) (by kernel_rfl) rfl (fun _ _ _ h=>h) ?_ (z5) ?_
          ·intro w hSw;go_simp<;>first|omega|(intro hh;exfalso;omega)|rfl
          try simp only[Act.put,qa,qb,qc,vpm8_28]
          refine tkH (i:=29) (oi:=vpm8_29) (v:=.bool true) (by kernel_rfl) rfl (fun _ _ _ h=>h) ?_ (z5) ?_
          ·intro w hSw;go_simp<;>first|omega|(intro hh;exfalso;omega)|rfl
          try simp only[Act.put,qa,qb,qc,vpm8_29]
          refine wpAnyH_done (by kernel_rfl) ?_ _
          have ZZ:=Lib.hid (below_seq HBW.out z5)
          go_wp2_with fail
          go_ret
          exact ⟨by rw[HM2.out,if_pos (.inr (.inr (.inr c4)))];rfl,ZZ.out⟩
         ·have HC1:=Lib.hid c1
          clear c1 c12
          refine wp_region_held (S:=fun W=>Below wc.heap.size wc W) (by kernel_rfl) ?_
          change wpAnyH _ _ _ _ _ _ _ _ (World.drew _)
          obtain ⟨W0,hW0⟩:∃ X,X=(wc).drew:=⟨_,rfl⟩
          rw[← hW0]
          have z0:Below (wc).heap.size (wc) W0:=by rw[hW0];exact Below.drewN_ (Below.refl _ _) 1
          clear hW0
          refine tkH (i:=0) (oi:=vpm8_0) (v:=.agg #[.string ⟨c.name.toArray⟩,.string ⟨c.obj.toArray⟩,.slice rA c.rows.length rc,.slice cA c.cols.length cc]) (by kernel_rfl) rfl (fun _ _ _ h=>h) ?_ (z0) ?_
          ·intro w hSw;obtain ⟨C0,C1,C2,C3,A0,A1,A2,B0,B1,B2⟩:=HA'.out w hSw;go_simp<;>first|omega|(intro hh;exfalso;omega)|rfl
          try simp only[Act.put,qa,qb,qc,vpm8_0]
          refine tkH (i:=1) (oi:=vpm8_1) (v:=.pointer (some ⟨p1,0,none⟩)) (by kernel_rfl) rfl (fun _ _ _ h=>h) ?_ (z0) ?_
          ·intro w hSw;go_simp<;>first|omega|(intro hh;exfalso;omega)|rfl
          try simp only[Act.put,qa,qb,qc,vpm8_1]
          refine tkH (i:=2) (oi:=vpm8_2) (v:=.string ⟨ac.toArray⟩) (by kernel_rfl) rfl (fun _ _ _ h=>h) ?_ (z0) ?_
          ·intro w hSw;obtain ⟨C0,C1,C2,C3,A0,A1,A2,B0,B1,B2⟩:=HA'.out w hSw;go_simp<;>first|omega|(intro hh;exfalso;omega)|rfl
          try simp only[Act.put,qa,qb,qc,vpm8_2]
          refine oneH (i:=3) (o:=vpm8_3) (by kernel_rfl) rfl ?_
          intro K hK
          simp only[vpm8_3]
          go_simp
          go_at_call 44
          refine (PCA'.out _ z0).mono ?_
          rintro e' V1 ⟨rfl,b1⟩
          have z1:=below_seq z0 b1
          refine hK.out _ _ (z1) (fun hHeld=>?_)
          clear hK K hHeld
          try simp only[Act.put,qa,qb,qc]
          refine tkH (i:=4) (oi:=vpm8_4) (v:=.bool false) (by kernel_rfl) rfl (fun _ _ _ h=>h) ?_ (z1) ?_
          ·intro w hSw;go_simp<;>first|omega|(intro hh;exfalso;omega)|rfl
          try simp only[Act.put,qa,qb,qc,vpm8_4]
          refine tkH (i:=5) (oi:=vpm8_5) (v:=.bool false) (by kernel_rfl) rfl (fun _ _ _ h=>h) ?_ (z1) ?_
          ·intro w hSw;go_simp<;>first|omega|(intro hh;exfalso;omega)|rfl
          try simp only[Act.put,qa,qb,qc,vpm8_5]
          refine tkH (i:=6) (oi:=vpm8_6) (v:=.agg #[.string ⟨c.name.toArray⟩,.string ⟨c.obj.toArray⟩,.slice rA c.rows.length rc,.slice cA c.cols.length cc]) (by kernel_rfl) rfl (fun _ _ _ h=>h) ?_ (z1) ?_
          ·intro w hSw;obtain ⟨C0,C1,C2,C3,A0,A1,A2,B0,B1,B2⟩:=HA'.out w hSw;go_simp<;>first|omega|(intro hh;exfalso;omega)|rfl
          try simp only[Act.put,qa,qb,qc,vpm8_6]
          refine tkH (i:=7) (oi:=vpm8_7) (v:=.pointer (some ⟨p1,1,none⟩)) (by kernel_rfl) rfl (fun _ _ _ h=>h) ?_ (z1) ?_
          ·intro w hSw;go_simp<;>first|omega|(intro hh;exfalso;omega)|rfl
          try simp only[Act.put,qa,qb,qc,vpm8_7]
          refine tkH (i:=8) (oi:=vpm8_8) (v:=.string ⟨ar.toArray⟩) (by kernel_rfl) rfl (fun _ _ _ h=>h) ?_ (z1) ?_
          ·intro w hSw;obtain ⟨C0,C1,C2,C3,A0,A1,A2,B0,B1,B2⟩:=HA'.out w hSw;go_simp<;>first|omega|(intro hh;exfalso;omega)|rfl
          try simp only[Act.put,qa,qb,qc,vpm8_8]
          refine oneH (i:=9) (o:=vpm8_9) (by kernel_rfl) rfl ?_
          intro K hK
          simp only[vpm8_9]
          go_simp
          go_at_call 45
          refine (PRA'.out _ z1).mono ?_
          rintro e' V2 ⟨rfl,b2⟩
          have z2:=below_seq z1 b2
          refine hK.out _ _ (z2) (fun hHeld=>?_)
          clear hK K hHeld
          try simp only[Act.put,qa,qb,qc]
          refine tkH (i:=10) (oi:=vpm8_10) (v:=.bool false) (by kernel_rfl) rfl (fun _ _ _ h=>h) ?_ (z2) ?_
          ·intro w hSw;go_simp<;>first|omega|(intro hh;exfalso;omega)|rfl
          try simp only[Act.put,qa,qb,qc,vpm8_10]
          refine tkH (i:=11) (oi:=vpm8_11) (v:=.bool false) (by kernel_rfl) rfl (fun _ _ _ h=>h) ?_ (z2) ?_
          ·intro w hSw;go_simp<;>first|omega|(intro hh;exfalso;omega)|rfl
          try simp only[Act.put,qa,qb,qc,vpm8_11]
          refine tkH (i:=12) (oi:=vpm8_12) (v:=.bool false) (by kernel_rfl) rfl (fun _ _ _ h=>h) ?_ (z2) ?_
          ·intro w hSw;go_simp<;>first|omega|(intro hh;exfalso;omega)|rfl
          try simp only[Act.put,qa,qb,qc,vpm8_12]
          refine tkH (i:=13) (oi:=vpm8_13) (v:=.agg #[.string ⟨c.name.toArray⟩,.string ⟨c.obj.toArray⟩,.slice rA c.rows.length rc,.slice cA c.cols.length cc]) (by kernel_rfl) rfl (fun _ _ _ h=>h) ?_ (z2) ?_
          ·intro w hSw;obtain ⟨C0,C1,C2,C3,A0,A1,A2,B0,B1,B2⟩:=HA'.out w hSw;go_simp<;>first|omega|(intro hh;exfalso;omega)|rfl
          try simp only[Act.put,qa,qb,qc,vpm8_13]
          refine tkH (i:=14) (oi:=vpm8_14) (v:=.pointer (some ⟨p2,0,none⟩)) (by kernel_rfl) rfl (fun _ _ _ h=>h) ?_ (z2) ?_
          ·intro w hSw;go_simp<;>first|omega|(intro hh;exfalso;omega)|rfl
          try simp only[Act.put,qa,qb,qc,vpm8_14]
          refine tkH (i:=15) (oi:=vpm8_15) (v:=.string ⟨bc.toArray⟩) (by kernel_rfl) rfl (fun _ _ _ h=>h) ?_ (z2) ?_
          ·intro w hSw;obtain ⟨C0,C1,C2,C3,A0,A1,A2,B0,B1,B2⟩:=HA'.out w hSw;go_simp<;>first|omega|(intro hh;exfalso;omega)|rfl
          try simp only[Act.put,qa,qb,qc,vpm8_15]
          refine oneH (i:=16) (o:=vpm8_16) (by kernel_rfl) rfl ?_
          intro K hK
          simp only[vpm8_16]
          go_simp
          go_at_call 44
          refine (PCB'.out _ z2).mono ?_
          rintro e' V3 ⟨rfl,b3⟩
          have z3:=below_seq z2 b3
          refine hK.out _ _ (z3) (fun hHeld=>?_)
          clear hK K hHeld
          try simp only[Act.put,qa,qb,qc]
          refine tkH (i:=17) (oi:=vpm8_17) (v:=.bool false) (by kernel_rfl) rfl (fun _ _ _ h=>h) ?_ (z3) ?_
          ·intro w hSw;go_simp<;>first|omega|(intro hh;exfalso;omega)|rfl
          try simp only[Act.put,qa,qb,qc,vpm8_17]
          refine tkH (i:=18) (oi:=vpm8_18) (v:=.bool false) (by kernel_rfl) rfl (fun _ _ _ h=>h) ?_ (z3) ?_
          ·intro w hSw;go_simp<;>first|omega|(intro hh;exfalso;omega)|rfl
          try simp only[Act.put,qa,qb,qc,vpm8_18]
          refine tkH (i:=19) (oi:=vpm8_19) (v:=.bool false) (by kernel_rfl) rfl (fun _ _ _ h=>h) ?_ (z3) ?_
          ·intro w hSw;go_simp<;>first|omega|(intro hh;exfalso;omega)|rfl
          try simp only[Act.put,qa,qb,qc,vpm8_19]
          refine tkH (i:=20) (oi:=vpm8_20) (v:=.agg #[.string ⟨c.name.toArray⟩,.string ⟨c.obj.toArray⟩,.slice rA c.rows.length rc,.slice cA c.cols.length cc]) (by kernel_rfl) rfl (fun _ _ _ h=>h) ?_ (z3) ?_
          ·intro w hSw;obtain ⟨C0,C1,C2,C3,A0,A1,A2,B0,B1,B2⟩:=HA'.out w hSw;go_simp<;>first|omega|(intro hh;exfalso;omega)|rfl
          try simp only[Act.put,qa,qb,qc,vpm8_20]
          refine tkH (i:=21) (oi:=vpm8_21) (v:=.pointer (some ⟨p2,1,none⟩)) (by kernel_rfl) rfl (fun _ _ _ h=>h) ?_ (z3) ?_
          ·intro w hSw;go_simp<;>first|omega|(intro hh;exfalso;omega)|rfl
          try simp only[Act.put,qa,qb,qc,vpm8_21]
          refine tkH (i:=22) (oi:=vpm8_22) (v:=.string ⟨br.toArray⟩) (by kernel_rfl) rfl (fun _ _ _ h=>h) ?_ (z3) ?_
          ·intro w hSw;obtain ⟨C0,C1,C2,C3,A0,A1,A2,B0,B1,B2⟩:=HA'.out w hSw;go_simp<;>first|omega|(intro hh;exfalso;omega)|rfl
          try simp only[Act.put,qa,qb,qc,vpm8_22]
          refine tkH (i:=24) (oi:=vpm8_24) (v:=.agg #[.string ⟨c.name.toArray⟩,.string ⟨c.obj.toArray⟩,.slice rA c.rows.length rc,.slice cA c.cols.length cc]) (by kernel_rfl) rfl (fun _ _ _ h=>h) ?_ (z3) ?_
          ·intro w hSw;obtain ⟨C0,C1,C2,C3,A0,A1,A2,B0,B1,B2⟩:=HA'.out w hSw;go_simp<;>first|omega|(intro hh;exfalso;omega)|rfl
          try simp only[Act.put,qa,qb,qc,vpm8_24]
          refine tkH (i:=25) (oi:=vpm8_25) (v:=.pointer (some ⟨p1,1,none⟩)) (by kernel_rfl) rfl (fun _ _ _ h=>h) ?_ (z3) ?_
          ·intro w hSw;go_simp<;>first|omega|(intro hh;exfalso;omega)|rfl
          try simp only[Act.put,qa,qb,qc,vpm8_25]
          refine tkH (i:=26) (oi:=vpm8_26) (v:=.string ⟨ar.toArray⟩) (by kernel_rfl) rfl (fun _ _ _ h=>h) ?_ (z3) ?_
          ·intro w hSw;obtain ⟨C0,C1,C2,C3,A0,A1,A2,B0,B1,B2⟩:=HA'.out w hSw;go_simp<;>first|omega|(intro hh;exfalso;omega)|rfl
          try simp only[Act.put,qa,qb,qc,vpm8_26]
          refine oneH (i:=23) (o:=vpm8_23) (by kernel_rfl) rfl ?_
          intro K hK
          simp only[vpm8_23]
          go_simp
          go_at_call 45
          refine (PRB'.out _ z3).mono ?_
          rintro e' V4 ⟨rfl,b4⟩
          have z4:=below_seq z3 b4
          refine hK.out _ _ (z4) (fun hHeld=>?_)
          clear hK K hHeld
          try simp only[Act.put,qa,qb,qc]
          refine oneH (i:=27) (o:=vpm8_27) (by kernel_rfl) rfl ?_
          intro K hK
          simp only[vpm8_27]
          go_simp
          go_at_call 45
          refine (PRA'.out _ z4).mono ?_
          rintro e' V5 ⟨rfl,b5⟩
          have z5:=below_seq z4 b5
          refine hK.out _ _ (z5) (fun hHeld=>?_)
          clear hK K hHeld
          try simp only[Act.put,qa,qb,qc]
          refine tkH (i:=28) (oi:=vpm8_28) (v:=.bool false) (by kernel_rfl) rfl (fun _ _ _ h=>h) ?_ (z5) ?_
          ·intro w hSw;go_simp<;>first|omega|(intro hh;exfalso;omega)|rfl
          try simp only[Act.put,qa,qb,qc,vpm8_28]
          refine tkH (i:=29) (oi:=vpm8_29) (v:=.bool false) (by kernel_rfl) rfl (fun _ _ _ h=>h) ?_ (z5) ?_
          ·intro w hSw;go_simp<;>first|omega|(intro hh;exfalso;omega)|rfl
          try simp only[Act.put,qa,qb,qc,vpm8_29]
          refine wpAnyH_done (by kernel_rfl) ?_ _
          have ZZ:=Lib.hid (below_seq HBW.out z5)
          go_wp2_with fail
          go_ret
          exact ⟨by rw[HM2.out,if_neg (by have:=HC1.out;omega)];rfl,ZZ.out⟩
     ·have hcn:(k1<0∨k2<0∨r1<0∨r2<0∨an=bn):=of_decide_eq_true HBQ.out.symm
      have HZ:Hid (res=4):=Lib.hid (by rw[hM.out,if_pos hcn])
      clear hM hcn HBQ
      go_wp2_with fail
      go_ret
      exact ⟨by rw[HZ.out];rfl,below_seq HWC.out HWD.out⟩
end Go.Proofs.YtbdfhnelmojbpaaGreatDoor
