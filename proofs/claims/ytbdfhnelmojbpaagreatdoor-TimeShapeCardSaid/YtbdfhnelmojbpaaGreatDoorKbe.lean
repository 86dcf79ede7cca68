/- TimeShape returns true at every four numbers. -/
import Derived.Test.YtbdfhnelmojbpaaGreatDoorKap
import Derived.Test.YtbdfhnelmojbpaaGreatDoorKao
import Derived.Test.YtbdfhnelmojbpaaGreatDoorKbb
import Derived.Test.YtbdfhnelmojbpaaGreatDoorKbc
import Derived.Test.YtbdfhnelmojbpaaGreatDoorKbd
import Derived.Deep.LoopGhost
import Derived.Deep.DeepCutAuto
import Derived.Deep.CutBlock
import Derived.Deep.QuietTactic
import Derived.BigQuiet
set_option linter.unusedVariables false
set_option linter.unusedSimpArgs false
namespace Vic
open Go Go.RowKit
theorem draw5 (n c:Int) (hc:c=1∨c=2):∃ N:Nat,c≤N∧N≤c+4∧wrap64 (c+(wrap64 (n.tmod 5+5)).tmod 5)=(N:Int):=by
 have h1:=Int.tmod_lt_of_pos n (by decide:(0:Int)<5)
 have h2:=Int.lt_tmod_of_pos n (by decide:(0:Int)<5)
 generalize n.tmod 5=a at *
 have e1:wrap64 (a+5)=a+5:=by unfold wrap64;omega
 rw[e1]
 have h3:=Int.tmod_lt_of_pos (a+5) (by decide:(0:Int)<5)
 have h4:=Int.tmod_nonneg (a:=a+5) 5 (by omega)
 generalize (a+5).tmod 5=b at *
 obtain ⟨B,rfl⟩:=Int.eq_ofNat_of_zero_le h4
 exact ⟨(c+B).toNat,by omega,by omega,by unfold wrap64;omega⟩
theorem intT_nat' (k:Nat):intT (k:Int)=dec2 k:=by
 unfold intT
 rw[if_neg (by omega),Int.natAbs_natCast,List.nil_append]
end Vic
namespace Go.Proofs.YtbdfhnelmojbpaaGreatDoor
open Go.RowKit Vic
abbrev vts10_0:Oper:={ dst:=some 54,op:=Go.Op.fieldAddr 34 (Go.Operand.tmp 10) 3,type:=0,pos:="three.go:97",after:=#[],guard:=none }
abbrev vts10_1:Oper:={ dst:=some 55,op:=Go.Op.load 32 (Go.Operand.tmp 54),type:=32,pos:="three.go:97",after:=#[{ on:=0,ground:=Go.Ground.data }],guard:=none }
abbrev vts10_2:Oper:={ dst:=some 56,op:=Go.Op.move (Go.Operand.tmp 11),type:=3,pos:="three.go:97",after:=#[],guard:=none }
abbrev vts10_3:Oper:={ dst:=some 57,op:=Go.Op.call { callee:=Go.Callee.value (Go.Operand.func 7),args:=#[Go.Operand.tmp 56],argTypes:=#[3] },type:=9,pos:="three.go:97",after:=#[{ on:=2,ground:=Go.Ground.data }],guard:=none }
abbrev vts10_4:Oper:={ dst:=some 58,op:=Go.Op.binOp Go.BinOp.add 9 (Go.Operand.const (Go.Value.string { data:=#[120] })) (Go.Operand.tmp 57) 9,type:=9,pos:="three.go:97",after:=#[{ on:=3,ground:=Go.Ground.data }],guard:=none }
abbrev vts10_5:Oper:={ dst:=some 59,op:=Go.Op.move (Go.Operand.tmp 11),type:=3,pos:="three.go:97",after:=#[],guard:=none }
abbrev vts10_6:Oper:={ dst:=some 60,op:=Go.Op.call { callee:=Go.Callee.value (Go.Operand.func 7),args:=#[Go.Operand.tmp 59],argTypes:=#[3] },type:=9,pos:="three.go:97",after:=#[{ on:=5,ground:=Go.Ground.data },{ on:=3,ground:=Go.Ground.chain }],guard:=none }
abbrev vts10_7:Oper:={ dst:=some 61,op:=Go.Op.build 31 #[(0,Go.Operand.tmp 58),(1,Go.Operand.const (Go.Value.string { data:=#[48] })),(2,Go.Operand.const (Go.Value.string { data:=#[49] })),(3,Go.Operand.tmp 60)],type:=31,pos:="three.go:97",after:=#[{ on:=4,ground:=Go.Ground.data },{ on:=6,ground:=Go.Ground.data }],guard:=none }
abbrev vts10_8:Oper:={ dst:=some 62,op:=Go.Op.buildSlice 32 1 #[(0,Go.Operand.tmp 61)],type:=32,pos:="three.go:97",after:=#[{ on:=7,ground:=Go.Ground.data }],guard:=none }
abbrev vts10_9:Oper:={ dst:=some 63,op:=Go.Op.call { callee:=Go.Callee.builtin Go.Builtin.append,args:=#[Go.Operand.tmp 55,Go.Operand.tmp 62],argTypes:=#[32,32] },type:=32,pos:="three.go:97",after:=#[{ on:=1,ground:=Go.Ground.data },{ on:=8,ground:=Go.Ground.data },{ on:=6,ground:=Go.Ground.chain }],guard:=none }
abbrev vts10_10:Oper:={ dst:=some 64,op:=Go.Op.fieldAddr 34 (Go.Operand.tmp 10) 3,type:=0,pos:="three.go:97",after:=#[{ on:=0,ground:=Go.Ground.phase },{ on:=1,ground:=Go.Ground.phase },{ on:=2,ground:=Go.Ground.phase },{ on:=3,ground:=Go.Ground.phase },{ on:=4,ground:=Go.Ground.phase },{ on:=5,ground:=Go.Ground.phase },{ on:=6,ground:=Go.Ground.phase },{ on:=7,ground:=Go.Ground.phase },{ on:=8,ground:=Go.Ground.phase },{ on:=9,ground:=Go.Ground.phase }],guard:=none }
abbrev vts10_11:Oper:={ dst:=none,op:=Go.Op.store 32 (Go.Operand.tmp 64) (Go.Operand.tmp 63),type:=0,pos:="three.go:97",after:=#[{ on:=10,ground:=Go.Ground.data },{ on:=9,ground:=Go.Ground.data },{ on:=9,ground:=Go.Ground.chain },{ on:=0,ground:=Go.Ground.phase },{ on:=1,ground:=Go.Ground.phase },{ on:=2,ground:=Go.Ground.phase },{ on:=3,ground:=Go.Ground.phase },{ on:=4,ground:=Go.Ground.phase },{ on:=5,ground:=Go.Ground.phase },{ on:=6,ground:=Go.Ground.phase },{ on:=7,ground:=Go.Ground.phase },{ on:=8,ground:=Go.Ground.phase },{ on:=9,ground:=Go.Ground.phase }],guard:=none }
abbrev vts24_0:Oper:={ dst:=some 156,op:=Go.Op.fieldAddr 39 (Go.Operand.tmp 15) 2,type:=0,pos:="three.go:114",after:=#[],guard:=none }
abbrev vts24_1:Oper:={ dst:=some 157,op:=Go.Op.load 37 (Go.Operand.tmp 156),type:=37,pos:="three.go:114",after:=#[{ on:=0,ground:=Go.Ground.data }],guard:=none }
abbrev vts24_2:Oper:={ dst:=some 158,op:=Go.Op.indexAddr 37 (Go.Operand.tmp 157) (Go.Operand.const (Go.Value.int Go.IntKind.i64 0)),type:=0,pos:="three.go:114",after:=#[{ on:=1,ground:=Go.Ground.data }],guard:=none }
abbrev vts24_3:Oper:={ dst:=some 159,op:=Go.Op.load 25 (Go.Operand.tmp 158),type:=25,pos:="three.go:114",after:=#[{ on:=2,ground:=Go.Ground.data }],guard:=none }
abbrev vts24_4:Oper:={ dst:=some 160,op:=Go.Op.call { callee:=Go.Callee.builtin Go.Builtin.len,args:=#[Go.Operand.tmp 159],argTypes:=#[25] },type:=3,pos:="three.go:114",after:=#[{ on:=3,ground:=Go.Ground.data }],guard:=none }
abbrev vts24_5:Oper:={ dst:=some 161,op:=Go.Op.binOp Go.BinOp.eql 3 (Go.Operand.tmp 160) (Go.Operand.const (Go.Value.int Go.IntKind.i64 1)) 3,type:=4,pos:="three.go:114",after:=#[{ on:=4,ground:=Go.Ground.data }],guard:=none }
abbrev vts24_6:Oper:={ dst:=some 162,op:=Go.Op.move (Go.Operand.tmp 161),type:=4,pos:="three.go:114",after:=#[{ on:=5,ground:=Go.Ground.data }],guard:=none }
abbrev vts24_7:Oper:={ dst:=some 163,op:=Go.Op.fieldAddr 39 (Go.Operand.tmp 15) 2,type:=0,pos:="three.go:114",after:=#[{ on:=6,ground:=Go.Ground.guard }],guard:=some (6,true) }
abbrev vts24_8:Oper:={ dst:=some 164,op:=Go.Op.load 37 (Go.Operand.tmp 163),type:=37,pos:="three.go:114",after:=#[{ on:=7,ground:=Go.Ground.data },{ on:=6,ground:=Go.Ground.guard }],guard:=some (6,true) }
abbrev vts24_9:Oper:={ dst:=some 165,op:=Go.Op.indexAddr 37 (Go.Operand.tmp 164) (Go.Operand.const (Go.Value.int Go.IntKind.i64 0)),type:=0,pos:="three.go:114",after:=#[{ on:=8,ground:=Go.Ground.data },{ on:=6,ground:=Go.Ground.guard }],guard:=some (6,true) }
abbrev vts24_10:Oper:={ dst:=some 166,op:=Go.Op.load 25 (Go.Operand.tmp 165),type:=25,pos:="three.go:114",after:=#[{ on:=9,ground:=Go.Ground.data },{ on:=6,ground:=Go.Ground.guard }],guard:=some (6,true) }
abbrev vts24_11:Oper:={ dst:=some 167,op:=Go.Op.indexAddr 25 (Go.Operand.tmp 166) (Go.Operand.const (Go.Value.int Go.IntKind.i64 0)),type:=0,pos:="three.go:114",after:=#[{ on:=10,ground:=Go.Ground.data },{ on:=6,ground:=Go.Ground.guard }],guard:=some (6,true) }
abbrev vts24_12:Oper:={ dst:=some 168,op:=Go.Op.fieldAddr 24 (Go.Operand.tmp 167) 0,type:=0,pos:="three.go:114",after:=#[{ on:=11,ground:=Go.Ground.data },{ on:=6,ground:=Go.Ground.guard }],guard:=some (6,true) }
abbrev vts24_13:Oper:={ dst:=some 169,op:=Go.Op.load 3 (Go.Operand.tmp 168),type:=3,pos:="three.go:114",after:=#[{ on:=12,ground:=Go.Ground.data },{ on:=6,ground:=Go.Ground.guard }],guard:=some (6,true) }
abbrev vts24_14:Oper:={ dst:=some 170,op:=Go.Op.binOp Go.BinOp.eql 3 (Go.Operand.tmp 169) (Go.Operand.const (Go.Value.int Go.IntKind.i64 0)) 3,type:=4,pos:="three.go:114",after:=#[{ on:=13,ground:=Go.Ground.data },{ on:=6,ground:=Go.Ground.guard }],guard:=some (6,true) }
abbrev vts24_15:Oper:={ dst:=some 171,op:=Go.Op.pick (Go.Operand.tmp 162) (Go.Operand.tmp 170) (Go.Operand.const (Go.Value.bool false)),type:=4,pos:="three.go:114",after:=#[{ on:=6,ground:=Go.Ground.data },{ on:=14,ground:=Go.Ground.data }],guard:=none }
abbrev vts24_16:Oper:={ dst:=some 172,op:=Go.Op.move (Go.Operand.tmp 171),type:=4,pos:="three.go:114",after:=#[{ on:=15,ground:=Go.Ground.data },{ on:=6,ground:=Go.Ground.chain }],guard:=none }
abbrev vts24_17:Oper:={ dst:=some 173,op:=Go.Op.fieldAddr 39 (Go.Operand.tmp 15) 1,type:=0,pos:="three.go:114",after:=#[{ on:=16,ground:=Go.Ground.guard }],guard:=some (16,true) }
abbrev vts24_18:Oper:={ dst:=some 174,op:=Go.Op.fieldAddr 36 (Go.Operand.tmp 173) 1,type:=0,pos:="three.go:114",after:=#[{ on:=17,ground:=Go.Ground.data },{ on:=16,ground:=Go.Ground.guard }],guard:=some (16,true) }
abbrev vts24_19:Oper:={ dst:=some 175,op:=Go.Op.load 29 (Go.Operand.tmp 174),type:=29,pos:="three.go:114",after:=#[{ on:=18,ground:=Go.Ground.data },{ on:=16,ground:=Go.Ground.guard }],guard:=some (16,true) }
abbrev vts24_20:Oper:={ dst:=some 176,op:=Go.Op.indexAddr 29 (Go.Operand.tmp 175) (Go.Operand.const (Go.Value.int Go.IntKind.i64 0)),type:=0,pos:="three.go:114",after:=#[{ on:=19,ground:=Go.Ground.data },{ on:=16,ground:=Go.Ground.guard }],guard:=some (16,true) }
abbrev vts24_21:Oper:={ dst:=some 177,op:=Go.Op.fieldAddr 28 (Go.Operand.tmp 176) 2,type:=0,pos:="three.go:114",after:=#[{ on:=20,ground:=Go.Ground.data },{ on:=16,ground:=Go.Ground.guard }],guard:=some (16,true) }
abbrev vts24_22:Oper:={ dst:=some 178,op:=Go.Op.load 25 (Go.Operand.tmp 177),type:=25,pos:="three.go:114",after:=#[{ on:=21,ground:=Go.Ground.data },{ on:=16,ground:=Go.Ground.guard }],guard:=some (16,true) }
abbrev vts24_23:Oper:={ dst:=some 179,op:=Go.Op.call { callee:=Go.Callee.builtin Go.Builtin.len,args:=#[Go.Operand.tmp 178],argTypes:=#[25] },type:=3,pos:="three.go:114",after:=#[{ on:=22,ground:=Go.Ground.data },{ on:=16,ground:=Go.Ground.guard }],guard:=some (16,true) }
abbrev vts24_24:Oper:={ dst:=some 180,op:=Go.Op.binOp Go.BinOp.eql 3 (Go.Operand.tmp 179) (Go.Operand.const (Go.Value.int Go.IntKind.i64 1)) 3,type:=4,pos:="three.go:114",after:=#[{ on:=23,ground:=Go.Ground.data },{ on:=16,ground:=Go.Ground.guard }],guard:=some (16,true) }
abbrev vts24_25:Oper:={ dst:=some 181,op:=Go.Op.pick (Go.Operand.tmp 172) (Go.Operand.tmp 180) (Go.Operand.const (Go.Value.bool false)),type:=4,pos:="three.go:114",after:=#[{ on:=16,ground:=Go.Ground.data },{ on:=24,ground:=Go.Ground.data }],guard:=none }
abbrev vts24_26:Oper:={ dst:=some 182,op:=Go.Op.move (Go.Operand.tmp 181),type:=4,pos:="three.go:114",after:=#[{ on:=25,ground:=Go.Ground.data },{ on:=16,ground:=Go.Ground.chain }],guard:=none }
abbrev vts24_27:Oper:={ dst:=some 183,op:=Go.Op.fieldAddr 39 (Go.Operand.tmp 15) 1,type:=0,pos:="three.go:114",after:=#[{ on:=26,ground:=Go.Ground.guard }],guard:=some (26,true) }
abbrev vts24_28:Oper:={ dst:=some 184,op:=Go.Op.fieldAddr 36 (Go.Operand.tmp 183) 1,type:=0,pos:="three.go:114",after:=#[{ on:=27,ground:=Go.Ground.data },{ on:=26,ground:=Go.Ground.guard }],guard:=some (26,true) }
abbrev vts24_29:Oper:={ dst:=some 185,op:=Go.Op.load 29 (Go.Operand.tmp 184),type:=29,pos:="three.go:114",after:=#[{ on:=28,ground:=Go.Ground.data },{ on:=26,ground:=Go.Ground.guard }],guard:=some (26,true) }
abbrev vts24_30:Oper:={ dst:=some 186,op:=Go.Op.indexAddr 29 (Go.Operand.tmp 185) (Go.Operand.const (Go.Value.int Go.IntKind.i64 0)),type:=0,pos:="three.go:114",after:=#[{ on:=29,ground:=Go.Ground.data },{ on:=26,ground:=Go.Ground.guard }],guard:=some (26,true) }
abbrev vts24_31:Oper:={ dst:=some 187,op:=Go.Op.fieldAddr 28 (Go.Operand.tmp 186) 2,type:=0,pos:="three.go:114",after:=#[{ on:=30,ground:=Go.Ground.data },{ on:=26,ground:=Go.Ground.guard }],guard:=some (26,true) }
abbrev vts24_32:Oper:={ dst:=some 188,op:=Go.Op.load 25 (Go.Operand.tmp 187),type:=25,pos:="three.go:114",after:=#[{ on:=31,ground:=Go.Ground.data },{ on:=26,ground:=Go.Ground.guard }],guard:=some (26,true) }
abbrev vts24_33:Oper:={ dst:=some 189,op:=Go.Op.indexAddr 25 (Go.Operand.tmp 188) (Go.Operand.const (Go.Value.int Go.IntKind.i64 0)),type:=0,pos:="three.go:114",after:=#[{ on:=32,ground:=Go.Ground.data },{ on:=26,ground:=Go.Ground.guard }],guard:=some (26,true) }
abbrev vts24_34:Oper:={ dst:=some 190,op:=Go.Op.fieldAddr 24 (Go.Operand.tmp 189) 0,type:=0,pos:="three.go:114",after:=#[{ on:=33,ground:=Go.Ground.data },{ on:=26,ground:=Go.Ground.guard }],guard:=some (26,true) }
abbrev vts24_35:Oper:={ dst:=some 191,op:=Go.Op.load 3 (Go.Operand.tmp 190),type:=3,pos:="three.go:114",after:=#[{ on:=34,ground:=Go.Ground.data },{ on:=26,ground:=Go.Ground.guard }],guard:=some (26,true) }
abbrev vts24_36:Oper:={ dst:=some 192,op:=Go.Op.binOp Go.BinOp.eql 3 (Go.Operand.tmp 191) (Go.Operand.const (Go.Value.int Go.IntKind.i64 0)) 3,type:=4,pos:="three.go:114",after:=#[{ on:=35,ground:=Go.Ground.data },{ on:=26,ground:=Go.Ground.guard }],guard:=some (26,true) }
abbrev vts24_37:Oper:={ dst:=some 193,op:=Go.Op.pick (Go.Operand.tmp 182) (Go.Operand.tmp 192) (Go.Operand.const (Go.Value.bool false)),type:=4,pos:="three.go:114",after:=#[{ on:=26,ground:=Go.Ground.data },{ on:=36,ground:=Go.Ground.data }],guard:=none }
abbrev vts24_38:Oper:={ dst:=some 194,op:=Go.Op.move (Go.Operand.tmp 193),type:=4,pos:="three.go:114",after:=#[{ on:=37,ground:=Go.Ground.data },{ on:=26,ground:=Go.Ground.chain }],guard:=none }
abbrev vts24_39:Oper:={ dst:=some 195,op:=Go.Op.fieldAddr 39 (Go.Operand.tmp 15) 1,type:=0,pos:="three.go:114",after:=#[{ on:=38,ground:=Go.Ground.guard }],guard:=some (38,true) }
abbrev vts24_40:Oper:={ dst:=some 196,op:=Go.Op.fieldAddr 36 (Go.Operand.tmp 195) 0,type:=0,pos:="three.go:114",after:=#[{ on:=39,ground:=Go.Ground.data },{ on:=38,ground:=Go.Ground.guard }],guard:=some (38,true) }
abbrev vts24_41:Oper:={ dst:=some 197,op:=Go.Op.load 32 (Go.Operand.tmp 196),type:=32,pos:="three.go:114",after:=#[{ on:=40,ground:=Go.Ground.data },{ on:=38,ground:=Go.Ground.guard }],guard:=some (38,true) }
abbrev vts24_42:Oper:={ dst:=some 198,op:=Go.Op.indexAddr 32 (Go.Operand.tmp 197) (Go.Operand.const (Go.Value.int Go.IntKind.i64 0)),type:=0,pos:="three.go:114",after:=#[{ on:=41,ground:=Go.Ground.data },{ on:=38,ground:=Go.Ground.guard }],guard:=some (38,true) }
abbrev vts24_43:Oper:={ dst:=some 199,op:=Go.Op.fieldAddr 31 (Go.Operand.tmp 198) 3,type:=0,pos:="three.go:114",after:=#[{ on:=42,ground:=Go.Ground.data },{ on:=38,ground:=Go.Ground.guard }],guard:=some (38,true) }
abbrev vts24_44:Oper:={ dst:=some 200,op:=Go.Op.load 9 (Go.Operand.tmp 199),type:=9,pos:="three.go:114",after:=#[{ on:=43,ground:=Go.Ground.data },{ on:=38,ground:=Go.Ground.guard }],guard:=some (38,true) }
abbrev vts24_45:Oper:={ dst:=some 201,op:=Go.Op.move (Go.Operand.tmp 2),type:=3,pos:="three.go:114",after:=#[{ on:=38,ground:=Go.Ground.guard }],guard:=some (38,true) }
abbrev vts24_46:Oper:={ dst:=some 202,op:=Go.Op.call { callee:=Go.Callee.value (Go.Operand.func 7),args:=#[Go.Operand.tmp 201],argTypes:=#[3] },type:=9,pos:="three.go:114",after:=#[{ on:=45,ground:=Go.Ground.data },{ on:=38,ground:=Go.Ground.chain },{ on:=38,ground:=Go.Ground.guard }],guard:=some (38,true) }
abbrev vts24_47:Oper:={ dst:=some 203,op:=Go.Op.binOp Go.BinOp.eql 9 (Go.Operand.tmp 200) (Go.Operand.tmp 202) 9,type:=4,pos:="three.go:114",after:=#[{ on:=44,ground:=Go.Ground.data },{ on:=46,ground:=Go.Ground.data },{ on:=38,ground:=Go.Ground.guard }],guard:=some (38,true) }
abbrev vts24_48:Oper:={ dst:=some 204,op:=Go.Op.pick (Go.Operand.tmp 194) (Go.Operand.tmp 203) (Go.Operand.const (Go.Value.bool false)),type:=4,pos:="three.go:114",after:=#[{ on:=38,ground:=Go.Ground.data },{ on:=47,ground:=Go.Ground.data }],guard:=none }
abbrev vts24_49:Oper:={ dst:=some 8,op:=Go.Op.assign (Go.Operand.tmp 204),type:=4,pos:="three.go:114",after:=#[{ on:=48,ground:=Go.Ground.data },{ on:=46,ground:=Go.Ground.chain },{ on:=0,ground:=Go.Ground.phase },{ on:=1,ground:=Go.Ground.phase },{ on:=2,ground:=Go.Ground.phase },{ on:=3,ground:=Go.Ground.phase },{ on:=4,ground:=Go.Ground.phase },{ on:=5,ground:=Go.Ground.phase },{ on:=6,ground:=Go.Ground.phase },{ on:=7,ground:=Go.Ground.phase },{ on:=8,ground:=Go.Ground.phase },{ on:=9,ground:=Go.Ground.phase },{ on:=10,ground:=Go.Ground.phase },{ on:=11,ground:=Go.Ground.phase },{ on:=12,ground:=Go.Ground.phase },{ on:=13,ground:=Go.Ground.phase },{ on:=14,ground:=Go.Ground.phase },{ on:=15,ground:=Go.Ground.phase },{ on:=16,ground:=Go.Ground.phase },{ on:=17,ground:=Go.Ground.phase },{ on:=18,ground:=Go.Ground.phase },{ on:=19,ground:=Go.Ground.phase },{ on:=20,ground:=Go.Ground.phase },{ on:=21,ground:=Go.Ground.phase },{ on:=22,ground:=Go.Ground.phase },{ on:=23,ground:=Go.Ground.phase },{ on:=24,ground:=Go.Ground.phase },{ on:=25,ground:=Go.Ground.phase },{ on:=26,ground:=Go.Ground.phase },{ on:=27,ground:=Go.Ground.phase },{ on:=28,ground:=Go.Ground.phase },{ on:=29,ground:=Go.Ground.phase },{ on:=30,ground:=Go.Ground.phase },{ on:=31,ground:=Go.Ground.phase },{ on:=32,ground:=Go.Ground.phase },{ on:=33,ground:=Go.Ground.phase },{ on:=34,ground:=Go.Ground.phase },{ on:=35,ground:=Go.Ground.phase },{ on:=36,ground:=Go.Ground.phase },{ on:=37,ground:=Go.Ground.phase },{ on:=38,ground:=Go.Ground.phase },{ on:=39,ground:=Go.Ground.phase },{ on:=40,ground:=Go.Ground.phase },{ on:=41,ground:=Go.Ground.phase },{ on:=42,ground:=Go.Ground.phase },{ on:=43,ground:=Go.Ground.phase },{ on:=44,ground:=Go.Ground.phase },{ on:=45,ground:=Go.Ground.phase },{ on:=46,ground:=Go.Ground.phase },{ on:=47,ground:=Go.Ground.phase },{ on:=48,ground:=Go.Ground.phase }],guard:=none }
theorem ts_call (w:World) {g n m a b:Nat}{rv cv:Value}(h:TsIn n m a b) (ht:Tab w) (h1:SlIn RowC 5 w rv (tsRows m a b)) (h2:ColsIn w cv (tsCols n))
 (h5:Row w g 44 #[.string ⟨#[120,48]⟩,.string ⟨#[111]⟩,.string ⟨#[111,110,101]⟩,.string ⟨(120 :: dec2 a).toArray⟩,.string ⟨(114 :: dec2 b).toArray⟩,.string ⟨#[116,119,111]⟩]) :
 Calls Tryz.prog 8 #[.agg #[.string ⟨#[65]⟩,.string ⟨#[111]⟩,rv,cv],.slice (some ⟨g,0,none⟩) 2 2] w (TwoGot (tsCore n m a b) (tsPs a b) w):=by
 have hrow:∀ r∈(tsCore n m a b).rows,∃ i,r=tsRow a b i:=fun r hr=>by
  obtain ⟨i,_,rfl⟩:=List.mem_map.1 (show r∈(List.range m).map (tsRow a b)from hr)
  exact ⟨i,rfl⟩
 have hf:=ts_fit h
 refine split_Of w _ _ (tsCore n m a b) (tsPs a b) ⟨_,_,rfl,h1,h2⟩ (ts_pin h5) hf (by show 2≤1000000000;omega) (fun r hr=>?_) (fun _ r hr hn=>?_) (fun _ r hr x hx=>?_) (fun _ x hx=>?_) ht
 ·obtain ⟨i,rfl⟩:=hrow r hr
  simp only[tsRow];split<;>simp
 ·obtain ⟨i,rfl⟩:=hrow r hr
  exact absurd rfl hn
 ·exact ((hf.rows r hr).2.2.2.2.1 x hx).2
 ·obtain ⟨i,_,rfl⟩:=List.mem_map.1 (show x∈(List.range n).map tsCol from hx)
  exact ⟨maybeM_of good0.1,maybeM_of good1.1⟩
set_option maxRecDepth 100000 in
set_option maxHeartbeats 8000000 in
theorem law7_TimeShape (w:World) (hT:T7 w) (ht:Tab w) (n m a b:Int) (hn1 : -9223372036854775808≤n) (hn2:n≤9223372036854775807) (hm1 : -9223372036854775808≤m) (hm2:m≤9223372036854775807) (ha1 : -9223372036854775808≤a) (ha2:a≤9223372036854775807) (hb1 : -9223372036854775808≤b) (hb2:b≤9223372036854775807) :
 Calls Tryz.prog 4 #[.int .i64 n,.int .i64 m,.int .i64 a,.int .i64 b] w (Keeps (.bool true) w):=by
 have CB:=Lib.hid (begun7 hT)
 have HT:=Lib.hid ht
 obtain ⟨N,hN1,hN2,hNe⟩:=draw5 n 2 (.inr rfl)
 obtain ⟨M,hM1,hM2,hMe⟩:=draw5 m 1 (.inl rfl)
 clear hT ht
 go_enter Tryz.func4,Tryz.ntmps4
 go_wp2_with fail
 refine CB.out.mono ?_
 rintro e w1 ⟨rfl,hb1⟩
 go_upto_region 5 with fail
 try rw[hNe]
 try rw[hMe]
 clear hNe hMe CB
 have hn0:¬ ((N:Int) - 1=0):=by omega
 have hm0:¬ ((M:Int)=0):=by omega
 go_quiet (fail)
 obtain ⟨A,hA1,hA2,hAe⟩:=drawA a (N:=N) (by omega) (by omega)
 obtain ⟨B,hB2,hBe⟩:=drawB b (M:=M) (by omega) (by omega)
 rw[hAe,hBe]
 obtain ⟨wq,hwq⟩:∃ X,X=w1.drewN nq:=⟨_,rfl⟩
 have hbq:Below w.heap.size w wq:=by rw[hwq];exact Below.drewN_ hb1 nq
 rw[← hwq]
 clear hAe hBe hwq hb1
 have HIN:Hid (TsIn N M A B):=Lib.hid ⟨by omega,by omega,by omega,by omega,hA1,hA2,hB2⟩
 have HBQ:=Lib.hid hbq
 clear hbq
 obtain ⟨w5,hw5⟩:∃ X,X=wq.alloc (.cells #[.string ⟨#[65]⟩,.string ⟨#[111]⟩,.slice none 0 0,.slice none 0 0] 34):=⟨_,rfl⟩
 have hb5:Below wq.heap.size wq w5:=by rw[hw5];exact (Below.refl _ _).alloc (Nat.le_refl _) _
 have HS5:Hid (TsR wq wq.heap.size (.slice none 0 0) (.slice none 0 0) 0 [] w5):=Lib.hid ⟨by rw[hw5];exact Row.new _ _ _,OwnK.nil_ _ _ _ _ _,OwnK.nil_ _ _ _ _ _,fun p hp=>(by cases hp),hb5,Nat.le_refl _⟩
 clear hb5
 obtain ⟨i1,hi1,hz1,hsz1,hby1⟩:=info_Cl
 obtain ⟨i2,hi2,hz2,hsz2,hby2⟩:=info_Rwx
 go_upto_region 7 with fail
 rw[← hw5]
 clear hw5
 obtain ⟨bc,hbc⟩:∃ b,b=wq.heap.size:=⟨_,rfl⟩
 rw[← hbc]at HS5 ⊢
 have HBC:=Lib.hid hbc
 clear hbc
 go_wp2_with fail
 go_loopg [11] N (fun g t wr=>∃ k:Nat,t=.int .i64 k∧k+g=N∧Hid (∃ cv,TsR wq bc (.slice none 0 0) cv k [] wr))
 case atStart=>exact ⟨0,rfl,by omega,Lib.hid ⟨_,HS5.out⟩⟩
 case round=>
  obtain ⟨k,rfl,hk,HR⟩:=hrel
  by_cases hlt:k<N
  ·obtain ⟨cv,hts⟩:=HR.out
   have CN:=Lib.hid (fun W=>law7_num W (k:Int) (by omega) (by omega))
   rw[intT_nat']at CN
   have hcat:(⟨#[120]⟩:ByteArray) ++ ⟨(dec2 k).toArray⟩=⟨(120 :: dec2 k).toArray⟩:=by apply ByteArray.ext;simp
   have hl2:=dec2_len k
   have d3:wr.cell? ⟨bc,3,none⟩=some cv:=hts.row.cell 3
   have HTS:=Lib.hid hts
   have HK:=Lib.hid hk;have HLT:=Lib.hid hlt
   have hkn:k≤6:=by omega
   clear hts HR hk HS5
   go_upto_region 10 with fail
   clear hlt
   refine wp_region_U [9,11] (fun W=>Below wr.heap.size wr W) (by kernel_rfl) ?_
   change wpAnyU _ _ _ _ _ _ _ _ _ (World.drew _)
   obtain ⟨W0,hW0⟩:∃ X,X=(wr).drew:=⟨_,rfl⟩
   rw[← hW0]
   have z0:Below (wr).heap.size (wr) W0:=by rw[hW0];exact Below.drewN_ (Below.refl _ _) 1
   clear hW0
   refine wpAnyU_pure (i:=0) (oi:=vts10_0) (v:=.pointer (some ⟨bc,3,none⟩)) rfl (by kernel_rfl) (by kernel_rfl) (by kernel_rfl) (fun _ _ _ h=>h) (Or.inl ⟨by kernel_rfl,?_⟩) ?_
   ·intro w _;go_simp<;>first|omega|(intro hh;exfalso;omega)|rfl
   try simp only[Act.put,qa,qb,qc,vts10_0]
   refine wpAnyU_take (i:=1) (oi:=vts10_1) (v:=cv) rfl (by kernel_rfl) (by kernel_rfl) (by kernel_rfl) (by kernel_rfl) (fun _ _ _ h=>h) (Or.inl ⟨by kernel_rfl,?_⟩) (z0) ?_
   ·intro w hSw;have d4:=cell_keep d3 hSw;go_simp<;>first|omega|(intro hh;exfalso;omega)|rfl
   try simp only[Act.put,qa,qb,qc,vts10_1]
   refine wpAnyU_pure (i:=2) (oi:=vts10_2) (v:=.int .i64 k) rfl (by kernel_rfl) (by kernel_rfl) (by kernel_rfl) (fun _ _ _ h=>h) (Or.inl ⟨by kernel_rfl,?_⟩) ?_
   ·intro w _;go_simp<;>first|omega|(intro hh;exfalso;omega)|rfl
   try simp only[Act.put,qa,qb,qc,vts10_2]
   refine wpAnyU_pure (i:=5) (oi:=vts10_5) (v:=.int .i64 k) rfl (by kernel_rfl) (by kernel_rfl) (by kernel_rfl) (fun _ _ _ h=>h) (Or.inl ⟨by kernel_rfl,?_⟩) ?_
   ·intro w _;go_simp<;>first|omega|(intro hh;exfalso;omega)|rfl
   try simp only[Act.put,qa,qb,qc,vts10_5]
   refine wpAnyU_ready (rs:=[3]) (by kernel_rfl) (by simp) ?_
   apply AllReadyU.cons (o:=vts10_3) (by kernel_rfl)
   case hs=>exact AllReadyU.nil
   intro K hK
   simp only[vts10_3]
   go_simp
   go_at_call 7
   refine (CN.out _).mono ?_
   rintro e' V1 ⟨rfl,y1⟩
   have z1:=below_seq z0 y1
   refine hK.out _ _ (fun _ _=>z1) ?_
   clear hK K
   try simp only[Act.put,qa,qb,qc]
   refine wpAnyU_pure (i:=4) (oi:=vts10_4) (v:=.string ⟨(120 :: dec2 k).toArray⟩) rfl (by kernel_rfl) (by kernel_rfl) (by kernel_rfl) (fun _ _ _ h=>h) (Or.inl ⟨by kernel_rfl,?_⟩) ?_
   ·intro w _;go_simp<;>first|omega|(intro hh;exfalso;omega)|rfl
   try simp only[Act.put,qa,qb,qc,vts10_4]
   refine wpAnyU_ready (rs:=[6]) (by kernel_rfl) (by simp) ?_
   apply AllReadyU.cons (o:=vts10_6) (by kernel_rfl)
   case hs=>exact AllReadyU.nil
   intro K hK
   simp only[vts10_6]
   go_simp
   go_at_call 7
   refine (CN.out _).mono ?_
   rintro e' V2 ⟨rfl,y2⟩
   have z2:=below_seq z1 y2
   refine hK.out _ _ (fun _ _=>z2) ?_
   clear hK K
   try simp only[Act.put,qa,qb,qc]
   refine wpAnyU_pure (i:=7) (oi:=vts10_7) (v:=.agg #[.string ⟨(120 :: dec2 k).toArray⟩,.string ⟨#[48]⟩,.string ⟨#[49]⟩,.string ⟨(dec2 k).toArray⟩,.bool false]) rfl (by kernel_rfl) (by kernel_rfl) (by kernel_rfl) (fun _ _ _ h=>h) (Or.inl ⟨by kernel_rfl,?_⟩) ?_
   ·intro w _;go_simp<;>first|omega|(intro hh;exfalso;omega)|rfl
   try simp only[Act.put,qa,qb,qc,vts10_7]
   refine wpAnyU_ready (rs:=[8]) (by kernel_rfl) (by simp) ?_
   apply AllReadyU.cons (o:=vts10_8) (by kernel_rfl)
   case hs=>exact AllReadyU.nil
   intro K hK
   simp only[vts10_8]
   go_simp
   obtain ⟨V3,h3⟩:∃ X,X=V2.alloc (.cells #[.string ⟨(120 :: dec2 k).toArray⟩,.string ⟨#[48]⟩,.string ⟨#[49]⟩,.string ⟨(dec2 k).toArray⟩,.bool false] 31):=⟨_,rfl⟩
   rw[← h3]
   have y3:Below V2.heap.size V2 V3:=by rw[h3];exact (Below.refl _ _).alloc (Nat.le_refl _) _
   have nn3:Row V3 V2.heap.size 31 #[.string ⟨(120 :: dec2 k).toArray⟩,.string ⟨#[48]⟩,.string ⟨#[49]⟩,.string ⟨(dec2 k).toArray⟩,.bool false]:=by rw[h3];exact Row.new _ _ _
   have z3:=below_seq z2 y3
   clear h3
   refine hK.out _ _ (fun _ _=>z3) ?_
   clear hK K
   try simp only[Act.put,qa,qb,qc]
   refine wpAnyU_ready (rs:=[9]) (by kernel_rfl) (by simp) ?_
   apply AllReadyU.cons (o:=vts10_9) (by kernel_rfl)
   case hs=>exact AllReadyU.nil
   intro K hK
   have IN:=HTS.out.keep z3
   refine step_append_ownK (Kd:=fun _=>True) rfl (.tmp 55) (.tmp 62) 32 rfl (bc+1) 31 i1 _ 5 Tryz.underlying32 hi1 hz1 hsz1 rfl (by omega) cv k ((tsCols k).flatMap encCol) rfl IN.cols ⟨V2.heap.size,0,none⟩ 1 1 [.string ⟨(120 :: dec2 k).toArray⟩,.string ⟨#[48]⟩,.string ⟨#[49]⟩,.string ⟨(dec2 k).toArray⟩,.bool false] rfl rfl (one_row5 nn3) (by simp[Value.oneCell']) (by simp) (by simp) (by omega) (by unfold maxLen;omega) (by rw[hby1];omega) (by have:=IN.row.lt;omega) ?_
   intro v4 V4 ow4 gr4 lc4
   obtain ⟨g4,cp4,rfl⟩:=OwnK.shape ow4 (by omega)
   have hr4:Row V4 bc 34 _:=(grown_other IN.cols gr4 IN.row (by decide)).trans IN.row
   have HNX:=Lib.hid (IN.addCol ow4 gr4)
   refine hK.out _ _ (fun h=>absurd (by decide) h) ?_
   clear hK K
   try simp only[Act.put,qa,qb,qc]
   refine wpAnyU_pure (i:=10) (oi:=vts10_10) (v:=.pointer (some ⟨bc,3,none⟩)) rfl (by kernel_rfl) (by kernel_rfl) (by kernel_rfl) (fun _ _ _ h=>h) (Or.inl ⟨by kernel_rfl,?_⟩) ?_
   ·intro w _;go_simp<;>first|omega|(intro hh;exfalso;omega)|rfl
   try simp only[Act.put,qa,qb,qc,vts10_10]
   refine wpAnyU_ready (rs:=[11]) (by kernel_rfl) (by simp) ?_
   apply AllReadyU.cons (o:=vts10_11) (by kernel_rfl)
   case hs=>exact AllReadyU.nil
   intro K hK
   simp only[vts10_11]
   have k1:V4.cell? ⟨bc,3,none⟩=some cv:=hr4.cell 3
   have k2:=hr4.free 3
   go_simp
   refine hK.out _ _ (fun h=>absurd (by decide) h) ?_
   clear hK K
   try simp only[Act.put,qa,qb,qc]
   refine wpAnyU_done (by kernel_rfl) ?_ _
   clear k1 k2 hr4 ow4 gr4 lc4 IN nn3 y3 z3
   go_wp2_with fail
   go_roundg (gk - 1)
   case measure=>have:=HK.out;have:=HLT.out;omega
   case rel=>exact ⟨k+1,by go_num,by have:=HK.out;have:=HLT.out;omega,Lib.hid ⟨_,HNX.out⟩⟩
  ·obtain rfl:k=N:=by omega
   have HRX:=HR
   clear hk hlt HS5 HR
   go_wp2_with fail
   go_loopg [12] M (fun g t wr=>∃ j:Nat,t=.int .i64 j∧j+g=M∧Hid (∃ rv cv R,TsR wq bc rv cv k R wr∧R.map (·.2)=tsRows j A B))
   case atStart=>
    obtain ⟨cv,h⟩:=HRX.out
    exact ⟨0,rfl,by omega,Lib.hid ⟨_,cv,[],h,rfl⟩⟩
   case round=>
    obtain ⟨j,rfl,hj,HQ⟩:=hrel
    by_cases hlt:j<M
    ·obtain ⟨rv,cv,R,hts,hRm⟩:=HQ.out
     have CN:=Lib.hid (fun W=>law7_num W (j:Int) (by omega) (by omega))
     rw[intT_nat']at CN
     have hcat:(⟨#[114]⟩:ByteArray) ++ ⟨(dec2 j).toArray⟩=⟨(114 :: dec2 j).toArray⟩:=by apply ByteArray.ext;simp
     have hl2:=dec2_len j
     have hRl:R.length≤5:=by have:=congrArg List.length hRm;simp[tsRows]at this;omega
     have HTS:=Lib.hid hts
     have HJ:=Lib.hid hj;have HLT:=Lib.hid hlt;have HRM:=Lib.hid hRm
     have hjn:j≤5:=by omega
     clear hts HQ hj hRm HRX
     go_upto_region 14 with fail
     clear hlt
     go_wp2_with fail
     refine (CN.out _).mono ?_
     rintro e w2 ⟨rfl,h2⟩
     go_wp2_with fail
     refine (CN.out _).mono ?_
     rintro e w3 ⟨rfl,h3⟩
     have H3:=Lib.hid (below_seq h2 h3)
     obtain ⟨w4,hw4⟩:∃ X,X=w3.alloc (.cells #[.string ⟨(114 :: dec2 j).toArray⟩,.int .i64 1,.slice none 0 0,.string ⟨(dec2 j).toArray⟩,.string ⟨#[]⟩] 28):=⟨_,rfl⟩
     have h4:Below w3.heap.size w3 w4:=by rw[hw4];exact (Below.refl _ _).alloc (Nat.le_refl _) _
     have r4:Row w4 w3.heap.size 28 #[.string ⟨(114 :: dec2 j).toArray⟩,.int .i64 1,.slice none 0 0,.string ⟨(dec2 j).toArray⟩,.string ⟨#[]⟩]:=by rw[hw4];exact Row.new _ _ _
     have R4:=Lib.hid r4
     have H4:=Lib.hid (below_seq H3.out h4)
     have HSZ:Hid (wr.heap.size≤w3.heap.size∧bc<wr.heap.size):=Lib.hid ⟨H3.out.size,HTS.out.row.lt⟩
     clear h2 h3 h4 r4
     by_cases hge:B≤j
     ·have hge':(B:Int)≤(j:Int):=by omega
      have HGE:=Lib.hid hge
      clear hge
      go_upto_region 16 with fail
      rw[← hw4]
      clear hw4
      obtain ⟨bx,hbx⟩:∃ b,b=w3.heap.size:=⟨_,rfl⟩
      rw[← hbx]at R4 HSZ ⊢
      clear hbx
      have r5:=R4.out.alloc (.cells #[.int .i64 0,.string ⟨#[49]⟩,.int .i64 A,.string ⟨#[50]⟩] 24)
      have d2:(w4.alloc (.cells #[.int .i64 0,.string ⟨#[49]⟩,.int .i64 A,.string ⟨#[50]⟩] 24)).cell? ⟨bx,2,none⟩=some (.slice none 0 0):=r5.cell 2
      have y2:=r5.free 2
      obtain ⟨w6,hw6⟩:∃ X,X=(w4.alloc (.cells #[.int .i64 0,.string ⟨#[49]⟩,.int .i64 A,.string ⟨#[50]⟩] 24)).setCell ⟨bx,2,none⟩ (.slice (some ⟨w4.heap.size,0,none⟩) 2 2):=⟨_,rfl⟩
      have hb6:Below wr.heap.size wr w6:=by
       rw[hw6]
       exact ((H4.out.alloc H4.out.size _)).setCell (p:=⟨bx,2,none⟩) HSZ.out.1 _
      have r6:Row w6 bx 28 #[.string ⟨(114 :: dec2 j).toArray⟩,.int .i64 1,.slice (some ⟨w4.heap.size,0,none⟩) 2 2,.string ⟨(dec2 j).toArray⟩,.string ⟨#[]⟩]:=by
       rw[hw6];have:=r5.set 2 (.slice (some ⟨w4.heap.size,0,none⟩) 2 2);simpa using this
      have q6:Row w6 w4.heap.size 24 #[.int .i64 0,.string ⟨#[49]⟩,.int .i64 A,.string ⟨#[50]⟩]:=by
       rw[hw6];exact (Row.new _ _ _).far (by have:=R4.out.lt;simp;omega) _
      have hsz4:wr.heap.size≤w4.heap.size:=H4.out.size
      clear r5
      go_upto_region 17 with fail
      rw[← hw6]
      clear hw6 d2 y2
      have c0:w6.cell? ⟨bx,0,none⟩=some (.string ⟨(114 :: dec2 j).toArray⟩):=r6.cell 0
      have c1:w6.cell? ⟨bx,1,none⟩=some (.int .i64 1):=r6.cell 1
      have c2:w6.cell? ⟨bx,2,none⟩=some (.slice (some ⟨w4.heap.size,0,none⟩) 2 2):=r6.cell 2
      have c3:w6.cell? ⟨bx,3,none⟩=some (.string ⟨(dec2 j).toArray⟩):=r6.cell 3
      have c4:w6.cell? ⟨bx,4,none⟩=some (.string ⟨#[]⟩):=r6.cell 4
      have k2:w6.cell? ⟨bc,2,none⟩=some rv:=(HTS.out.keep hb6).row.cell 2
      have hal:Below w6.heap.size w6 (w6.alloc (.cells #[.string ⟨(114 :: dec2 j).toArray⟩,.int .i64 1,.slice (some ⟨w4.heap.size,0,none⟩) 2 2,.string ⟨(dec2 j).toArray⟩,.string ⟨#[]⟩] 28)):=(Below.refl _ _).alloc (Nat.le_refl _) _
      have hnew:Hid (∀ (q:Nat) u,[.string ⟨(114 :: dec2 j).toArray⟩,.int .i64 1,.slice (some ⟨w4.heap.size,0,none⟩) 2 2,.string ⟨(dec2 j).toArray⟩,.string ⟨#[]⟩][q]?=some u→(w6.alloc (.cells #[.string ⟨(114 :: dec2 j).toArray⟩,.int .i64 1,.slice (some ⟨w4.heap.size,0,none⟩) 2 2,.string ⟨(dec2 j).toArray⟩,.string ⟨#[]⟩] 28)).cell? ((⟨w6.heap.size,0,none⟩:Addr).add q)=some u):=Lib.hid (one_row5 (Row.new _ _ _))
      have HT7:=Lib.hid ((HTS.out.keep hb6).keep hal)
      have HCS:Hid (OwnCs (w6.alloc (.cells #[.string ⟨(114 :: dec2 j).toArray⟩,.int .i64 1,.slice (some ⟨w4.heap.size,0,none⟩) 2 2,.string ⟨(dec2 j).toArray⟩,.string ⟨#[]⟩] 28)) (bc+1) (.slice (some ⟨w4.heap.size,0,none⟩) 2 2) (tsRow A B j).coef):=Lib.hid (by rw[show (tsRow A B j).coef = [(0,[49]),((A:Int),[50])]from if_pos HGE.out];exact own_two (q6.alloc _) (by have:=HSZ.out.2;omega))
      have hk1:bc+1≤(w6.alloc (.cells #[.string ⟨(114 :: dec2 j).toArray⟩,.int .i64 1,.slice (some ⟨w4.heap.size,0,none⟩) 2 2,.string ⟨(dec2 j).toArray⟩,.string ⟨#[]⟩] 28)).heap.size:=HT7.out.row.lt
      clear hal r6
      go_wp2_with (at_builtin;refine wpList_append_ownK (Kd:=fun _=>True) rfl (.tmp 85) (.tmp 87) 29 rfl (bc+1) 28 i2 _ 5 Tryz.underlying29 hi2 hz2 hsz2 rfl (by omega) _ R.length (R.flatMap encVR2) rfl HT7.out.rows ⟨w6.heap.size,0,none⟩ 1 1 [.string ⟨(114 :: dec2 j).toArray⟩,.int .i64 1,.slice (some ⟨w4.heap.size,0,none⟩) 2 2,.string ⟨(dec2 j).toArray⟩,.string ⟨#[]⟩] rfl (by simp) hnew.out (by simp[Value.oneCell']) (by simp) (by simp) (by omega) (by unfold maxLen;omega) (by rw[hby2];omega) hk1 ?_;intro v6 w8 hown6 hgr6 hloc6;refine Hid.out ?_)
      obtain ⟨g6,cp6,rfl⟩:=OwnK.shape hown6 (by omega)
      have hr8:Row w8 bc 34 _:=(grown_other HT7.out.rows hgr6 HT7.out.row (by decide)).trans HT7.out.row
      have k3:w8.cell? ⟨bc,2,none⟩=some rv:=hr8.cell 2
      have k4:=hr8.free 2
      have HNX:Hid (∃ rv' cv' R',TsR wq bc rv' cv' k R' (w8.setCell ⟨bc,2,none⟩ (.slice (some ⟨g6,0,none⟩) (R.length+1) cp6))∧R'.map (·.2)=tsRows (j+1) A B):=Lib.hid ⟨_,_,R ++ [((.slice (some ⟨w4.heap.size,0,none⟩) 2 2),tsRow A B j)],HT7.out.addRow (p:=((.slice (some ⟨w4.heap.size,0,none⟩) 2 2),tsRow A B j)) hown6 hgr6 HCS.out (by rw[show (tsRow A B j).coef = [(0,[49]),((A:Int),[50])]from if_pos HGE.out];exact .inr (by simp)),by rw[List.map_append,HRM.out,tsRows_succ];rfl⟩
      refine Lib.hid ?_
      clear hown6 hgr6 hloc6 hnew hk1 hr8 c0 c1 c2 c3 c4 k2
      go_wp2_with fail
      go_roundg (gk - 1)
      case measure=>have:=HJ.out;have:=HLT.out;omega
      case rel=>exact ⟨j+1,by go_num,by have:=HJ.out;have:=HLT.out;omega,HNX⟩
     ·have hge':¬ (B:Int)≤(j:Int):=by omega
      have HGE:=Lib.hid hge
      clear hge
      go_upto_region 17 with fail
      rw[← hw4]
      clear hw4
      obtain ⟨bx,hbx⟩:∃ b,b=w3.heap.size:=⟨_,rfl⟩
      rw[← hbx]at R4 HSZ ⊢
      clear hbx
      have r4:=R4.out
      have c0:w4.cell? ⟨bx,0,none⟩=some (.string ⟨(114 :: dec2 j).toArray⟩):=r4.cell 0
      have c1:w4.cell? ⟨bx,1,none⟩=some (.int .i64 1):=r4.cell 1
      have c2:w4.cell? ⟨bx,2,none⟩=some (.slice none 0 0):=r4.cell 2
      have c3:w4.cell? ⟨bx,3,none⟩=some (.string ⟨(dec2 j).toArray⟩):=r4.cell 3
      have c4:w4.cell? ⟨bx,4,none⟩=some (.string ⟨#[]⟩):=r4.cell 4
      have k2:w4.cell? ⟨bc,2,none⟩=some rv:=(HTS.out.keep H4.out).row.cell 2
      have hal:Below w4.heap.size w4 (w4.alloc (.cells #[.string ⟨(114 :: dec2 j).toArray⟩,.int .i64 1,.slice none 0 0,.string ⟨(dec2 j).toArray⟩,.string ⟨#[]⟩] 28)):=(Below.refl _ _).alloc (Nat.le_refl _) _
      have hnew:Hid (∀ (q:Nat) u,[.string ⟨(114 :: dec2 j).toArray⟩,.int .i64 1,.slice none 0 0,.string ⟨(dec2 j).toArray⟩,.string ⟨#[]⟩][q]?=some u→(w4.alloc (.cells #[.string ⟨(114 :: dec2 j).toArray⟩,.int .i64 1,.slice none 0 0,.string ⟨(dec2 j).toArray⟩,.string ⟨#[]⟩] 28)).cell? ((⟨w4.heap.size,0,none⟩:Addr).add q)=some u):=Lib.hid (one_row5 (Row.new _ _ _))
      have HT7:=Lib.hid ((HTS.out.keep H4.out).keep hal)
      have HCS:Hid (OwnCs (w4.alloc (.cells #[.string ⟨(114 :: dec2 j).toArray⟩,.int .i64 1,.slice none 0 0,.string ⟨(dec2 j).toArray⟩,.string ⟨#[]⟩] 28)) (bc+1) (.slice none 0 0) (tsRow A B j).coef):=Lib.hid (by rw[show (tsRow A B j).coef = []from if_neg HGE.out];exact OwnK.nil_ _ _ _ _ _)
      have hk1:bc+1≤(w4.alloc (.cells #[.string ⟨(114 :: dec2 j).toArray⟩,.int .i64 1,.slice none 0 0,.string ⟨(dec2 j).toArray⟩,.string ⟨#[]⟩] 28)).heap.size:=HT7.out.row.lt
      clear hal r4
      go_wp2_with (at_builtin;refine wpList_append_ownK (Kd:=fun _=>True) rfl (.tmp 85) (.tmp 87) 29 rfl (bc+1) 28 i2 _ 5 Tryz.underlying29 hi2 hz2 hsz2 rfl (by omega) _ R.length (R.flatMap encVR2) rfl HT7.out.rows ⟨w4.heap.size,0,none⟩ 1 1 [.string ⟨(114 :: dec2 j).toArray⟩,.int .i64 1,.slice none 0 0,.string ⟨(dec2 j).toArray⟩,.string ⟨#[]⟩] rfl (by simp) hnew.out (by simp[Value.oneCell']) (by simp) (by simp) (by omega) (by unfold maxLen;omega) (by rw[hby2];omega) hk1 ?_;intro v6 w8 hown6 hgr6 hloc6;refine Hid.out ?_)
      obtain ⟨g6,cp6,rfl⟩:=OwnK.shape hown6 (by omega)
      have hr8:Row w8 bc 34 _:=(grown_other HT7.out.rows hgr6 HT7.out.row (by decide)).trans HT7.out.row
      have k3:w8.cell? ⟨bc,2,none⟩=some rv:=hr8.cell 2
      have k4:=hr8.free 2
      have HNX:Hid (∃ rv' cv' R',TsR wq bc rv' cv' k R' (w8.setCell ⟨bc,2,none⟩ (.slice (some ⟨g6,0,none⟩) (R.length+1) cp6))∧R'.map (·.2)=tsRows (j+1) A B):=Lib.hid ⟨_,_,R ++ [((.slice none 0 0),tsRow A B j)],HT7.out.addRow (p:=((.slice none 0 0),tsRow A B j)) hown6 hgr6 HCS.out (.inl rfl),by rw[List.map_append,HRM.out,tsRows_succ];rfl⟩
      refine Lib.hid ?_
      clear hown6 hgr6 hloc6 hnew hk1 hr8 c0 c1 c2 c3 c4 k2
      go_wp2_with fail
      go_roundg (gk - 1)
      case measure=>have:=HJ.out;have:=HLT.out;omega
      case rel=>exact ⟨j+1,by go_num,by have:=HJ.out;have:=HLT.out;omega,HNX⟩
    ·obtain rfl:j=M:=by omega
     obtain ⟨rv,cv,R,hts,hRm⟩:=HQ.out
     have CN1:=Lib.hid (fun W=>law7_num W (A:Int) (by omega) (by omega))
     have CN2:=Lib.hid (fun W=>law7_num W (B:Int) (by omega) (by omega))
     rw[intT_nat']at CN1 CN2
     have hcat1:(⟨#[120]⟩:ByteArray) ++ ⟨(dec2 A).toArray⟩=⟨(120 :: dec2 A).toArray⟩:=by apply ByteArray.ext;simp
     have hcat2:(⟨#[114]⟩:ByteArray) ++ ⟨(dec2 B).toArray⟩=⟨(114 :: dec2 B).toArray⟩:=by apply ByteArray.ext;simp
     have hl1:=dec2_len A
     have hl2:=dec2_len B
     have HTS:=Lib.hid hts;have HRM:=Lib.hid hRm
     clear hts hRm HQ hj HRX
     go_upto_region 18 with fail
     clear hlt
     go_wp2_with fail
     refine (CN1.out _).mono ?_
     rintro e w2 ⟨rfl,h2⟩
     go_wp2_with fail
     refine (CN2.out _).mono ?_
     rintro e w3 ⟨rfl,h3⟩
     obtain ⟨w4,hw4⟩:∃ X,X=w3.alloc (.cells #[.string ⟨#[120,48]⟩,.string ⟨#[111]⟩,.string ⟨#[111,110,101]⟩,.string ⟨(120 :: dec2 A).toArray⟩,.string ⟨(114 :: dec2 B).toArray⟩,.string ⟨#[116,119,111]⟩] 44):=⟨_,rfl⟩
     have h4:Below w3.heap.size w3 w4:=by rw[hw4];exact (Below.refl _ _).alloc (Nat.le_refl _) _
     have r4:Row w4 w3.heap.size 44 #[.string ⟨#[120,48]⟩,.string ⟨#[111]⟩,.string ⟨#[111,110,101]⟩,.string ⟨(120 :: dec2 A).toArray⟩,.string ⟨(114 :: dec2 B).toArray⟩,.string ⟨#[116,119,111]⟩]:=by rw[hw4];exact Row.new _ _ _
     have hts4:=HTS.out.keep (below_seq (below_seq h2 h3) h4)
     have H4:=Lib.hid (below_seq HBQ.out hts4.below)
     obtain ⟨hi1,hi2⟩:=hts4.in_
     rw[HRM.out]at hi1
     have CS:=ts_call w4 HIN.out (HT.out.keep H4.out) hi1 hi2 r4
     unfold TwoGot at CS
     rw[ts_split HIN.out]at CS
     dsimp only at CS
     replace CS:=Lib.hid CS
     have k0:w4.cell? ⟨bc,0,none⟩=some (.string ⟨#[65]⟩):=hts4.row.cell 0
     have k1:w4.cell? ⟨bc,1,none⟩=some (.string ⟨#[111]⟩):=hts4.row.cell 1
     have k2:w4.cell? ⟨bc,2,none⟩=some rv:=hts4.row.cell 2
     have k3:w4.cell? ⟨bc,3,none⟩=some cv:=hts4.row.cell 3
     have HCI:Hid (CoreIn w4 (.agg #[.string ⟨#[65]⟩,.string ⟨#[111]⟩,rv,cv]) (tsCore k j A B)):=Lib.hid ⟨_,_,rfl,RowC.rowsIn hi1,hi2⟩
     have HPI:=Lib.hid (ts_pin r4)
     have HRW:=Lib.hid hts4.row
     clear h2 h3 h4 r4 hts4 hi1 hi2 HTS HRM CN1 CN2
     go_upto_region 19 with fail
     rw[← hw4]
     clear hw4
     obtain ⟨bp,hbp⟩:∃ b,b=w3.heap.size:=⟨_,rfl⟩
     rw[← hbp]at CS HPI ⊢
     clear hbp
     go_wp2_with fail
     refine CS.out.mono ?_
     rintro e w5 ⟨tv,rfl,htw,h5⟩
     obtain ⟨lc1,lc2,lr1,lr2,lte⟩:=ts_lens HIN.out
     obtain ⟨hd1,hd2,hd3⟩:=ts_heads HIN.out
     obtain ⟨a1,a2,a3,a4,a5,rfl,⟨A1,m1,rfl,_,_⟩,⟨A2,m2,rfl,_,_⟩,⟨A3,m3,rfl,_,hc3⟩,⟨A4,m4,rfl,hm4,hc4⟩,⟨A5,m5,rfl,hm5,hc5⟩⟩:=htw
     obtain ⟨x5,hx5⟩:∃ x,(tsTwo k j A B).tech[0]?=some x:=⟨_,hd1⟩
     obtain ⟨g3,o3,rfl,c30,c31,c32,c33,c34⟩:=hc3 0 _ hd3
     obtain ⟨g4,o4,rfl,cv4,c40,c41,c42,c43,c44,hcs4⟩:=hc4 0 _ hd2
     obtain ⟨g5,o5,rfl,cv5,c50,hcs5⟩:=hc5 0 _ hd1
     obtain ⟨A6,m6,rfl,hm6,hc6⟩:=hcs4
     obtain ⟨A7,m7,rfl,hm7,hc7⟩:=hcs5
     obtain ⟨g6,o6,rfl,c60,c61⟩:=hc6 0 _ rfl
     obtain ⟨g7,o7,rfl,c70,c71⟩:=hc7 0 _ rfl
     rw[lc1,lc2,lr1,lr2,lte]
     rw[lr2]at hm4
     rw[lte]at hm5
     dsimp only[List.length_cons,List.length_nil]at c42 c50 hm6 hm7
     simp only[Nat.zero_mul,Nat.add_zero]at c33 c42 c50 c60 c70
     have d3:w5.cell? ⟨g3,o3+3,none⟩=some (.string ⟨(dec2 A).toArray⟩):=c33
     have d4:w5.cell? ⟨g4,o4+2,none⟩=some (.slice (some ⟨g6,o6,none⟩) 1 m6):=c42
     have d5:w5.cell? ⟨g5,o5,none⟩=some (.slice (some ⟨g7,o7,none⟩) 1 m7):=c50
     have d6:w5.cell? ⟨g6,o6,none⟩=some (.int .i64 0):=c60
     have d7:w5.cell? ⟨g7,o7,none⟩=some (.int .i64 0):=c70
     clear c30 c31 c32 c33 c34 c40 c41 c42 c43 c44 c50 c60 c61 c70 c71 hc3 hc4 hc5 hc6 hc7 hd1 hd2 hd3 hx5 lc1 lc2 lr1 lr2 lte k0 k1 k2 k3 CS
     obtain ⟨n2,hn2⟩:∃ x,x=k - A:=⟨_,rfl⟩
     obtain ⟨n4,hn4⟩:∃ x,x=j - B:=⟨_,rfl⟩
     rw[← hn2,← hn4]
     rw[← hn4]at hm4 hm5
     have e2:(n2:Int)=(k:Int) - (A:Int):=by omega
     have e4:(n4:Int)=(j:Int) - (B:Int):=by omega
     have p2:0<n2:=by omega
     have p4:0<n4:=by omega
     clear hn2 hn4
     obtain ⟨w6,hw6⟩:∃ X,X=w5.alloc (.cells #[.slice A1 A m1,.slice A2 B m2,.slice (some ⟨g3,o3,none⟩) n2 m3,.slice (some ⟨g4,o4,none⟩) n4 m4,.slice (some ⟨g5,o5,none⟩) n4 m5] 39):=⟨_,rfl⟩
     have h6:Below w5.heap.size w5 w6:=by rw[hw6];exact (Below.refl _ _).alloc (Nat.le_refl _) _
     have r6:Row w6 w5.heap.size 39 #[.slice A1 A m1,.slice A2 B m2,.slice (some ⟨g3,o3,none⟩) n2 m3,.slice (some ⟨g4,o4,none⟩) n4 m4,.slice (some ⟨g5,o5,none⟩) n4 m5]:=by rw[hw6];exact Row.new _ _ _
     have h46:=below_seq h5 h6
     have hfit:=ts_fit HIN.out
     have CP:=period_May w6 _ _ (tsCore k j A B) (tsPs A B) (HCI.out.keep h46) (HPI.out.keep PerR.firm h46) hfit.rl hfit.cl (by show 2≤1000000000;omega)
     rw[(ts_dec k (by omega) (by omega) j (by omega) (by omega) A hA2 hA1 B hB2).2.1]at CP
     replace CP:=Lib.hid CP
     have hrw6:=HRW.out.keep h46
     have k0:w6.cell? ⟨bc,0,none⟩=some (.string ⟨#[65]⟩):=hrw6.cell 0
     have k1:w6.cell? ⟨bc,1,none⟩=some (.string ⟨#[111]⟩):=hrw6.cell 1
     have k2:w6.cell? ⟨bc,2,none⟩=some rv:=hrw6.cell 2
     have k3:w6.cell? ⟨bc,3,none⟩=some cv:=hrw6.cell 3
     have H6:=Lib.hid h6
     have R6:=Lib.hid r6
     have HB6:=Lib.hid (below_seq H4.out h46)
     clear hrw6 h46 hfit h5 h6 r6 HCI HPI HRW
     go_upto_region 20 with fail
     rw[← hw6]
     clear hw6
     obtain ⟨bt,hbt⟩:∃ b,b=w5.heap.size:=⟨_,rfl⟩
     rw[← hbt]at R6 ⊢
     clear hbt
     go_wp2_with fail
     refine CP.out.mono ?_
     rintro e w7 ⟨rfl,h7⟩
     have r7:=R6.out.keep h7
     have t0:w7.cell? ⟨bt,0,none⟩=some (.slice A1 A m1):=r7.cell 0
     have t1:w7.cell? ⟨bt,1,none⟩=some (.slice A2 B m2):=r7.cell 1
     have t2:w7.cell? ⟨bt,2,none⟩=some (.slice (some ⟨g3,o3,none⟩) n2 m3):=r7.cell 2
     have t3:w7.cell? ⟨bt,3,none⟩=some (.slice (some ⟨g4,o4,none⟩) n4 m4):=r7.cell 3
     have t4:w7.cell? ⟨bt,4,none⟩=some (.slice (some ⟨g5,o5,none⟩) n4 m5):=r7.cell 4
     have h57:=below_seq H6.out h7
     have D3:=cell_keep d3 h57;have D4:=cell_keep d4 h57;have D5:=cell_keep d5 h57;have D6:=cell_keep d6 h57;have D7:=cell_keep d7 h57
     have HB7:=Lib.hid (below_seq HB6.out h7)
     clear d3 d4 d5 d6 d7 r7 h57 h7 k0 k1 k2 k3 CP H6 R6 HB6
     have z1:((k:Int) - (A:Int) != (k:Int) - (A:Int))=false:=by simp
     have z2:((j:Int) - (B:Int) != (j:Int) - (B:Int))=false:=by simp
     have z3:((A:Int) != (A:Int))=false:=by simp
     have z4:((B:Int) != (B:Int))=false:=by simp
     go_upto_region 24 with fail
     have CNA:=Lib.hid (fun W=>law7_num W (A:Int) (by omega) (by omega))
     rw[intT_nat']at CNA
     clear z1 z2 z3 z4
     have q4:(0:Int)<(n4:Int):=by omega
     have q2:(0:Int)<(n2:Int):=by omega
     refine wp_region_held (S:=fun W=>Below w7.heap.size w7 W) (by kernel_rfl) ?_
     change wpAnyH _ _ _ _ _ _ _ _ (World.drew _)
     obtain ⟨W0,hW0⟩:∃ X,X=(w7).drew:=⟨_,rfl⟩
     rw[← hW0]
     have z0:Below (w7).heap.size (w7) W0:=by rw[hW0];exact Below.drewN_ (Below.refl _ _) 1
     clear hW0
     refine tkH (i:=0) (oi:=vts24_0) (v:=.pointer (some ⟨bt,4,none⟩)) (by kernel_rfl) rfl (fun _ _ _ h=>h) ?_ (z0) ?_
     ·intro w hSw;go_simp<;>first|omega|(intro hh;exfalso;omega)|rfl
     try simp only[Act.put,qa,qb,qc,vts24_0]
     refine tkH (i:=1) (oi:=vts24_1) (v:=.slice (some ⟨g5,o5,none⟩) n4 m5) (by kernel_rfl) rfl (fun _ _ _ h=>h) ?_ (z0) ?_
     ·intro w hSw;have X:=cell_keep t4 hSw;go_simp<;>first|omega|(intro hh;exfalso;omega)|rfl
     try simp only[Act.put,qa,qb,qc,vts24_1]
     refine tkH (i:=2) (oi:=vts24_2) (v:=.pointer (some ⟨g5,o5,none⟩)) (by kernel_rfl) rfl (fun _ _ _ h=>h) ?_ (z0) ?_
     ·intro w hSw;go_simp<;>first|omega|(intro hh;exfalso;omega)|rfl
     try simp only[Act.put,qa,qb,qc,vts24_2]
     refine tkH (i:=3) (oi:=vts24_3) (v:=.slice (some ⟨g7,o7,none⟩) 1 m7) (by kernel_rfl) rfl (fun _ _ _ h=>h) ?_ (z0) ?_
     ·intro w hSw;have X:=cell_keep D5 hSw;go_simp<;>first|omega|(intro hh;exfalso;omega)|rfl
     try simp only[Act.put,qa,qb,qc,vts24_3]
     refine tkH (i:=4) (oi:=vts24_4) (v:=.int .i64 1) (by kernel_rfl) rfl (fun _ _ _ h=>h) ?_ (z0) ?_
     ·intro w hSw;go_simp<;>first|omega|(intro hh;exfalso;omega)|rfl
     try simp only[Act.put,qa,qb,qc,vts24_4]
     refine tkH (i:=5) (oi:=vts24_5) (v:=.bool true) (by kernel_rfl) rfl (fun _ _ _ h=>h) ?_ (z0) ?_
     ·intro w hSw;go_simp<;>first|omega|(intro hh;exfalso;omega)|rfl
     try simp only[Act.put,qa,qb,qc,vts24_5]
     refine tkH (i:=6) (oi:=vts24_6) (v:=.bool true) (by kernel_rfl) rfl (fun _ _ _ h=>h) ?_ (z0) ?_
     ·intro w hSw;go_simp<;>first|omega|(intro hh;exfalso;omega)|rfl
     try simp only[Act.put,qa,qb,qc,vts24_6]
     refine tkH (i:=7) (oi:=vts24_7) (v:=.pointer (some ⟨bt,4,none⟩)) (by kernel_rfl) rfl (fun _ _ _ h=>h) ?_ (z0) ?_
     ·intro w hSw;go_simp<;>first|omega|(intro hh;exfalso;omega)|rfl
     try simp only[Act.put,qa,qb,qc,vts24_7]
     refine tkH (i:=8) (oi:=vts24_8) (v:=.slice (some ⟨g5,o5,none⟩) n4 m5) (by kernel_rfl) rfl (fun _ _ _ h=>h) ?_ (z0) ?_
     ·intro w hSw;have X:=cell_keep t4 hSw;go_simp<;>first|omega|(intro hh;exfalso;omega)|rfl
     try simp only[Act.put,qa,qb,qc,vts24_8]
     refine tkH (i:=9) (oi:=vts24_9) (v:=.pointer (some ⟨g5,o5,none⟩)) (by kernel_rfl) rfl (fun _ _ _ h=>h) ?_ (z0) ?_
     ·intro w hSw;go_simp<;>first|omega|(intro hh;exfalso;omega)|rfl
     try simp only[Act.put,qa,qb,qc,vts24_9]
     refine tkH (i:=10) (oi:=vts24_10) (v:=.slice (some ⟨g7,o7,none⟩) 1 m7) (by kernel_rfl) rfl (fun _ _ _ h=>h) ?_ (z0) ?_
     ·intro w hSw;have X:=cell_keep D5 hSw;go_simp<;>first|omega|(intro hh;exfalso;omega)|rfl
     try simp only[Act.put,qa,qb,qc,vts24_10]
     refine tkH (i:=11) (oi:=vts24_11) (v:=.pointer (some ⟨g7,o7,none⟩)) (by kernel_rfl) rfl (fun _ _ _ h=>h) ?_ (z0) ?_
     ·intro w hSw;go_simp<;>first|omega|(intro hh;exfalso;omega)|rfl
     try simp only[Act.put,qa,qb,qc,vts24_11]
     refine tkH (i:=12) (oi:=vts24_12) (v:=.pointer (some ⟨g7,o7,none⟩)) (by kernel_rfl) rfl (fun _ _ _ h=>h) ?_ (z0) ?_
     ·intro w hSw;go_simp<;>first|omega|(intro hh;exfalso;omega)|rfl
     try simp only[Act.put,qa,qb,qc,vts24_12]
     refine tkH (i:=13) (oi:=vts24_13) (v:=.int .i64 0) (by kernel_rfl) rfl (fun _ _ _ h=>h) ?_ (z0) ?_
     ·intro w hSw;have X:=cell_keep D7 hSw;go_simp<;>first|omega|(intro hh;exfalso;omega)|rfl
     try simp only[Act.put,qa,qb,qc,vts24_13]
     refine tkH (i:=14) (oi:=vts24_14) (v:=.bool true) (by kernel_rfl) rfl (fun _ _ _ h=>h) ?_ (z0) ?_
     ·intro w hSw;go_simp<;>first|omega|(intro hh;exfalso;omega)|rfl
     try simp only[Act.put,qa,qb,qc,vts24_14]
     refine tkH (i:=15) (oi:=vts24_15) (v:=.bool true) (by kernel_rfl) rfl (fun _ _ _ h=>h) ?_ (z0) ?_
     ·intro w hSw;go_simp<;>first|omega|(intro hh;exfalso;omega)|rfl
     try simp only[Act.put,qa,qb,qc,vts24_15]
     refine tkH (i:=16) (oi:=vts24_16) (v:=.bool true) (by kernel_rfl) rfl (fun _ _ _ h=>h) ?_ (z0) ?_
     ·intro w hSw;go_simp<;>first|omega|(intro hh;exfalso;omega)|rfl
     try simp only[Act.put,qa,qb,qc,vts24_16]
     refine tkH (i:=17) (oi:=vts24_17) (v:=.pointer (some ⟨bt,2,none⟩)) (by kernel_rfl) rfl (fun _ _ _ h=>h) ?_ (z0) ?_
     ·intro w hSw;go_simp<;>first|omega|(intro hh;exfalso;omega)|rfl
     try simp only[Act.put,qa,qb,qc,vts24_17]
     refine tkH (i:=18) (oi:=vts24_18) (v:=.pointer (some ⟨bt,3,none⟩)) (by kernel_rfl) rfl (fun _ _ _ h=>h) ?_ (z0) ?_
     ·intro w hSw;go_simp<;>first|omega|(intro hh;exfalso;omega)|rfl
     try simp only[Act.put,qa,qb,qc,vts24_18]
     refine tkH (i:=19) (oi:=vts24_19) (v:=.slice (some ⟨g4,o4,none⟩) n4 m4) (by kernel_rfl) rfl (fun _ _ _ h=>h) ?_ (z0) ?_
     ·intro w hSw;have X:=cell_keep t3 hSw;go_simp<;>first|omega|(intro hh;exfalso;omega)|rfl
     try simp only[Act.put,qa,qb,qc,vts24_19]
     refine tkH (i:=20) (oi:=vts24_20) (v:=.pointer (some ⟨g4,o4,none⟩)) (by kernel_rfl) rfl (fun _ _ _ h=>h) ?_ (z0) ?_
     ·intro w hSw;go_simp<;>first|omega|(intro hh;exfalso;omega)|rfl
     try simp only[Act.put,qa,qb,qc,vts24_20]
     refine tkH (i:=21) (oi:=vts24_21) (v:=.pointer (some ⟨g4,o4+2,none⟩)) (by kernel_rfl) rfl (fun _ _ _ h=>h) ?_ (z0) ?_
     ·intro w hSw;go_simp<;>first|omega|(intro hh;exfalso;omega)|rfl
     try simp only[Act.put,qa,qb,qc,vts24_21]
     refine tkH (i:=22) (oi:=vts24_22) (v:=.slice (some ⟨g6,o6,none⟩) 1 m6) (by kernel_rfl) rfl (fun _ _ _ h=>h) ?_ (z0) ?_
     ·intro w hSw;have X:=cell_keep D4 hSw;go_simp<;>first|omega|(intro hh;exfalso;omega)|rfl
     try simp only[Act.put,qa,qb,qc,vts24_22]
     refine tkH (i:=23) (oi:=vts24_23) (v:=.int .i64 1) (by kernel_rfl) rfl (fun _ _ _ h=>h) ?_ (z0) ?_
     ·intro w hSw;go_simp<;>first|omega|(intro hh;exfalso;omega)|rfl
     try simp only[Act.put,qa,qb,qc,vts24_23]
     refine tkH (i:=24) (oi:=vts24_24) (v:=.bool true) (by kernel_rfl) rfl (fun _ _ _ h=>h) ?_ (z0) ?_
     ·intro w hSw;go_simp<;>first|omega|(intro hh;exfalso;omega)|rfl
     try simp only[Act.put,qa,qb,qc,vts24_24]
     refine tkH (i:=25) (oi:=vts24_25) (v:=.bool true) (by kernel_rfl) rfl (fun _ _ _ h=>h) ?_ (z0) ?_
     ·intro w hSw;go_simp<;>first|omega|(intro hh;exfalso;omega)|rfl
     try simp only[Act.put,qa,qb,qc,vts24_25]
     refine tkH (i:=26) (oi:=vts24_26) (v:=.bool true) (by kernel_rfl) rfl (fun _ _ _ h=>h) ?_ (z0) ?_
     ·intro w hSw;go_simp<;>first|omega|(intro hh;exfalso;omega)|rfl
     try simp only[Act.put,qa,qb,qc,vts24_26]
     refine tkH (i:=27) (oi:=vts24_27) (v:=.pointer (some ⟨bt,2,none⟩)) (by kernel_rfl) rfl (fun _ _ _ h=>h) ?_ (z0) ?_
     ·intro w hSw;go_simp<;>first|omega|(intro hh;exfalso;omega)|rfl
     try simp only[Act.put,qa,qb,qc,vts24_27]
     refine tkH (i:=28) (oi:=vts24_28) (v:=.pointer (some ⟨bt,3,none⟩)) (by kernel_rfl) rfl (fun _ _ _ h=>h) ?_ (z0) ?_
     ·intro w hSw;go_simp<;>first|omega|(intro hh;exfalso;omega)|rfl
     try simp only[Act.put,qa,qb,qc,vts24_28]
     refine tkH (i:=29) (oi:=vts24_29) (v:=.slice (some ⟨g4,o4,none⟩) n4 m4) (by kernel_rfl) rfl (fun _ _ _ h=>h) ?_ (z0) ?_
     ·intro w hSw;have X:=cell_keep t3 hSw;go_simp<;>first|omega|(intro hh;exfalso;omega)|rfl
     try simp only[Act.put,qa,qb,qc,vts24_29]
     refine tkH (i:=30) (oi:=vts24_30) (v:=.pointer (some ⟨g4,o4,none⟩)) (by kernel_rfl) rfl (fun _ _ _ h=>h) ?_ (z0) ?_
     ·intro w hSw;go_simp<;>first|omega|(intro hh;exfalso;omega)|rfl
     try simp only[Act.put,qa,qb,qc,vts24_30]
     refine tkH (i:=31) (oi:=vts24_31) (v:=.pointer (some ⟨g4,o4+2,none⟩)) (by kernel_rfl) rfl (fun _ _ _ h=>h) ?_ (z0) ?_
     ·intro w hSw;go_simp<;>first|omega|(intro hh;exfalso;omega)|rfl
     try simp only[Act.put,qa,qb,qc,vts24_31]
     refine tkH (i:=32) (oi:=vts24_32) (v:=.slice (some ⟨g6,o6,none⟩) 1 m6) (by kernel_rfl) rfl (fun _ _ _ h=>h) ?_ (z0) ?_
     ·intro w hSw;have X:=cell_keep D4 hSw;go_simp<;>first|omega|(intro hh;exfalso;omega)|rfl
     try simp only[Act.put,qa,qb,qc,vts24_32]
     refine tkH (i:=33) (oi:=vts24_33) (v:=.pointer (some ⟨g6,o6,none⟩)) (by kernel_rfl) rfl (fun _ _ _ h=>h) ?_ (z0) ?_
     ·intro w hSw;go_simp<;>first|omega|(intro hh;exfalso;omega)|rfl
     try simp only[Act.put,qa,qb,qc,vts24_33]
     refine tkH (i:=34) (oi:=vts24_34) (v:=.pointer (some ⟨g6,o6,none⟩)) (by kernel_rfl) rfl (fun _ _ _ h=>h) ?_ (z0) ?_
     ·intro w hSw;go_simp<;>first|omega|(intro hh;exfalso;omega)|rfl
     try simp only[Act.put,qa,qb,qc,vts24_34]
     refine tkH (i:=35) (oi:=vts24_35) (v:=.int .i64 0) (by kernel_rfl) rfl (fun _ _ _ h=>h) ?_ (z0) ?_
     ·intro w hSw;have X:=cell_keep D6 hSw;go_simp<;>first|omega|(intro hh;exfalso;omega)|rfl
     try simp only[Act.put,qa,qb,qc,vts24_35]
     refine tkH (i:=36) (oi:=vts24_36) (v:=.bool true) (by kernel_rfl) rfl (fun _ _ _ h=>h) ?_ (z0) ?_
     ·intro w hSw;go_simp<;>first|omega|(intro hh;exfalso;omega)|rfl
     try simp only[Act.put,qa,qb,qc,vts24_36]
     refine tkH (i:=37) (oi:=vts24_37) (v:=.bool true) (by kernel_rfl) rfl (fun _ _ _ h=>h) ?_ (z0) ?_
     ·intro w hSw;go_simp<;>first|omega|(intro hh;exfalso;omega)|rfl
     try simp only[Act.put,qa,qb,qc,vts24_37]
     refine tkH (i:=38) (oi:=vts24_38) (v:=.bool true) (by kernel_rfl) rfl (fun _ _ _ h=>h) ?_ (z0) ?_
     ·intro w hSw;go_simp<;>first|omega|(intro hh;exfalso;omega)|rfl
     try simp only[Act.put,qa,qb,qc,vts24_38]
     refine tkH (i:=39) (oi:=vts24_39) (v:=.pointer (some ⟨bt,2,none⟩)) (by kernel_rfl) rfl (fun _ _ _ h=>h) ?_ (z0) ?_
     ·intro w hSw;go_simp<;>first|omega|(intro hh;exfalso;omega)|rfl
     try simp only[Act.put,qa,qb,qc,vts24_39]
     refine tkH (i:=40) (oi:=vts24_40) (v:=.pointer (some ⟨bt,2,none⟩)) (by kernel_rfl) rfl (fun _ _ _ h=>h) ?_ (z0) ?_
     ·intro w hSw;go_simp<;>first|omega|(intro hh;exfalso;omega)|rfl
     try simp only[Act.put,qa,qb,qc,vts24_40]
     refine tkH (i:=41) (oi:=vts24_41) (v:=.slice (some ⟨g3,o3,none⟩) n2 m3) (by kernel_rfl) rfl (fun _ _ _ h=>h) ?_ (z0) ?_
     ·intro w hSw;have X:=cell_keep t2 hSw;go_simp<;>first|omega|(intro hh;exfalso;omega)|rfl
     try simp only[Act.put,qa,qb,qc,vts24_41]
     refine tkH (i:=42) (oi:=vts24_42) (v:=.pointer (some ⟨g3,o3,none⟩)) (by kernel_rfl) rfl (fun _ _ _ h=>h) ?_ (z0) ?_
     ·intro w hSw;go_simp<;>first|omega|(intro hh;exfalso;omega)|rfl
     try simp only[Act.put,qa,qb,qc,vts24_42]
     refine tkH (i:=43) (oi:=vts24_43) (v:=.pointer (some ⟨g3,o3+3,none⟩)) (by kernel_rfl) rfl (fun _ _ _ h=>h) ?_ (z0) ?_
     ·intro w hSw;go_simp<;>first|omega|(intro hh;exfalso;omega)|rfl
     try simp only[Act.put,qa,qb,qc,vts24_43]
     refine tkH (i:=44) (oi:=vts24_44) (v:=.string ⟨(dec2 A).toArray⟩) (by kernel_rfl) rfl (fun _ _ _ h=>h) ?_ (z0) ?_
     ·intro w hSw;have X:=cell_keep D3 hSw;go_simp<;>first|omega|(intro hh;exfalso;omega)|rfl
     try simp only[Act.put,qa,qb,qc,vts24_44]
     refine tkH (i:=45) (oi:=vts24_45) (v:=.int .i64 A) (by kernel_rfl) rfl (fun _ _ _ h=>h) ?_ (z0) ?_
     ·intro w hSw;go_simp<;>first|omega|(intro hh;exfalso;omega)|rfl
     try simp only[Act.put,qa,qb,qc,vts24_45]
     refine oneH (i:=46) (o:=vts24_46) (by kernel_rfl) rfl ?_
     intro K hK
     simp only[vts24_46]
     go_simp
     go_at_call 7
     refine (CNA.out _).mono ?_
     rintro e' V1 ⟨rfl,y1⟩
     have z1':=below_seq z0 y1
     refine hK.out _ _ (z1') (fun hHeld=>?_)
     clear hK K hHeld
     try simp only[Act.put,qa,qb,qc]
     refine tkH (i:=47) (oi:=vts24_47) (v:=.bool true) (by kernel_rfl) rfl (fun _ _ _ h=>h) ?_ (z1') ?_
     ·intro w hSw;go_simp<;>first|omega|(intro hh;exfalso;omega)|rfl
     try simp only[Act.put,qa,qb,qc,vts24_47]
     refine tkH (i:=48) (oi:=vts24_48) (v:=.bool true) (by kernel_rfl) rfl (fun _ _ _ h=>h) ?_ (z1') ?_
     ·intro w hSw;go_simp<;>first|omega|(intro hh;exfalso;omega)|rfl
     try simp only[Act.put,qa,qb,qc,vts24_48]
     refine tkH (i:=49) (oi:=vts24_49) (v:=.bool true) (by kernel_rfl) rfl (fun _ _ _ h=>h) ?_ (z1') ?_
     ·intro w hSw;go_simp<;>first|omega|(intro hh;exfalso;omega)|rfl
     try simp only[Act.put,qa,qb,qc,vts24_49]
     refine wpAnyH_done (by kernel_rfl) ?_ _
     have ZZ:=Lib.hid (below_seq HB7.out z1')
     clear z1' y1 z0
     go_wp2_with fail
     go_ret
     exact ⟨rfl,ZZ.out⟩
end Go.Proofs.YtbdfhnelmojbpaaGreatDoor
