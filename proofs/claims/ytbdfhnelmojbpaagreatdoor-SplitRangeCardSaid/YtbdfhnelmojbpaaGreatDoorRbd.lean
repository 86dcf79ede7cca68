/- Package split: Of. -/
import Derived.Test.YtbdfhnelmojbpaaGreatDoorRap
import Derived.Test.YtbdfhnelmojbpaaGreatDoorRbc
import Derived.Test.YtbdfhnelmojbpaaGreatDoorRav
import Derived.Test.YtbdfhnelmojbpaaGreatDoorRay
import Derived.Deep.DeepCutAuto
import Derived.Deep.CutBlock
import Derived.Deep.CutRange
set_option linter.unusedVariables false
set_option linter.unusedSimpArgs false
namespace Go.Proofs.YtbdfhnelmojbpaaGreatDoor
open Go.RowKit Vic
theorem und_Two0:(match Tryz.prog.underlying 39 with|some (.struct _)=>true|_=>false)=true:=by kernel_rfl
theorem und_Two:∃ d,Tryz.prog.underlying 39=some d∧(match d with | .struct _ | .array _ _=>true|_=>false)=true:=by
 have h:=und_Two0
 cases hd:Tryz.prog.underlying 39 with
 | none=>rw[hd]at h;cases h
 | some d=>
   rw[hd]at h
   refine ⟨d,rfl,?_⟩
   cases d<;>first|rfl|(exact h)|cases h
theorem info_Two:(Tryz.prog.info? 39).map (·.size)=some 5:=by kernel_rfl
theorem results_two {fn:Func}{p v:Tmp}(h:fn.results=#[.cell p 39,.tmp v]) (tmps:Array Value) (w:World) (g:Nat) (c0 c1 c2 c3 c4:Value)
 (hp:tmps.getD p undef=.pointer (some ⟨g,0,none⟩)) (hg:Row w g 39 #[c0,c1,c2,c3,c4]) :
 (results fn tmps).run Tryz.prog w=.ok (.tuple #[.agg #[c0,c1,c2,c3,c4],tmps.getD v undef]) w:=by
 obtain ⟨d,hu,hd⟩:=und_Two
 have hp':tmps[p]?.getD undef=.pointer (some ⟨g,0,none⟩):=by simpa using hp
 simp[results,h,hp',asAddr,run_loadVar_row w g 39 39 #[c0,c1,c2,c3,c4] (0,0) d hg hu (by cases d<;>first|rfl|exact hd) info_Two]
theorem info_Rwx0:(Tryz.prog.info? 28).map (fun i=>(i.zero,i.size,i.bytes))=some (some (.agg #[.string ⟨#[]⟩,.int .i64 0,.slice none 0 0,.string ⟨#[]⟩,.string ⟨#[]⟩]),5,80):=by kernel_rfl
theorem info_Rwx:∃ i:TypeInfo,Tryz.prog.info? 28=some i∧i.zero=some (.agg #[.string ⟨#[]⟩,.int .i64 0,.slice none 0 0,.string ⟨#[]⟩,.string ⟨#[]⟩])∧i.size=5∧i.bytes=80:=by
 have h:=info_Rwx0
 cases hi:Tryz.prog.info? 28 with
 | none=>rw[hi]at h;simp at h
 | some i=>rw[hi]at h;simp at h;exact ⟨i,rfl,h.1,h.2.1,h.2.2⟩
theorem info_LCf0:(Tryz.prog.info? 25).map (fun i=>(i.zero,i.size,i.bytes))=some (some (.slice none 0 0),1,24):=by kernel_rfl
theorem info_LCf:∃ i:TypeInfo,Tryz.prog.info? 25=some i∧i.zero=some (.slice none 0 0)∧i.size=1∧i.bytes=24:=by
 have h:=info_LCf0
 cases hi:Tryz.prog.info? 25 with
 | none=>rw[hi]at h;simp at h
 | some i=>rw[hi]at h;simp at h;exact ⟨i,rfl,h.1,h.2.1,h.2.2⟩
abbrev vsof12_0:Oper:={ dst:=some 45,op:=Go.Op.fieldAddr 34 (Go.Operand.tmp 2) 3,type:=0,pos:="split.go:107",after:=#[],guard:=none }
abbrev vsof12_1:Oper:={ dst:=some 46,op:=Go.Op.load 32 (Go.Operand.tmp 45),type:=32,pos:="split.go:107",after:=#[{ on:=0,ground:=Go.Ground.data }],guard:=none }
abbrev vsof12_2:Oper:={ dst:=some 47,op:=Go.Op.move (Go.Operand.tmp 8),type:=3,pos:="split.go:107",after:=#[],guard:=none }
abbrev vsof12_3:Oper:={ dst:=some 48,op:=Go.Op.slice 32 (Go.Operand.tmp 46) none (some (Go.Operand.tmp 47)) none,type:=32,pos:="split.go:107",after:=#[{ on:=1,ground:=Go.Ground.data },{ on:=2,ground:=Go.Ground.data }],guard:=none }
abbrev vsof12_4:Oper:={ dst:=some 49,op:=Go.Op.call { callee:=Go.Callee.value (Go.Operand.func 32),args:=#[Go.Operand.tmp 48],argTypes:=#[32] },type:=32,pos:="split.go:107",after:=#[{ on:=3,ground:=Go.Ground.data }],guard:=none }
abbrev vsof12_5:Oper:={ dst:=some 50,op:=Go.Op.fieldAddr 34 (Go.Operand.tmp 2) 3,type:=0,pos:="split.go:107",after:=#[],guard:=none }
abbrev vsof12_6:Oper:={ dst:=some 51,op:=Go.Op.load 32 (Go.Operand.tmp 50),type:=32,pos:="split.go:107",after:=#[{ on:=5,ground:=Go.Ground.data }],guard:=none }
abbrev vsof12_7:Oper:={ dst:=some 52,op:=Go.Op.move (Go.Operand.tmp 8),type:=3,pos:="split.go:107",after:=#[],guard:=none }
abbrev vsof12_8:Oper:={ dst:=some 53,op:=Go.Op.slice 32 (Go.Operand.tmp 51) (some (Go.Operand.tmp 52)) none none,type:=32,pos:="split.go:107",after:=#[{ on:=6,ground:=Go.Ground.data },{ on:=7,ground:=Go.Ground.data }],guard:=none }
abbrev vsof12_9:Oper:={ dst:=some 54,op:=Go.Op.call { callee:=Go.Callee.value (Go.Operand.func 32),args:=#[Go.Operand.tmp 53],argTypes:=#[32] },type:=32,pos:="split.go:107",after:=#[{ on:=8,ground:=Go.Ground.data },{ on:=4,ground:=Go.Ground.chain }],guard:=none }
abbrev vsof12_10:Oper:={ dst:=some 55,op:=Go.Op.fieldAddr 39 (Go.Operand.tmp 11) 0,type:=0,pos:="split.go:107",after:=#[{ on:=0,ground:=Go.Ground.phase },{ on:=1,ground:=Go.Ground.phase },{ on:=2,ground:=Go.Ground.phase },{ on:=3,ground:=Go.Ground.phase },{ on:=4,ground:=Go.Ground.phase },{ on:=5,ground:=Go.Ground.textOnly Go.Departure.lateStores },{ on:=6,ground:=Go.Ground.textOnly Go.Departure.lateStores },{ on:=7,ground:=Go.Ground.textOnly Go.Departure.lateStores },{ on:=8,ground:=Go.Ground.textOnly Go.Departure.lateStoresUnsure },{ on:=9,ground:=Go.Ground.textOnly Go.Departure.lateStoresUnsure }],guard:=none }
abbrev vsof12_11:Oper:={ dst:=some 56,op:=Go.Op.fieldAddr 36 (Go.Operand.tmp 55) 0,type:=0,pos:="split.go:107",after:=#[{ on:=10,ground:=Go.Ground.data },{ on:=0,ground:=Go.Ground.phase },{ on:=1,ground:=Go.Ground.phase },{ on:=2,ground:=Go.Ground.phase },{ on:=3,ground:=Go.Ground.phase },{ on:=4,ground:=Go.Ground.phase },{ on:=5,ground:=Go.Ground.textOnly Go.Departure.lateStores },{ on:=6,ground:=Go.Ground.textOnly Go.Departure.lateStores },{ on:=7,ground:=Go.Ground.textOnly Go.Departure.lateStores },{ on:=8,ground:=Go.Ground.textOnly Go.Departure.lateStoresUnsure },{ on:=9,ground:=Go.Ground.textOnly Go.Departure.lateStoresUnsure }],guard:=none }
abbrev vsof12_12:Oper:={ dst:=none,op:=Go.Op.store 32 (Go.Operand.tmp 56) (Go.Operand.tmp 49),type:=0,pos:="split.go:107",after:=#[{ on:=11,ground:=Go.Ground.data },{ on:=4,ground:=Go.Ground.data },{ on:=9,ground:=Go.Ground.chain },{ on:=0,ground:=Go.Ground.phase },{ on:=1,ground:=Go.Ground.phase },{ on:=2,ground:=Go.Ground.phase },{ on:=3,ground:=Go.Ground.phase },{ on:=4,ground:=Go.Ground.phase },{ on:=5,ground:=Go.Ground.textOnly Go.Departure.lateStores },{ on:=6,ground:=Go.Ground.textOnly Go.Departure.lateStores },{ on:=7,ground:=Go.Ground.textOnly Go.Departure.lateStores },{ on:=8,ground:=Go.Ground.textOnly Go.Departure.lateStoresUnsure },{ on:=9,ground:=Go.Ground.textOnly Go.Departure.lateStoresUnsure }],guard:=none }
abbrev vsof12_13:Oper:={ dst:=some 57,op:=Go.Op.fieldAddr 39 (Go.Operand.tmp 11) 1,type:=0,pos:="split.go:107",after:=#[{ on:=0,ground:=Go.Ground.phase },{ on:=1,ground:=Go.Ground.phase },{ on:=2,ground:=Go.Ground.phase },{ on:=3,ground:=Go.Ground.phase },{ on:=4,ground:=Go.Ground.phase },{ on:=5,ground:=Go.Ground.phase },{ on:=6,ground:=Go.Ground.phase },{ on:=7,ground:=Go.Ground.phase },{ on:=8,ground:=Go.Ground.phase },{ on:=9,ground:=Go.Ground.phase },{ on:=10,ground:=Go.Ground.phase },{ on:=11,ground:=Go.Ground.phase },{ on:=12,ground:=Go.Ground.phase }],guard:=none }
abbrev vsof12_14:Oper:={ dst:=some 58,op:=Go.Op.fieldAddr 36 (Go.Operand.tmp 57) 0,type:=0,pos:="split.go:107",after:=#[{ on:=13,ground:=Go.Ground.data },{ on:=0,ground:=Go.Ground.phase },{ on:=1,ground:=Go.Ground.phase },{ on:=2,ground:=Go.Ground.phase },{ on:=3,ground:=Go.Ground.phase },{ on:=4,ground:=Go.Ground.phase },{ on:=5,ground:=Go.Ground.phase },{ on:=6,ground:=Go.Ground.phase },{ on:=7,ground:=Go.Ground.phase },{ on:=8,ground:=Go.Ground.phase },{ on:=9,ground:=Go.Ground.phase },{ on:=10,ground:=Go.Ground.phase },{ on:=11,ground:=Go.Ground.phase },{ on:=12,ground:=Go.Ground.phase }],guard:=none }
abbrev vsof12_15:Oper:={ dst:=none,op:=Go.Op.store 32 (Go.Operand.tmp 58) (Go.Operand.tmp 54),type:=0,pos:="split.go:107",after:=#[{ on:=14,ground:=Go.Ground.data },{ on:=9,ground:=Go.Ground.data },{ on:=12,ground:=Go.Ground.chain },{ on:=0,ground:=Go.Ground.phase },{ on:=1,ground:=Go.Ground.phase },{ on:=2,ground:=Go.Ground.phase },{ on:=3,ground:=Go.Ground.phase },{ on:=4,ground:=Go.Ground.phase },{ on:=5,ground:=Go.Ground.phase },{ on:=6,ground:=Go.Ground.phase },{ on:=7,ground:=Go.Ground.phase },{ on:=8,ground:=Go.Ground.phase },{ on:=9,ground:=Go.Ground.phase },{ on:=10,ground:=Go.Ground.phase },{ on:=11,ground:=Go.Ground.phase },{ on:=12,ground:=Go.Ground.phase }],guard:=none }
abbrev vsof20_0:Oper:={ dst:=some 77,op:=Go.Op.fieldAddr 39 (Go.Operand.tmp 11) 0,type:=0,pos:="split.go:111",after:=#[],guard:=none }
abbrev vsof20_1:Oper:={ dst:=some 78,op:=Go.Op.fieldAddr 36 (Go.Operand.tmp 77) 1,type:=0,pos:="split.go:111",after:=#[{ on:=0,ground:=Go.Ground.data }],guard:=none }
abbrev vsof20_2:Oper:={ dst:=some 79,op:=Go.Op.load 29 (Go.Operand.tmp 78),type:=29,pos:="split.go:111",after:=#[{ on:=1,ground:=Go.Ground.data }],guard:=none }
abbrev vsof20_3:Oper:={ dst:=some 80,op:=Go.Op.load 28 (Go.Operand.tmp 15),type:=28,pos:="split.go:111",after:=#[],guard:=none }
abbrev vsof20_4:Oper:={ dst:=some 81,op:=Go.Op.fieldAddr 28 (Go.Operand.tmp 15) 2,type:=0,pos:="split.go:111",after:=#[],guard:=none }
abbrev vsof20_5:Oper:={ dst:=some 82,op:=Go.Op.load 25 (Go.Operand.tmp 81),type:=25,pos:="split.go:111",after:=#[{ on:=4,ground:=Go.Ground.data }],guard:=none }
abbrev vsof20_6:Oper:={ dst:=some 83,op:=Go.Op.call { callee:=Go.Callee.value (Go.Operand.func 34),args:=#[Go.Operand.tmp 80,Go.Operand.tmp 82],argTypes:=#[28,25] },type:=28,pos:="split.go:111",after:=#[{ on:=3,ground:=Go.Ground.data },{ on:=5,ground:=Go.Ground.data }],guard:=none }
abbrev vsof20_7:Oper:={ dst:=some 84,op:=Go.Op.buildSlice 29 1 #[(0,Go.Operand.tmp 83)],type:=29,pos:="split.go:111",after:=#[{ on:=6,ground:=Go.Ground.data }],guard:=none }
abbrev vsof20_8:Oper:={ dst:=some 85,op:=Go.Op.call { callee:=Go.Callee.builtin Go.Builtin.append,args:=#[Go.Operand.tmp 79,Go.Operand.tmp 84],argTypes:=#[29,29] },type:=29,pos:="split.go:111",after:=#[{ on:=2,ground:=Go.Ground.data },{ on:=7,ground:=Go.Ground.data },{ on:=6,ground:=Go.Ground.chain }],guard:=none }
abbrev vsof20_9:Oper:={ dst:=some 86,op:=Go.Op.fieldAddr 39 (Go.Operand.tmp 11) 0,type:=0,pos:="split.go:111",after:=#[{ on:=0,ground:=Go.Ground.phase },{ on:=1,ground:=Go.Ground.phase },{ on:=2,ground:=Go.Ground.phase },{ on:=3,ground:=Go.Ground.phase },{ on:=4,ground:=Go.Ground.phase },{ on:=5,ground:=Go.Ground.phase },{ on:=6,ground:=Go.Ground.phase },{ on:=7,ground:=Go.Ground.phase },{ on:=8,ground:=Go.Ground.phase }],guard:=none }
abbrev vsof20_10:Oper:={ dst:=some 87,op:=Go.Op.fieldAddr 36 (Go.Operand.tmp 86) 1,type:=0,pos:="split.go:111",after:=#[{ on:=9,ground:=Go.Ground.data },{ on:=0,ground:=Go.Ground.phase },{ on:=1,ground:=Go.Ground.phase },{ on:=2,ground:=Go.Ground.phase },{ on:=3,ground:=Go.Ground.phase },{ on:=4,ground:=Go.Ground.phase },{ on:=5,ground:=Go.Ground.phase },{ on:=6,ground:=Go.Ground.phase },{ on:=7,ground:=Go.Ground.phase },{ on:=8,ground:=Go.Ground.phase }],guard:=none }
abbrev vsof20_11:Oper:={ dst:=none,op:=Go.Op.store 29 (Go.Operand.tmp 87) (Go.Operand.tmp 85),type:=0,pos:="split.go:111",after:=#[{ on:=10,ground:=Go.Ground.data },{ on:=8,ground:=Go.Ground.data },{ on:=8,ground:=Go.Ground.chain },{ on:=0,ground:=Go.Ground.phase },{ on:=1,ground:=Go.Ground.phase },{ on:=2,ground:=Go.Ground.phase },{ on:=3,ground:=Go.Ground.phase },{ on:=4,ground:=Go.Ground.phase },{ on:=5,ground:=Go.Ground.phase },{ on:=6,ground:=Go.Ground.phase },{ on:=7,ground:=Go.Ground.phase },{ on:=8,ground:=Go.Ground.phase }],guard:=none }
abbrev vsof22_0:Oper:={ dst:=some 95,op:=Go.Op.fieldAddr 39 (Go.Operand.tmp 11) 1,type:=0,pos:="split.go:115",after:=#[],guard:=none }
abbrev vsof22_1:Oper:={ dst:=some 96,op:=Go.Op.fieldAddr 36 (Go.Operand.tmp 95) 1,type:=0,pos:="split.go:115",after:=#[{ on:=0,ground:=Go.Ground.data }],guard:=none }
abbrev vsof22_2:Oper:={ dst:=some 97,op:=Go.Op.load 29 (Go.Operand.tmp 96),type:=29,pos:="split.go:115",after:=#[{ on:=1,ground:=Go.Ground.data }],guard:=none }
abbrev vsof22_3:Oper:={ dst:=some 98,op:=Go.Op.load 28 (Go.Operand.tmp 15),type:=28,pos:="split.go:115",after:=#[],guard:=none }
abbrev vsof22_4:Oper:={ dst:=some 99,op:=Go.Op.move (Go.Operand.tmp 17),type:=25,pos:="split.go:115",after:=#[],guard:=none }
abbrev vsof22_5:Oper:={ dst:=some 100,op:=Go.Op.call { callee:=Go.Callee.value (Go.Operand.func 34),args:=#[Go.Operand.tmp 98,Go.Operand.tmp 99],argTypes:=#[28,25] },type:=28,pos:="split.go:115",after:=#[{ on:=3,ground:=Go.Ground.data },{ on:=4,ground:=Go.Ground.data }],guard:=none }
abbrev vsof22_6:Oper:={ dst:=some 101,op:=Go.Op.buildSlice 29 1 #[(0,Go.Operand.tmp 100)],type:=29,pos:="split.go:115",after:=#[{ on:=5,ground:=Go.Ground.data }],guard:=none }
abbrev vsof22_7:Oper:={ dst:=some 102,op:=Go.Op.call { callee:=Go.Callee.builtin Go.Builtin.append,args:=#[Go.Operand.tmp 97,Go.Operand.tmp 101],argTypes:=#[29,29] },type:=29,pos:="split.go:115",after:=#[{ on:=2,ground:=Go.Ground.data },{ on:=6,ground:=Go.Ground.data },{ on:=5,ground:=Go.Ground.chain }],guard:=none }
abbrev vsof22_8:Oper:={ dst:=some 103,op:=Go.Op.fieldAddr 39 (Go.Operand.tmp 11) 2,type:=0,pos:="split.go:115",after:=#[],guard:=none }
abbrev vsof22_9:Oper:={ dst:=some 104,op:=Go.Op.load 37 (Go.Operand.tmp 103),type:=37,pos:="split.go:115",after:=#[{ on:=8,ground:=Go.Ground.data }],guard:=none }
abbrev vsof22_10:Oper:={ dst:=some 105,op:=Go.Op.move (Go.Operand.tmp 16),type:=25,pos:="split.go:115",after:=#[],guard:=none }
abbrev vsof22_11:Oper:={ dst:=some 106,op:=Go.Op.buildSlice 37 1 #[(0,Go.Operand.tmp 105)],type:=37,pos:="split.go:115",after:=#[{ on:=10,ground:=Go.Ground.data }],guard:=none }
abbrev vsof22_12:Oper:={ dst:=some 107,op:=Go.Op.call { callee:=Go.Callee.builtin Go.Builtin.append,args:=#[Go.Operand.tmp 104,Go.Operand.tmp 106],argTypes:=#[37,37] },type:=37,pos:="split.go:115",after:=#[{ on:=9,ground:=Go.Ground.data },{ on:=11,ground:=Go.Ground.data },{ on:=7,ground:=Go.Ground.chain }],guard:=none }
abbrev vsof22_13:Oper:={ dst:=some 108,op:=Go.Op.fieldAddr 39 (Go.Operand.tmp 11) 1,type:=0,pos:="split.go:115",after:=#[{ on:=0,ground:=Go.Ground.phase },{ on:=1,ground:=Go.Ground.phase },{ on:=2,ground:=Go.Ground.phase },{ on:=3,ground:=Go.Ground.phase },{ on:=4,ground:=Go.Ground.phase },{ on:=5,ground:=Go.Ground.phase },{ on:=6,ground:=Go.Ground.phase },{ on:=7,ground:=Go.Ground.phase },{ on:=8,ground:=Go.Ground.phase },{ on:=9,ground:=Go.Ground.phase },{ on:=10,ground:=Go.Ground.textOnly Go.Departure.lateStores },{ on:=11,ground:=Go.Ground.textOnly Go.Departure.lateStores },{ on:=12,ground:=Go.Ground.textOnly Go.Departure.lateStoresUnsure }],guard:=none }
abbrev vsof22_14:Oper:={ dst:=some 109,op:=Go.Op.fieldAddr 36 (Go.Operand.tmp 108) 1,type:=0,pos:="split.go:115",after:=#[{ on:=13,ground:=Go.Ground.data },{ on:=0,ground:=Go.Ground.phase },{ on:=1,ground:=Go.Ground.phase },{ on:=2,ground:=Go.Ground.phase },{ on:=3,ground:=Go.Ground.phase },{ on:=4,ground:=Go.Ground.phase },{ on:=5,ground:=Go.Ground.phase },{ on:=6,ground:=Go.Ground.phase },{ on:=7,ground:=Go.Ground.phase },{ on:=8,ground:=Go.Ground.phase },{ on:=9,ground:=Go.Ground.phase },{ on:=10,ground:=Go.Ground.textOnly Go.Departure.lateStores },{ on:=11,ground:=Go.Ground.textOnly Go.Departure.lateStores },{ on:=12,ground:=Go.Ground.textOnly Go.Departure.lateStoresUnsure }],guard:=none }
abbrev vsof22_15:Oper:={ dst:=none,op:=Go.Op.store 29 (Go.Operand.tmp 109) (Go.Operand.tmp 102),type:=0,pos:="split.go:115",after:=#[{ on:=14,ground:=Go.Ground.data },{ on:=7,ground:=Go.Ground.data },{ on:=12,ground:=Go.Ground.chain },{ on:=0,ground:=Go.Ground.phase },{ on:=1,ground:=Go.Ground.phase },{ on:=2,ground:=Go.Ground.phase },{ on:=3,ground:=Go.Ground.phase },{ on:=4,ground:=Go.Ground.phase },{ on:=5,ground:=Go.Ground.phase },{ on:=6,ground:=Go.Ground.phase },{ on:=7,ground:=Go.Ground.phase },{ on:=8,ground:=Go.Ground.phase },{ on:=9,ground:=Go.Ground.phase },{ on:=10,ground:=Go.Ground.textOnly Go.Departure.lateStores },{ on:=11,ground:=Go.Ground.textOnly Go.Departure.lateStores },{ on:=12,ground:=Go.Ground.textOnly Go.Departure.lateStoresUnsure }],guard:=none }
abbrev vsof22_16:Oper:={ dst:=some 110,op:=Go.Op.fieldAddr 39 (Go.Operand.tmp 11) 2,type:=0,pos:="split.go:115",after:=#[{ on:=0,ground:=Go.Ground.phase },{ on:=1,ground:=Go.Ground.phase },{ on:=2,ground:=Go.Ground.phase },{ on:=3,ground:=Go.Ground.phase },{ on:=4,ground:=Go.Ground.phase },{ on:=5,ground:=Go.Ground.phase },{ on:=6,ground:=Go.Ground.phase },{ on:=7,ground:=Go.Ground.phase },{ on:=8,ground:=Go.Ground.phase },{ on:=9,ground:=Go.Ground.phase },{ on:=10,ground:=Go.Ground.phase },{ on:=11,ground:=Go.Ground.phase },{ on:=12,ground:=Go.Ground.phase },{ on:=13,ground:=Go.Ground.phase },{ on:=14,ground:=Go.Ground.phase },{ on:=15,ground:=Go.Ground.phase }],guard:=none }
abbrev vsof22_17:Oper:={ dst:=none,op:=Go.Op.store 37 (Go.Operand.tmp 110) (Go.Operand.tmp 107),type:=0,pos:="split.go:115",after:=#[{ on:=16,ground:=Go.Ground.data },{ on:=12,ground:=Go.Ground.data },{ on:=15,ground:=Go.Ground.chain },{ on:=0,ground:=Go.Ground.phase },{ on:=1,ground:=Go.Ground.phase },{ on:=2,ground:=Go.Ground.phase },{ on:=3,ground:=Go.Ground.phase },{ on:=4,ground:=Go.Ground.phase },{ on:=5,ground:=Go.Ground.phase },{ on:=6,ground:=Go.Ground.phase },{ on:=7,ground:=Go.Ground.phase },{ on:=8,ground:=Go.Ground.phase },{ on:=9,ground:=Go.Ground.phase },{ on:=10,ground:=Go.Ground.phase },{ on:=11,ground:=Go.Ground.phase },{ on:=12,ground:=Go.Ground.phase },{ on:=13,ground:=Go.Ground.phase },{ on:=14,ground:=Go.Ground.phase },{ on:=15,ground:=Go.Ground.phase }],guard:=none }
def TwoGot (c:CoreM) (ps:List PerM) (w:World) (e:Ending) (w':World):Prop:=∃ tv,e=.returned (.tuple #[tv,.int .i64 (splitOf c ps).2])∧TwoIn w' tv (splitOf c ps).1∧Below w.heap.size w w'
set_option maxRecDepth 100000 in
set_option maxHeartbeats 16000000 in
theorem split_Of (w:World) (v u:Value) (c:CoreM) (ps:List PerM) (hrv:∃ rv cv,v=.agg #[.string ⟨c.name.toArray⟩,.string ⟨c.obj.toArray⟩,rv,cv]∧SlIn RowC 5 w rv c.rows∧ColsIn w cv c.cols) (hu:PersIn w u ps) (hf:FitCore c) (hpl:ps.length≤1000000000) (hcf:∀ r∈c.rows,r.coef.length≤1000000) (hR:mayCore c=0→∀ r∈c.rows,r.range≠[]→FitRng r) (hcb:mayCore c=0→∀ r∈c.rows,∀ x∈r.coef,-9223372036854775808≤x.1∧x.1≤9223372036854775807) (hmb:mayCore c=0→∀ x∈c.cols,maybeM x.low=true∧maybeM x.up=true) (ht:Tab w) :
 Calls Tryz.prog 8 #[v,u] w (TwoGot c ps w):=by
 unfold TwoGot
 have hM:Hid (splitOf c ps=if mayCore c≠0 then (noTwo,mayCore c)else if mayTime c ps≠0 then (noTwo,mayTime c ps)else if lookM c (cutCol c ps).toNat (cutRow c ps).toNat≠0 then (noTwo,lookM c (cutCol c ps).toNat (cutRow c ps).toNat)else if 20<(cutCol c ps).toNat∨20<c.cols.length - (cutCol c ps).toNat∨20<(splitTwo c (cutCol c ps).toNat (cutRow c ps).toNat).first.rows.length∨20<(splitTwo c (cutCol c ps).toNat (cutRow c ps).toNat).second.rows.length then (noTwo,6)else (splitTwo c (cutCol c ps).toNat (cutRow c ps).toNat,0)):=rfl
 generalize splitOf c ps=res at *
 obtain ⟨rv,cv,rfl,hrs,hcs⟩:=hrv
 obtain ⟨rA,rc,rfl,hrc,-⟩:=id hrs
 obtain ⟨cA,cc,rfl,hcc,-⟩:=id hcs
 obtain ⟨pA,pc,rfl,hpc,-⟩:=id hu
 obtain ⟨w1,hw1⟩:∃ X,X=(w.alloc (.cells #[.string ⟨c.name.toArray⟩,.string ⟨c.obj.toArray⟩,.slice rA c.rows.length rc,.slice cA c.cols.length cc] 34)).alloc (.cells #[.slice none 0 0,.slice none 0 0,.slice none 0 0,.slice none 0 0,.slice none 0 0] 39):=⟨_,rfl⟩
 have hb1:Below w.heap.size w w1:=by rw[hw1];exact ((Below.refl _ _).alloc (Nat.le_refl _) _).alloc (by simp) _
 have r2:Row w1 w.heap.size 34 #[.string ⟨c.name.toArray⟩,.string ⟨c.obj.toArray⟩,.slice rA c.rows.length rc,.slice cA c.cols.length cc]:=by rw[hw1];exact (Row.new _ _ _).alloc _
 have r4:Row w1 (w.heap.size+1) 39 #[.slice none 0 0,.slice none 0 0,.slice none 0 0,.slice none 0 0,.slice none 0 0]:=by
  have:=Row.new (w.alloc (.cells #[.string ⟨c.name.toArray⟩,.string ⟨c.obj.toArray⟩,.slice rA c.rows.length rc,.slice cA c.cols.length cc] 34)) 39 #[.slice none 0 0,.slice none 0 0,.slice none 0 0,.slice none 0 0,.slice none 0 0]
  rw[World.size_alloc,← hw1]at this
  exact this
 obtain ⟨b2,hb2⟩:∃ b,b=w.heap.size:=⟨_,rfl⟩
 rw[← hb2]at r2 r4
 have C0:w1.cell? ⟨b2,0,none⟩=some (.string ⟨c.name.toArray⟩):=r2.cell 0
 have C1:w1.cell? ⟨b2,1,none⟩=some (.string ⟨c.obj.toArray⟩):=r2.cell 1
 have C2:w1.cell? ⟨b2,2,none⟩=some (.slice rA c.rows.length rc):=r2.cell 2
 have C3:w1.cell? ⟨b2,3,none⟩=some (.slice cA c.cols.length cc):=r2.cell 3
 have HI1:Hid (CoreIn w1 (.agg #[.string ⟨c.name.toArray⟩,.string ⟨c.obj.toArray⟩,.slice rA c.rows.length rc,.slice cA c.cols.length cc]) c):=Lib.hid ⟨_,_,rfl,(RowC.rowsIn hrs).keep RowR.firm hb1,hcs.keep ColR.firm hb1⟩
 have HP1:=Lib.hid (hu.keep PerR.firm hb1)
 have HRC:=Lib.hid hrs;have HCC:=Lib.hid hcs
 have HT1:=Lib.hid (ht.keep hb1)
 have R2:=Lib.hid r2;have R4:=Lib.hid r4;have HB1:=Lib.hid hb1;have HBQ:=Lib.hid hb2
 clear r2 r4 hb1 hrs hcs hu ht
 have CM:=Lib.hid (core_May w1 _ c HI1.out hf HT1.out)
 have hrl:=hf.rl;have hcl:=hf.cl
 have HFC:=Lib.hid hf;have HCF:=Lib.hid hcf
 replace hR:=Lib.hid hR
 replace hcb:=Lib.hid hcb
 obtain ⟨i1,hi1,hz1,hsz1,hby1⟩:=info_Rwx
 obtain ⟨i2,hi2,hz2,hsz2,hby2⟩:=info_LCf
 replace hmb:=Lib.hid hmb
 clear hf hcf
 go_enter Tryz.func8,Tryz.ntmps8
 go_upto_region 1 with fail
 try rw[← hw1]
 clear hw1
 rw[← hb2]
 clear hb2
 go_wp2_with fail
 refine CM.out.mono ?_
 rintro e w2 ⟨rfl,h2⟩
 have CT:=Lib.hid (period_May w2 _ _ c ps (HI1.out.keep h2) (HP1.out.keep PerR.firm h2) hrl hcl hpl)
 have q4:=R4.out.keep h2
 have q2:=R2.out.keep h2
 have D0:w2.cell? ⟨b2,0,none⟩=some (.string ⟨c.name.toArray⟩):=q2.cell 0
 have D1:w2.cell? ⟨b2,1,none⟩=some (.string ⟨c.obj.toArray⟩):=q2.cell 1
 have D2:w2.cell? ⟨b2,2,none⟩=some (.slice rA c.rows.length rc):=q2.cell 2
 have D3:w2.cell? ⟨b2,3,none⟩=some (.slice cA c.cols.length cc):=q2.cell 3
 have HB2:=Lib.hid (below_seq HB1.out h2)
 have HI2:=Lib.hid (HI1.out.keep h2)
 have HP2:=Lib.hid (HP1.out.keep PerR.firm h2)
 have HT2:=Lib.hid (HT1.out.keep h2)
 have R22:=Lib.hid q2;have R42:=Lib.hid q4
 clear C0 C1 C2 C3 h2 q2 q4 CM HI1 HP1 HT1 HB1 R2 R4
 obtain ⟨er,her⟩:∃ er,er=mayCore c:=⟨_,rfl⟩
 rw[← her]at hM hR hcb hmb ⊢
 clear her
 by_cases hm:er=0
 ·subst hm
  have HR:=Lib.hid (hR.out rfl)
  have HMB:=Lib.hid (hmb.out rfl)
  have HCB:=Lib.hid (hcb.out rfl)
  clear hR hmb hcb
  have hM1:=hM.out
  rw[if_neg (by simp)]at hM1
  have HM1:=Lib.hid hM1
  clear hM hM1
  go_wp2_with fail
  refine CT.out.mono ?_
  rintro e w3 ⟨rfl,h3⟩
  have q4:=R42.out.keep h3
  have q2:=R22.out.keep h3
  have E0:w3.cell? ⟨b2,0,none⟩=some (.string ⟨c.name.toArray⟩):=q2.cell 0
  have E1:w3.cell? ⟨b2,1,none⟩=some (.string ⟨c.obj.toArray⟩):=q2.cell 1
  have E2:w3.cell? ⟨b2,2,none⟩=some (.slice rA c.rows.length rc):=q2.cell 2
  have E3:w3.cell? ⟨b2,3,none⟩=some (.slice cA c.cols.length cc):=q2.cell 3
  have HB3:=Lib.hid (below_seq HB2.out h3)
  have HI3:=Lib.hid (HI2.out.keep h3)
  have HP3:=Lib.hid (HP2.out.keep PerR.firm h3)
  have HT3:=Lib.hid (HT2.out.keep h3)
  have R23:=Lib.hid q2;have R43:=Lib.hid q4
  clear D0 D1 D2 D3 h3 q2 q4 CT HI2 HP2 HT2 HB2 R22 R42
  have hcut:=@cut_in c ps
  obtain ⟨er,her⟩:∃ er,er=mayTime c ps:=⟨_,rfl⟩
  rw[← her]at HM1 hcut ⊢
  clear her
  by_cases hm:er=0
  ·subst hm
   obtain ⟨hp2,col,row,hcol,hrow,hc0,hcl2,hrl2⟩:=hcut rfl
   have hM1:=HM1.out
   rw[if_neg (by simp),hcol,hrow,Int.toNat_natCast,Int.toNat_natCast]at hM1
   have HM2:=Lib.hid hM1
   have CC:=Lib.hid (split_cut w3 _ _ c ps HI3.out HP3.out hp2 hrl hcl)
   rw[hcol,hrow]at CC
   have HN0:=Lib.hid hc0;have HN1:=Lib.hid hcl2;have HN2:=Lib.hid hrl2;have HP:=Lib.hid hp2
   clear HM1 hM1 hcut hcol hrow hc0 hcl2 hrl2 hp2
   go_wp2_with fail
   refine CC.out.mono ?_
   rintro e w4 ⟨rfl,h4⟩
   have q4:=R43.out.keep h4
   have q2:=R23.out.keep h4
   have D0:w4.cell? ⟨b2,0,none⟩=some (.string ⟨c.name.toArray⟩):=q2.cell 0
   have D1:w4.cell? ⟨b2,1,none⟩=some (.string ⟨c.obj.toArray⟩):=q2.cell 1
   have D2:w4.cell? ⟨b2,2,none⟩=some (.slice rA c.rows.length rc):=q2.cell 2
   have D3:w4.cell? ⟨b2,3,none⟩=some (.slice cA c.cols.length cc):=q2.cell 3
   have CL:=Lib.hid (split_look w4 _ c col row (HI3.out.keep h4) HFC.out HMB.out HCF.out (HT3.out.keep h4) HN1.out HN2.out)
   have HB4:=Lib.hid (below_seq HB3.out h4)
   have HT4:=Lib.hid (HT3.out.keep h4)
   have R24:=Lib.hid q2;have R44:=Lib.hid q4
   clear E0 E1 E2 E3 h4 q2 q4 CC HI3 HP3 HT3 HB3 R23 R43
   go_wp2_with fail
   refine CL.out.mono ?_
   rintro e w5 ⟨rfl,h5⟩
   have q4:=R44.out.keep h5
   have q2:=R24.out.keep h5
   have E0:w5.cell? ⟨b2,0,none⟩=some (.string ⟨c.name.toArray⟩):=q2.cell 0
   have E1:w5.cell? ⟨b2,1,none⟩=some (.string ⟨c.obj.toArray⟩):=q2.cell 1
   have E2:w5.cell? ⟨b2,2,none⟩=some (.slice rA c.rows.length rc):=q2.cell 2
   have E3:w5.cell? ⟨b2,3,none⟩=some (.slice cA c.cols.length cc):=q2.cell 3
   have HB5:=Lib.hid (below_seq HB4.out h5)
   have HT5:=Lib.hid (HT4.out.keep h5)
   have R25:=Lib.hid q2;have R45:=Lib.hid q4
   clear D0 D1 D2 D3 h5 q2 q4 CL HT4 HB4 R24 R44
   obtain ⟨er,her⟩:∃ er,er=lookM c col row:=⟨_,rfl⟩
   rw[← her]at HM2 ⊢
   clear her
   by_cases hm:er=0
   ·subst hm
    have hM1:=HM2.out
    rw[if_neg (by simp)]at hM1
    have HM3:=Lib.hid hM1
    clear HM2 hM1
    obtain ⟨gc,oc,hgc⟩:=SlIn.some_ HCC.out (by have:=HN1.out;omega)
    subst hgc
    obtain ⟨n1,hn1⟩:∃ n,n=(c.cols.take col).length:=⟨_,rfl⟩
    obtain ⟨n2,hn2⟩:∃ n,n=(c.cols.drop col).length:=⟨_,rfl⟩
    have CT1:Hid (∀ W,Below w5.heap.size w5 W→Calls Tryz.prog 32 #[.slice (some ⟨gc,oc,none⟩) col cc] W (fun e w'=>∃ v,e=.returned v∧Own w' W.heap.size 31 5 v n1 ((c.cols.take col).flatMap encCol)∧Below W.heap.size W w')):=Lib.hid fun W hW=>by
     have hl:(c.cols.take col).length=col:=by rw[List.length_take];have:=HN1.out;omega
     have h1:=(SlIn.take_ HCC.out (k:=col) (by have:=HN1.out;omega)).keep ColR.firm (below_seq HB5.out hW)
     have h2:=clone_cols W gc (oc) (cc) (c.cols.take col) (by rw[hl];exact h1) (by rw[hl];have:=HN0.out;have:=HN1.out;omega) (by rw[hl];have:=HN1.out;omega)
     rw[hl]at h2
     rw[hn1,hl]
     exact h2
    have CT2:Hid (∀ W,Below w5.heap.size w5 W→Calls Tryz.prog 32 #[.slice (some ⟨gc,oc+col*5,none⟩) (c.cols.length - col) (cc - col)] W (fun e w'=>∃ v,e=.returned v∧Own w' W.heap.size 31 5 v n2 ((c.cols.drop col).flatMap encCol)∧Below W.heap.size W w')):=Lib.hid fun W hW=>by
     have hl:(c.cols.drop col).length=(c.cols.length - col):=by rw[List.length_drop]
     have h1:=(SlIn.drop_ HCC.out (k:=col) (by have:=HN1.out;omega)).keep ColR.firm (below_seq HB5.out hW)
     have h2:=clone_cols W gc (oc+col*5) ((cc - col)) (c.cols.drop col) (by rw[hl];exact h1) (by rw[hl];have:=HN0.out;have:=HN1.out;omega) (by rw[hl];have:=HN1.out;omega)
     rw[hl]at h2
     rw[hn2,hl]
     exact h2
    have HNN:Hid (n1=(c.cols.take col).length∧n2=(c.cols.drop col).length):=Lib.hid ⟨hn1,hn2⟩
    have HL1:Hid (0<n1):=Lib.hid (by rw[hn1,List.length_take];have:=HN0.out;have:=HN1.out;omega)
    have HL2:Hid (0<n2):=Lib.hid (by rw[hn2,List.length_drop];have:=HN1.out;omega)
    clear hn1 hn2
    have hcc1:(col:Int)≤(c.cols.length:Int):=by have:=HN1.out;omega
    have hcc2:(col:Int)≤(cc:Int):=by have:=HN1.out;omega
    have hcc3:(c.cols.length:Int)≤(cc:Int):=by omega
    have hcc4:(col:Int)<(cc:Int):=by have:=HN1.out;omega
    have HCELL:Hid (∀ (i:Nat) (x:RowM),c.rows[i]?=some x→∃ g o,rA=some ⟨g,o,none⟩∧RowC w g (o+i*5) x):=Lib.hid (by
     obtain ⟨A',c',he,-,hcell⟩:=HRC.out
     injection he with e1 e2 e3
     subst e1
     exact hcell)
    obtain ⟨w6,hw6⟩:∃ X,X=w5.alloc (.cells #[.slice none 0 0,.slice none 0 0,.slice none 0 0,.slice none 0 0,.slice none 0 0] 39):=⟨_,rfl⟩
    have hb6:Below w5.heap.size w5 w6:=by rw[hw6];exact (Below.refl _ _).alloc (Nat.le_refl _) _
    have HMT:Hid (Row w6 w5.heap.size 39 #[.slice none 0 0,.slice none 0 0,.slice none 0 0,.slice none 0 0,.slice none 0 0]):=Lib.hid (by rw[hw6];exact Row.new _ _ _)
    have HB6:=Lib.hid hb6
    clear E0 E1 E2 E3 hb6
    go_upto_region 12 with fail
    rw[← hw6]
    clear hw6
    obtain ⟨bt,hbt⟩:∃ b,b=w5.heap.size:=⟨_,rfl⟩
    rw[← hbt]at HMT ⊢
    have HBT:=Lib.hid hbt
    clear hbt
    refine wp_region_held (S:=fun W=>Below w5.heap.size w5 W) (by kernel_rfl) ?_
    change wpAnyH _ _ _ _ _ _ _ _ (World.drew _)
    obtain ⟨W0,hW0⟩:∃ X,X=(w6).drew:=⟨_,rfl⟩
    rw[← hW0]
    have z00:Below (w6).heap.size (w6) W0:=by rw[hW0];exact Below.drewN_ (Below.refl _ _) 1
    clear hW0
    have z0:=below_seq HB6.out z00
    have m0:=HMT.out.keep z00
    refine tkH (i:=0) (oi:=vsof12_0) (v:=.pointer (some ⟨b2,3,none⟩)) (by kernel_rfl) rfl (fun _ _ _ h=>h) ?_ (z0) ?_
    ·intro w hSw;go_simp<;>first|omega|(intro hh;exfalso;omega)|rfl
    try simp only[Act.put,qa,qb,qc,vsof12_0]
    refine tkH (i:=1) (oi:=vsof12_1) (v:=.slice (some ⟨gc,oc,none⟩) c.cols.length cc) (by kernel_rfl) rfl (fun _ _ _ h=>h) ?_ (z0) ?_
    ·intro w hSw;have C3:w.cell? ⟨b2,3,none⟩=some (.slice (some ⟨gc,oc,none⟩) c.cols.length cc):=(R25.out.keep hSw).cell 3;go_simp<;>first|omega|(intro hh;exfalso;omega)|rfl
    try simp only[Act.put,qa,qb,qc,vsof12_1]
    refine tkH (i:=2) (oi:=vsof12_2) (v:=.int .i64 col) (by kernel_rfl) rfl (fun _ _ _ h=>h) ?_ (z0) ?_
    ·intro w hSw;go_simp<;>first|omega|(intro hh;exfalso;omega)|rfl
    try simp only[Act.put,qa,qb,qc,vsof12_2]
    refine tkH (i:=3) (oi:=vsof12_3) (v:=.slice (some ⟨gc,oc,none⟩) col cc) (by kernel_rfl) rfl (fun _ _ _ h=>h) ?_ (z0) ?_
    ·intro w hSw;go_simp<;>first|omega|(intro hh;exfalso;omega)|rfl
    try simp only[Act.put,qa,qb,qc,vsof12_3]
    refine tkH (i:=5) (oi:=vsof12_5) (v:=.pointer (some ⟨b2,3,none⟩)) (by kernel_rfl) rfl (fun _ _ _ h=>h) ?_ (z0) ?_
    ·intro w hSw;go_simp<;>first|omega|(intro hh;exfalso;omega)|rfl
    try simp only[Act.put,qa,qb,qc,vsof12_5]
    refine tkH (i:=6) (oi:=vsof12_6) (v:=.slice (some ⟨gc,oc,none⟩) c.cols.length cc) (by kernel_rfl) rfl (fun _ _ _ h=>h) ?_ (z0) ?_
    ·intro w hSw;have C3:w.cell? ⟨b2,3,none⟩=some (.slice (some ⟨gc,oc,none⟩) c.cols.length cc):=(R25.out.keep hSw).cell 3;go_simp<;>first|omega|(intro hh;exfalso;omega)|rfl
    try simp only[Act.put,qa,qb,qc,vsof12_6]
    refine tkH (i:=7) (oi:=vsof12_7) (v:=.int .i64 col) (by kernel_rfl) rfl (fun _ _ _ h=>h) ?_ (z0) ?_
    ·intro w hSw;go_simp<;>first|omega|(intro hh;exfalso;omega)|rfl
    try simp only[Act.put,qa,qb,qc,vsof12_7]
    refine tkH (i:=8) (oi:=vsof12_8) (v:=.slice (some ⟨gc,oc+col*5,none⟩) (c.cols.length - col) (cc - col)) (by kernel_rfl) rfl (fun _ _ _ h=>h) ?_ (z0) ?_
    ·intro w hSw;go_simp<;>first|omega|(intro hh;exfalso;omega)|rfl
    try simp only[Act.put,qa,qb,qc,vsof12_8]
    refine oneH (i:=4) (o:=vsof12_4) (by kernel_rfl) rfl ?_
    intro K hK
    simp only[vsof12_4]
    go_simp
    go_at_call 32
    refine (CT1.out _ z0).mono ?_
    rintro e' V1 ⟨cv1,rfl,o1,y1⟩
    obtain ⟨p1,q1,rfl⟩:=OwnK.shape o1 HL1.out
    have z1:=below_seq z0 y1
    have m1:=m0.keep y1
    refine hK.out _ _ (z1) (fun hHeld=>?_)
    clear hK K hHeld
    try simp only[Act.put,qa,qb,qc]
    refine tkH (i:=10) (oi:=vsof12_10) (v:=.pointer (some ⟨bt,0,none⟩)) (by kernel_rfl) rfl (fun _ _ _ h=>h) ?_ (z1) ?_
    ·intro w hSw;go_simp<;>first|omega|(intro hh;exfalso;omega)|rfl
    try simp only[Act.put,qa,qb,qc,vsof12_10]
    refine tkH (i:=11) (oi:=vsof12_11) (v:=.pointer (some ⟨bt,0,none⟩)) (by kernel_rfl) rfl (fun _ _ _ h=>h) ?_ (z1) ?_
    ·intro w hSw;go_simp<;>first|omega|(intro hh;exfalso;omega)|rfl
    try simp only[Act.put,qa,qb,qc,vsof12_11]
    refine oneH (i:=9) (o:=vsof12_9) (by kernel_rfl) rfl ?_
    intro K hK
    simp only[vsof12_9]
    go_simp
    go_at_call 32
    refine (CT2.out _ z1).mono ?_
    rintro e' V2 ⟨cv2,rfl,o2,y2⟩
    obtain ⟨p2,q2,rfl⟩:=OwnK.shape o2 HL2.out
    have z2:=below_seq z1 y2
    have m2:=m1.keep y2
    have o1k:=o1.keep y2
    refine hK.out _ _ (z2) (fun hHeld=>?_)
    clear hK K hHeld
    try simp only[Act.put,qa,qb,qc]
    refine oneH (i:=12) (o:=vsof12_12) (by kernel_rfl) rfl ?_
    intro K hK
    simp only[vsof12_12]
    have k3:V2.cell? ⟨bt,0,none⟩=some (.slice none 0 0):=m2.cell 0
    have f3:=m2.free 0
    go_simp
    have z3:Below w5.heap.size w5 (V2.setCell ⟨bt,0,none⟩ (.slice (some ⟨p1,0,none⟩) n1 q1)):=z2.setCell (p:=⟨bt,0,none⟩) (show w5.heap.size≤bt by have:=HBT.out;omega) _
    have m3:=m2.set 0 ((.slice (some ⟨p1,0,none⟩) n1 q1))
    refine hK.out _ _ (z3) (fun hHeld=>?_)
    clear hK K hHeld
    try simp only[Act.put,qa,qb,qc]
    refine tkH (i:=13) (oi:=vsof12_13) (v:=.pointer (some ⟨bt,2,none⟩)) (by kernel_rfl) rfl (fun _ _ _ h=>h) ?_ (z3) ?_
    ·intro w hSw;go_simp<;>first|omega|(intro hh;exfalso;omega)|rfl
    try simp only[Act.put,qa,qb,qc,vsof12_13]
    refine tkH (i:=14) (oi:=vsof12_14) (v:=.pointer (some ⟨bt,2,none⟩)) (by kernel_rfl) rfl (fun _ _ _ h=>h) ?_ (z3) ?_
    ·intro w hSw;go_simp<;>first|omega|(intro hh;exfalso;omega)|rfl
    try simp only[Act.put,qa,qb,qc,vsof12_14]
    refine oneH (i:=15) (o:=vsof12_15) (by kernel_rfl) rfl ?_
    intro K hK
    simp only[vsof12_15]
    have k4:(V2.setCell ⟨bt,0,none⟩ (.slice (some ⟨p1,0,none⟩) n1 q1)).cell? ⟨bt,2,none⟩=some (.slice none 0 0):=m3.cell 2
    have f4:=m3.free 2
    go_simp
    have z4:Below w5.heap.size w5 ((V2.setCell ⟨bt,0,none⟩ (.slice (some ⟨p1,0,none⟩) n1 q1)).setCell ⟨bt,2,none⟩ (.slice (some ⟨p2,0,none⟩) n2 q2)):=z3.setCell (p:=⟨bt,2,none⟩) (show w5.heap.size≤bt by have:=HBT.out;omega) _
    have m4:=m3.set 2 ((.slice (some ⟨p2,0,none⟩) n2 q2))
    refine hK.out _ _ (z4) (fun hHeld=>?_)
    clear hK K hHeld
    try simp only[Act.put,qa,qb,qc]
    refine wpAnyH_done (by kernel_rfl) ?_ _
    obtain ⟨w7,hw7⟩:∃ X,X=(V2.setCell ⟨bt,0,none⟩ (.slice (some ⟨p1,0,none⟩) n1 q1)).setCell ⟨bt,2,none⟩ (.slice (some ⟨p2,0,none⟩) n2 q2):=⟨_,rfl⟩
    have hs:∀ g,g≠bt→((V2.setCell ⟨bt,0,none⟩ (.slice (some ⟨p1,0,none⟩) n1 q1)).setCell ⟨bt,2,none⟩ (.slice (some ⟨p2,0,none⟩) n2 q2)).heap[g]?=V2.heap[g]?:=fun g hg=>(set_other _ _ _ _ _ hg).trans (set_other _ _ _ _ _ hg)
    obtain ⟨cv1,hcv1⟩:∃ v,v=Value.slice (some ⟨p1,0,none⟩) n1 q1:=⟨_,rfl⟩
    obtain ⟨cv2,hcv2⟩:∃ v,v=Value.slice (some ⟨p2,0,none⟩) n2 q2:=⟨_,rfl⟩
    have HMD:Hid (MadeR w7 bt cv1 (.slice none 0 0) cv2 (.slice none 0 0) (.slice none 0 0) (c.cols.take col) (c.cols.drop col) [] [] []):=Lib.hid (by
     rw[hw7,hcv1,hcv2]
     obtain ⟨en1,en2⟩:=HNN.out
     refine ⟨by have:=m4;simpa using this,?_⟩
     clear m3 m4 z3 z4
     subst en1 en2
     have l0:=m0.lt;have l1:=m1.lt
     exact TwR.nil ((OwnK.low o1k (by omega)).stay fun g hg=>hs g (by have:=(OwnK.lt o1k hg).1;omega)) ((OwnK.low o2 (by omega)).stay fun g hg=>hs g (by have:=(OwnK.lt o2 hg).1;omega)))
    have HB7:Hid (Below w5.heap.size w5 w7):=Lib.hid (by rw[hw7];exact z4)
    rw[← hw7]
    have E2:w7.cell? ⟨b2,2,none⟩=some (.slice rA c.rows.length rc):=(R25.out.keep HB7.out).cell 2
    clear hw7 hs hcv1 hcv2 z00 z0 z1 z2 z3 z4 m0 m1 m2 m3 m4 y1 y2 o1 o2 o1k k3 k4 f3 f4 CT1 CT2
    go_wp2_with fail
    go_loopg [62] c.rows.length (fun g t wr=>∃ k:Nat,t=.int .i64 k∧k+g=c.rows.length∧Hid (∃ v1 v2 te R1 R2 TE,InR w5 bt cv1 cv2 col (c.cols.take col) (c.cols.drop col) (work row 0 (c.rows.take k)) v1 v2 te R1 R2 TE wr))
    case atStart=>exact ⟨0,rfl,by omega,Lib.hid ⟨_,_,_,_,_,_,HMD.out,by simpa [work]using DoneR.nil col,HB7.out,by have:=HBT.out;omega⟩⟩
    case round=>
     obtain ⟨k,rfl,hk,HL⟩:=hrel
     by_cases hlt:k<c.rows.length
     ·obtain ⟨r,hr⟩:∃ r,c.rows[k]?=some r:=⟨c.rows[k],by simp[hlt]⟩
      obtain ⟨v1,v2,te,R1,R2,TE,hin⟩:=HL.out
      obtain ⟨gr,og,rfl,hro⟩:=HCELL.out k r hr
      obtain ⟨cv,n0,n1,n2,n3,n4,hcs,hno⟩:=hro
      obtain ⟨A0,c0,rfl,hc0,-⟩:=id hcs
      have hbw:=below_seq HB5.out hin.below
      have d0:=cell_keep n0 hbw;have d1:=cell_keep n1 hbw;have d2:=cell_keep n2 hbw;have d3:=cell_keep n3 hbw;have d4:=cell_keep n4 hbw
      obtain ⟨w8,hw8⟩:∃ X,X=wr.alloc (.cells #[.string ⟨r.name.toArray⟩,.int .i64 r.kind,.slice A0 r.coef.length c0,.string ⟨r.rhs.toArray⟩,.string ⟨r.range.toArray⟩] 28):=⟨_,rfl⟩
      have hb8:Below wr.heap.size wr w8:=by rw[hw8];exact (Below.refl _ _).alloc (Nat.le_refl _) _
      have hr8:Row w8 wr.heap.size 28 #[.string ⟨r.name.toArray⟩,.int .i64 r.kind,.slice A0 r.coef.length c0,.string ⟨r.rhs.toArray⟩,.string ⟨r.range.toArray⟩]:=by rw[hw8];exact Row.new _ _ _
      have f0:w8.cell? ⟨wr.heap.size,0,none⟩=some (.string ⟨r.name.toArray⟩):=hr8.cell 0
      have f1:w8.cell? ⟨wr.heap.size,1,none⟩=some (.int .i64 r.kind):=hr8.cell 1
      have f2:w8.cell? ⟨wr.heap.size,2,none⟩=some (.slice A0 r.coef.length c0):=hr8.cell 2
      have f3:w8.cell? ⟨wr.heap.size,3,none⟩=some (.string ⟨r.rhs.toArray⟩):=hr8.cell 3
      have f4:w8.cell? ⟨wr.heap.size,4,none⟩=some (.string ⟨r.range.toArray⟩):=hr8.cell 4
      have CR:=Lib.hid (split_ranged w8 r A0 r.coef.length c0 (HT5.out.keep (below_seq hin.below hb8)) (HR.out r (List.mem_of_getElem? hr)))
      have HIN8:=Lib.hid (hin.keep hb8)
      have HRM:=Lib.hid (List.mem_of_getElem? hr)
      have HTK:Hid (work row 0 (c.rows.take (k+1))=work row 0 (c.rows.take k) ++ workF row k r):=Lib.hid (by
       rw[List.take_add_one,hr]
       have:=work_snoc row r (c.rows.take k) 0
       rw[List.length_take,Nat.min_eq_left (Nat.le_of_lt hlt),Nat.zero_add]at this
       exact this)
      have HCS:=Lib.hid hcs;have HNO:=Lib.hid hno;have HK:=Lib.hid hk;have HLT:=Lib.hid hlt
      obtain ⟨G,hG⟩:∃ G,G=gk:=⟨_,rfl⟩
      have HG:=Lib.hid hG
      clear hG
      have HCF1:=Lib.hid (HCF.out r HRM.out);have HCB1:=Lib.hid (HCB.out r HRM.out)
      clear n0 n1 n2 n3 n4 hcs hno hbw hb8 hr8 hr hin HL
      go_upto_region 16 with fail
      rw[← hw8]
      clear hw8 d0 d1 d2 d3 d4
      obtain ⟨bl,hbl⟩:∃ b,b=wr.heap.size:=⟨_,rfl⟩
      rw[← hbl]at f0 f1 f2 f3 f4 ⊢
      clear hbl
      go_wp2_with fail
      refine CR.out.mono ?_
      rintro e w9 ⟨g8,rfl,hg8,hrow9,hb9⟩
      have HIN9:Hid (∃ v1_ v2_ te_ R1_ R2_ TE_,InR w5 bt cv1 cv2 col (c.cols.take col) (c.cols.drop col) (work row 0 (c.rows.take k) ++ (workF row k r).take 0) v1_ v2_ te_ R1_ R2_ TE_ w9∧v1_.ownBlock≠some g8∧v2_.ownBlock≠some g8∧Row w9 g8 28 ((rangedM r).flatMap (encVR (.slice A0 r.coef.length c0))).toArray∧bt<g8):=Lib.hid (by
       have l8:=HIN8.out.lt
       refine ⟨_,_,_,_,_,_,by rw[List.take_zero,List.append_nil];exact HIN8.out.keep hb9,?_,?_,hrow9,by omega⟩
       ·intro he;have:=(HIN8.out.made.two.own1.lt he).2;omega
       ·intro he;have:=(HIN8.out.made.two.own2.lt he).2;omega)
      have hrl2:=ranged_len r
      have HP1:Hid ((work row 0 (c.rows.take k)).length≤2*k):=Lib.hid (by have:=work_len row (c.rows.take k) 0;rw[List.length_take]at this;omega)
      clear hrow9 hb9 f0 f1 f2 f3 f4 CR HIN8 hg8
      go_wp2_with fail
      go_loopg [70] (rangedM r).length (fun g t wq=>∃ j:Nat,t=.int .i64 j∧j+g=(rangedM r).length∧Hid (∃ v1_ v2_ te_ R1_ R2_ TE_,InR w5 bt cv1 cv2 col (c.cols.take col) (c.cols.drop col) (work row 0 (c.rows.take k) ++ (workF row k r).take j) v1_ v2_ te_ R1_ R2_ TE_ wq∧v1_.ownBlock≠some g8∧v2_.ownBlock≠some g8∧Row wq g8 28 ((rangedM r).flatMap (encVR (.slice A0 r.coef.length c0))).toArray∧bt<g8))
      case atStart=>exact ⟨0,rfl,by omega,HIN9⟩
      case round=>
       obtain ⟨j,rfl,hj,HQ⟩:=hrel
       by_cases hjl:j<(rangedM r).length
       ·obtain ⟨x,hx⟩:∃ x,(rangedM r)[j]?=some x:=⟨(rangedM r)[j],by simp[hjl]⟩
        obtain ⟨v1,v2,te,R1,R2,TE,hin,hn1,hn2,hsrc,hbg⟩:=HQ.out
        have hxc:x.coef=r.coef:=ranged_coef (List.mem_of_getElem? hx)
        have e0:wr.cell? ⟨g8,j*5,none⟩=some (.string ⟨x.name.toArray⟩):=src_cell hsrc hx (i:=0) rfl
        have e1:wr.cell? ⟨g8,j*5+1,none⟩=some (.int .i64 x.kind):=src_cell hsrc hx (i:=1) rfl
        have e2:wr.cell? ⟨g8,j*5+2,none⟩=some (.slice A0 r.coef.length c0):=src_cell hsrc hx (i:=2) rfl
        have e3:wr.cell? ⟨g8,j*5+3,none⟩=some (.string ⟨x.rhs.toArray⟩):=src_cell hsrc hx (i:=3) rfl
        have e4:wr.cell? ⟨g8,j*5+4,none⟩=some (.string ⟨x.range.toArray⟩):=src_cell hsrc hx (i:=4) rfl
        obtain ⟨wa,hwa⟩:∃ X,X=wr.alloc (.cells #[.string ⟨x.name.toArray⟩,.int .i64 x.kind,.slice A0 r.coef.length c0,.string ⟨x.rhs.toArray⟩,.string ⟨x.range.toArray⟩] 28):=⟨_,rfl⟩
        have hba:Below wr.heap.size wr wa:=by rw[hwa];exact (Below.refl _ _).alloc (Nat.le_refl _) _
        have hra:Row wa wr.heap.size 28 #[.string ⟨x.name.toArray⟩,.int .i64 x.kind,.slice A0 r.coef.length c0,.string ⟨x.rhs.toArray⟩,.string ⟨x.range.toArray⟩]:=by rw[hwa];exact Row.new _ _ _
        have hl1:R1.length≤2000010∧R2.length≤2000010∧TE.length≤2000010:=by
         have h1:=hin.done.lens
         have h2:=HP1.out
         have h3:((workF row k r).take j).length≤2:=by rw[List.length_take,workF,List.length_map];omega
         rw[List.length_append]at h1
         have:=HLT.out
         omega
        obtain ⟨hl1,hl2,hl3⟩:=hl1
        have HNE1:Hid (v1.ownBlock≠some wr.heap.size):=Lib.hid fun he=>by have:=(hin.made.two.own1.lt he).2;omega
        have HNE2:Hid (v2.ownBlock≠some wr.heap.size):=Lib.hid fun he=>by have:=(hin.made.two.own2.lt he).2;omega
        have HTJ:Hid ((workF row k r).take (j+1)=(workF row k r).take j ++ [(decide (k<row),x)]):=Lib.hid (by
         rw[List.take_add_one]
         have:(workF row k r)[j]?=some (decide (k<row),x):=by unfold workF;rw[List.getElem?_map,hx];rfl
         rw[this];rfl)
        have HINA:=Lib.hid (hin.keep hba);have HRA:=Lib.hid hra;have HSRC:=Lib.hid (hsrc.keep hba);have HN1':=Lib.hid hn1;have HN2':=Lib.hid hn2
        have HCSA:Hid (CsIn wa (.slice A0 r.coef.length c0) r.coef):=Lib.hid (HCS.out.keep CoefR.firm (below_seq HB5.out (below_seq hin.below hba)))
        have HJ:=Lib.hid hj;have HBG:=Lib.hid hbg
        have q0:wa.cell? ⟨wr.heap.size,0,none⟩=some (.string ⟨x.name.toArray⟩):=hra.cell 0
        have q1:wa.cell? ⟨wr.heap.size,1,none⟩=some (.int .i64 x.kind):=hra.cell 1
        have q2:wa.cell? ⟨wr.heap.size,2,none⟩=some (.slice A0 r.coef.length c0):=hra.cell 2
        have q3:wa.cell? ⟨wr.heap.size,3,none⟩=some (.string ⟨x.rhs.toArray⟩):=hra.cell 3
        have q4:wa.cell? ⟨wr.heap.size,4,none⟩=some (.string ⟨x.range.toArray⟩):=hra.cell 4
        clear hx hin hn1 hn2 hsrc hra hba hj hbg HQ HIN9
        go_upto_region 19 with fail
        rw[← hwa]
        clear hwa e0 e1 e2 e3 e4
        obtain ⟨bx,hbx⟩:∃ b,b=wr.heap.size:=⟨_,rfl⟩
        rw[← hbx]at HRA HNE1 HNE2 q0 q1 q2 q3 q4 ⊢
        clear hbx
        by_cases hkr:k<row
        ·have hkr':(k:Int)<(row:Int):=by omega
         have HKR:=Lib.hid hkr
         clear hkr
         have CP:Hid (∀ W,Below wa.heap.size wa W→Calls Tryz.prog 34 #[.agg #[.string ⟨x.name.toArray⟩,.int .i64 x.kind,.slice A0 r.coef.length c0,.string ⟨x.rhs.toArray⟩,.string ⟨x.range.toArray⟩],.slice A0 r.coef.length c0] W (fun e w'=>∃ cv,e=.returned (.agg #[.string ⟨x.name.toArray⟩,.int .i64 x.kind,cv,.string ⟨x.rhs.toArray⟩,.string ⟨x.range.toArray⟩])∧Own w' W.heap.size 24 2 cv x.coef.length (x.coef.flatMap encCf)∧Below W.heap.size W w'∧(∃ A n c,cv=.slice A n c))):=Lib.hid fun W hW=>split_copied W x.name x.rhs x.range x.kind A0 r.coef.length c0 _ x.coef ⟨by rw[hxc];exact HCSA.out.keep CoefR.firm hW,by rw[hxc];exact HNO.out⟩ (by rw[hxc];have:=HCF1.out;omega)
         go_upto_region 20 with fail
         refine wp_region_U [11] ((fun W=>Row W bt 39 #[cv1,v1,cv2,v2,te]∧Row W bx 28 #[.string ⟨x.name.toArray⟩,.int .i64 x.kind,.slice A0 r.coef.length c0,.string ⟨x.rhs.toArray⟩,.string ⟨x.range.toArray⟩])) (by kernel_rfl) ?_
         change wpAnyU _ _ _ _ _ _ _ _ _ (World.drew _)
         obtain ⟨W0,hW0⟩:∃ X,X=(wa).drew:=⟨_,rfl⟩
         rw[← hW0]
         have z0:Below (wa).heap.size (wa) W0:=by rw[hW0];exact Below.drewN_ (Below.refl _ _) 1
         clear hW0
         refine wpAnyU_pure (i:=0) (oi:=vsof20_0) (v:=.pointer (some ⟨bt,0,none⟩)) rfl (by kernel_rfl) (by kernel_rfl) (by kernel_rfl) (fun _ _ _ h=>h) (Or.inl ⟨by kernel_rfl,?_⟩) ?_
         ·intro w _;go_simp<;>first|omega|(intro hh;exfalso;omega)|rfl
         try simp only[Act.put,qa,qb,qc,vsof20_0]
         refine wpAnyU_pure (i:=1) (oi:=vsof20_1) (v:=.pointer (some ⟨bt,1,none⟩)) rfl (by kernel_rfl) (by kernel_rfl) (by kernel_rfl) (fun _ _ _ h=>h) (Or.inl ⟨by kernel_rfl,?_⟩) ?_
         ·intro w _;go_simp<;>first|omega|(intro hh;exfalso;omega)|rfl
         try simp only[Act.put,qa,qb,qc,vsof20_1]
         refine wpAnyU_take (i:=2) (oi:=vsof20_2) (v:=v1) rfl (by kernel_rfl) (by kernel_rfl) (by kernel_rfl) (by kernel_rfl) (fun _ _ _ h=>h) (Or.inl ⟨by kernel_rfl,?_⟩) (⟨HINA.out.made.row.keep (z0),HRA.out.keep (z0)⟩) ?_
         ·intro w hSw;have C1:w.cell? ⟨bt,1,none⟩=some v1:=hSw.1.cell 1;have C2:w.cell? ⟨bt,3,none⟩=some v2:=hSw.1.cell 3;have C3:w.cell? ⟨bt,4,none⟩=some te:=hSw.1.cell 4;have X0:w.cell? ⟨bx,0,none⟩=some (.string ⟨x.name.toArray⟩):=hSw.2.cell 0;have X1:w.cell? ⟨bx,1,none⟩=some (.int .i64 x.kind):=hSw.2.cell 1;have X2:w.cell? ⟨bx,2,none⟩=some (.slice A0 r.coef.length c0):=hSw.2.cell 2;have X3:w.cell? ⟨bx,3,none⟩=some (.string ⟨x.rhs.toArray⟩):=hSw.2.cell 3;have X4:w.cell? ⟨bx,4,none⟩=some (.string ⟨x.range.toArray⟩):=hSw.2.cell 4;go_simp<;>first|omega|(intro hh;exfalso;omega)|rfl
         try simp only[Act.put,qa,qb,qc,vsof20_2]
         refine wpAnyU_take (i:=3) (oi:=vsof20_3) (v:=.agg #[.string ⟨x.name.toArray⟩,.int .i64 x.kind,.slice A0 r.coef.length c0,.string ⟨x.rhs.toArray⟩,.string ⟨x.range.toArray⟩]) rfl (by kernel_rfl) (by kernel_rfl) (by kernel_rfl) (by kernel_rfl) (fun _ _ _ h=>h) (Or.inl ⟨by kernel_rfl,?_⟩) (⟨HINA.out.made.row.keep (z0),HRA.out.keep (z0)⟩) ?_
         ·intro w hSw;have C1:w.cell? ⟨bt,1,none⟩=some v1:=hSw.1.cell 1;have C2:w.cell? ⟨bt,3,none⟩=some v2:=hSw.1.cell 3;have C3:w.cell? ⟨bt,4,none⟩=some te:=hSw.1.cell 4;have X0:w.cell? ⟨bx,0,none⟩=some (.string ⟨x.name.toArray⟩):=hSw.2.cell 0;have X1:w.cell? ⟨bx,1,none⟩=some (.int .i64 x.kind):=hSw.2.cell 1;have X2:w.cell? ⟨bx,2,none⟩=some (.slice A0 r.coef.length c0):=hSw.2.cell 2;have X3:w.cell? ⟨bx,3,none⟩=some (.string ⟨x.rhs.toArray⟩):=hSw.2.cell 3;have X4:w.cell? ⟨bx,4,none⟩=some (.string ⟨x.range.toArray⟩):=hSw.2.cell 4;go_simp<;>first|omega|(intro hh;exfalso;omega)|rfl
         try simp only[Act.put,qa,qb,qc,vsof20_3]
         refine wpAnyU_pure (i:=4) (oi:=vsof20_4) (v:=.pointer (some ⟨bx,2,none⟩)) rfl (by kernel_rfl) (by kernel_rfl) (by kernel_rfl) (fun _ _ _ h=>h) (Or.inl ⟨by kernel_rfl,?_⟩) ?_
         ·intro w _;go_simp<;>first|omega|(intro hh;exfalso;omega)|rfl
         try simp only[Act.put,qa,qb,qc,vsof20_4]
         refine wpAnyU_take (i:=5) (oi:=vsof20_5) (v:=.slice A0 r.coef.length c0) rfl (by kernel_rfl) (by kernel_rfl) (by kernel_rfl) (by kernel_rfl) (fun _ _ _ h=>h) (Or.inl ⟨by kernel_rfl,?_⟩) (⟨HINA.out.made.row.keep (z0),HRA.out.keep (z0)⟩) ?_
         ·intro w hSw;have C1:w.cell? ⟨bt,1,none⟩=some v1:=hSw.1.cell 1;have C2:w.cell? ⟨bt,3,none⟩=some v2:=hSw.1.cell 3;have C3:w.cell? ⟨bt,4,none⟩=some te:=hSw.1.cell 4;have X0:w.cell? ⟨bx,0,none⟩=some (.string ⟨x.name.toArray⟩):=hSw.2.cell 0;have X1:w.cell? ⟨bx,1,none⟩=some (.int .i64 x.kind):=hSw.2.cell 1;have X2:w.cell? ⟨bx,2,none⟩=some (.slice A0 r.coef.length c0):=hSw.2.cell 2;have X3:w.cell? ⟨bx,3,none⟩=some (.string ⟨x.rhs.toArray⟩):=hSw.2.cell 3;have X4:w.cell? ⟨bx,4,none⟩=some (.string ⟨x.range.toArray⟩):=hSw.2.cell 4;go_simp<;>first|omega|(intro hh;exfalso;omega)|rfl
         try simp only[Act.put,qa,qb,qc,vsof20_5]
         refine wpAnyU_ready (rs:=[6]) (by kernel_rfl) (by simp) ?_
         apply AllReadyU.cons (o:=vsof20_6) (by kernel_rfl)
         case hs=>exact AllReadyU.nil
         intro K hK
         simp only[vsof20_6]
         go_simp
         go_at_call 34
         refine (CP.out _ z0).mono ?_
         rintro e' V1 ⟨xv,rfl,oc1,y1,xA,xn,xc,rfl⟩
         have z1:=below_seq z0 y1
         refine hK.out _ _ (fun _ _=>⟨HINA.out.made.row.keep (z1),HRA.out.keep (z1)⟩) ?_
         clear hK K
         try simp only[Act.put,qa,qb,qc]
         refine wpAnyU_ready (rs:=[7]) (by kernel_rfl) (by simp) ?_
         apply AllReadyU.cons (o:=vsof20_7) (by kernel_rfl)
         case hs=>exact AllReadyU.nil
         intro K hK
         simp only[vsof20_7]
         go_simp
         obtain ⟨V2,h2⟩:∃ X,X=V1.alloc (.cells #[.string ⟨x.name.toArray⟩,.int .i64 x.kind,.slice xA xn xc,.string ⟨x.rhs.toArray⟩,.string ⟨x.range.toArray⟩] 28):=⟨_,rfl⟩
         rw[← h2]
         have y2:Below V1.heap.size V1 V2:=by rw[h2];exact (Below.refl _ _).alloc (Nat.le_refl _) _
         have nn2:Row V2 V1.heap.size 28 #[.string ⟨x.name.toArray⟩,.int .i64 x.kind,.slice xA xn xc,.string ⟨x.rhs.toArray⟩,.string ⟨x.range.toArray⟩]:=by rw[h2];exact Row.new _ _ _
         clear h2
         have ock2:=oc1.keep y2
         have z2:=below_seq z1 y2
         refine hK.out _ _ (fun _ _=>⟨HINA.out.made.row.keep (z2),HRA.out.keep (z2)⟩) ?_
         clear hK K
         try simp only[Act.put,qa,qb,qc]
         refine wpAnyU_ready (rs:=[8]) (by kernel_rfl) (by simp) ?_
         apply AllReadyU.cons (o:=vsof20_8) (by kernel_rfl)
         case hs=>exact AllReadyU.nil
         intro K hK
         have IN3:=HINA.out.keep z2
         have ne3:=HRA.out.keep z2
         refine step_append_ownK (Kd:=fun _=>True) rfl (.tmp 79) (.tmp 84) 29 rfl (bt+1) 28 i1 _ 5 Tryz.underlying29 hi1 hz1 hsz1 rfl (by omega) v1 R1.length (R1.flatMap encVR2) rfl IN3.made.two.own1 ⟨V1.heap.size,0,none⟩ 1 1 [.string ⟨x.name.toArray⟩,.int .i64 x.kind,.slice xA xn xc,.string ⟨x.rhs.toArray⟩,.string ⟨x.range.toArray⟩] rfl rfl (one_row5 nn2) (by simp[Value.oneCell']) (by simp) (by simp) (by omega) (by unfold maxLen;omega) (by rw[hby1];omega) (by have:=IN3.lt;omega) ?_
         intro v3x V3 ow3 gr3 lc3
         obtain ⟨gq3,cp3,rfl⟩:=OwnK.shape ow3 (by omega)
         have s3:Row V3 bt 39 #[cv1,v1,cv2,v2,te]:=(grown_other IN3.made.two.own1 gr3 IN3.made.row (by decide)).trans IN3.made.row
         have x3:=rw_grown ne3 gr3 HNE1.out
         refine hK.out _ _ (fun _ _=>⟨s3,x3⟩) ?_
         clear hK K
         try simp only[Act.put,qa,qb,qc]
         refine wpAnyU_pure (i:=9) (oi:=vsof20_9) (v:=.pointer (some ⟨bt,0,none⟩)) rfl (by kernel_rfl) (by kernel_rfl) (by kernel_rfl) (fun _ _ _ h=>h) (Or.inl ⟨by kernel_rfl,?_⟩) ?_
         ·intro w _;go_simp<;>first|omega|(intro hh;exfalso;omega)|rfl
         try simp only[Act.put,qa,qb,qc,vsof20_9]
         refine wpAnyU_pure (i:=10) (oi:=vsof20_10) (v:=.pointer (some ⟨bt,1,none⟩)) rfl (by kernel_rfl) (by kernel_rfl) (by kernel_rfl) (fun _ _ _ h=>h) (Or.inl ⟨by kernel_rfl,?_⟩) ?_
         ·intro w _;go_simp<;>first|omega|(intro hh;exfalso;omega)|rfl
         try simp only[Act.put,qa,qb,qc,vsof20_10]
         refine wpAnyU_ready (rs:=[11]) (by kernel_rfl) (by simp) ?_
         apply AllReadyU.cons (o:=vsof20_11) (by kernel_rfl)
         case hs=>exact AllReadyU.nil
         intro K hK
         simp only[vsof20_11]
         have k1:V3.cell? ⟨bt,1,none⟩=some v1:=s3.cell 1
         have k2:=s3.free 1
         go_simp
         refine hK.out _ _ (fun h=>absurd (by decide) h) ?_
         clear hK K
         try simp only[Act.put,qa,qb,qc]
         refine wpAnyU_done (by kernel_rfl) ?_ _
         have HNX:Hid (∃ v1_ v2_ te_ R1_ R2_ TE_,InR w5 bt cv1 cv2 col (c.cols.take col) (c.cols.drop col) (work row 0 (c.rows.take k) ++ (workF row k r).take (j+1)) v1_ v2_ te_ R1_ R2_ TE_ (V3.setCell ⟨bt,1,none⟩ (.slice (some ⟨gq3,0,none⟩) (R1.length+1) cp3))∧v1_.ownBlock≠some g8∧v2_.ownBlock≠some g8∧Row (V3.setCell ⟨bt,1,none⟩ (.slice (some ⟨gq3,0,none⟩) (R1.length+1) cp3)) g8 28 ((rangedM r).flatMap (encVR (.slice A0 r.coef.length c0))).toArray∧bt<g8):=Lib.hid (by
          have hd:decide (k<row)=true:=decide_eq_true HKR.out
          have l1:=HSRC.out.lt
          have ls:=z2.size
          refine ⟨_,_,_,_,_,_,by rw[HTJ.out,hd,← List.append_assoc];exact IN3.step1 (cv:=.slice xA xn xc) (x:=x) ow3 gr3 lc3 (OwnK.low ock2 (by have:=HINA.out.lt;have:=z0.size;omega)),own_ne lc3 HN1'.out (by omega),HN2'.out,(rw_grown (HSRC.out.keep z2) gr3 HN1'.out).far (by have:=HBG.out;simp;omega) _,HBG.out⟩)
         clear k1 k2 IN3 ne3 ow3 gr3 lc3 s3 x3 HTJ
         go_wp2_with fail
         go_roundg (gk - 1)
         case measure=>have:=HJ.out;omega
         case rel=>exact ⟨j+1,by go_num,by have:=HJ.out;omega,HNX⟩
        ·have hkr':¬ (k:Int)<(row:Int):=by omega
         have HKR:=Lib.hid hkr
         clear hkr
         have CD:=Lib.hid (split_parted wa _ r.coef col HCSA.out HCF1.out (by have:=HN1.out;omega) HCB1.out)
         go_wp2_with fail
         refine CD.out.mono ?_
         rintro e wb ⟨ta,tb,rfl,htw,⟨hna,hnb⟩,hbb⟩
         have HTA:Hid (OwnCs wb (bt+1) ta (techM r.coef col)):=Lib.hid (by have h1:=htw.own false trivial;simp only[Bool.false_eq_true,if_false]at h1;exact OwnK.low h1 (by have:=HINA.out.lt;omega))
         have HTB:Hid (OwnCs wb (bt+1) tb (ownM r.coef col)):=Lib.hid (by have h1:=htw.own true trivial;simp only[if_true]at h1;exact OwnK.low h1 (by have:=HINA.out.lt;omega))
         have HNB:=Lib.hid hnb
         obtain ⟨aA,ac,hta,-⟩:=HTA.out.sl
         obtain ⟨bA,bc,htb,-⟩:=HTB.out.sl
         have HINB:=Lib.hid (HINA.out.keep hbb);have HRB:=Lib.hid (HRA.out.keep hbb);have HSRB:=Lib.hid (HSRC.out.keep hbb)
         have hol:(ownM r.coef col).length≤1000000000:=by unfold ownM;rw[List.length_map];have:=List.length_filter_le (fun x:CoefM=>!decide (x.1<(col:Int))) r.coef;have:=HCF1.out;omega
         obtain ⟨na,hna'⟩:∃ n,n=(techM r.coef col).length:=⟨_,rfl⟩
         obtain ⟨nb,hnb'⟩:∃ n,n=(ownM r.coef col).length:=⟨_,rfl⟩
         have HXC:=Lib.hid hxc
         rw[← hna']at hta
         rw[← hnb']at htb
         clear hna' hnb'
         subst hta htb
         have r0:wb.cell? ⟨bx,0,none⟩=some (.string ⟨x.name.toArray⟩):=HRB.out.cell 0
         have r1:wb.cell? ⟨bx,1,none⟩=some (.int .i64 x.kind):=HRB.out.cell 1
         have r2:wb.cell? ⟨bx,2,none⟩=some (.slice A0 r.coef.length c0):=HRB.out.cell 2
         have r3:wb.cell? ⟨bx,3,none⟩=some (.string ⟨x.rhs.toArray⟩):=HRB.out.cell 3
         have r4:wb.cell? ⟨bx,4,none⟩=some (.string ⟨x.range.toArray⟩):=HRB.out.cell 4
         have CP:Hid (∀ W,Below wb.heap.size wb W→Calls Tryz.prog 34 #[.agg #[.string ⟨x.name.toArray⟩,.int .i64 x.kind,.slice A0 r.coef.length c0,.string ⟨x.rhs.toArray⟩,.string ⟨x.range.toArray⟩],.slice bA nb bc] W (fun e w'=>∃ cv,e=.returned (.agg #[.string ⟨x.name.toArray⟩,.int .i64 x.kind,cv,.string ⟨x.rhs.toArray⟩,.string ⟨x.range.toArray⟩])∧Own w' W.heap.size 24 2 cv (ownM r.coef col).length ((ownM r.coef col).flatMap encCf)∧Below W.heap.size W w'∧(∃ A n c,cv=.slice A n c))):=Lib.hid fun W hW=>split_copied W x.name x.rhs x.range x.kind A0 r.coef.length c0 _ (ownM r.coef col) ⟨(HTB.out.csIn).keep CoefR.firm hW,HNB.out⟩ hol
         clear htw hna hnb hbb q0 q1 q2 q3 q4 hxc CD
         go_upto_region 22 with fail
         refine wp_region_U [15,17] ((fun W=>Row W bt 39 #[cv1,v1,cv2,v2,te]∧Row W bx 28 #[.string ⟨x.name.toArray⟩,.int .i64 x.kind,.slice A0 r.coef.length c0,.string ⟨x.rhs.toArray⟩,.string ⟨x.range.toArray⟩])) (by kernel_rfl) ?_
         change wpAnyU _ _ _ _ _ _ _ _ _ (World.drew _)
         obtain ⟨W0,hW0⟩:∃ X,X=(wb).drew:=⟨_,rfl⟩
         rw[← hW0]
         have z0:Below (wb).heap.size (wb) W0:=by rw[hW0];exact Below.drewN_ (Below.refl _ _) 1
         clear hW0
         refine wpAnyU_pure (i:=0) (oi:=vsof22_0) (v:=.pointer (some ⟨bt,2,none⟩)) rfl (by kernel_rfl) (by kernel_rfl) (by kernel_rfl) (fun _ _ _ h=>h) (Or.inl ⟨by kernel_rfl,?_⟩) ?_
         ·intro w _;go_simp<;>first|omega|(intro hh;exfalso;omega)|rfl
         try simp only[Act.put,qa,qb,qc,vsof22_0]
         refine wpAnyU_pure (i:=1) (oi:=vsof22_1) (v:=.pointer (some ⟨bt,3,none⟩)) rfl (by kernel_rfl) (by kernel_rfl) (by kernel_rfl) (fun _ _ _ h=>h) (Or.inl ⟨by kernel_rfl,?_⟩) ?_
         ·intro w _;go_simp<;>first|omega|(intro hh;exfalso;omega)|rfl
         try simp only[Act.put,qa,qb,qc,vsof22_1]
         refine wpAnyU_take (i:=2) (oi:=vsof22_2) (v:=v2) rfl (by kernel_rfl) (by kernel_rfl) (by kernel_rfl) (by kernel_rfl) (fun _ _ _ h=>h) (Or.inl ⟨by kernel_rfl,?_⟩) (⟨HINB.out.made.row.keep (z0),HRB.out.keep (z0)⟩) ?_
         ·intro w hSw;have C1:w.cell? ⟨bt,1,none⟩=some v1:=hSw.1.cell 1;have C2:w.cell? ⟨bt,3,none⟩=some v2:=hSw.1.cell 3;have C3:w.cell? ⟨bt,4,none⟩=some te:=hSw.1.cell 4;have X0:w.cell? ⟨bx,0,none⟩=some (.string ⟨x.name.toArray⟩):=hSw.2.cell 0;have X1:w.cell? ⟨bx,1,none⟩=some (.int .i64 x.kind):=hSw.2.cell 1;have X2:w.cell? ⟨bx,2,none⟩=some (.slice A0 r.coef.length c0):=hSw.2.cell 2;have X3:w.cell? ⟨bx,3,none⟩=some (.string ⟨x.rhs.toArray⟩):=hSw.2.cell 3;have X4:w.cell? ⟨bx,4,none⟩=some (.string ⟨x.range.toArray⟩):=hSw.2.cell 4;go_simp<;>first|omega|(intro hh;exfalso;omega)|rfl
         try simp only[Act.put,qa,qb,qc,vsof22_2]
         refine wpAnyU_take (i:=3) (oi:=vsof22_3) (v:=.agg #[.string ⟨x.name.toArray⟩,.int .i64 x.kind,.slice A0 r.coef.length c0,.string ⟨x.rhs.toArray⟩,.string ⟨x.range.toArray⟩]) rfl (by kernel_rfl) (by kernel_rfl) (by kernel_rfl) (by kernel_rfl) (fun _ _ _ h=>h) (Or.inl ⟨by kernel_rfl,?_⟩) (⟨HINB.out.made.row.keep (z0),HRB.out.keep (z0)⟩) ?_
         ·intro w hSw;have C1:w.cell? ⟨bt,1,none⟩=some v1:=hSw.1.cell 1;have C2:w.cell? ⟨bt,3,none⟩=some v2:=hSw.1.cell 3;have C3:w.cell? ⟨bt,4,none⟩=some te:=hSw.1.cell 4;have X0:w.cell? ⟨bx,0,none⟩=some (.string ⟨x.name.toArray⟩):=hSw.2.cell 0;have X1:w.cell? ⟨bx,1,none⟩=some (.int .i64 x.kind):=hSw.2.cell 1;have X2:w.cell? ⟨bx,2,none⟩=some (.slice A0 r.coef.length c0):=hSw.2.cell 2;have X3:w.cell? ⟨bx,3,none⟩=some (.string ⟨x.rhs.toArray⟩):=hSw.2.cell 3;have X4:w.cell? ⟨bx,4,none⟩=some (.string ⟨x.range.toArray⟩):=hSw.2.cell 4;go_simp<;>first|omega|(intro hh;exfalso;omega)|rfl
         try simp only[Act.put,qa,qb,qc,vsof22_3]
         refine wpAnyU_pure (i:=4) (oi:=vsof22_4) (v:=.slice bA nb bc) rfl (by kernel_rfl) (by kernel_rfl) (by kernel_rfl) (fun _ _ _ h=>h) (Or.inl ⟨by kernel_rfl,?_⟩) ?_
         ·intro w _;go_simp<;>first|omega|(intro hh;exfalso;omega)|rfl
         try simp only[Act.put,qa,qb,qc,vsof22_4]
         refine wpAnyU_pure (i:=8) (oi:=vsof22_8) (v:=.pointer (some ⟨bt,4,none⟩)) rfl (by kernel_rfl) (by kernel_rfl) (by kernel_rfl) (fun _ _ _ h=>h) (Or.inl ⟨by kernel_rfl,?_⟩) ?_
         ·intro w _;go_simp<;>first|omega|(intro hh;exfalso;omega)|rfl
         try simp only[Act.put,qa,qb,qc,vsof22_8]
         refine wpAnyU_take (i:=9) (oi:=vsof22_9) (v:=te) rfl (by kernel_rfl) (by kernel_rfl) (by kernel_rfl) (by kernel_rfl) (fun _ _ _ h=>h) (Or.inl ⟨by kernel_rfl,?_⟩) (⟨HINB.out.made.row.keep (z0),HRB.out.keep (z0)⟩) ?_
         ·intro w hSw;have C1:w.cell? ⟨bt,1,none⟩=some v1:=hSw.1.cell 1;have C2:w.cell? ⟨bt,3,none⟩=some v2:=hSw.1.cell 3;have C3:w.cell? ⟨bt,4,none⟩=some te:=hSw.1.cell 4;have X0:w.cell? ⟨bx,0,none⟩=some (.string ⟨x.name.toArray⟩):=hSw.2.cell 0;have X1:w.cell? ⟨bx,1,none⟩=some (.int .i64 x.kind):=hSw.2.cell 1;have X2:w.cell? ⟨bx,2,none⟩=some (.slice A0 r.coef.length c0):=hSw.2.cell 2;have X3:w.cell? ⟨bx,3,none⟩=some (.string ⟨x.rhs.toArray⟩):=hSw.2.cell 3;have X4:w.cell? ⟨bx,4,none⟩=some (.string ⟨x.range.toArray⟩):=hSw.2.cell 4;go_simp<;>first|omega|(intro hh;exfalso;omega)|rfl
         try simp only[Act.put,qa,qb,qc,vsof22_9]
         refine wpAnyU_pure (i:=10) (oi:=vsof22_10) (v:=.slice aA na ac) rfl (by kernel_rfl) (by kernel_rfl) (by kernel_rfl) (fun _ _ _ h=>h) (Or.inl ⟨by kernel_rfl,?_⟩) ?_
         ·intro w _;go_simp<;>first|omega|(intro hh;exfalso;omega)|rfl
         try simp only[Act.put,qa,qb,qc,vsof22_10]
         refine wpAnyU_ready (rs:=[5,11]) (by kernel_rfl) (by simp) ?_
         apply AllReadyU.cons (o:=vsof22_5) (by kernel_rfl)
         case h=>
          intro K hK
          simp only[vsof22_5]
          go_simp
          go_at_call 34
          refine (CP.out _ z0).mono ?_
          rintro e' V1 ⟨xv,rfl,oc1,y1,xA,xn,xc,rfl⟩
          have z1:=below_seq z0 y1
          refine hK.out _ _ (fun _ _=>⟨HINB.out.made.row.keep (z1),HRB.out.keep (z1)⟩) ?_
          clear hK K
          try simp only[Act.put,qa,qb,qc]
          refine wpAnyU_ready (rs:=[6,11]) (by kernel_rfl) (by simp) ?_
          apply AllReadyU.cons (o:=vsof22_6) (by kernel_rfl)
          case h=>
           intro K hK
           simp only[vsof22_6]
           go_simp
           obtain ⟨V2,h2⟩:∃ X,X=V1.alloc (.cells #[.string ⟨x.name.toArray⟩,.int .i64 x.kind,.slice xA xn xc,.string ⟨x.rhs.toArray⟩,.string ⟨x.range.toArray⟩] 28):=⟨_,rfl⟩
           rw[← h2]
           have y2:Below V1.heap.size V1 V2:=by rw[h2];exact (Below.refl _ _).alloc (Nat.le_refl _) _
           have nn2:Row V2 V1.heap.size 28 #[.string ⟨x.name.toArray⟩,.int .i64 x.kind,.slice xA xn xc,.string ⟨x.rhs.toArray⟩,.string ⟨x.range.toArray⟩]:=by rw[h2];exact Row.new _ _ _
           clear h2
           have ock2:=oc1.keep y2
           have z2:=below_seq z1 y2
           refine hK.out _ _ (fun _ _=>⟨HINB.out.made.row.keep (z2),HRB.out.keep (z2)⟩) ?_
           clear hK K
           try simp only[Act.put,qa,qb,qc]
           refine wpAnyU_ready (rs:=[7,11]) (by kernel_rfl) (by simp) ?_
           apply AllReadyU.cons (o:=vsof22_7) (by kernel_rfl)
           case h=>
            intro K hK
            have IN3:=HINB.out.keep z2
            have ne3:=HRB.out.keep z2
            refine step_append_ownK (Kd:=fun _=>True) rfl (.tmp 97) (.tmp 101) 29 rfl (bt+1) 28 i1 _ 5 Tryz.underlying29 hi1 hz1 hsz1 rfl (by omega) v2 R2.length (R2.flatMap encVR2) rfl IN3.made.two.own2 ⟨V1.heap.size,0,none⟩ 1 1 [.string ⟨x.name.toArray⟩,.int .i64 x.kind,.slice xA xn xc,.string ⟨x.rhs.toArray⟩,.string ⟨x.range.toArray⟩] rfl rfl (one_row5 nn2) (by simp[Value.oneCell']) (by simp) (by simp) (by omega) (by unfold maxLen;omega) (by rw[hby1];omega) (by have:=IN3.lt;omega) ?_
            intro v3x V3 ow3 gr3 lc3
            obtain ⟨gq3,cp3,rfl⟩:=OwnK.shape ow3 (by omega)
            have s3:Row V3 bt 39 #[cv1,v1,cv2,v2,te]:=(grown_other IN3.made.two.own2 gr3 IN3.made.row (by decide)).trans IN3.made.row
            have x3:=rw_grown ne3 gr3 HNE2.out
            refine hK.out _ _ (fun _ _=>⟨s3,x3⟩) ?_
            clear hK K
            try simp only[Act.put,qa,qb,qc]
            refine wpAnyU_pure (i:=13) (oi:=vsof22_13) (v:=.pointer (some ⟨bt,2,none⟩)) rfl (by kernel_rfl) (by kernel_rfl) (by kernel_rfl) (fun _ _ _ h=>h) (Or.inl ⟨by kernel_rfl,?_⟩) ?_
            ·intro w _;go_simp<;>first|omega|(intro hh;exfalso;omega)|rfl
            try simp only[Act.put,qa,qb,qc,vsof22_13]
            refine wpAnyU_pure (i:=14) (oi:=vsof22_14) (v:=.pointer (some ⟨bt,3,none⟩)) rfl (by kernel_rfl) (by kernel_rfl) (by kernel_rfl) (fun _ _ _ h=>h) (Or.inl ⟨by kernel_rfl,?_⟩) ?_
            ·intro w _;go_simp<;>first|omega|(intro hh;exfalso;omega)|rfl
            try simp only[Act.put,qa,qb,qc,vsof22_14]
            refine wpAnyU_ready (rs:=[11]) (by kernel_rfl) (by simp) ?_
            apply AllReadyU.cons (o:=vsof22_11) (by kernel_rfl)
            case hs=>exact AllReadyU.nil
            intro K hK
            simp only[vsof22_11]
            go_simp
            obtain ⟨V4,h4⟩:∃ X,X=V3.alloc (.cells #[.slice aA na ac] 25):=⟨_,rfl⟩
            rw[← h4]
            have y4:Below V3.heap.size V3 V4:=by rw[h4];exact (Below.refl _ _).alloc (Nat.le_refl _) _
            have nn4:Row V4 V3.heap.size 25 #[.slice aA na ac]:=by rw[h4];exact Row.new _ _ _
            clear h4
            have s4:=s3.keep y4
            have x4:=x3.keep y4
            have b4:=below_seq (Below.refl _ _) y4
            refine hK.out _ _ (fun _ _=>⟨s4,x4⟩) ?_
            clear hK K
            try simp only[Act.put,qa,qb,qc]
            refine wpAnyU_ready (rs:=[12]) (by kernel_rfl) (by simp) ?_
            apply AllReadyU.cons (o:=vsof22_12) (by kernel_rfl)
            case hs=>exact AllReadyU.nil
            intro K hK
            obtain ⟨-,tw5⟩:=IN3.made.app2 (p:=(.slice xA xn xc,{ x with coef:=ownM r.coef col })) ow3 gr3 lc3 (OwnK.low ock2 (by have:=HINB.out.lt;have:=z0.size;omega))
            have ot5:=(tw5.keep (b4)).tech
            refine step_append_ownK (Kd:=fun _=>True) rfl (.tmp 104) (.tmp 106) 37 rfl (bt+1) 25 i2 _ 1 Tryz.underlying37 hi2 hz2 hsz2 rfl (by omega) te TE.length (TE.map (·.1)) rfl ot5 ⟨V3.heap.size,0,none⟩ 1 1 [.slice aA na ac] rfl rfl (one_row1 nn4) (by simp[Value.oneCell']) (by simp) (by simp) (by omega) (by unfold maxLen;omega) (by rw[hby2];omega) (by have:=(s4:Row _ _ _ _).lt;omega) ?_
            intro v5x V5 ow5 gr5 lc5
            obtain ⟨gq5,cp5,rfl⟩:=OwnK.shape ow5 (by omega)
            have s5:Row V5 bt 39 #[cv1,v1,cv2,v2,te]:=(grown_other ot5 gr5 s4 (by decide)).trans s4
            have x5:Row V5 bx 28 #[.string ⟨x.name.toArray⟩,.int .i64 x.kind,.slice A0 r.coef.length c0,.string ⟨x.rhs.toArray⟩,.string ⟨x.range.toArray⟩]:=(grown_other ot5 gr5 x4 (by decide)).trans x4
            refine hK.out _ _ (fun _ _=>⟨s5,x5⟩) ?_
            clear hK K
            try simp only[Act.put,qa,qb,qc]
            refine wpAnyU_ready (rs:=[15]) (by kernel_rfl) (by simp) ?_
            apply AllReadyU.cons (o:=vsof22_15) (by kernel_rfl)
            case hs=>exact AllReadyU.nil
            intro K hK
            simp only[vsof22_15]
            have k1:V5.cell? ⟨bt,3,none⟩=some v2:=s5.cell 3
            have k2:=s5.free 3
            go_simp
            have sq3:=s5.set 3 (.slice (some ⟨gq3,0,none⟩) (R2.length+1) cp3)
            refine hK.out _ _ (fun h=>absurd (by decide) h) ?_
            clear hK K
            try simp only[Act.put,qa,qb,qc]
            refine wpAnyU_pure (i:=16) (oi:=vsof22_16) (v:=.pointer (some ⟨bt,4,none⟩)) rfl (by kernel_rfl) (by kernel_rfl) (by kernel_rfl) (fun _ _ _ h=>h) (Or.inl ⟨by kernel_rfl,?_⟩) ?_
            ·intro w _;go_simp<;>first|omega|(intro hh;exfalso;omega)|rfl
            try simp only[Act.put,qa,qb,qc,vsof22_16]
            refine wpAnyU_ready (rs:=[17]) (by kernel_rfl) (by simp) ?_
            apply AllReadyU.cons (o:=vsof22_17) (by kernel_rfl)
            case hs=>exact AllReadyU.nil
            intro K hK
            simp only[vsof22_17]
            have k3:(V5.setCell ⟨bt,3,none⟩ (.slice (some ⟨gq3,0,none⟩) (R2.length+1) cp3)).cell? ⟨bt,4,none⟩=some te:=sq3.cell 4
            have k4:=sq3.free 4
            go_simp
            refine hK.out _ _ (fun h=>absurd (by decide) h) ?_
            clear hK K
            try simp only[Act.put,qa,qb,qc]
            refine wpAnyU_done (by kernel_rfl) ?_ _
            have HNX:Hid (∃ v1_ v2_ te_ R1_ R2_ TE_,InR w5 bt cv1 cv2 col (c.cols.take col) (c.cols.drop col) (work row 0 (c.rows.take k) ++ (workF row k r).take (j+1)) v1_ v2_ te_ R1_ R2_ TE_ ((V5.setCell ⟨bt,3,none⟩ (.slice (some ⟨gq3,0,none⟩) (R2.length+1) cp3)).setCell ⟨bt,4,none⟩ (.slice (some ⟨gq5,0,none⟩) (TE.length+1) cp5))∧v1_.ownBlock≠some g8∧v2_.ownBlock≠some g8∧Row ((V5.setCell ⟨bt,3,none⟩ (.slice (some ⟨gq3,0,none⟩) (R2.length+1) cp3)).setCell ⟨bt,4,none⟩ (.slice (some ⟨gq5,0,none⟩) (TE.length+1) cp5)) g8 28 ((rangedM r).flatMap (encVR (.slice A0 r.coef.length c0))).toArray∧bt<g8):=Lib.hid (by
             have hd:decide (k<row)=false:=decide_eq_false HKR.out
             have l1:=HSRB.out.lt
             have ls:=z2.size
             have hst:=IN3.step2 (cv:=.slice xA xn xc) (a:=.slice aA na ac) (x:=x) (by rw[HXC.out];exact ow3) gr3 lc3 (by rw[HXC.out];exact OwnK.low ock2 (by have:=HINB.out.lt;have:=z0.size;omega)) (b4) ow5 gr5 (by rw[HXC.out];exact HTA.out.keep z2)
             have hs1:=rw_grown (HSRB.out.keep z2) gr3 HN2'.out
             have hs2:=hs1.keep (b4)
             have hs3:=(grown_other ot5 gr5 hs2 (by decide)).trans hs2
             refine ⟨_,_,_,_,_,_,by rw[HTJ.out,hd,← List.append_assoc];exact hst,HN1'.out,own_ne lc3 HN2'.out (by omega),(Row.far hs3 (by have:=HBG.out;simp;omega) _).far (by have:=HBG.out;simp;omega) _,HBG.out⟩)
            clear k1 k2 k3 k4 sq3 IN3 ne3 ow3 gr3 lc3 s3 x3 ow5 gr5 lc5 s5 x5 ot5 tw5 HTJ
            go_wp2_with fail
            go_roundg (gk - 1)
            case measure=>have:=HJ.out;omega
            case rel=>exact ⟨j+1,by go_num,by have:=HJ.out;omega,HNX⟩
           apply AllReadyU.cons (o:=vsof22_11) (by kernel_rfl)
           case h=>
            intro K hK
            simp only[vsof22_11]
            go_simp
            obtain ⟨V6,h6⟩:∃ X,X=V2.alloc (.cells #[.slice aA na ac] 25):=⟨_,rfl⟩
            rw[← h6]
            have y6:Below V2.heap.size V2 V6:=by rw[h6];exact (Below.refl _ _).alloc (Nat.le_refl _) _
            have nn6:Row V6 V2.heap.size 25 #[.slice aA na ac]:=by rw[h6];exact Row.new _ _ _
            clear h6
            have ock6:=ock2.keep y6
            have NNk6:=nn2.keep y6
            have z6:=below_seq z2 y6
            refine hK.out _ _ (fun _ _=>⟨HINB.out.made.row.keep (z6),HRB.out.keep (z6)⟩) ?_
            clear hK K
            try simp only[Act.put,qa,qb,qc]
            refine wpAnyU_ready (rs:=[7]) (by kernel_rfl) (by simp) ?_
            apply AllReadyU.cons (o:=vsof22_7) (by kernel_rfl)
            case hs=>exact AllReadyU.nil
            intro K hK
            have IN7:=HINB.out.keep z6
            have ne7:=HRB.out.keep z6
            refine step_append_ownK (Kd:=fun _=>True) rfl (.tmp 97) (.tmp 101) 29 rfl (bt+1) 28 i1 _ 5 Tryz.underlying29 hi1 hz1 hsz1 rfl (by omega) v2 R2.length (R2.flatMap encVR2) rfl IN7.made.two.own2 ⟨V1.heap.size,0,none⟩ 1 1 [.string ⟨x.name.toArray⟩,.int .i64 x.kind,.slice xA xn xc,.string ⟨x.rhs.toArray⟩,.string ⟨x.range.toArray⟩] rfl rfl (one_row5 NNk6) (by simp[Value.oneCell']) (by simp) (by simp) (by omega) (by unfold maxLen;omega) (by rw[hby1];omega) (by have:=IN7.lt;omega) ?_
            intro v7x V7 ow7 gr7 lc7
            obtain ⟨gq7,cp7,rfl⟩:=OwnK.shape ow7 (by omega)
            have s7:Row V7 bt 39 #[cv1,v1,cv2,v2,te]:=(grown_other IN7.made.two.own2 gr7 IN7.made.row (by decide)).trans IN7.made.row
            have x7:=rw_grown ne7 gr7 HNE2.out
            have NTg7:Row V7 (V2.heap.size) 25 #[.slice aA na ac]:=(grown_other IN7.made.two.own2 gr7 nn6 (by decide)).trans nn6
            refine hK.out _ _ (fun _ _=>⟨s7,x7⟩) ?_
            clear hK K
            try simp only[Act.put,qa,qb,qc]
            refine wpAnyU_pure (i:=13) (oi:=vsof22_13) (v:=.pointer (some ⟨bt,2,none⟩)) rfl (by kernel_rfl) (by kernel_rfl) (by kernel_rfl) (fun _ _ _ h=>h) (Or.inl ⟨by kernel_rfl,?_⟩) ?_
            ·intro w _;go_simp<;>first|omega|(intro hh;exfalso;omega)|rfl
            try simp only[Act.put,qa,qb,qc,vsof22_13]
            refine wpAnyU_pure (i:=14) (oi:=vsof22_14) (v:=.pointer (some ⟨bt,3,none⟩)) rfl (by kernel_rfl) (by kernel_rfl) (by kernel_rfl) (fun _ _ _ h=>h) (Or.inl ⟨by kernel_rfl,?_⟩) ?_
            ·intro w _;go_simp<;>first|omega|(intro hh;exfalso;omega)|rfl
            try simp only[Act.put,qa,qb,qc,vsof22_14]
            refine wpAnyU_ready (rs:=[12]) (by kernel_rfl) (by simp) ?_
            apply AllReadyU.cons (o:=vsof22_12) (by kernel_rfl)
            case hs=>exact AllReadyU.nil
            intro K hK
            obtain ⟨-,tw8⟩:=IN7.made.app2 (p:=(.slice xA xn xc,{ x with coef:=ownM r.coef col })) ow7 gr7 lc7 (OwnK.low ock6 (by have:=HINB.out.lt;have:=z0.size;omega))
            have ot8:=(tw8.keep ((Below.refl _ _))).tech
            refine step_append_ownK (Kd:=fun _=>True) rfl (.tmp 104) (.tmp 106) 37 rfl (bt+1) 25 i2 _ 1 Tryz.underlying37 hi2 hz2 hsz2 rfl (by omega) te TE.length (TE.map (·.1)) rfl ot8 ⟨V2.heap.size,0,none⟩ 1 1 [.slice aA na ac] rfl rfl (one_row1 NTg7) (by simp[Value.oneCell']) (by simp) (by simp) (by omega) (by unfold maxLen;omega) (by rw[hby2];omega) (by have:=(s7:Row _ _ _ _).lt;omega) ?_
            intro v8x V8 ow8 gr8 lc8
            obtain ⟨gq8,cp8,rfl⟩:=OwnK.shape ow8 (by omega)
            have s8:Row V8 bt 39 #[cv1,v1,cv2,v2,te]:=(grown_other ot8 gr8 s7 (by decide)).trans s7
            have x8:Row V8 bx 28 #[.string ⟨x.name.toArray⟩,.int .i64 x.kind,.slice A0 r.coef.length c0,.string ⟨x.rhs.toArray⟩,.string ⟨x.range.toArray⟩]:=(grown_other ot8 gr8 x7 (by decide)).trans x7
            refine hK.out _ _ (fun _ _=>⟨s8,x8⟩) ?_
            clear hK K
            try simp only[Act.put,qa,qb,qc]
            refine wpAnyU_ready (rs:=[15]) (by kernel_rfl) (by simp) ?_
            apply AllReadyU.cons (o:=vsof22_15) (by kernel_rfl)
            case hs=>exact AllReadyU.nil
            intro K hK
            simp only[vsof22_15]
            have k1:V8.cell? ⟨bt,3,none⟩=some v2:=s8.cell 3
            have k2:=s8.free 3
            go_simp
            have sq3:=s8.set 3 (.slice (some ⟨gq7,0,none⟩) (R2.length+1) cp7)
            refine hK.out _ _ (fun h=>absurd (by decide) h) ?_
            clear hK K
            try simp only[Act.put,qa,qb,qc]
            refine wpAnyU_pure (i:=16) (oi:=vsof22_16) (v:=.pointer (some ⟨bt,4,none⟩)) rfl (by kernel_rfl) (by kernel_rfl) (by kernel_rfl) (fun _ _ _ h=>h) (Or.inl ⟨by kernel_rfl,?_⟩) ?_
            ·intro w _;go_simp<;>first|omega|(intro hh;exfalso;omega)|rfl
            try simp only[Act.put,qa,qb,qc,vsof22_16]
            refine wpAnyU_ready (rs:=[17]) (by kernel_rfl) (by simp) ?_
            apply AllReadyU.cons (o:=vsof22_17) (by kernel_rfl)
            case hs=>exact AllReadyU.nil
            intro K hK
            simp only[vsof22_17]
            have k3:(V8.setCell ⟨bt,3,none⟩ (.slice (some ⟨gq7,0,none⟩) (R2.length+1) cp7)).cell? ⟨bt,4,none⟩=some te:=sq3.cell 4
            have k4:=sq3.free 4
            go_simp
            refine hK.out _ _ (fun h=>absurd (by decide) h) ?_
            clear hK K
            try simp only[Act.put,qa,qb,qc]
            refine wpAnyU_done (by kernel_rfl) ?_ _
            have HNX:Hid (∃ v1_ v2_ te_ R1_ R2_ TE_,InR w5 bt cv1 cv2 col (c.cols.take col) (c.cols.drop col) (work row 0 (c.rows.take k) ++ (workF row k r).take (j+1)) v1_ v2_ te_ R1_ R2_ TE_ ((V8.setCell ⟨bt,3,none⟩ (.slice (some ⟨gq7,0,none⟩) (R2.length+1) cp7)).setCell ⟨bt,4,none⟩ (.slice (some ⟨gq8,0,none⟩) (TE.length+1) cp8))∧v1_.ownBlock≠some g8∧v2_.ownBlock≠some g8∧Row ((V8.setCell ⟨bt,3,none⟩ (.slice (some ⟨gq7,0,none⟩) (R2.length+1) cp7)).setCell ⟨bt,4,none⟩ (.slice (some ⟨gq8,0,none⟩) (TE.length+1) cp8)) g8 28 ((rangedM r).flatMap (encVR (.slice A0 r.coef.length c0))).toArray∧bt<g8):=Lib.hid (by
             have hd:decide (k<row)=false:=decide_eq_false HKR.out
             have l1:=HSRB.out.lt
             have ls:=z6.size
             have hst:=IN7.step2 (cv:=.slice xA xn xc) (a:=.slice aA na ac) (x:=x) (by rw[HXC.out];exact ow7) gr7 lc7 (by rw[HXC.out];exact OwnK.low ock6 (by have:=HINB.out.lt;have:=z0.size;omega)) ((Below.refl _ _)) ow8 gr8 (by rw[HXC.out];exact HTA.out.keep z6)
             have hs1:=rw_grown (HSRB.out.keep z6) gr7 HN2'.out
             have hs2:=hs1.keep ((Below.refl _ _))
             have hs3:=(grown_other ot8 gr8 hs2 (by decide)).trans hs2
             refine ⟨_,_,_,_,_,_,by rw[HTJ.out,hd,← List.append_assoc];exact hst,HN1'.out,own_ne lc7 HN2'.out (by omega),(Row.far hs3 (by have:=HBG.out;simp;omega) _).far (by have:=HBG.out;simp;omega) _,HBG.out⟩)
            clear k1 k2 k3 k4 sq3 IN7 ne7 ow7 gr7 lc7 s7 x7 ow8 gr8 lc8 s8 x8 ot8 tw8 HTJ
            go_wp2_with fail
            go_roundg (gk - 1)
            case measure=>have:=HJ.out;omega
            case rel=>exact ⟨j+1,by go_num,by have:=HJ.out;omega,HNX⟩
           exact AllReadyU.nil
          apply AllReadyU.cons (o:=vsof22_11) (by kernel_rfl)
          case h=>
           intro K hK
           simp only[vsof22_11]
           go_simp
           obtain ⟨V9,h9⟩:∃ X,X=V1.alloc (.cells #[.slice aA na ac] 25):=⟨_,rfl⟩
           rw[← h9]
           have y9:Below V1.heap.size V1 V9:=by rw[h9];exact (Below.refl _ _).alloc (Nat.le_refl _) _
           have nn9:Row V9 V1.heap.size 25 #[.slice aA na ac]:=by rw[h9];exact Row.new _ _ _
           clear h9
           have ock9:=oc1.keep y9
           have z9:=below_seq z1 y9
           refine hK.out _ _ (fun _ _=>⟨HINB.out.made.row.keep (z9),HRB.out.keep (z9)⟩) ?_
           clear hK K
           try simp only[Act.put,qa,qb,qc]
           refine wpAnyU_ready (rs:=[6]) (by kernel_rfl) (by simp) ?_
           apply AllReadyU.cons (o:=vsof22_6) (by kernel_rfl)
           case hs=>exact AllReadyU.nil
           intro K hK
           simp only[vsof22_6]
           go_simp
           obtain ⟨V10,h10⟩:∃ X,X=V9.alloc (.cells #[.string ⟨x.name.toArray⟩,.int .i64 x.kind,.slice xA xn xc,.string ⟨x.rhs.toArray⟩,.string ⟨x.range.toArray⟩] 28):=⟨_,rfl⟩
           rw[← h10]
           have y10:Below V9.heap.size V9 V10:=by rw[h10];exact (Below.refl _ _).alloc (Nat.le_refl _) _
           have nn10:Row V10 V9.heap.size 28 #[.string ⟨x.name.toArray⟩,.int .i64 x.kind,.slice xA xn xc,.string ⟨x.rhs.toArray⟩,.string ⟨x.range.toArray⟩]:=by rw[h10];exact Row.new _ _ _
           clear h10
           have ock10:=ock9.keep y10
           have NTk10:=nn9.keep y10
           have z10:=below_seq z9 y10
           refine hK.out _ _ (fun _ _=>⟨HINB.out.made.row.keep (z10),HRB.out.keep (z10)⟩) ?_
           clear hK K
           try simp only[Act.put,qa,qb,qc]
           refine wpAnyU_ready (rs:=[7]) (by kernel_rfl) (by simp) ?_
           apply AllReadyU.cons (o:=vsof22_7) (by kernel_rfl)
           case hs=>exact AllReadyU.nil
           intro K hK
           have IN11:=HINB.out.keep z10
           have ne11:=HRB.out.keep z10
           refine step_append_ownK (Kd:=fun _=>True) rfl (.tmp 97) (.tmp 101) 29 rfl (bt+1) 28 i1 _ 5 Tryz.underlying29 hi1 hz1 hsz1 rfl (by omega) v2 R2.length (R2.flatMap encVR2) rfl IN11.made.two.own2 ⟨V9.heap.size,0,none⟩ 1 1 [.string ⟨x.name.toArray⟩,.int .i64 x.kind,.slice xA xn xc,.string ⟨x.rhs.toArray⟩,.string ⟨x.range.toArray⟩] rfl rfl (one_row5 nn10) (by simp[Value.oneCell']) (by simp) (by simp) (by omega) (by unfold maxLen;omega) (by rw[hby1];omega) (by have:=IN11.lt;omega) ?_
           intro v11x V11 ow11 gr11 lc11
           obtain ⟨gq11,cp11,rfl⟩:=OwnK.shape ow11 (by omega)
           have s11:Row V11 bt 39 #[cv1,v1,cv2,v2,te]:=(grown_other IN11.made.two.own2 gr11 IN11.made.row (by decide)).trans IN11.made.row
           have x11:=rw_grown ne11 gr11 HNE2.out
           have NTg11:Row V11 (V1.heap.size) 25 #[.slice aA na ac]:=(grown_other IN11.made.two.own2 gr11 NTk10 (by decide)).trans NTk10
           refine hK.out _ _ (fun _ _=>⟨s11,x11⟩) ?_
           clear hK K
           try simp only[Act.put,qa,qb,qc]
           refine wpAnyU_pure (i:=13) (oi:=vsof22_13) (v:=.pointer (some ⟨bt,2,none⟩)) rfl (by kernel_rfl) (by kernel_rfl) (by kernel_rfl) (fun _ _ _ h=>h) (Or.inl ⟨by kernel_rfl,?_⟩) ?_
           ·intro w _;go_simp<;>first|omega|(intro hh;exfalso;omega)|rfl
           try simp only[Act.put,qa,qb,qc,vsof22_13]
           refine wpAnyU_pure (i:=14) (oi:=vsof22_14) (v:=.pointer (some ⟨bt,3,none⟩)) rfl (by kernel_rfl) (by kernel_rfl) (by kernel_rfl) (fun _ _ _ h=>h) (Or.inl ⟨by kernel_rfl,?_⟩) ?_
           ·intro w _;go_simp<;>first|omega|(intro hh;exfalso;omega)|rfl
           try simp only[Act.put,qa,qb,qc,vsof22_14]
           refine wpAnyU_ready (rs:=[12]) (by kernel_rfl) (by simp) ?_
           apply AllReadyU.cons (o:=vsof22_12) (by kernel_rfl)
           case hs=>exact AllReadyU.nil
           intro K hK
           obtain ⟨-,tw12⟩:=IN11.made.app2 (p:=(.slice xA xn xc,{ x with coef:=ownM r.coef col })) ow11 gr11 lc11 (OwnK.low ock10 (by have:=HINB.out.lt;have:=z0.size;omega))
           have ot12:=(tw12.keep ((Below.refl _ _))).tech
           refine step_append_ownK (Kd:=fun _=>True) rfl (.tmp 104) (.tmp 106) 37 rfl (bt+1) 25 i2 _ 1 Tryz.underlying37 hi2 hz2 hsz2 rfl (by omega) te TE.length (TE.map (·.1)) rfl ot12 ⟨V1.heap.size,0,none⟩ 1 1 [.slice aA na ac] rfl rfl (one_row1 NTg11) (by simp[Value.oneCell']) (by simp) (by simp) (by omega) (by unfold maxLen;omega) (by rw[hby2];omega) (by have:=(s11:Row _ _ _ _).lt;omega) ?_
           intro v12x V12 ow12 gr12 lc12
           obtain ⟨gq12,cp12,rfl⟩:=OwnK.shape ow12 (by omega)
           have s12:Row V12 bt 39 #[cv1,v1,cv2,v2,te]:=(grown_other ot12 gr12 s11 (by decide)).trans s11
           have x12:Row V12 bx 28 #[.string ⟨x.name.toArray⟩,.int .i64 x.kind,.slice A0 r.coef.length c0,.string ⟨x.rhs.toArray⟩,.string ⟨x.range.toArray⟩]:=(grown_other ot12 gr12 x11 (by decide)).trans x11
           refine hK.out _ _ (fun _ _=>⟨s12,x12⟩) ?_
           clear hK K
           try simp only[Act.put,qa,qb,qc]
           refine wpAnyU_ready (rs:=[15]) (by kernel_rfl) (by simp) ?_
           apply AllReadyU.cons (o:=vsof22_15) (by kernel_rfl)
           case hs=>exact AllReadyU.nil
           intro K hK
           simp only[vsof22_15]
           have k1:V12.cell? ⟨bt,3,none⟩=some v2:=s12.cell 3
           have k2:=s12.free 3
           go_simp
           have sq3:=s12.set 3 (.slice (some ⟨gq11,0,none⟩) (R2.length+1) cp11)
           refine hK.out _ _ (fun h=>absurd (by decide) h) ?_
           clear hK K
           try simp only[Act.put,qa,qb,qc]
           refine wpAnyU_pure (i:=16) (oi:=vsof22_16) (v:=.pointer (some ⟨bt,4,none⟩)) rfl (by kernel_rfl) (by kernel_rfl) (by kernel_rfl) (fun _ _ _ h=>h) (Or.inl ⟨by kernel_rfl,?_⟩) ?_
           ·intro w _;go_simp<;>first|omega|(intro hh;exfalso;omega)|rfl
           try simp only[Act.put,qa,qb,qc,vsof22_16]
           refine wpAnyU_ready (rs:=[17]) (by kernel_rfl) (by simp) ?_
           apply AllReadyU.cons (o:=vsof22_17) (by kernel_rfl)
           case hs=>exact AllReadyU.nil
           intro K hK
           simp only[vsof22_17]
           have k3:(V12.setCell ⟨bt,3,none⟩ (.slice (some ⟨gq11,0,none⟩) (R2.length+1) cp11)).cell? ⟨bt,4,none⟩=some te:=sq3.cell 4
           have k4:=sq3.free 4
           go_simp
           refine hK.out _ _ (fun h=>absurd (by decide) h) ?_
           clear hK K
           try simp only[Act.put,qa,qb,qc]
           refine wpAnyU_done (by kernel_rfl) ?_ _
           have HNX:Hid (∃ v1_ v2_ te_ R1_ R2_ TE_,InR w5 bt cv1 cv2 col (c.cols.take col) (c.cols.drop col) (work row 0 (c.rows.take k) ++ (workF row k r).take (j+1)) v1_ v2_ te_ R1_ R2_ TE_ ((V12.setCell ⟨bt,3,none⟩ (.slice (some ⟨gq11,0,none⟩) (R2.length+1) cp11)).setCell ⟨bt,4,none⟩ (.slice (some ⟨gq12,0,none⟩) (TE.length+1) cp12))∧v1_.ownBlock≠some g8∧v2_.ownBlock≠some g8∧Row ((V12.setCell ⟨bt,3,none⟩ (.slice (some ⟨gq11,0,none⟩) (R2.length+1) cp11)).setCell ⟨bt,4,none⟩ (.slice (some ⟨gq12,0,none⟩) (TE.length+1) cp12)) g8 28 ((rangedM r).flatMap (encVR (.slice A0 r.coef.length c0))).toArray∧bt<g8):=Lib.hid (by
            have hd:decide (k<row)=false:=decide_eq_false HKR.out
            have l1:=HSRB.out.lt
            have ls:=z10.size
            have hst:=IN11.step2 (cv:=.slice xA xn xc) (a:=.slice aA na ac) (x:=x) (by rw[HXC.out];exact ow11) gr11 lc11 (by rw[HXC.out];exact OwnK.low ock10 (by have:=HINB.out.lt;have:=z0.size;omega)) ((Below.refl _ _)) ow12 gr12 (by rw[HXC.out];exact HTA.out.keep z10)
            have hs1:=rw_grown (HSRB.out.keep z10) gr11 HN2'.out
            have hs2:=hs1.keep ((Below.refl _ _))
            have hs3:=(grown_other ot12 gr12 hs2 (by decide)).trans hs2
            refine ⟨_,_,_,_,_,_,by rw[HTJ.out,hd,← List.append_assoc];exact hst,HN1'.out,own_ne lc11 HN2'.out (by omega),(Row.far hs3 (by have:=HBG.out;simp;omega) _).far (by have:=HBG.out;simp;omega) _,HBG.out⟩)
           clear k1 k2 k3 k4 sq3 IN11 ne11 ow11 gr11 lc11 s11 x11 ow12 gr12 lc12 s12 x12 ot12 tw12 HTJ
           go_wp2_with fail
           go_roundg (gk - 1)
           case measure=>have:=HJ.out;omega
           case rel=>exact ⟨j+1,by go_num,by have:=HJ.out;omega,HNX⟩
          exact AllReadyU.nil
         apply AllReadyU.cons (o:=vsof22_11) (by kernel_rfl)
         case h=>
          intro K hK
          simp only[vsof22_11]
          go_simp
          obtain ⟨V13,h13⟩:∃ X,X=W0.alloc (.cells #[.slice aA na ac] 25):=⟨_,rfl⟩
          rw[← h13]
          have y13:Below W0.heap.size W0 V13:=by rw[h13];exact (Below.refl _ _).alloc (Nat.le_refl _) _
          have nn13:Row V13 W0.heap.size 25 #[.slice aA na ac]:=by rw[h13];exact Row.new _ _ _
          clear h13
          have z13:=below_seq z0 y13
          refine hK.out _ _ (fun _ _=>⟨HINB.out.made.row.keep (z13),HRB.out.keep (z13)⟩) ?_
          clear hK K
          try simp only[Act.put,qa,qb,qc]
          refine wpAnyU_ready (rs:=[5]) (by kernel_rfl) (by simp) ?_
          apply AllReadyU.cons (o:=vsof22_5) (by kernel_rfl)
          case hs=>exact AllReadyU.nil
          intro K hK
          simp only[vsof22_5]
          go_simp
          go_at_call 34
          refine (CP.out _ z13).mono ?_
          rintro e' V14 ⟨xv,rfl,oc14,y14,xA,xn,xc,rfl⟩
          have z14:=below_seq z13 y14
          have NTk14:=nn13.keep y14
          refine hK.out _ _ (fun _ _=>⟨HINB.out.made.row.keep (z14),HRB.out.keep (z14)⟩) ?_
          clear hK K
          try simp only[Act.put,qa,qb,qc]
          refine wpAnyU_ready (rs:=[6]) (by kernel_rfl) (by simp) ?_
          apply AllReadyU.cons (o:=vsof22_6) (by kernel_rfl)
          case hs=>exact AllReadyU.nil
          intro K hK
          simp only[vsof22_6]
          go_simp
          obtain ⟨V15,h15⟩:∃ X,X=V14.alloc (.cells #[.string ⟨x.name.toArray⟩,.int .i64 x.kind,.slice xA xn xc,.string ⟨x.rhs.toArray⟩,.string ⟨x.range.toArray⟩] 28):=⟨_,rfl⟩
          rw[← h15]
          have y15:Below V14.heap.size V14 V15:=by rw[h15];exact (Below.refl _ _).alloc (Nat.le_refl _) _
          have nn15:Row V15 V14.heap.size 28 #[.string ⟨x.name.toArray⟩,.int .i64 x.kind,.slice xA xn xc,.string ⟨x.rhs.toArray⟩,.string ⟨x.range.toArray⟩]:=by rw[h15];exact Row.new _ _ _
          clear h15
          have ock15:=oc14.keep y15
          have NTk15:=NTk14.keep y15
          have z15:=below_seq z14 y15
          refine hK.out _ _ (fun _ _=>⟨HINB.out.made.row.keep (z15),HRB.out.keep (z15)⟩) ?_
          clear hK K
          try simp only[Act.put,qa,qb,qc]
          refine wpAnyU_ready (rs:=[7]) (by kernel_rfl) (by simp) ?_
          apply AllReadyU.cons (o:=vsof22_7) (by kernel_rfl)
          case hs=>exact AllReadyU.nil
          intro K hK
          have IN16:=HINB.out.keep z15
          have ne16:=HRB.out.keep z15
          refine step_append_ownK (Kd:=fun _=>True) rfl (.tmp 97) (.tmp 101) 29 rfl (bt+1) 28 i1 _ 5 Tryz.underlying29 hi1 hz1 hsz1 rfl (by omega) v2 R2.length (R2.flatMap encVR2) rfl IN16.made.two.own2 ⟨V14.heap.size,0,none⟩ 1 1 [.string ⟨x.name.toArray⟩,.int .i64 x.kind,.slice xA xn xc,.string ⟨x.rhs.toArray⟩,.string ⟨x.range.toArray⟩] rfl rfl (one_row5 nn15) (by simp[Value.oneCell']) (by simp) (by simp) (by omega) (by unfold maxLen;omega) (by rw[hby1];omega) (by have:=IN16.lt;omega) ?_
          intro v16x V16 ow16 gr16 lc16
          obtain ⟨gq16,cp16,rfl⟩:=OwnK.shape ow16 (by omega)
          have s16:Row V16 bt 39 #[cv1,v1,cv2,v2,te]:=(grown_other IN16.made.two.own2 gr16 IN16.made.row (by decide)).trans IN16.made.row
          have x16:=rw_grown ne16 gr16 HNE2.out
          have NTg16:Row V16 (W0.heap.size) 25 #[.slice aA na ac]:=(grown_other IN16.made.two.own2 gr16 NTk15 (by decide)).trans NTk15
          refine hK.out _ _ (fun _ _=>⟨s16,x16⟩) ?_
          clear hK K
          try simp only[Act.put,qa,qb,qc]
          refine wpAnyU_pure (i:=13) (oi:=vsof22_13) (v:=.pointer (some ⟨bt,2,none⟩)) rfl (by kernel_rfl) (by kernel_rfl) (by kernel_rfl) (fun _ _ _ h=>h) (Or.inl ⟨by kernel_rfl,?_⟩) ?_
          ·intro w _;go_simp<;>first|omega|(intro hh;exfalso;omega)|rfl
          try simp only[Act.put,qa,qb,qc,vsof22_13]
          refine wpAnyU_pure (i:=14) (oi:=vsof22_14) (v:=.pointer (some ⟨bt,3,none⟩)) rfl (by kernel_rfl) (by kernel_rfl) (by kernel_rfl) (fun _ _ _ h=>h) (Or.inl ⟨by kernel_rfl,?_⟩) ?_
          ·intro w _;go_simp<;>first|omega|(intro hh;exfalso;omega)|rfl
          try simp only[Act.put,qa,qb,qc,vsof22_14]
          refine wpAnyU_ready (rs:=[12]) (by kernel_rfl) (by simp) ?_
          apply AllReadyU.cons (o:=vsof22_12) (by kernel_rfl)
          case hs=>exact AllReadyU.nil
          intro K hK
          obtain ⟨-,tw17⟩:=IN16.made.app2 (p:=(.slice xA xn xc,{ x with coef:=ownM r.coef col })) ow16 gr16 lc16 (OwnK.low ock15 (by have:=HINB.out.lt;have:=z13.size;omega))
          have ot17:=(tw17.keep ((Below.refl _ _))).tech
          refine step_append_ownK (Kd:=fun _=>True) rfl (.tmp 104) (.tmp 106) 37 rfl (bt+1) 25 i2 _ 1 Tryz.underlying37 hi2 hz2 hsz2 rfl (by omega) te TE.length (TE.map (·.1)) rfl ot17 ⟨W0.heap.size,0,none⟩ 1 1 [.slice aA na ac] rfl rfl (one_row1 NTg16) (by simp[Value.oneCell']) (by simp) (by simp) (by omega) (by unfold maxLen;omega) (by rw[hby2];omega) (by have:=(s16:Row _ _ _ _).lt;omega) ?_
          intro v17x V17 ow17 gr17 lc17
          obtain ⟨gq17,cp17,rfl⟩:=OwnK.shape ow17 (by omega)
          have s17:Row V17 bt 39 #[cv1,v1,cv2,v2,te]:=(grown_other ot17 gr17 s16 (by decide)).trans s16
          have x17:Row V17 bx 28 #[.string ⟨x.name.toArray⟩,.int .i64 x.kind,.slice A0 r.coef.length c0,.string ⟨x.rhs.toArray⟩,.string ⟨x.range.toArray⟩]:=(grown_other ot17 gr17 x16 (by decide)).trans x16
          refine hK.out _ _ (fun _ _=>⟨s17,x17⟩) ?_
          clear hK K
          try simp only[Act.put,qa,qb,qc]
          refine wpAnyU_ready (rs:=[15]) (by kernel_rfl) (by simp) ?_
          apply AllReadyU.cons (o:=vsof22_15) (by kernel_rfl)
          case hs=>exact AllReadyU.nil
          intro K hK
          simp only[vsof22_15]
          have k1:V17.cell? ⟨bt,3,none⟩=some v2:=s17.cell 3
          have k2:=s17.free 3
          go_simp
          have sq3:=s17.set 3 (.slice (some ⟨gq16,0,none⟩) (R2.length+1) cp16)
          refine hK.out _ _ (fun h=>absurd (by decide) h) ?_
          clear hK K
          try simp only[Act.put,qa,qb,qc]
          refine wpAnyU_pure (i:=16) (oi:=vsof22_16) (v:=.pointer (some ⟨bt,4,none⟩)) rfl (by kernel_rfl) (by kernel_rfl) (by kernel_rfl) (fun _ _ _ h=>h) (Or.inl ⟨by kernel_rfl,?_⟩) ?_
          ·intro w _;go_simp<;>first|omega|(intro hh;exfalso;omega)|rfl
          try simp only[Act.put,qa,qb,qc,vsof22_16]
          refine wpAnyU_ready (rs:=[17]) (by kernel_rfl) (by simp) ?_
          apply AllReadyU.cons (o:=vsof22_17) (by kernel_rfl)
          case hs=>exact AllReadyU.nil
          intro K hK
          simp only[vsof22_17]
          have k3:(V17.setCell ⟨bt,3,none⟩ (.slice (some ⟨gq16,0,none⟩) (R2.length+1) cp16)).cell? ⟨bt,4,none⟩=some te:=sq3.cell 4
          have k4:=sq3.free 4
          go_simp
          refine hK.out _ _ (fun h=>absurd (by decide) h) ?_
          clear hK K
          try simp only[Act.put,qa,qb,qc]
          refine wpAnyU_done (by kernel_rfl) ?_ _
          have HNX:Hid (∃ v1_ v2_ te_ R1_ R2_ TE_,InR w5 bt cv1 cv2 col (c.cols.take col) (c.cols.drop col) (work row 0 (c.rows.take k) ++ (workF row k r).take (j+1)) v1_ v2_ te_ R1_ R2_ TE_ ((V17.setCell ⟨bt,3,none⟩ (.slice (some ⟨gq16,0,none⟩) (R2.length+1) cp16)).setCell ⟨bt,4,none⟩ (.slice (some ⟨gq17,0,none⟩) (TE.length+1) cp17))∧v1_.ownBlock≠some g8∧v2_.ownBlock≠some g8∧Row ((V17.setCell ⟨bt,3,none⟩ (.slice (some ⟨gq16,0,none⟩) (R2.length+1) cp16)).setCell ⟨bt,4,none⟩ (.slice (some ⟨gq17,0,none⟩) (TE.length+1) cp17)) g8 28 ((rangedM r).flatMap (encVR (.slice A0 r.coef.length c0))).toArray∧bt<g8):=Lib.hid (by
           have hd:decide (k<row)=false:=decide_eq_false HKR.out
           have l1:=HSRB.out.lt
           have ls:=z15.size
           have hst:=IN16.step2 (cv:=.slice xA xn xc) (a:=.slice aA na ac) (x:=x) (by rw[HXC.out];exact ow16) gr16 lc16 (by rw[HXC.out];exact OwnK.low ock15 (by have:=HINB.out.lt;have:=z13.size;omega)) ((Below.refl _ _)) ow17 gr17 (by rw[HXC.out];exact HTA.out.keep z15)
           have hs1:=rw_grown (HSRB.out.keep z15) gr16 HN2'.out
           have hs2:=hs1.keep ((Below.refl _ _))
           have hs3:=(grown_other ot17 gr17 hs2 (by decide)).trans hs2
           refine ⟨_,_,_,_,_,_,by rw[HTJ.out,hd,← List.append_assoc];exact hst,HN1'.out,own_ne lc16 HN2'.out (by omega),(Row.far hs3 (by have:=HBG.out;simp;omega) _).far (by have:=HBG.out;simp;omega) _,HBG.out⟩)
          clear k1 k2 k3 k4 sq3 IN16 ne16 ow16 gr16 lc16 s16 x16 ow17 gr17 lc17 s17 x17 ot17 tw17 HTJ
          go_wp2_with fail
          go_roundg (gk - 1)
          case measure=>have:=HJ.out;omega
          case rel=>exact ⟨j+1,by go_num,by have:=HJ.out;omega,HNX⟩
         exact AllReadyU.nil
       ·obtain rfl:j=(rangedM r).length:=by omega
        have HQ2:Hid (∃ v1 v2 te R1 R2 TE,InR w5 bt cv1 cv2 col (c.cols.take col) (c.cols.drop col) (work row 0 (c.rows.take (k+1))) v1 v2 te R1 R2 TE wr):=Lib.hid (by
         obtain ⟨v1,v2,te,R1,R2,TE,hin,-⟩:=HQ.out
         rw[show (workF row k r).take (rangedM r).length=workF row k r from List.take_of_length_le (by unfold workF;rw[List.length_map];exact Nat.le_refl _)]at hin
         exact ⟨v1,v2,te,R1,R2,TE,by rw[HTK.out];exact hin⟩)
        clear hj HQ
        go_wp2_with fail
        go_roundg (G - 1)
        case measure=>have:=HG.out;have:=HK.out;have:=HLT.out;omega
        case rel=>exact ⟨k+1,by go_num,by have:=HG.out;have:=HK.out;have:=HLT.out;omega,HQ2⟩
     ·obtain rfl:k=c.rows.length:=by omega
      obtain ⟨v1,v2,te,R1,R2,TE,hin⟩:=HL.out
      rw[List.take_length]at hin
      have hst:=hin.done.end_
      have hM1:=HM3.out
      rw[hst]at hM1
      simp only[List.length_map]at hM1
      obtain ⟨A1,k1,hv1,-⟩:=hin.made.two.own1.sl
      obtain ⟨A2,k2,hv2,-⟩:=hin.made.two.own2.sl
      obtain ⟨A3,k3,hv3,-⟩:=hin.made.two.tech.sl
      obtain ⟨A4,k4,hv4,-⟩:=hin.made.two.cl1.sl
      obtain ⟨A5,k5,hv5,-⟩:=hin.made.two.cl2.sl
      obtain ⟨n4,hn4⟩:∃ n,n=(c.cols.take col).length:=⟨_,rfl⟩
      obtain ⟨n5,hn5⟩:∃ n,n=(c.cols.drop col).length:=⟨_,rfl⟩
      obtain ⟨n1,hn1⟩:∃ n,n=R1.length:=⟨_,rfl⟩
      obtain ⟨n2,hn2⟩:∃ n,n=R2.length:=⟨_,rfl⟩
      obtain ⟨n3,hn3⟩:∃ n,n=TE.length:=⟨_,rfl⟩
      rw[← hn1]at hv1 hM1;rw[← hn2]at hv2 hM1;rw[← hn3]at hv3;rw[← hn4]at hv4;rw[← hn5]at hv5
      subst hv1 hv2 hv3 hv4 hv5
      have HINE:=Lib.hid hin
      have HM4:=Lib.hid hM1
      have hrow:=hin.made.row
      have T0:wr.cell? ⟨bt,0,none⟩=some (.slice A4 n4 k4):=hrow.cell 0
      have T1:wr.cell? ⟨bt,1,none⟩=some (.slice A1 n1 k1):=hrow.cell 1
      have T2:wr.cell? ⟨bt,2,none⟩=some (.slice A5 n5 k5):=hrow.cell 2
      have T3:wr.cell? ⟨bt,3,none⟩=some (.slice A2 n2 k2):=hrow.cell 3
      have T4:wr.cell? ⟨bt,4,none⟩=some (.slice A3 n3 k3):=hrow.cell 4
      have T5:wr.cell? ⟨b2,3,none⟩=some (.slice (some ⟨gc,oc,none⟩) c.cols.length cc):=(R25.out.keep hin.below).cell 3
      have R4E:=Lib.hid (R45.out.keep hin.below)
      have HBE:=Lib.hid (below_seq HB5.out hin.below)
      have hcb1:col≤c.cols.length:=by have:=HN1.out;omega
      clear hin hst hM1 hn1 hn2 hn3 hn4 hn5 hrow HL HM3
      have e1:((c.cols.length:Int) - (col:Int))=((c.cols.length - col:Nat):Int):=by omega
      have hcw : -9223372036854775808≤((c.cols.length:Int) - (col:Int))∧((c.cols.length:Int) - (col:Int))≤9223372036854775807:=by omega
      obtain ⟨hcw1,hcw2⟩:=hcw
      have HLTB:Hid (b2+1<bt+1):=Lib.hid (by have:=HBT.out;have:=R45.out.lt;omega)
      have HCB1:=Lib.hid hcb1
      have hnc:(c.cols.length:Int)≤1000000:=by omega
      clear hcc1 hcc2 hcc3 hcc4 hrc hcc hpc hrl hcl hpl hi1 hz1 hsz1 hby1 hi2 hz2 hsz2 hby2 HRC HFC HCF HR HMB HCB HT5 HCC HCELL R45 R25 HNN HL1 HL2 hcb1
      have z0:wr.cell? ⟨b2+1,0,none⟩=some (.slice none 0 0):=R4E.out.cell 0
      have y0:=R4E.out.free 0
      have z1:wr.cell? ⟨b2+1,1,none⟩=some (.slice none 0 0):=R4E.out.cell 1
      have y1:=R4E.out.free 1
      have z2:wr.cell? ⟨b2+1,2,none⟩=some (.slice none 0 0):=R4E.out.cell 2
      have y2:=R4E.out.free 2
      have z3:wr.cell? ⟨b2+1,3,none⟩=some (.slice none 0 0):=R4E.out.cell 3
      have y3:=R4E.out.free 3
      have z4:wr.cell? ⟨b2+1,4,none⟩=some (.slice none 0 0):=R4E.out.cell 4
      have y4:=R4E.out.free 4
      by_cases c1:(20:Int)<(col:Int)
      ·have HE:=Lib.hid c1
       have HF:=Lib.hid (((((R4E.out.set 0 (.slice none 0 0)).set 1 (.slice none 0 0)).set 2 (.slice none 0 0)).set 3 (.slice none 0 0)).set 4 (.slice none 0 0))
       have HBF:=Lib.hid (((((HBE.out.setCell (p:=⟨b2+1,0,none⟩) (show w.heap.size≤b2+1 by have:=HBQ.out;omega) (.slice none 0 0)).setCell (p:=⟨b2+1,1,none⟩) (show w.heap.size≤b2+1 by have:=HBQ.out;omega) (.slice none 0 0)).setCell (p:=⟨b2+1,2,none⟩) (show w.heap.size≤b2+1 by have:=HBQ.out;omega) (.slice none 0 0)).setCell (p:=⟨b2+1,3,none⟩) (show w.heap.size≤b2+1 by have:=HBQ.out;omega) (.slice none 0 0)).setCell (p:=⟨b2+1,4,none⟩) (show w.heap.size≤b2+1 by have:=HBQ.out;omega) (.slice none 0 0))
       go_wp2_with fail
       refine bodyPost_ret (results_two rfl _ _ _ _ _ _ _ _ rfl HF.out) rfl ?_
       rw[HM4.out,if_pos (by have:=HE.out;have:=HCB1.out;omega)]
       exact ⟨_,rfl,TwoIn.no _,HBF.out⟩
      ·by_cases c2:(20:Int)<(c.cols.length:Int) - (col:Int)
       ·have HE:=Lib.hid c2
        have HF:=Lib.hid (((((R4E.out.set 0 (.slice none 0 0)).set 1 (.slice none 0 0)).set 2 (.slice none 0 0)).set 3 (.slice none 0 0)).set 4 (.slice none 0 0))
        have HBF:=Lib.hid (((((HBE.out.setCell (p:=⟨b2+1,0,none⟩) (show w.heap.size≤b2+1 by have:=HBQ.out;omega) (.slice none 0 0)).setCell (p:=⟨b2+1,1,none⟩) (show w.heap.size≤b2+1 by have:=HBQ.out;omega) (.slice none 0 0)).setCell (p:=⟨b2+1,2,none⟩) (show w.heap.size≤b2+1 by have:=HBQ.out;omega) (.slice none 0 0)).setCell (p:=⟨b2+1,3,none⟩) (show w.heap.size≤b2+1 by have:=HBQ.out;omega) (.slice none 0 0)).setCell (p:=⟨b2+1,4,none⟩) (show w.heap.size≤b2+1 by have:=HBQ.out;omega) (.slice none 0 0))
        go_wp2_with fail
        refine bodyPost_ret (results_two rfl _ _ _ _ _ _ _ _ rfl HF.out) rfl ?_
        rw[HM4.out,if_pos (by have:=HE.out;have:=HCB1.out;omega)]
        exact ⟨_,rfl,TwoIn.no _,HBF.out⟩
       ·by_cases c3:(20:Int)<(n1:Int)
        ·have HE:=Lib.hid c3
         have HF:=Lib.hid (((((R4E.out.set 0 (.slice none 0 0)).set 1 (.slice none 0 0)).set 2 (.slice none 0 0)).set 3 (.slice none 0 0)).set 4 (.slice none 0 0))
         have HBF:=Lib.hid (((((HBE.out.setCell (p:=⟨b2+1,0,none⟩) (show w.heap.size≤b2+1 by have:=HBQ.out;omega) (.slice none 0 0)).setCell (p:=⟨b2+1,1,none⟩) (show w.heap.size≤b2+1 by have:=HBQ.out;omega) (.slice none 0 0)).setCell (p:=⟨b2+1,2,none⟩) (show w.heap.size≤b2+1 by have:=HBQ.out;omega) (.slice none 0 0)).setCell (p:=⟨b2+1,3,none⟩) (show w.heap.size≤b2+1 by have:=HBQ.out;omega) (.slice none 0 0)).setCell (p:=⟨b2+1,4,none⟩) (show w.heap.size≤b2+1 by have:=HBQ.out;omega) (.slice none 0 0))
         go_wp2_with fail
         refine bodyPost_ret (results_two rfl _ _ _ _ _ _ _ _ rfl HF.out) rfl ?_
         rw[HM4.out,if_pos (by have:=HE.out;have:=HCB1.out;omega)]
         exact ⟨_,rfl,TwoIn.no _,HBF.out⟩
        ·by_cases c4:(20:Int)<(n2:Int)
         ·have HE:=Lib.hid c4
          have HF:=Lib.hid (((((R4E.out.set 0 (.slice none 0 0)).set 1 (.slice none 0 0)).set 2 (.slice none 0 0)).set 3 (.slice none 0 0)).set 4 (.slice none 0 0))
          have HBF:=Lib.hid (((((HBE.out.setCell (p:=⟨b2+1,0,none⟩) (show w.heap.size≤b2+1 by have:=HBQ.out;omega) (.slice none 0 0)).setCell (p:=⟨b2+1,1,none⟩) (show w.heap.size≤b2+1 by have:=HBQ.out;omega) (.slice none 0 0)).setCell (p:=⟨b2+1,2,none⟩) (show w.heap.size≤b2+1 by have:=HBQ.out;omega) (.slice none 0 0)).setCell (p:=⟨b2+1,3,none⟩) (show w.heap.size≤b2+1 by have:=HBQ.out;omega) (.slice none 0 0)).setCell (p:=⟨b2+1,4,none⟩) (show w.heap.size≤b2+1 by have:=HBQ.out;omega) (.slice none 0 0))
          go_wp2_with fail
          refine bodyPost_ret (results_two rfl _ _ _ _ _ _ _ _ rfl HF.out) rfl ?_
          rw[HM4.out,if_pos (by have:=HE.out;have:=HCB1.out;omega)]
          exact ⟨_,rfl,TwoIn.no _,HBF.out⟩
         ·have HE:=Lib.hid (And.intro c1 (And.intro c2 (And.intro c3 c4)))
          have HF:=Lib.hid (((((R4E.out.set 0 (.slice A4 n4 k4)).set 1 (.slice A1 n1 k1)).set 2 (.slice A5 n5 k5)).set 3 (.slice A2 n2 k2)).set 4 (.slice A3 n3 k3))
          have HBF:=Lib.hid (((((HBE.out.setCell (p:=⟨b2+1,0,none⟩) (show w.heap.size≤b2+1 by have:=HBQ.out;omega) (.slice A4 n4 k4)).setCell (p:=⟨b2+1,1,none⟩) (show w.heap.size≤b2+1 by have:=HBQ.out;omega) (.slice A1 n1 k1)).setCell (p:=⟨b2+1,2,none⟩) (show w.heap.size≤b2+1 by have:=HBQ.out;omega) (.slice A5 n5 k5)).setCell (p:=⟨b2+1,3,none⟩) (show w.heap.size≤b2+1 by have:=HBQ.out;omega) (.slice A2 n2 k2)).setCell (p:=⟨b2+1,4,none⟩) (show w.heap.size≤b2+1 by have:=HBQ.out;omega) (.slice A3 n3 k3))
          have HTW:=Lib.hid (((((HINE.out.made.two.put (i:=0) (.slice A4 n4 k4) (show b2+1<bt+1 by have:=HLTB.out;omega)).put (i:=1) (.slice A1 n1 k1) (show b2+1<bt+1 by have:=HLTB.out;omega)).put (i:=2) (.slice A5 n5 k5) (show b2+1<bt+1 by have:=HLTB.out;omega)).put (i:=3) (.slice A2 n2 k2) (show b2+1<bt+1 by have:=HLTB.out;omega)).put (i:=4) (.slice A3 n3 k3) (show b2+1<bt+1 by have:=HLTB.out;omega))
          go_wp2_with fail
          refine bodyPost_ret (results_two rfl _ _ _ _ _ _ _ _ rfl HF.out) rfl ?_
          rw[HM4.out,if_neg (by have:=HE.out;have:=HCB1.out;omega)]
          exact ⟨_,rfl,HTW.out.twoIn rfl,HBF.out⟩
   ·have h1:(er != 0)=true:=by simp[hm]
    have HE:=Lib.hid hm
    clear hm
    have z0:w5.cell? ⟨b2+1,0,none⟩=some (.slice none 0 0):=R45.out.cell 0
    have y0:=R45.out.free 0
    have z1:w5.cell? ⟨b2+1,1,none⟩=some (.slice none 0 0):=R45.out.cell 1
    have y1:=R45.out.free 1
    have z2:w5.cell? ⟨b2+1,2,none⟩=some (.slice none 0 0):=R45.out.cell 2
    have y2:=R45.out.free 2
    have z3:w5.cell? ⟨b2+1,3,none⟩=some (.slice none 0 0):=R45.out.cell 3
    have y3:=R45.out.free 3
    have z4:w5.cell? ⟨b2+1,4,none⟩=some (.slice none 0 0):=R45.out.cell 4
    have y4:=R45.out.free 4
    have HF:=Lib.hid (((((R45.out.set 0 (.slice none 0 0)).set 1 (.slice none 0 0)).set 2 (.slice none 0 0)).set 3 (.slice none 0 0)).set 4 (.slice none 0 0))
    have HBF:=Lib.hid (((((HB5.out.setCell (p:=⟨b2+1,0,none⟩) (show w.heap.size≤b2+1 by have:=HBQ.out;omega) (.slice none 0 0)).setCell (p:=⟨b2+1,1,none⟩) (show w.heap.size≤b2+1 by have:=HBQ.out;omega) (.slice none 0 0)).setCell (p:=⟨b2+1,2,none⟩) (show w.heap.size≤b2+1 by have:=HBQ.out;omega) (.slice none 0 0)).setCell (p:=⟨b2+1,3,none⟩) (show w.heap.size≤b2+1 by have:=HBQ.out;omega) (.slice none 0 0)).setCell (p:=⟨b2+1,4,none⟩) (show w.heap.size≤b2+1 by have:=HBQ.out;omega) (.slice none 0 0))
    go_wp2_with fail
    refine bodyPost_ret (results_two rfl _ _ _ _ _ _ _ _ rfl HF.out) rfl ?_
    rw[HM2.out,if_pos HE.out]
    exact ⟨_,rfl,TwoIn.no _,HBF.out⟩
  ·have h1:(er != 0)=true:=by simp[hm]
   have HE:=Lib.hid hm
   clear hm
   have z0:w3.cell? ⟨b2+1,0,none⟩=some (.slice none 0 0):=R43.out.cell 0
   have y0:=R43.out.free 0
   have z1:w3.cell? ⟨b2+1,1,none⟩=some (.slice none 0 0):=R43.out.cell 1
   have y1:=R43.out.free 1
   have z2:w3.cell? ⟨b2+1,2,none⟩=some (.slice none 0 0):=R43.out.cell 2
   have y2:=R43.out.free 2
   have z3:w3.cell? ⟨b2+1,3,none⟩=some (.slice none 0 0):=R43.out.cell 3
   have y3:=R43.out.free 3
   have z4:w3.cell? ⟨b2+1,4,none⟩=some (.slice none 0 0):=R43.out.cell 4
   have y4:=R43.out.free 4
   have HF:=Lib.hid (((((R43.out.set 0 (.slice none 0 0)).set 1 (.slice none 0 0)).set 2 (.slice none 0 0)).set 3 (.slice none 0 0)).set 4 (.slice none 0 0))
   have HBF:=Lib.hid (((((HB3.out.setCell (p:=⟨b2+1,0,none⟩) (show w.heap.size≤b2+1 by have:=HBQ.out;omega) (.slice none 0 0)).setCell (p:=⟨b2+1,1,none⟩) (show w.heap.size≤b2+1 by have:=HBQ.out;omega) (.slice none 0 0)).setCell (p:=⟨b2+1,2,none⟩) (show w.heap.size≤b2+1 by have:=HBQ.out;omega) (.slice none 0 0)).setCell (p:=⟨b2+1,3,none⟩) (show w.heap.size≤b2+1 by have:=HBQ.out;omega) (.slice none 0 0)).setCell (p:=⟨b2+1,4,none⟩) (show w.heap.size≤b2+1 by have:=HBQ.out;omega) (.slice none 0 0))
   go_wp2_with fail
   refine bodyPost_ret (results_two rfl _ _ _ _ _ _ _ _ rfl HF.out) rfl ?_
   rw[HM1.out,if_pos HE.out]
   exact ⟨_,rfl,TwoIn.no _,HBF.out⟩
 ·have h1:(er != 0)=true:=by simp[hm]
  have HE:=Lib.hid hm
  clear hm
  have z0:w2.cell? ⟨b2+1,0,none⟩=some (.slice none 0 0):=R42.out.cell 0
  have y0:=R42.out.free 0
  have z1:w2.cell? ⟨b2+1,1,none⟩=some (.slice none 0 0):=R42.out.cell 1
  have y1:=R42.out.free 1
  have z2:w2.cell? ⟨b2+1,2,none⟩=some (.slice none 0 0):=R42.out.cell 2
  have y2:=R42.out.free 2
  have z3:w2.cell? ⟨b2+1,3,none⟩=some (.slice none 0 0):=R42.out.cell 3
  have y3:=R42.out.free 3
  have z4:w2.cell? ⟨b2+1,4,none⟩=some (.slice none 0 0):=R42.out.cell 4
  have y4:=R42.out.free 4
  have HF:=Lib.hid (((((R42.out.set 0 (.slice none 0 0)).set 1 (.slice none 0 0)).set 2 (.slice none 0 0)).set 3 (.slice none 0 0)).set 4 (.slice none 0 0))
  have HBF:=Lib.hid (((((HB2.out.setCell (p:=⟨b2+1,0,none⟩) (show w.heap.size≤b2+1 by have:=HBQ.out;omega) (.slice none 0 0)).setCell (p:=⟨b2+1,1,none⟩) (show w.heap.size≤b2+1 by have:=HBQ.out;omega) (.slice none 0 0)).setCell (p:=⟨b2+1,2,none⟩) (show w.heap.size≤b2+1 by have:=HBQ.out;omega) (.slice none 0 0)).setCell (p:=⟨b2+1,3,none⟩) (show w.heap.size≤b2+1 by have:=HBQ.out;omega) (.slice none 0 0)).setCell (p:=⟨b2+1,4,none⟩) (show w.heap.size≤b2+1 by have:=HBQ.out;omega) (.slice none 0 0))
  go_wp2_with fail
  refine bodyPost_ret (results_two rfl _ _ _ _ _ _ _ _ rfl HF.out) rfl ?_
  rw[hM.out,if_pos HE.out]
  exact ⟨_,rfl,TwoIn.no _,HBF.out⟩
end Go.Proofs.YtbdfhnelmojbpaaGreatDoor
