/- Package victuallerref1: sums of the document's fractions. -/
import Derived.Test.YtbdfhnelmojbpaaGreatDoorRap
import Derived.Test.YtbdfhnelmojbpaaGreatDoorRbe
import Derived.Deep.RegionHeld
import Derived.Test.YtbdfhnelmojbpaaGreatDoorRax
import Derived.Shelf.Strconv.AtoiAll
import Derived.Test.YtbdfhnelmojbpaaGreatDoorRat
import Derived.MapKept
import Derived.Shelf.SlSortCmp.SmallK
import Derived.Test.YtbdfhnelmojbpaaGreatDoorShelf
import Derived.WalkSpells
import Derived.WalkLawsBesides
import Derived.Deep.QuietTactic
import Derived.BigQuiet
import Derived.Deep.DeepCutAuto
import Derived.Deep.CutBlock
set_option linter.unusedVariables false
set_option linter.unusedSimpArgs false
section
namespace Vic
open Go Go.RowKit
def sumS (p q:Bool) (x y:Nat):Bool:=if p=q then p else if y≤x then p else q
def sumN (p q:Bool) (x y:Nat):Nat:=if p=q then x+y else if y≤x then x - y else y - x
theorem sum_sgn (p q:Bool) (x y:Nat):sgn (sumS p q x y) (sumN p q x y)=sgn p x+sgn q y:=by
 unfold sumS sumN sgn
 cases p<;>cases q<;>by_cases h:y≤x<;>simp[h]<;>omega
theorem tdg_mul_len (a b:Nat):(tdg (a*b)).length≤(tdg a).length+(tdg b).length:=by
 have h1:a<10000 ^ (tdg a).length:=lt_pow_digs_length (B:=10000) (by omega) a
 have h2:b<10000 ^ (tdg b).length:=lt_pow_digs_length (B:=10000) (by omega) b
 apply tdg_len;rw[Nat.pow_add];exact Nat.mul_lt_mul'' h1 h2
end Vic
namespace Go.Proofs.YtbdfhnelmojbpaaGreatDoor
open Go.RowKit Vic
abbrev vsum1_0:Oper:={ dst:=some 8,op:=Go.Op.fieldAddr 49 (Go.Operand.tmp 2) 1,type:=0,pos:="ref.go:293",after:=#[],guard:=none }
abbrev vsum1_1:Oper:={ dst:=some 9,op:=Go.Op.load 47 (Go.Operand.tmp 8),type:=47,pos:="ref.go:293",after:=#[{ on:=0,ground:=Go.Ground.data }],guard:=none }
abbrev vsum1_2:Oper:={ dst:=some 10,op:=Go.Op.fieldAddr 49 (Go.Operand.tmp 3) 2,type:=0,pos:="ref.go:293",after:=#[],guard:=none }
abbrev vsum1_3:Oper:={ dst:=some 11,op:=Go.Op.load 47 (Go.Operand.tmp 10),type:=47,pos:="ref.go:293",after:=#[{ on:=2,ground:=Go.Ground.data }],guard:=none }
abbrev vsum1_4:Oper:={ dst:=some 12,op:=Go.Op.call { callee:=Go.Callee.value (Go.Operand.func 108),args:=#[Go.Operand.tmp 9,Go.Operand.tmp 11],argTypes:=#[47,47] },type:=47,pos:="ref.go:293",after:=#[{ on:=1,ground:=Go.Ground.data },{ on:=3,ground:=Go.Ground.data }],guard:=none }
abbrev vsum1_5:Oper:={ dst:=some 13,op:=Go.Op.fieldAddr 49 (Go.Operand.tmp 3) 1,type:=0,pos:="ref.go:293",after:=#[],guard:=none }
abbrev vsum1_6:Oper:={ dst:=some 14,op:=Go.Op.load 47 (Go.Operand.tmp 13),type:=47,pos:="ref.go:293",after:=#[{ on:=5,ground:=Go.Ground.data }],guard:=none }
abbrev vsum1_7:Oper:={ dst:=some 15,op:=Go.Op.fieldAddr 49 (Go.Operand.tmp 2) 2,type:=0,pos:="ref.go:293",after:=#[],guard:=none }
abbrev vsum1_8:Oper:={ dst:=some 16,op:=Go.Op.load 47 (Go.Operand.tmp 15),type:=47,pos:="ref.go:293",after:=#[{ on:=7,ground:=Go.Ground.data }],guard:=none }
abbrev vsum1_9:Oper:={ dst:=some 17,op:=Go.Op.call { callee:=Go.Callee.value (Go.Operand.func 108),args:=#[Go.Operand.tmp 14,Go.Operand.tmp 16],argTypes:=#[47,47] },type:=47,pos:="ref.go:293",after:=#[{ on:=6,ground:=Go.Ground.data },{ on:=8,ground:=Go.Ground.data },{ on:=4,ground:=Go.Ground.chain }],guard:=none }
abbrev vsum1_10:Oper:={ dst:=some 5,op:=Go.Op.assign (Go.Operand.tmp 12),type:=47,pos:="ref.go:293",after:=#[{ on:=4,ground:=Go.Ground.data },{ on:=9,ground:=Go.Ground.chain },{ on:=0,ground:=Go.Ground.phase },{ on:=1,ground:=Go.Ground.phase },{ on:=2,ground:=Go.Ground.phase },{ on:=3,ground:=Go.Ground.phase },{ on:=4,ground:=Go.Ground.phase },{ on:=5,ground:=Go.Ground.textOnly Go.Departure.lateStores },{ on:=6,ground:=Go.Ground.textOnly Go.Departure.lateStores },{ on:=7,ground:=Go.Ground.textOnly Go.Departure.lateStores },{ on:=8,ground:=Go.Ground.textOnly Go.Departure.lateStores },{ on:=9,ground:=Go.Ground.textOnly Go.Departure.lateStoresUnsure }],guard:=none }
abbrev vsum1_11:Oper:={ dst:=some 6,op:=Go.Op.assign (Go.Operand.tmp 17),type:=47,pos:="ref.go:293",after:=#[{ on:=9,ground:=Go.Ground.data },{ on:=10,ground:=Go.Ground.chain },{ on:=0,ground:=Go.Ground.phase },{ on:=1,ground:=Go.Ground.phase },{ on:=2,ground:=Go.Ground.phase },{ on:=3,ground:=Go.Ground.phase },{ on:=4,ground:=Go.Ground.phase },{ on:=5,ground:=Go.Ground.phase },{ on:=6,ground:=Go.Ground.phase },{ on:=7,ground:=Go.Ground.phase },{ on:=8,ground:=Go.Ground.phase },{ on:=9,ground:=Go.Ground.phase },{ on:=10,ground:=Go.Ground.phase }],guard:=none }
abbrev vsum4_0:Oper:={ dst:=some 29,op:=Go.Op.fieldAddr 49 (Go.Operand.tmp 2) 0,type:=0,pos:="ref.go:297",after:=#[],guard:=none }
abbrev vsum4_1:Oper:={ dst:=some 30,op:=Go.Op.load 4 (Go.Operand.tmp 29),type:=4,pos:="ref.go:297",after:=#[{ on:=0,ground:=Go.Ground.data }],guard:=none }
abbrev vsum4_2:Oper:={ dst:=some 31,op:=Go.Op.move (Go.Operand.tmp 5),type:=47,pos:="ref.go:297",after:=#[],guard:=none }
abbrev vsum4_3:Oper:={ dst:=some 32,op:=Go.Op.move (Go.Operand.tmp 6),type:=47,pos:="ref.go:297",after:=#[],guard:=none }
abbrev vsum4_4:Oper:={ dst:=some 33,op:=Go.Op.call { callee:=Go.Callee.value (Go.Operand.func 109),args:=#[Go.Operand.tmp 31,Go.Operand.tmp 32],argTypes:=#[47,47] },type:=47,pos:="ref.go:297",after:=#[{ on:=2,ground:=Go.Ground.data },{ on:=3,ground:=Go.Ground.data }],guard:=none }
abbrev vsum4_5:Oper:={ dst:=some 34,op:=Go.Op.move (Go.Operand.tmp 7),type:=47,pos:="ref.go:297",after:=#[],guard:=none }
abbrev vsum4_6:Oper:={ dst:=some 35,op:=Go.Op.call { callee:=Go.Callee.value (Go.Operand.func 37),args:=#[Go.Operand.tmp 30,Go.Operand.tmp 33,Go.Operand.tmp 34],argTypes:=#[4,47,47] },type:=49,pos:="ref.go:297",after:=#[{ on:=1,ground:=Go.Ground.data },{ on:=4,ground:=Go.Ground.data },{ on:=5,ground:=Go.Ground.data },{ on:=4,ground:=Go.Ground.chain }],guard:=none }
abbrev vsum4_7:Oper:={ dst:=none,op:=Go.Op.store 49 (Go.Operand.tmp 4) (Go.Operand.tmp 35),type:=0,pos:="ref.go:297",after:=#[{ on:=6,ground:=Go.Ground.data },{ on:=6,ground:=Go.Ground.chain },{ on:=0,ground:=Go.Ground.phase },{ on:=1,ground:=Go.Ground.phase },{ on:=2,ground:=Go.Ground.phase },{ on:=3,ground:=Go.Ground.phase },{ on:=4,ground:=Go.Ground.phase },{ on:=5,ground:=Go.Ground.phase },{ on:=6,ground:=Go.Ground.phase }],guard:=none }
abbrev vsum6_0:Oper:={ dst:=some 41,op:=Go.Op.fieldAddr 49 (Go.Operand.tmp 2) 0,type:=0,pos:="ref.go:299",after:=#[],guard:=none }
abbrev vsum6_1:Oper:={ dst:=some 42,op:=Go.Op.load 4 (Go.Operand.tmp 41),type:=4,pos:="ref.go:299",after:=#[{ on:=0,ground:=Go.Ground.data }],guard:=none }
abbrev vsum6_2:Oper:={ dst:=some 43,op:=Go.Op.move (Go.Operand.tmp 5),type:=47,pos:="ref.go:299",after:=#[],guard:=none }
abbrev vsum6_3:Oper:={ dst:=some 44,op:=Go.Op.move (Go.Operand.tmp 6),type:=47,pos:="ref.go:299",after:=#[],guard:=none }
abbrev vsum6_4:Oper:={ dst:=some 45,op:=Go.Op.call { callee:=Go.Callee.value (Go.Operand.func 110),args:=#[Go.Operand.tmp 43,Go.Operand.tmp 44],argTypes:=#[47,47] },type:=47,pos:="ref.go:299",after:=#[{ on:=2,ground:=Go.Ground.data },{ on:=3,ground:=Go.Ground.data }],guard:=none }
abbrev vsum6_5:Oper:={ dst:=some 46,op:=Go.Op.move (Go.Operand.tmp 7),type:=47,pos:="ref.go:299",after:=#[],guard:=none }
abbrev vsum6_6:Oper:={ dst:=some 47,op:=Go.Op.call { callee:=Go.Callee.value (Go.Operand.func 37),args:=#[Go.Operand.tmp 42,Go.Operand.tmp 45,Go.Operand.tmp 46],argTypes:=#[4,47,47] },type:=49,pos:="ref.go:299",after:=#[{ on:=1,ground:=Go.Ground.data },{ on:=4,ground:=Go.Ground.data },{ on:=5,ground:=Go.Ground.data },{ on:=4,ground:=Go.Ground.chain }],guard:=none }
abbrev vsum6_7:Oper:={ dst:=none,op:=Go.Op.store 49 (Go.Operand.tmp 4) (Go.Operand.tmp 47),type:=0,pos:="ref.go:299",after:=#[{ on:=6,ground:=Go.Ground.data },{ on:=6,ground:=Go.Ground.chain },{ on:=0,ground:=Go.Ground.phase },{ on:=1,ground:=Go.Ground.phase },{ on:=2,ground:=Go.Ground.phase },{ on:=3,ground:=Go.Ground.phase },{ on:=4,ground:=Go.Ground.phase },{ on:=5,ground:=Go.Ground.phase },{ on:=6,ground:=Go.Ground.phase }],guard:=none }
abbrev vsum7_0:Oper:={ dst:=some 48,op:=Go.Op.fieldAddr 49 (Go.Operand.tmp 3) 0,type:=0,pos:="ref.go:301",after:=#[],guard:=none }
abbrev vsum7_1:Oper:={ dst:=some 49,op:=Go.Op.load 4 (Go.Operand.tmp 48),type:=4,pos:="ref.go:301",after:=#[{ on:=0,ground:=Go.Ground.data }],guard:=none }
abbrev vsum7_2:Oper:={ dst:=some 50,op:=Go.Op.move (Go.Operand.tmp 6),type:=47,pos:="ref.go:301",after:=#[],guard:=none }
abbrev vsum7_3:Oper:={ dst:=some 51,op:=Go.Op.move (Go.Operand.tmp 5),type:=47,pos:="ref.go:301",after:=#[],guard:=none }
abbrev vsum7_4:Oper:={ dst:=some 52,op:=Go.Op.call { callee:=Go.Callee.value (Go.Operand.func 110),args:=#[Go.Operand.tmp 50,Go.Operand.tmp 51],argTypes:=#[47,47] },type:=47,pos:="ref.go:301",after:=#[{ on:=2,ground:=Go.Ground.data },{ on:=3,ground:=Go.Ground.data }],guard:=none }
abbrev vsum7_5:Oper:={ dst:=some 53,op:=Go.Op.move (Go.Operand.tmp 7),type:=47,pos:="ref.go:301",after:=#[],guard:=none }
abbrev vsum7_6:Oper:={ dst:=some 54,op:=Go.Op.call { callee:=Go.Callee.value (Go.Operand.func 37),args:=#[Go.Operand.tmp 49,Go.Operand.tmp 52,Go.Operand.tmp 53],argTypes:=#[4,47,47] },type:=49,pos:="ref.go:301",after:=#[{ on:=1,ground:=Go.Ground.data },{ on:=4,ground:=Go.Ground.data },{ on:=5,ground:=Go.Ground.data },{ on:=4,ground:=Go.Ground.chain }],guard:=none }
abbrev vsum7_7:Oper:={ dst:=none,op:=Go.Op.store 49 (Go.Operand.tmp 4) (Go.Operand.tmp 54),type:=0,pos:="ref.go:301",after:=#[{ on:=6,ground:=Go.Ground.data },{ on:=6,ground:=Go.Ground.chain },{ on:=0,ground:=Go.Ground.phase },{ on:=1,ground:=Go.Ground.phase },{ on:=2,ground:=Go.Ground.phase },{ on:=3,ground:=Go.Ground.phase },{ on:=4,ground:=Go.Ground.phase },{ on:=5,ground:=Go.Ground.phase },{ on:=6,ground:=Go.Ground.phase }],guard:=none }
set_option maxRecDepth 100000 in
set_option maxHeartbeats 8000000 in
theorem ref_Sum (w:World) (u v:Value) (p q:Bool) (n d m e:Nat) (hu:RefQ w u p n d) (hv:RefQ w v q m e) (hd0:d≠0) (he0:e≠0) (hnl:(tdg n).length≤100000) (hdl:(tdg d).length≤100000) (hml:(tdg m).length≤100000) (hel:(tdg e).length≤100000) :
 Calls Tryz.prog 40 #[u,v] w (Gives (fun x w'=>RefQ w' x (sumS p q (n*e) (m*d) && decide (sumN p q (n*e) (m*d)≠0)) (sumN p q (n*e) (m*d)) (d*e)) w):=by
 obtain ⟨A1,c1,A2,c2,rfl,hn,hd,hsp⟩:=hu.open_
 obtain ⟨A3,c3,A4,c4,rfl,hm,he,hsq⟩:=hv.open_
 obtain ⟨k1,hk1⟩:∃ k1,k1=(tdg n).length:=⟨_,rfl⟩
 obtain ⟨k2,hk2⟩:∃ k2,k2=(tdg d).length:=⟨_,rfl⟩
 obtain ⟨k3,hk3⟩:∃ k3,k3=(tdg m).length:=⟨_,rfl⟩
 obtain ⟨k4,hk4⟩:∃ k4,k4=(tdg e).length:=⟨_,rfl⟩
 rw[← hk1]at hn ⊢
 rw[← hk2]at hd ⊢
 rw[← hk3]at hm ⊢
 rw[← hk4]at he ⊢
 obtain ⟨wa,hwa⟩:∃ X,X=w.alloc (.cells #[.bool p,.slice A1 k1 c1,.slice A2 k2 c2] 49):=⟨_,rfl⟩
 have ba:Below w.heap.size w wa:=by rw[hwa];exact (Below.refl _ _).alloc (Nat.le_refl _) _
 have ea:wa.heap.size=w.heap.size+1:=by rw[hwa];simp
 have ra:Row wa w.heap.size 49 #[.bool p,.slice A1 k1 c1,.slice A2 k2 c2]:=by rw[hwa];exact Row.new _ _ _
 obtain ⟨wb,hwb⟩:∃ X,X=wa.alloc (.cells #[.bool q,.slice A3 k3 c3,.slice A4 k4 c4] 49):=⟨_,rfl⟩
 have bb:Below wa.heap.size wa wb:=by rw[hwb];exact (Below.refl _ _).alloc (Nat.le_refl _) _
 have eb:wb.heap.size=w.heap.size+1+1:=by rw[hwb];simp[ea]
 have rb:Row wb (w.heap.size+1) 49 #[.bool q,.slice A3 k3 c3,.slice A4 k4 c4]:=by rw[← ea,hwb];exact Row.new _ _ _
 obtain ⟨wc,hwc⟩:∃ X,X=wb.alloc (.cells #[.bool false,.slice none 0 0,.slice none 0 0] 49):=⟨_,rfl⟩
 have bc:Below wb.heap.size wb wc:=by rw[hwc];exact (Below.refl _ _).alloc (Nat.le_refl _) _
 have rc:Row wc (w.heap.size+1+1) 49 #[.bool false,.slice none 0 0,.slice none 0 0]:=by rw[← eb,hwc];exact Row.new _ _ _
 have BC:Below w.heap.size w wc:=below_seq ba (below_seq bb bc)
 have HWA:=Lib.hid hwa;have HWB:=Lib.hid hwb;have HWC:=Lib.hid hwc
 have BWC:Below wa.heap.size wa wc:=below_seq bb bc
 have HS:Hid (∀ W,Below wb.heap.size wb W→(W.cell? ⟨w.heap.size,0,none⟩=some (.bool p)∧W.cell? ⟨w.heap.size,1,none⟩=some (.slice A1 k1 c1)∧W.cell? ⟨w.heap.size,2,none⟩=some (.slice A2 k2 c2)∧W.cell? ⟨w.heap.size+1,0,none⟩=some (.bool q)∧W.cell? ⟨w.heap.size+1,1,none⟩=some (.slice A3 k3 c3)∧W.cell? ⟨w.heap.size+1,2,none⟩=some (.slice A4 k4 c4))):=Lib.hid fun W h=>by
  have r1:=(ra.keep bb).keep h
  have r2:=rb.keep h
  exact ⟨r1.cell 0,r1.cell 1,r1.cell 2,r2.cell 0,r2.cell 1,r2.cell 2⟩
 have CX:Hid (∀ W,Below wc.heap.size wc W→Calls Tryz.prog 108 #[.slice A1 k1 c1,.slice A4 k4 c4] W (Gives (fun x w'=>RefN w' x (n*e)) W)):=Lib.hid fun W h=>ref_Mul W _ _ n e (hn.keep (below_seq BC h)) (he.keep (below_seq BC h)) (by omega) (by omega)
 have CY:Hid (∀ W,Below wc.heap.size wc W→Calls Tryz.prog 108 #[.slice A3 k3 c3,.slice A2 k2 c2] W (Gives (fun x w'=>RefN w' x (m*d)) W)):=Lib.hid fun W h=>ref_Mul W _ _ m d (hm.keep (below_seq BC h)) (hd.keep (below_seq BC h)) (by omega) (by omega)
 have CD:Hid (∀ W,Below wc.heap.size wc W→Calls Tryz.prog 108 #[.slice A2 k2 c2,.slice A4 k4 c4] W (Gives (fun x w'=>RefN w' x (d*e)) W)):=Lib.hid fun W h=>ref_Mul W _ _ d e (hd.keep (below_seq BC h)) (he.keep (below_seq BC h)) (by omega) (by omega)
 obtain ⟨x,hx⟩:∃ x,x=n*e:=⟨_,rfl⟩
 obtain ⟨y,hy⟩:∃ y,y=m*d:=⟨_,rfl⟩
 have hxl:(tdg x).length≤300000:=by rw[hx];exact Nat.le_trans (tdg_mul_len n e) (by omega)
 have hyl:(tdg y).length≤300000:=by rw[hy];exact Nat.le_trans (tdg_mul_len m d) (by omega)
 have hx0:p=true→x≠0:=fun h=>by rw[hx];exact Nat.mul_ne_zero (hsp h) he0
 have hy0:q=true→y≠0:=fun h=>by rw[hy];exact Nat.mul_ne_zero (hsq h) hd0
 rw[← hx]at CX ⊢
 rw[← hy]at CY ⊢
 have HRC:=Lib.hid rc
 have HBC:=Lib.hid BC
 have HCB:=Lib.hid bc
 have hsz:(Tryz.prog.info? 49).map (·.size)=some 3:=by kernel_rfl
 have HWB0:Hid (w.heap.size≤wb.heap.size∧wb.heap.size=w.heap.size+1+1):=Lib.hid ⟨by omega,eb⟩
 have HX0:=Lib.hid hx0;have HY0:=Lib.hid hy0;have HXL:=Lib.hid hxl;have HYL:=Lib.hid hyl
 clear hk1 hk2 hk3 hk4 hwa hwb hwc ra rb rc ba bb bc BC hu hv hn hd hm he hnl hdl hml hel ea eb hx hy hsp hsq hd0 he0 hx0 hy0 hxl hyl
 obtain ⟨M,hM⟩:∃ M,M=sumN p q x y:=⟨_,rfl⟩
 obtain ⟨sg,hsg⟩:∃ sg,sg=(sumS p q x y && decide (M≠0)):=⟨_,rfl⟩
 rw[← hM,← hsg]
 have HM:=Lib.hid hM;have HSG:=Lib.hid hsg
 clear hM hsg
 go_enter Tryz.func40,Tryz.ntmps40
 go_wp2_with fail
 rw[← HWA.out,← HWB.out,← HWC.out]
 refine wp_region_held (S:=fun W=>Below wb.heap.size wb W) (by kernel_rfl) ?_
 change wpAnyH _ _ _ _ _ _ _ _ (World.drew _)
 obtain ⟨W0,hW0⟩:∃ X,X=(wc).drew:=⟨_,rfl⟩
 rw[← hW0]
 have z0:Below (wc).heap.size (wc) W0:=by rw[hW0];exact Below.drewN_ (Below.refl _ _) 1
 clear hW0
 refine tkH (i:=0) (oi:=vsum1_0) (v:=.pointer (some ⟨w.heap.size,1,none⟩)) (by kernel_rfl) rfl (fun _ _ _ h=>h) ?_ (below_seq HCB.out z0) ?_
 ·intro w hSw;go_simp<;>first|omega|(intro hh;exfalso;omega)|rfl
 try simp only[Act.put,qa,qb,qc,vsum1_0]
 refine tkH (i:=1) (oi:=vsum1_1) (v:=.slice A1 k1 c1) (by kernel_rfl) rfl (fun _ _ _ h=>h) ?_ (below_seq HCB.out z0) ?_
 ·intro w hSw;obtain ⟨e0,e1,e2,e3,e4,e5⟩:=HS.out w hSw;go_simp<;>first|omega|(intro hh;exfalso;omega)|rfl
 try simp only[Act.put,qa,qb,qc,vsum1_1]
 refine tkH (i:=2) (oi:=vsum1_2) (v:=.pointer (some ⟨w.heap.size+1,2,none⟩)) (by kernel_rfl) rfl (fun _ _ _ h=>h) ?_ (below_seq HCB.out z0) ?_
 ·intro w hSw;go_simp<;>first|omega|(intro hh;exfalso;omega)|rfl
 try simp only[Act.put,qa,qb,qc,vsum1_2]
 refine tkH (i:=3) (oi:=vsum1_3) (v:=.slice A4 k4 c4) (by kernel_rfl) rfl (fun _ _ _ h=>h) ?_ (below_seq HCB.out z0) ?_
 ·intro w hSw;obtain ⟨e0,e1,e2,e3,e4,e5⟩:=HS.out w hSw;go_simp<;>first|omega|(intro hh;exfalso;omega)|rfl
 try simp only[Act.put,qa,qb,qc,vsum1_3]
 refine tkH (i:=5) (oi:=vsum1_5) (v:=.pointer (some ⟨w.heap.size+1,1,none⟩)) (by kernel_rfl) rfl (fun _ _ _ h=>h) ?_ (below_seq HCB.out z0) ?_
 ·intro w hSw;go_simp<;>first|omega|(intro hh;exfalso;omega)|rfl
 try simp only[Act.put,qa,qb,qc,vsum1_5]
 refine tkH (i:=6) (oi:=vsum1_6) (v:=.slice A3 k3 c3) (by kernel_rfl) rfl (fun _ _ _ h=>h) ?_ (below_seq HCB.out z0) ?_
 ·intro w hSw;obtain ⟨e0,e1,e2,e3,e4,e5⟩:=HS.out w hSw;go_simp<;>first|omega|(intro hh;exfalso;omega)|rfl
 try simp only[Act.put,qa,qb,qc,vsum1_6]
 refine tkH (i:=7) (oi:=vsum1_7) (v:=.pointer (some ⟨w.heap.size,2,none⟩)) (by kernel_rfl) rfl (fun _ _ _ h=>h) ?_ (below_seq HCB.out z0) ?_
 ·intro w hSw;go_simp<;>first|omega|(intro hh;exfalso;omega)|rfl
 try simp only[Act.put,qa,qb,qc,vsum1_7]
 refine tkH (i:=8) (oi:=vsum1_8) (v:=.slice A2 k2 c2) (by kernel_rfl) rfl (fun _ _ _ h=>h) ?_ (below_seq HCB.out z0) ?_
 ·intro w hSw;obtain ⟨e0,e1,e2,e3,e4,e5⟩:=HS.out w hSw;go_simp<;>first|omega|(intro hh;exfalso;omega)|rfl
 try simp only[Act.put,qa,qb,qc,vsum1_8]
 refine oneH (i:=4) (o:=vsum1_4) (by kernel_rfl) rfl ?_
 intro K hK
 simp only[vsum1_4]
 go_simp
 go_at_call 108
 refine (CX.out _ z0).mono ?_
 rintro e' Wx ⟨vx,rfl,hx,bx⟩
 have zx:=below_seq z0 bx
 refine hK.out _ _ (below_seq HCB.out zx) (fun hHeld=>?_)
 clear hK K hHeld
 try simp only[Act.put,qa,qb,qc]
 refine oneH (i:=9) (o:=vsum1_9) (by kernel_rfl) rfl ?_
 intro K hK
 simp only[vsum1_9]
 go_simp
 go_at_call 108
 refine (CY.out _ zx).mono ?_
 rintro e' Wy ⟨vy,rfl,hy,byy⟩
 have zy:=below_seq zx byy
 refine hK.out _ _ (below_seq HCB.out zy) (fun hHeld=>?_)
 clear hK K hHeld
 try simp only[Act.put,qa,qb,qc]
 refine tkH (i:=10) (oi:=vsum1_10) (v:=vx) (by kernel_rfl) rfl (fun _ _ _ h=>h) ?_ (below_seq HCB.out zy) ?_
 ·intro w hSw;go_simp<;>first|omega|(intro hh;exfalso;omega)|rfl
 try simp only[Act.put,qa,qb,qc,vsum1_10]
 refine tkH (i:=11) (oi:=vsum1_11) (v:=vy) (by kernel_rfl) rfl (fun _ _ _ h=>h) ?_ (below_seq HCB.out zy) ?_
 ·intro w hSw;go_simp<;>first|omega|(intro hh;exfalso;omega)|rfl
 try simp only[Act.put,qa,qb,qc,vsum1_11]
 refine wpAnyH_done (by kernel_rfl) ?_ _
 obtain ⟨P1,c7,e7,_⟩:=hx.open_
 obtain ⟨P2,c8,e8,_⟩:=hy.open_
 subst e7
 subst e8
 have HVX:Hid (RefN Wy (.slice P1 (tdg x).length c7) x):=Lib.hid (by first|exact hx|exact hx.keep byy)
 have HVY:Hid (RefN Wy (.slice P2 (tdg y).length c8) y):=Lib.hid (by first|exact hy|exact hy.keep bx)
 clear hx hy
 obtain ⟨s0,s1,s2,s3,s4,s5⟩:=HS.out _ (below_seq HCB.out zy)
 go_wp2_with fail
 go_at_call 108
 refine (CD.out _ zy).mono ?_
 rintro e' W3 ⟨v3,rfl,h3,b3⟩
 have z3:=below_seq zy b3
 obtain ⟨P3,c9,e9,_⟩:=h3.open_
 subst e9
 replace HVX:=Lib.hid (HVX.out.keep b3)
 replace HVY:=Lib.hid (HVY.out.keep b3)
 have HVD:=Lib.hid h3
 clear h3 s0 s1 s2 s3 s4 s5
 obtain ⟨s0,s1,s2,s3,s4,s5⟩:=HS.out _ (below_seq HCB.out z3)
 go_wp2_with fail
 ·have hpq:p=q:=by
   have:(p == q)=true:=by assumption
   simpa using this
  have hM1:M=x+y:=by rw[HM.out];unfold sumN;rw[if_pos hpq]
  have hS1:sumS p q x y=p:=by unfold sumS;rw[if_pos hpq]
  subst hpq
  have HCA:Hid (∀ W,Below W3.heap.size W3 W→Calls Tryz.prog 109 #[.slice P1 (tdg x).length c7,.slice P2 (tdg y).length c8] W (Gives (fun t w'=>RefN w' t M) W)):=Lib.hid fun W h=>by
   rw[hM1];exact ref_Add W _ _ x y (HVX.out.keep h) (HVY.out.keep h) (Nat.le_trans HXL.out (by decide)) (Nat.le_trans HYL.out (by decide))
  have HFR:Hid (∀ W x z,RefN W x M→RefN W z (d*e)→Calls Tryz.prog 37 #[.bool p,x,z] W (Gives (fun t w'=>RefQ w' t sg M (d*e)) W)):=Lib.hid fun W x z hx hz=>by
   rw[HSG.out,hS1];exact ref_Frac W p x z _ _ hx hz
  clear hS1 hM1 s0 s1 s2 s3 s4 s5
  refine wp_region_held (S:=fun W=>Below wb.heap.size wb W) (by kernel_rfl) ?_
  change wpAnyH _ _ _ _ _ _ _ _ (World.drew _)
  obtain ⟨W4,hW4⟩:∃ X,X=(W3).drew:=⟨_,rfl⟩
  rw[← hW4]
  have y4:Below (W3).heap.size (W3) W4:=by rw[hW4];exact Below.drewN_ (Below.refl _ _) 1
  clear hW4
  have z4:=below_seq z3 y4
  refine tkH (i:=0) (oi:=vsum4_0) (v:=.pointer (some ⟨w.heap.size,0,none⟩)) (by kernel_rfl) rfl (fun _ _ _ h=>h) ?_ (below_seq HCB.out z4) ?_
  ·intro w hSw;go_simp<;>first|omega|(intro hh;exfalso;omega)|rfl
  try simp only[Act.put,qa,qb,qc,vsum4_0]
  refine tkH (i:=1) (oi:=vsum4_1) (v:=.bool p) (by kernel_rfl) rfl (fun _ _ _ h=>h) ?_ (below_seq HCB.out z4) ?_
  ·intro w hSw;obtain ⟨e0,e1,e2,e3,e4,e5⟩:=HS.out w hSw;go_simp<;>first|omega|(intro hh;exfalso;omega)|rfl
  try simp only[Act.put,qa,qb,qc,vsum4_1]
  refine tkH (i:=2) (oi:=vsum4_2) (v:=.slice P1 (tdg x).length c7) (by kernel_rfl) rfl (fun _ _ _ h=>h) ?_ (below_seq HCB.out z4) ?_
  ·intro w hSw;go_simp<;>first|omega|(intro hh;exfalso;omega)|rfl
  try simp only[Act.put,qa,qb,qc,vsum4_2]
  refine tkH (i:=3) (oi:=vsum4_3) (v:=.slice P2 (tdg y).length c8) (by kernel_rfl) rfl (fun _ _ _ h=>h) ?_ (below_seq HCB.out z4) ?_
  ·intro w hSw;go_simp<;>first|omega|(intro hh;exfalso;omega)|rfl
  try simp only[Act.put,qa,qb,qc,vsum4_3]
  refine tkH (i:=5) (oi:=vsum4_5) (v:=.slice P3 (tdg (d*e)).length c9) (by kernel_rfl) rfl (fun _ _ _ h=>h) ?_ (below_seq HCB.out z4) ?_
  ·intro w hSw;go_simp<;>first|omega|(intro hh;exfalso;omega)|rfl
  try simp only[Act.put,qa,qb,qc,vsum4_5]
  refine oneH (i:=4) (o:=vsum4_4) (by kernel_rfl) rfl ?_
  intro K hK
  simp only[vsum4_4]
  go_simp
  go_at_call 109
  refine (HCA.out W4 y4).mono ?_
  rintro e' W5 ⟨v5,rfl,h5,b5⟩
  have z5:=below_seq z4 b5
  refine hK.out _ _ (below_seq HCB.out z5) (fun hHeld=>?_)
  clear hK K hHeld
  try simp only[Act.put,qa,qb,qc]
  refine oneH (i:=6) (o:=vsum4_6) (by kernel_rfl) rfl ?_
  intro K hK
  simp only[vsum4_6]
  go_simp
  go_at_call 37
  refine (HFR.out W5 _ _ h5 ((HVD.out.keep y4).keep b5)).mono ?_
  rintro e' W6 ⟨x6,rfl,h6,b6⟩
  have z6:=below_seq z5 b6
  obtain ⟨B1,g1,B2,g2,rfl,hn3,hd3,hs3⟩:=h6.open_
  refine hK.out _ _ (below_seq HCB.out z6) (fun hHeld=>?_)
  clear hK K hHeld
  try simp only[Act.put,qa,qb,qc]
  refine oneH (i:=7) (o:=vsum4_7) (by kernel_rfl) rfl ?_
  intro K hK
  simp only[vsum4_7]
  obtain ⟨w9,hw9,hrow9,hb9,q0,q1,q2,f0,f1,f2⟩:=qput (.bool sg) (.slice B1 (tdg M).length g1) (.slice B2 (tdg (d*e)).length g2) (HRC.out.keep z6) (HBC.out.trans (z6.mono HBC.out.size)) (by omega)
  have hO:Only (w.heap.size+1+1) W6 w9:=by rw[hw9];exact (((Only.refl _ _).setCell 0 _).setCell 1 _).setCell 2 _
  have S9:Below wb.heap.size wb w9:=(below_seq HCB.out z6).trans (hO.below (by have:=HWB0.out.2;omega))
  have hcs:=qrow_far false (.slice none 0 0) (.slice none 0 0) (fun _ _ h=>by cases h) (fun _ _ h=>by cases h)
  have hn9:=Ints.rowfar hn3 (HRC.out.keep z6) (hcs _) hO
  have hd9:=Ints.rowfar hd3 (HRC.out.keep z6) (hcs _) hO
  have HW9:=Lib.hid hw9;have HR9:=Lib.hid hrow9;have HN9:=Lib.hid hn9;have HD9:=Lib.hid hd9;have HS3:=Lib.hid hs3
  clear hw9 hrow9 hn9 hd9 hn3 hd3 hs3 hO hcs
  go_simp
  rw[← HW9.out]
  clear q0 q1 q2 f0 f1 f2
  refine hK.out _ _ (S9) (fun hHeld=>?_)
  clear hK K hHeld
  try simp only[Act.put,qa,qb,qc]
  refine wpAnyH_done (by kernel_rfl) ?_ _
  go_wp2_with fail
  refine bodyPost_ret (v:=.agg #[.bool sg,.slice B1 (tdg M).length g1,.slice B2 (tdg (d*e)).length g2]) (results_cell_row (p:=4) (ty:=49) Tryz.results40 _ _ (w.heap.size+1+1) 49 #[.bool sg,.slice B1 (tdg M).length g1,.slice B2 (tdg (d*e)).length g2] (0,0) _ (by simp[go_sem]) HR9.out Tryz.underlying49 rfl hsz) rfl ?_
  exact ⟨_,rfl,⟨_,_,rfl,HN9.out,HD9.out,HS3.out⟩,hb9⟩
 ·have hpq:¬ p=q:=by
   have:(p == q)=false:=by assumption
   simpa using this
  go_at_call 38
  refine (ref_Cmp W3 _ _ x y HVX.out HVY.out (Nat.le_trans HXL.out (by decide)) (Nat.le_trans HYL.out (by decide))).mono ?_
  rintro e' W' ⟨rfl,rfl⟩
  obtain ⟨cm,hcm⟩:∃ cm,cm=cmpI x y:=⟨_,rfl⟩
  rw[← hcm]
  have HCMN:Hid ((0≤cm→y≤x)∧(cm<0→x<y)):=Lib.hid (by rw[hcm];unfold cmpI;split<;>(try split)<;>omega)
  clear hcm
  go_wp2_with fail
  ·have hle:y≤x:=by
    have:=HCMN.out
    omega
   have hM1:M=x - y:=by
    rw[HM.out];unfold sumN;rw[if_neg hpq];rw[if_pos hle]
   have hS1:sumS p q x y=p:=by
    unfold sumS;rw[if_neg hpq];rw[if_pos hle]
   have h0:x≠0:=by
    have k1:=HX0.out;have k2:=HY0.out
    cases p<;>cases q<;>simp at hpq k1 k2<;>omega
   have HCA:Hid (∀ W,Below W3.heap.size W3 W→Calls Tryz.prog 110 #[.slice P1 (tdg x).length c7,.slice P2 (tdg y).length c8] W (Gives (fun t w'=>RefN w' t M) W)):=Lib.hid fun W h=>by
    rw[hM1];exact ref_Sub W _ _ x y (HVX.out.keep h) (HVY.out.keep h) (Nat.le_trans HXL.out (by decide)) h0 (by omega)
   have HFR:Hid (∀ W x z,RefN W x M→RefN W z (d*e)→Calls Tryz.prog 37 #[.bool p,x,z] W (Gives (fun t w'=>RefQ w' t sg M (d*e)) W)):=Lib.hid fun W x z hx hz=>by
    rw[HSG.out,hS1];exact ref_Frac W p x z _ _ hx hz
   clear hS1 hM1 s0 s1 s2 s3 s4 s5
   refine wp_region_held (S:=fun W=>Below wb.heap.size wb W) (by kernel_rfl) ?_
   change wpAnyH _ _ _ _ _ _ _ _ (World.drew _)
   obtain ⟨W4,hW4⟩:∃ X,X=(W3).drew:=⟨_,rfl⟩
   rw[← hW4]
   have y4:Below (W3).heap.size (W3) W4:=by rw[hW4];exact Below.drewN_ (Below.refl _ _) 1
   clear hW4
   have z4:=below_seq z3 y4
   refine tkH (i:=0) (oi:=vsum6_0) (v:=.pointer (some ⟨w.heap.size,0,none⟩)) (by kernel_rfl) rfl (fun _ _ _ h=>h) ?_ (below_seq HCB.out z4) ?_
   ·intro w hSw;go_simp<;>first|omega|(intro hh;exfalso;omega)|rfl
   try simp only[Act.put,qa,qb,qc,vsum6_0]
   refine tkH (i:=1) (oi:=vsum6_1) (v:=.bool p) (by kernel_rfl) rfl (fun _ _ _ h=>h) ?_ (below_seq HCB.out z4) ?_
   ·intro w hSw;obtain ⟨e0,e1,e2,e3,e4,e5⟩:=HS.out w hSw;go_simp<;>first|omega|(intro hh;exfalso;omega)|rfl
   try simp only[Act.put,qa,qb,qc,vsum6_1]
   refine tkH (i:=2) (oi:=vsum6_2) (v:=.slice P1 (tdg x).length c7) (by kernel_rfl) rfl (fun _ _ _ h=>h) ?_ (below_seq HCB.out z4) ?_
   ·intro w hSw;go_simp<;>first|omega|(intro hh;exfalso;omega)|rfl
   try simp only[Act.put,qa,qb,qc,vsum6_2]
   refine tkH (i:=3) (oi:=vsum6_3) (v:=.slice P2 (tdg y).length c8) (by kernel_rfl) rfl (fun _ _ _ h=>h) ?_ (below_seq HCB.out z4) ?_
   ·intro w hSw;go_simp<;>first|omega|(intro hh;exfalso;omega)|rfl
   try simp only[Act.put,qa,qb,qc,vsum6_3]
   refine tkH (i:=5) (oi:=vsum6_5) (v:=.slice P3 (tdg (d*e)).length c9) (by kernel_rfl) rfl (fun _ _ _ h=>h) ?_ (below_seq HCB.out z4) ?_
   ·intro w hSw;go_simp<;>first|omega|(intro hh;exfalso;omega)|rfl
   try simp only[Act.put,qa,qb,qc,vsum6_5]
   refine oneH (i:=4) (o:=vsum6_4) (by kernel_rfl) rfl ?_
   intro K hK
   simp only[vsum6_4]
   go_simp
   go_at_call 110
   refine (HCA.out W4 y4).mono ?_
   rintro e' W5 ⟨v5,rfl,h5,b5⟩
   have z5:=below_seq z4 b5
   refine hK.out _ _ (below_seq HCB.out z5) (fun hHeld=>?_)
   clear hK K hHeld
   try simp only[Act.put,qa,qb,qc]
   refine oneH (i:=6) (o:=vsum6_6) (by kernel_rfl) rfl ?_
   intro K hK
   simp only[vsum6_6]
   go_simp
   go_at_call 37
   refine (HFR.out W5 _ _ h5 ((HVD.out.keep y4).keep b5)).mono ?_
   rintro e' W6 ⟨x6,rfl,h6,b6⟩
   have z6:=below_seq z5 b6
   obtain ⟨B1,g1,B2,g2,rfl,hn3,hd3,hs3⟩:=h6.open_
   refine hK.out _ _ (below_seq HCB.out z6) (fun hHeld=>?_)
   clear hK K hHeld
   try simp only[Act.put,qa,qb,qc]
   refine oneH (i:=7) (o:=vsum6_7) (by kernel_rfl) rfl ?_
   intro K hK
   simp only[vsum6_7]
   obtain ⟨w9,hw9,hrow9,hb9,q0,q1,q2,f0,f1,f2⟩:=qput (.bool sg) (.slice B1 (tdg M).length g1) (.slice B2 (tdg (d*e)).length g2) (HRC.out.keep z6) (HBC.out.trans (z6.mono HBC.out.size)) (by omega)
   have hO:Only (w.heap.size+1+1) W6 w9:=by rw[hw9];exact (((Only.refl _ _).setCell 0 _).setCell 1 _).setCell 2 _
   have S9:Below wb.heap.size wb w9:=(below_seq HCB.out z6).trans (hO.below (by have:=HWB0.out.2;omega))
   have hcs:=qrow_far false (.slice none 0 0) (.slice none 0 0) (fun _ _ h=>by cases h) (fun _ _ h=>by cases h)
   have hn9:=Ints.rowfar hn3 (HRC.out.keep z6) (hcs _) hO
   have hd9:=Ints.rowfar hd3 (HRC.out.keep z6) (hcs _) hO
   have HW9:=Lib.hid hw9;have HR9:=Lib.hid hrow9;have HN9:=Lib.hid hn9;have HD9:=Lib.hid hd9;have HS3:=Lib.hid hs3
   clear hw9 hrow9 hn9 hd9 hn3 hd3 hs3 hO hcs
   go_simp
   rw[← HW9.out]
   clear q0 q1 q2 f0 f1 f2
   refine hK.out _ _ (S9) (fun hHeld=>?_)
   clear hK K hHeld
   try simp only[Act.put,qa,qb,qc]
   refine wpAnyH_done (by kernel_rfl) ?_ _
   go_wp2_with fail
   refine bodyPost_ret (v:=.agg #[.bool sg,.slice B1 (tdg M).length g1,.slice B2 (tdg (d*e)).length g2]) (results_cell_row (p:=4) (ty:=49) Tryz.results40 _ _ (w.heap.size+1+1) 49 #[.bool sg,.slice B1 (tdg M).length g1,.slice B2 (tdg (d*e)).length g2] (0,0) _ (by simp[go_sem]) HR9.out Tryz.underlying49 rfl hsz) rfl ?_
   exact ⟨_,rfl,⟨_,_,rfl,HN9.out,HD9.out,HS3.out⟩,hb9⟩
  ·have hle:x<y:=by
    have:=HCMN.out
    omega
   have hM1:M=y - x:=by
    rw[HM.out];unfold sumN;rw[if_neg hpq];rw[if_neg (by omega)]
   have hS1:sumS p q x y=q:=by
    unfold sumS;rw[if_neg hpq];rw[if_neg (by omega)]
   have h0:y≠0:=by
    have k1:=HX0.out;have k2:=HY0.out
    cases p<;>cases q<;>simp at hpq k1 k2<;>omega
   have HCA:Hid (∀ W,Below W3.heap.size W3 W→Calls Tryz.prog 110 #[.slice P2 (tdg y).length c8,.slice P1 (tdg x).length c7] W (Gives (fun t w'=>RefN w' t M) W)):=Lib.hid fun W h=>by
    rw[hM1];exact ref_Sub W _ _ y x (HVY.out.keep h) (HVX.out.keep h) (Nat.le_trans HYL.out (by decide)) h0 (by omega)
   have HFR:Hid (∀ W x z,RefN W x M→RefN W z (d*e)→Calls Tryz.prog 37 #[.bool q,x,z] W (Gives (fun t w'=>RefQ w' t sg M (d*e)) W)):=Lib.hid fun W x z hx hz=>by
    rw[HSG.out,hS1];exact ref_Frac W q x z _ _ hx hz
   clear hS1 hM1 s0 s1 s2 s3 s4 s5
   refine wp_region_held (S:=fun W=>Below wb.heap.size wb W) (by kernel_rfl) ?_
   change wpAnyH _ _ _ _ _ _ _ _ (World.drew _)
   obtain ⟨W4,hW4⟩:∃ X,X=(W3).drew:=⟨_,rfl⟩
   rw[← hW4]
   have y4:Below (W3).heap.size (W3) W4:=by rw[hW4];exact Below.drewN_ (Below.refl _ _) 1
   clear hW4
   have z4:=below_seq z3 y4
   refine tkH (i:=0) (oi:=vsum7_0) (v:=.pointer (some ⟨w.heap.size+1,0,none⟩)) (by kernel_rfl) rfl (fun _ _ _ h=>h) ?_ (below_seq HCB.out z4) ?_
   ·intro w hSw;go_simp<;>first|omega|(intro hh;exfalso;omega)|rfl
   try simp only[Act.put,qa,qb,qc,vsum7_0]
   refine tkH (i:=1) (oi:=vsum7_1) (v:=.bool q) (by kernel_rfl) rfl (fun _ _ _ h=>h) ?_ (below_seq HCB.out z4) ?_
   ·intro w hSw;obtain ⟨e0,e1,e2,e3,e4,e5⟩:=HS.out w hSw;go_simp<;>first|omega|(intro hh;exfalso;omega)|rfl
   try simp only[Act.put,qa,qb,qc,vsum7_1]
   refine tkH (i:=2) (oi:=vsum7_2) (v:=.slice P2 (tdg y).length c8) (by kernel_rfl) rfl (fun _ _ _ h=>h) ?_ (below_seq HCB.out z4) ?_
   ·intro w hSw;go_simp<;>first|omega|(intro hh;exfalso;omega)|rfl
   try simp only[Act.put,qa,qb,qc,vsum7_2]
   refine tkH (i:=3) (oi:=vsum7_3) (v:=.slice P1 (tdg x).length c7) (by kernel_rfl) rfl (fun _ _ _ h=>h) ?_ (below_seq HCB.out z4) ?_
   ·intro w hSw;go_simp<;>first|omega|(intro hh;exfalso;omega)|rfl
   try simp only[Act.put,qa,qb,qc,vsum7_3]
   refine tkH (i:=5) (oi:=vsum7_5) (v:=.slice P3 (tdg (d*e)).length c9) (by kernel_rfl) rfl (fun _ _ _ h=>h) ?_ (below_seq HCB.out z4) ?_
   ·intro w hSw;go_simp<;>first|omega|(intro hh;exfalso;omega)|rfl
   try simp only[Act.put,qa,qb,qc,vsum7_5]
   refine oneH (i:=4) (o:=vsum7_4) (by kernel_rfl) rfl ?_
   intro K hK
   simp only[vsum7_4]
   go_simp
   go_at_call 110
   refine (HCA.out W4 y4).mono ?_
   rintro e' W5 ⟨v5,rfl,h5,b5⟩
   have z5:=below_seq z4 b5
   refine hK.out _ _ (below_seq HCB.out z5) (fun hHeld=>?_)
   clear hK K hHeld
   try simp only[Act.put,qa,qb,qc]
   refine oneH (i:=6) (o:=vsum7_6) (by kernel_rfl) rfl ?_
   intro K hK
   simp only[vsum7_6]
   go_simp
   go_at_call 37
   refine (HFR.out W5 _ _ h5 ((HVD.out.keep y4).keep b5)).mono ?_
   rintro e' W6 ⟨x6,rfl,h6,b6⟩
   have z6:=below_seq z5 b6
   obtain ⟨B1,g1,B2,g2,rfl,hn3,hd3,hs3⟩:=h6.open_
   refine hK.out _ _ (below_seq HCB.out z6) (fun hHeld=>?_)
   clear hK K hHeld
   try simp only[Act.put,qa,qb,qc]
   refine oneH (i:=7) (o:=vsum7_7) (by kernel_rfl) rfl ?_
   intro K hK
   simp only[vsum7_7]
   obtain ⟨w9,hw9,hrow9,hb9,q0,q1,q2,f0,f1,f2⟩:=qput (.bool sg) (.slice B1 (tdg M).length g1) (.slice B2 (tdg (d*e)).length g2) (HRC.out.keep z6) (HBC.out.trans (z6.mono HBC.out.size)) (by omega)
   have hO:Only (w.heap.size+1+1) W6 w9:=by rw[hw9];exact (((Only.refl _ _).setCell 0 _).setCell 1 _).setCell 2 _
   have S9:Below wb.heap.size wb w9:=(below_seq HCB.out z6).trans (hO.below (by have:=HWB0.out.2;omega))
   have hcs:=qrow_far false (.slice none 0 0) (.slice none 0 0) (fun _ _ h=>by cases h) (fun _ _ h=>by cases h)
   have hn9:=Ints.rowfar hn3 (HRC.out.keep z6) (hcs _) hO
   have hd9:=Ints.rowfar hd3 (HRC.out.keep z6) (hcs _) hO
   have HW9:=Lib.hid hw9;have HR9:=Lib.hid hrow9;have HN9:=Lib.hid hn9;have HD9:=Lib.hid hd9;have HS3:=Lib.hid hs3
   clear hw9 hrow9 hn9 hd9 hn3 hd3 hs3 hO hcs
   go_simp
   rw[← HW9.out]
   clear q0 q1 q2 f0 f1 f2
   refine hK.out _ _ (S9) (fun hHeld=>?_)
   clear hK K hHeld
   try simp only[Act.put,qa,qb,qc]
   refine wpAnyH_done (by kernel_rfl) ?_ _
   go_wp2_with fail
   refine bodyPost_ret (v:=.agg #[.bool sg,.slice B1 (tdg M).length g1,.slice B2 (tdg (d*e)).length g2]) (results_cell_row (p:=4) (ty:=49) Tryz.results40 _ _ (w.heap.size+1+1) 49 #[.bool sg,.slice B1 (tdg M).length g1,.slice B2 (tdg (d*e)).length g2] (0,0) _ (by simp[go_sem]) HR9.out Tryz.underlying49 rfl hsz) rfl ?_
   exact ⟨_,rfl,⟨_,_,rfl,HN9.out,HD9.out,HS3.out⟩,hb9⟩
end Go.Proofs.YtbdfhnelmojbpaaGreatDoor
end
section
namespace Vic
open Go Go.RowKit
theorem FracPtr.cells {w w':World}{v:Value}{q:Rat}(h:FracPtr w v q) (hs:∀ b o u,w.cell? ⟨b,o,none⟩=some u→w'.cell? ⟨b,o,none⟩=some u) (hnb:∀ b,NatBlk w b→NatBlk w' b):FracPtr w' v q:=by
 have hn:∀ {v:Value}{n:Nat},NatPtr w v n→NatPtr w' v n:=by
  rintro v n ⟨b,s,h1,h2,⟨A,c,h3,h4,h5⟩,hbk⟩
  refine ⟨b,s,h1,hs _ _ _ h2,⟨A,c,h3,h4,fun i hi=>?_⟩,hnb b hbk⟩
  obtain ⟨b',o',h6,h7⟩:=h5 i hi
  exact ⟨b',o',h6,hs _ _ _ h7⟩
 obtain ⟨b,pn,pd,h1,h2,h3,h4,h5,h6⟩:=h
 refine ⟨b,pn,pd,h1,hs _ _ _ h2,hs _ _ _ h3,hs _ _ _ h4,?_,hn h6⟩
 rcases h5 with h5|h5
 ·exact .inl h5
 ·exact .inr (hn h5)
end Vic
namespace Go.Proofs.YtbdfhnelmojbpaaGreatDoor
open Go.RowKit Vic
end Go.Proofs.YtbdfhnelmojbpaaGreatDoor
end
section
namespace Vic
open Go Go.RowKit
def RefIs (w:World) (v:Value) (q:Rat) (L:Nat):Prop:=∃ ng n d,RefQ w v ng n d∧d≠0∧quo ng n d=q∧(tdg n).length≤L∧(tdg d).length≤L
theorem RefIs.keep {w w':World}{v:Value}{q:Rat}{L:Nat}(h:RefIs w v q L) (hb:Below w.heap.size w w'):RefIs w' v q L:=by
 obtain ⟨ng,n,d,h1,h2⟩:=h
 exact ⟨ng,n,d,h1.keep hb,h2⟩
theorem RefIs.mono {w:World}{v:Value}{q:Rat}{L M:Nat}(h:RefIs w v q L) (hm:L≤M):RefIs w v q M:=by
 obtain ⟨ng,n,d,h1,h2,h3,h4,h5⟩:=h
 exact ⟨ng,n,d,h1,h2,h3,Nat.le_trans h4 hm,Nat.le_trans h5 hm⟩
theorem RefIs.shape {w:World}{v:Value}{q:Rat}{L:Nat}(h:RefIs w v q L):∃ ng A m c B k e,v=.agg #[.bool ng,.slice A m c,.slice B k e]:=by
 obtain ⟨ng,n,d,h1,_⟩:=h
 obtain ⟨A1,c1,A2,c2,rfl,_⟩:=h1.open_
 exact ⟨_,_,_,_,_,_,_,rfl⟩
theorem tdg_add_len (a b:Nat):(tdg (a+b)).length≤max (tdg a).length (tdg b).length+1:=by
 have h1:a<10000 ^ (tdg a).length:=lt_pow_digs_length (B:=10000) (by omega) a
 have h2:b<10000 ^ (tdg b).length:=lt_pow_digs_length (B:=10000) (by omega) b
 apply tdg_len
 have h3:(10000:Nat) ^ (tdg a).length≤10000 ^ max (tdg a).length (tdg b).length:=Nat.pow_le_pow_right (by omega) (Nat.le_max_left _ _)
 have h4:(10000:Nat) ^ (tdg b).length≤10000 ^ max (tdg a).length (tdg b).length:=Nat.pow_le_pow_right (by omega) (Nat.le_max_right _ _)
 rw[Nat.pow_succ]
 omega
theorem sumN_le (p q:Bool) (x y:Nat):sumN p q x y≤x+y:=by unfold sumN;split<;>(try split)<;>omega
theorem quo_and {p:Bool}{n d:Nat}:quo (p && decide (n≠0)) n d=quo p n d:=by
 by_cases h:n=0
 ·subst h;cases p<;>simp[quo,sgn]
 ·simp[h]
theorem mk_sum (p q:Bool) (n d m e:Nat) (hd:d≠0) (he:e≠0):quo (sumS p q (n*e) (m*d)) (sumN p q (n*e) (m*d)) (d*e)=quo p n d+quo q m e:=by
 unfold quo
 rw[sum_sgn,Rat.mkRat_add_mkRat _ _ hd he]
 congr 1
 cases p<;>cases q<;>simp[sgn,Int.natCast_mul,Int.neg_mul]
def GivesQ (q:Rat) (L:Nat) (w:World) (e:Ending) (w':World):Prop:=∃ x,e=.returned x∧RefIs w' x q L∧Below w.heap.size w w'
end Vic
namespace Go.Proofs.YtbdfhnelmojbpaaGreatDoor
open Go.RowKit Vic
theorem refq_Sum (w:World) (u v:Value) (x y:Rat) (L M:Nat) (hu:RefIs w u x L) (hv:RefIs w v y M) (hL:L≤100000) (hM:M≤100000):Calls Tryz.prog 40 #[u,v] w (GivesQ (x+y) (L+M+1) w):=by
 obtain ⟨p,n,d,h1,h2,rfl,h4,h5⟩:=hu
 obtain ⟨q,m,e,k1,k2,rfl,k4,k5⟩:=hv
 refine (ref_Sum w u v p q n d m e h1 k1 h2 k2 (by omega) (by omega) (by omega) (by omega)).mono ?_
 rintro _ w' ⟨z,rfl,hz,hb⟩
 refine ⟨z,rfl,⟨_,_,_,hz,Nat.mul_ne_zero h2 k2,?_,?_,?_⟩,hb⟩
 ·rw[quo_and];exact mk_sum p q n d m e h2 k2
 ·have a1:=tdg_mul_len n e
  have a2:=tdg_mul_len m d
  have a3:=tdg_add_len (n*e) (m*d)
  exact Nat.le_trans (tdg_le (sumN_le _ _ _ _)) (by omega)
 ·have a1:=tdg_mul_len d e;omega
theorem refq_got {l:List UInt8}{w w':World}{e:Ending}(h:RefGotQ l w e w') (hg:FracGood l):∃ x,e=.returned (.tuple #[x,.bool true])∧RefIs w' x (fracOf l) 600∧Below w.heap.size w w':=by
 obtain ⟨v,b,rfl,hb,(⟨_,hno,_⟩|⟨rfl,_,ng,n,d,h1,h2,h3,h4,h5⟩)⟩:=h
 ·exact absurd hg hno
 ·exact ⟨v,rfl,⟨ng,n,d,h1,h2,h3,h4,h5⟩,hb⟩
end Go.Proofs.YtbdfhnelmojbpaaGreatDoor
end
section
namespace Vic
open Go Go.RowKit
theorem quo_not {p:Bool}{n d:Nat}:quo (!p) n d=-quo p n d:=by
 unfold quo sgn
 rw[Rat.neg_mkRat]
 cases p<;>simp
theorem quo_sign {p:Bool}{n d:Nat}(hd:d≠0):signI (quo p n d)=if n=0 then 0 else if p then -1 else 1:=by
 unfold signI
 rw[quo_num hd]
 by_cases hn:n=0
 ·subst hn;cases p<;>simp[sgn]
 ·have hg:0<n / Nat.gcd n d:=Nat.div_pos (Nat.le_of_dvd (by omega) (Nat.gcd_dvd_left _ _)) (Nat.gcd_pos_of_pos_left _ (by omega))
  rw[if_neg hn]
  generalize n / Nat.gcd n d=q at *
  unfold sgn
  cases p
  ·simp only[Bool.false_eq_true,if_false]
   rw[if_neg (by omega),if_neg (by omega)]
  ·simp only[if_true]
   rw[if_pos (by omega)]
end Vic
namespace Go.Proofs.YtbdfhnelmojbpaaGreatDoor
open Go.RowKit Vic
abbrev vord1_0:Oper:={ dst:=some 5,op:=Go.Op.load 49 (Go.Operand.tmp 2),type:=49,pos:="ref.go:306",after:=#[],guard:=none }
abbrev vord1_1:Oper:={ dst:=some 6,op:=Go.Op.load 49 (Go.Operand.tmp 3),type:=49,pos:="ref.go:306",after:=#[],guard:=none }
abbrev vord1_2:Oper:={ dst:=some 7,op:=Go.Op.call { callee:=Go.Callee.value (Go.Operand.func 41),args:=#[Go.Operand.tmp 6],argTypes:=#[49] },type:=49,pos:="ref.go:306",after:=#[{ on:=1,ground:=Go.Ground.data }],guard:=none }
abbrev vord1_3:Oper:={ dst:=some 8,op:=Go.Op.call { callee:=Go.Callee.value (Go.Operand.func 40),args:=#[Go.Operand.tmp 5,Go.Operand.tmp 7],argTypes:=#[49,49] },type:=49,pos:="ref.go:306",after:=#[{ on:=0,ground:=Go.Ground.data },{ on:=2,ground:=Go.Ground.data },{ on:=2,ground:=Go.Ground.chain }],guard:=none }
abbrev vord1_4:Oper:={ dst:=some 9,op:=Go.Op.call { callee:=Go.Callee.value (Go.Operand.func 42),args:=#[Go.Operand.tmp 8],argTypes:=#[49] },type:=3,pos:="ref.go:306",after:=#[{ on:=3,ground:=Go.Ground.data },{ on:=3,ground:=Go.Ground.chain }],guard:=none }
abbrev vord1_5:Oper:={ dst:=some 4,op:=Go.Op.assign (Go.Operand.tmp 9),type:=3,pos:="ref.go:306",after:=#[{ on:=4,ground:=Go.Ground.data },{ on:=4,ground:=Go.Ground.chain },{ on:=0,ground:=Go.Ground.phase },{ on:=1,ground:=Go.Ground.phase },{ on:=2,ground:=Go.Ground.phase },{ on:=3,ground:=Go.Ground.phase },{ on:=4,ground:=Go.Ground.phase }],guard:=none }
set_option maxRecDepth 100000 in
set_option maxHeartbeats 4000000 in
theorem refq_Neg (w:World) (u:Value) (x:Rat) (L:Nat) (hu:RefIs w u x L):Calls Tryz.prog 41 #[u] w (GivesQ (-x) L w):=by
 obtain ⟨ng,n,d,h1,h2,h3,h4,h5⟩:=hu
 obtain ⟨A1,c1,A2,c2,rfl,hx,hy,hs⟩:=h1.open_
 have HX:=Lib.hid hx;have HY:=Lib.hid hy
 obtain ⟨k1,hk1⟩:∃ k1,k1=(tdg n).length:=⟨_,rfl⟩
 obtain ⟨k2,hk2⟩:∃ k2,k2=(tdg d).length:=⟨_,rfl⟩
 rw[← hk1]at HX ⊢
 rw[← hk2]at HY ⊢
 obtain ⟨w1,hw1⟩:∃ X,X=(w.alloc (.cells #[.bool ng,.slice A1 k1 c1,.slice A2 k2 c2] 49)).alloc (.cells #[.bool false,.slice none 0 0,.slice none 0 0] 49):=⟨_,rfl⟩
 have hb1:Below w.heap.size w w1:=by rw[hw1];exact ((Below.refl _ _).alloc (Nat.le_refl _) _).alloc (by simp) _
 have ra:Row w1 w.heap.size 49 #[.bool ng,.slice A1 k1 c1,.slice A2 k2 c2]:=by rw[hw1];exact (Row.new _ _ _).alloc _
 have rb:Row w1 (w.heap.size+1) 49 #[.bool false,.slice none 0 0,.slice none 0 0]:=by
  have:=Row.new (w.alloc (.cells #[.bool ng,.slice A1 k1 c1,.slice A2 k2 c2] 49)) 49 #[.bool false,.slice none 0 0,.slice none 0 0]
  rw[World.size_alloc,← hw1]at this
  exact this
 have a0:w1.cell? ⟨w.heap.size,0,none⟩=some (.bool ng):=ra.cell 0
 have a1:w1.cell? ⟨w.heap.size,1,none⟩=some (.slice A1 k1 c1):=ra.cell 1
 have a2:w1.cell? ⟨w.heap.size,2,none⟩=some (.slice A2 k2 c2):=ra.cell 2
 have CF:Hid (Calls Tryz.prog 37 #[.bool (!ng),.slice A1 k1 c1,.slice A2 k2 c2] w1 (Gives (fun x w'=>RefQ w' x (!ng && decide (n≠0)) n d) w1)):=Lib.hid (ref_Frac w1 (!ng) _ _ n d (by rw[hk1]at *;exact hx.keep hb1) (by rw[hk2]at *;exact hy.keep hb1))
 have HB1:=Lib.hid hb1;have RB:=Lib.hid rb
 have HQ:Hid (quo (!ng && decide (n≠0)) n d=-x):=Lib.hid (by rw[quo_and,quo_not,h3])
 have H2:=Lib.hid h2;have H4:=Lib.hid h4;have H5:=Lib.hid h5
 have hsz:(Tryz.prog.info? 49).map (·.size)=some 3:=by kernel_rfl
 clear hx hy hs h1 h2 h3 h4 h5 hk1 hk2 hb1 ra rb
 go_enter Tryz.func41,Tryz.ntmps41
 go_upto_region 1 with fail
 try rw[← hw1]
 clear hw1
 obtain ⟨b,hb⟩:∃ b,b=w.heap.size:=⟨_,rfl⟩
 rw[← hb]at a0 a1 a2 RB ⊢
 have HBB:=Lib.hid hb
 clear hb
 go_wp2_with fail
 refine CF.out.mono ?_
 rintro e w2 ⟨v,rfl,hv,hb2⟩
 obtain ⟨A3,c3,A4,c4,rfl,hx,hy,hs⟩:=hv.open_
 obtain ⟨ng2,hng2⟩:∃ x,x=(!ng && decide (n≠0)):=⟨_,rfl⟩
 have hq2:=RB.out.keep hb2
 obtain ⟨k3,hk3⟩:∃ k,k=(tdg n).length:=⟨_,rfl⟩
 obtain ⟨k4,hk4⟩:∃ k,k=(tdg d).length:=⟨_,rfl⟩
 rw[← hng2]at HQ ⊢
 obtain ⟨w9,hw9,hrow9,hb9,q0,q1,q2,f0,f1,f2⟩:=qput (.bool ng2) (.slice A3 k3 c3) (.slice A4 k4 c4) hq2 (below_seq HB1.out hb2) (by have:=HBB.out;omega)
 have hO:Only (b+1) w2 w9:=by rw[hw9];exact (((Only.refl _ _).setCell 0 _).setCell 1 _).setCell 2 _
 have hcs:=qrow_far false (.slice none 0 0) (.slice none 0 0) (fun _ _ h=>by cases h) (fun _ _ h=>by cases h)
 have hn9:=Ints.rowfar hx hq2 (hcs _) hO
 have hd9:=Ints.rowfar hy hq2 (hcs _) hO
 rw[← hng2]at hs
 rw[← hk3]at hn9 ⊢
 rw[← hk4]at hd9 ⊢
 have HR9:=Lib.hid hrow9
 have HI9:Hid (RefIs w9 (.agg #[.bool ng2,.slice A3 k3 c3,.slice A4 k4 c4]) (-x) L):=Lib.hid ⟨ng2,n,d,⟨_,_,rfl,by unfold RefN;rw[hk3]at hn9 ⊢;exact hn9,by unfold RefN;rw[hk4]at hd9 ⊢;exact hd9,hs⟩,H2.out,HQ.out,H4.out,H5.out⟩
 have HB9:=Lib.hid hb9
 have HW9:=Lib.hid hw9
 clear hx hy hs hv hng2 hk3 hk4 hO hcs hn9 hd9 hw9 hrow9 hb9 hb2 hq2
 go_wp2_with fail
 rw[← HW9.out]
 refine bodyPost_ret (v:=.agg #[.bool ng2,.slice A3 k3 c3,.slice A4 k4 c4]) (results_cell_row (p:=2) (ty:=49) Tryz.results41 _ _ (b+1) 49 #[.bool ng2,.slice A3 k3 c3,.slice A4 k4 c4] (0,0) _ (by simp[go_sem]) HR9.out Tryz.underlying49 rfl hsz) rfl ?_
 exact ⟨_,rfl,HI9.out,HB9.out⟩
set_option maxRecDepth 100000 in
set_option maxHeartbeats 4000000 in
theorem refq_Sign (w:World) (u:Value) (x:Rat) (L:Nat) (hu:RefIs w u x L):Calls Tryz.prog 42 #[u] w (Keeps (.int .i64 (signI x)) w):=by
 obtain ⟨p,n,d,h1,h2,rfl,h4,h5⟩:=hu
 obtain ⟨A1,c1,A2,c2,rfl,hx,hy,hs⟩:=h1.open_
 rw[quo_sign h2]
 have e0:((tdg n).length:Int)=0↔n=0:=by
  constructor
  ·intro h
   have h3:(tdg n).length=0:=by omega
   exact (digs_eq_nil (B:=10000) (by omega)).1 (List.eq_nil_of_length_eq_zero h3)
  ·intro h;subst h;rw[show tdg 0 = []from digs_zero _];rfl
 obtain ⟨m1,hm1⟩:∃ m1,m1=(tdg n).length:=⟨_,rfl⟩
 obtain ⟨m2,hm2⟩:∃ m1,m1=(tdg d).length:=⟨_,rfl⟩
 rw[← hm1]at e0 ⊢
 rw[← hm2]
 clear hx hy hs h1 h4 h5 h2 hm1 hm2
 by_cases hn:n=0
 ·have hz:(m1:Int)=0:=e0.2 hn
  have hm0:m1=0:=by omega
  clear hz e0
  subst hn hm0
  go_enter Tryz.func42,Tryz.ntmps42
  go_wp2_with fail
  go_ret
  exact ⟨rfl,(Below.refl _ _).alloc (Nat.le_refl _) _⟩
 ·have hz:¬ (m1:Int)=0:=fun h=>hn (e0.1 h)
  have hz2:((m1:Int) == 0)=false:=by simp;omega
  have HN:=Lib.hid hn
  clear e0 hn
  cases p
  ·go_enter Tryz.func42,Tryz.ntmps42
   go_wp2_with fail
   go_ret
   exact ⟨rfl,(Below.refl _ _).alloc (Nat.le_refl _) _⟩
  ·go_enter Tryz.func42,Tryz.ntmps42
   go_wp2_with fail
   go_ret
   exact ⟨rfl,(Below.refl _ _).alloc (Nat.le_refl _) _⟩
set_option maxRecDepth 100000 in
set_option maxHeartbeats 4000000 in
theorem refq_Order (w:World) (u v:Value) (x y:Rat) (L M:Nat) (hu:RefIs w u x L) (hv:RefIs w v y M) (hL:L≤10000) (hM:M≤10000):Calls Tryz.prog 10 #[u,v] w (Keeps (.int .i64 (signI (x - y))) w):=by
 obtain ⟨p1,A1,m1,c1,B1,k1,e1,rfl⟩:=hu.shape
 obtain ⟨p2,A2,m2,c2,B2,k2,e2,rfl⟩:=hv.shape
 obtain ⟨w1,hw1⟩:∃ X,X=(w.alloc (.cells #[.bool p1,.slice A1 m1 c1,.slice B1 k1 e1] 49)).alloc (.cells #[.bool p2,.slice A2 m2 c2,.slice B2 k2 e2] 49):=⟨_,rfl⟩
 have hb1:Below w.heap.size w w1:=by rw[hw1];exact ((Below.refl _ _).alloc (Nat.le_refl _) _).alloc (by simp) _
 have ra:Row w1 w.heap.size 49 #[.bool p1,.slice A1 m1 c1,.slice B1 k1 e1]:=by rw[hw1];exact (Row.new _ _ _).alloc _
 have rb:Row w1 (w.heap.size+1) 49 #[.bool p2,.slice A2 m2 c2,.slice B2 k2 e2]:=by
  have:=Row.new (w.alloc (.cells #[.bool p1,.slice A1 m1 c1,.slice B1 k1 e1] 49)) 49 #[.bool p2,.slice A2 m2 c2,.slice B2 k2 e2]
  rw[World.size_alloc,← hw1]at this
  exact this
 have HU:=Lib.hid (hu.keep hb1);have HV:=Lib.hid (hv.keep hb1);have HB1:=Lib.hid hb1
 have HLM:Hid (L≤10000∧M≤10000):=Lib.hid ⟨hL,hM⟩
 have HALL:Hid (∀ W,Below w1.heap.size w1 W→Row W w.heap.size 49 #[.bool p1,.slice A1 m1 c1,.slice B1 k1 e1]∧Row W (w.heap.size+1) 49 #[.bool p2,.slice A2 m2 c2,.slice B2 k2 e2]):=Lib.hid fun W hW=>⟨ra.keep hW,rb.keep hW⟩
 clear hu hv hb1 ra rb hL hM
 go_enter Tryz.func10,Tryz.ntmps10
 go_upto_region 1 with fail
 try rw[← hw1]
 clear hw1
 obtain ⟨b,hb⟩:∃ b,b=w.heap.size:=⟨_,rfl⟩
 rw[← hb]at HALL ⊢
 clear hb
 refine wp_region_held (S:=fun W=>Below w1.heap.size w1 W) (by kernel_rfl) ?_
 change wpAnyH _ _ _ _ _ _ _ _ (World.drew _)
 obtain ⟨W0,hW0⟩:∃ X,X=(w1).drew:=⟨_,rfl⟩
 rw[← hW0]
 have z0:Below (w1).heap.size (w1) W0:=by rw[hW0];exact Below.drewN_ (Below.refl _ _) 1
 clear hW0
 refine tkH (i:=0) (oi:=vord1_0) (v:=.agg #[.bool p1,.slice A1 m1 c1,.slice B1 k1 e1]) (by kernel_rfl) rfl (fun _ _ _ h=>h) ?_ (z0) ?_
 ·intro w hSw;obtain ⟨h1,h2⟩:=HALL.out w hSw;have C0:w.cell? ⟨b,0,none⟩=some (.bool p1):=h1.cell 0;have C1:w.cell? ⟨b,1,none⟩=some (.slice A1 m1 c1):=h1.cell 1;have C2:w.cell? ⟨b,2,none⟩=some (.slice B1 k1 e1):=h1.cell 2;have D0:w.cell? ⟨b+1,0,none⟩=some (.bool p2):=h2.cell 0;have D1:w.cell? ⟨b+1,1,none⟩=some (.slice A2 m2 c2):=h2.cell 1;have D2:w.cell? ⟨b+1,2,none⟩=some (.slice B2 k2 e2):=h2.cell 2;go_simp<;>first|omega|(intro hh;exfalso;omega)|rfl
 try simp only[Act.put,qa,qb,qc,vord1_0]
 refine tkH (i:=1) (oi:=vord1_1) (v:=.agg #[.bool p2,.slice A2 m2 c2,.slice B2 k2 e2]) (by kernel_rfl) rfl (fun _ _ _ h=>h) ?_ (z0) ?_
 ·intro w hSw;obtain ⟨h1,h2⟩:=HALL.out w hSw;have C0:w.cell? ⟨b,0,none⟩=some (.bool p1):=h1.cell 0;have C1:w.cell? ⟨b,1,none⟩=some (.slice A1 m1 c1):=h1.cell 1;have C2:w.cell? ⟨b,2,none⟩=some (.slice B1 k1 e1):=h1.cell 2;have D0:w.cell? ⟨b+1,0,none⟩=some (.bool p2):=h2.cell 0;have D1:w.cell? ⟨b+1,1,none⟩=some (.slice A2 m2 c2):=h2.cell 1;have D2:w.cell? ⟨b+1,2,none⟩=some (.slice B2 k2 e2):=h2.cell 2;go_simp<;>first|omega|(intro hh;exfalso;omega)|rfl
 try simp only[Act.put,qa,qb,qc,vord1_1]
 refine oneH (i:=2) (o:=vord1_2) (by kernel_rfl) rfl ?_
 intro K hK
 simp only[vord1_2]
 go_simp
 go_at_call 41
 refine (refq_Neg _ _ y M (HV.out.keep z0)).mono ?_
 rintro e' V1 ⟨x1,rfl,hx1,b1⟩
 have z1:=below_seq z0 b1
 refine hK.out _ _ (z1) (fun hHeld=>?_)
 clear hK K hHeld
 try simp only[Act.put,qa,qb,qc]
 refine oneH (i:=3) (o:=vord1_3) (by kernel_rfl) rfl ?_
 intro K hK
 simp only[vord1_3]
 go_simp
 go_at_call 40
 refine (refq_Sum _ _ _ x (-y) L M (HU.out.keep z1) hx1 (by have:=HLM.out.1;omega) (by have:=HLM.out.2;omega)).mono ?_
 rintro e' V2 ⟨x2,rfl,hx2,b2⟩
 have z2:=below_seq z1 b2
 refine hK.out _ _ (z2) (fun hHeld=>?_)
 clear hK K hHeld
 try simp only[Act.put,qa,qb,qc]
 refine oneH (i:=4) (o:=vord1_4) (by kernel_rfl) rfl ?_
 intro K hK
 simp only[vord1_4]
 go_simp
 go_at_call 42
 refine (refq_Sign _ _ (x + -y) (L+M+1) hx2).mono ?_
 rintro e' V3 ⟨rfl,b3⟩
 have z3:=below_seq z2 b3
 refine hK.out _ _ (z3) (fun hHeld=>?_)
 clear hK K hHeld
 try simp only[Act.put,qa,qb,qc]
 refine tkH (i:=5) (oi:=vord1_5) (v:=.int .i64 (signI (x + -y))) (by kernel_rfl) rfl (fun _ _ _ h=>h) ?_ (z3) ?_
 ·intro w hSw;go_simp<;>first|omega|(intro hh;exfalso;omega)|rfl
 try simp only[Act.put,qa,qb,qc,vord1_5]
 refine wpAnyH_done (by kernel_rfl) ?_ _
 have ZZ:=Lib.hid (below_seq HB1.out z3)
 go_wp2_with fail
 go_ret
 exact ⟨by rw[Rat.sub_eq_add_neg];rfl,ZZ.out⟩
end Go.Proofs.YtbdfhnelmojbpaaGreatDoor
end
