/- Package split: ranged. -/
import Derived.Test.YtbdfhnelmojbpaaGreatDoorRap
import Derived.Test.YtbdfhnelmojbpaaGreatDoorRba
import Derived.Test.YtbdfhnelmojbpaaGreatDoorRbb
import Derived.Test.YtbdfhnelmojbpaaGreatDoorRax
set_option linter.unusedVariables false
set_option linter.unusedSimpArgs false
section
namespace Vic
open Go Go.RowKit
def encVR (cv:Value) (r:RowM):List Value:=[.string ⟨r.name.toArray⟩,.int .i64 r.kind,cv,.string ⟨r.rhs.toArray⟩,.string ⟨r.range.toArray⟩]
theorem signI_neg (q:Rat):decide (signI q<0)=decide (q<0):=by
 have h1:=num_pos 0 q
 rw[show (0:Rat) - q=-q by rw[Rat.sub_eq_add_neg,Rat.zero_add]]at h1
 have h2:=signI_pos (-q)
 rw[decide_eq_decide]at h2 ⊢
 rw[← h1,← h2]
 unfold signI
 rw[Rat.neg_num]
 split<;>split<;>(try split)<;>(try split)<;>omega
end Vic
namespace Go.Proofs.YtbdfhnelmojbpaaGreatDoor
open Go.RowKit Vic
set_option maxRecDepth 100000 in
set_option maxHeartbeats 8000000 in
theorem split_ranged_one (w:World) (r:RowM) (A0:Option Addr) (n0 c0:Nat) (h:r.range = []) :
 Calls Tryz.prog 33 #[.agg #[.string ⟨r.name.toArray⟩,.int .i64 r.kind,.slice A0 n0 c0,.string ⟨r.rhs.toArray⟩,.string ⟨r.range.toArray⟩]] w (fun e w'=>∃ g,e=.returned (.slice (some ⟨g,0,none⟩) (rangedM r).length (rangedM r).length)∧w.heap.size≤g∧Row w' g 28 ((rangedM r).flatMap (encVR (.slice A0 n0 c0))).toArray∧Below w.heap.size w w'):=by
 have hM:rangedM r = [r]:=by unfold rangedM;rw[if_pos h]
 rw[hM]
 obtain ⟨name,kind,coef,rhs,range⟩:=r
 dsimp only at h
 subst h
 dsimp only[List.flatMap_cons,List.flatMap_nil,List.append_nil,encVR,List.length_cons,List.length_nil]
 clear hM
 go_enter Tryz.func33,Tryz.ntmps33
 go_wp2_with fail
 go_ret
 have hr:=Row.new (w.alloc (.cells #[.string ⟨name.toArray⟩,.int .i64 kind,.slice A0 n0 c0,.string ⟨rhs.toArray⟩,.string ⟨#[]⟩] 28)) 28 #[.string ⟨name.toArray⟩,.int .i64 kind,.slice A0 n0 c0,.string ⟨rhs.toArray⟩,.string ⟨#[]⟩]
 rw[World.size_alloc]at hr
 exact ⟨_,rfl,by simp,hr,((Below.refl _ _).alloc (Nat.le_refl _) _).alloc (by simp) _⟩
abbrev vrng4_0:Oper:={ dst:=some 15,op:=Go.Op.fieldAddr 28 (Go.Operand.tmp 1) 3,type:=0,pos:="split.go:32",after:=#[],guard:=none }
abbrev vrng4_1:Oper:={ dst:=some 16,op:=Go.Op.load 9 (Go.Operand.tmp 15),type:=9,pos:="split.go:32",after:=#[{ on:=0,ground:=Go.Ground.data }],guard:=none }
abbrev vrng4_2:Oper:={ dst:=some 17,op:=Go.Op.call { callee:=Go.Callee.value (Go.Operand.func 99),args:=#[Go.Operand.tmp 16],argTypes:=#[9] },type:=177,pos:="split.go:32",after:=#[{ on:=1,ground:=Go.Ground.data }],guard:=none }
abbrev vrng4_3:Oper:={ dst:=some 18,op:=Go.Op.fieldAddr 28 (Go.Operand.tmp 1) 4,type:=0,pos:="split.go:32",after:=#[],guard:=none }
abbrev vrng4_4:Oper:={ dst:=some 19,op:=Go.Op.load 9 (Go.Operand.tmp 18),type:=9,pos:="split.go:32",after:=#[{ on:=3,ground:=Go.Ground.data }],guard:=none }
abbrev vrng4_5:Oper:={ dst:=some 20,op:=Go.Op.call { callee:=Go.Callee.value (Go.Operand.func 99),args:=#[Go.Operand.tmp 19],argTypes:=#[9] },type:=177,pos:="split.go:32",after:=#[{ on:=4,ground:=Go.Ground.data },{ on:=2,ground:=Go.Ground.chain }],guard:=none }
abbrev vrng4_6:Oper:={ dst:=some 5,op:=Go.Op.assign (Go.Operand.tmp 17),type:=177,pos:="split.go:32",after:=#[{ on:=2,ground:=Go.Ground.data },{ on:=5,ground:=Go.Ground.chain },{ on:=0,ground:=Go.Ground.phase },{ on:=1,ground:=Go.Ground.phase },{ on:=2,ground:=Go.Ground.phase },{ on:=3,ground:=Go.Ground.textOnly Go.Departure.lateStores },{ on:=4,ground:=Go.Ground.textOnly Go.Departure.lateStores },{ on:=5,ground:=Go.Ground.textOnly Go.Departure.lateStoresUnsure }],guard:=none }
abbrev vrng4_7:Oper:={ dst:=some 6,op:=Go.Op.assign (Go.Operand.tmp 20),type:=177,pos:="split.go:32",after:=#[{ on:=5,ground:=Go.Ground.data },{ on:=6,ground:=Go.Ground.chain },{ on:=0,ground:=Go.Ground.phase },{ on:=1,ground:=Go.Ground.phase },{ on:=2,ground:=Go.Ground.phase },{ on:=3,ground:=Go.Ground.phase },{ on:=4,ground:=Go.Ground.phase },{ on:=5,ground:=Go.Ground.phase },{ on:=6,ground:=Go.Ground.phase }],guard:=none }
structure FitRng (r:RowM):Prop where
 rhs:FracGood r.rhs
 range:FracGood r.range
 lrhs:r.rhs.length≤1000000
 lrange:r.range.length≤1000000
 frhs:Fits 400000 (fracOf r.rhs)
 frange:Fits 400000 (fracOf r.range)
set_option maxRecDepth 100000 in
set_option maxHeartbeats 16000000 in
theorem split_ranged_two (w:World) (r:RowM) (A0:Option Addr) (n0 c0:Nat) (h:r.range≠[]) (ht:Tab w) (hf:FitRng r) :
 Calls Tryz.prog 33 #[.agg #[.string ⟨r.name.toArray⟩,.int .i64 r.kind,.slice A0 n0 c0,.string ⟨r.rhs.toArray⟩,.string ⟨r.range.toArray⟩]] w (fun e w'=>∃ g,e=.returned (.slice (some ⟨g,0,none⟩) (rangedM r).length (rangedM r).length)∧w.heap.size≤g∧Row w' g 28 ((rangedM r).flatMap (encVR (.slice A0 n0 c0))).toArray∧Below w.heap.size w w'):=by
 have hM:Hid (rangedM r=if r.kind=1 then [{ r with range:=[] },{ r with kind:=3,rhs:=fracText (fracOf r.rhs - (if fracOf r.range<0 then -fracOf r.range else fracOf r.range)),range:=[] }]
  else if r.kind=3 then [{ r with range:=[] },{ r with kind:=1,rhs:=fracText (fracOf r.rhs+(if fracOf r.range<0 then -fracOf r.range else fracOf r.range)),range:=[] }]
  else if fracOf r.range<0 then [{ r with kind:=3,rhs:=fracText (fracOf r.rhs+fracOf r.range),range:=[] },{ r with kind:=1,range:=[] }]
  else [{ r with kind:=3,range:=[] },{ r with kind:=1,rhs:=fracText (fracOf r.rhs+fracOf r.range),range:=[] }]):=Lib.hid (by unfold rangedM;rw[if_neg h])
 generalize rangedM r=RM at *
 obtain ⟨name,kind,coef,rhs,range⟩:=r
 obtain ⟨f1,f2,f3,f4,f5,f6⟩:=hf
 dsimp only at h hM f1 f2 f3 f4 f5 f6
 have hne:(range == [])=false:=beq_eq_false_iff_ne.2 h
 dsimp only
 obtain ⟨w1,hw1⟩:∃ X,X=w.alloc (.cells #[.string ⟨name.toArray⟩,.int .i64 kind,.slice A0 n0 c0,.string ⟨rhs.toArray⟩,.string ⟨range.toArray⟩] 28):=⟨_,rfl⟩
 have hb1:Below w.heap.size w w1:=by rw[hw1];exact (Below.refl _ _).alloc (Nat.le_refl _) _
 have hrow:Row w1 w.heap.size 28 #[.string ⟨name.toArray⟩,.int .i64 kind,.slice A0 n0 c0,.string ⟨rhs.toArray⟩,.string ⟨range.toArray⟩]:=by rw[hw1];exact Row.new _ _ _
 have C0:w1.cell? ⟨w.heap.size,0,none⟩=some (.string ⟨name.toArray⟩):=hrow.cell 0
 have C1:w1.cell? ⟨w.heap.size,1,none⟩=some (.int .i64 kind):=hrow.cell 1
 have C2:w1.cell? ⟨w.heap.size,2,none⟩=some (.slice A0 n0 c0):=hrow.cell 2
 have C3:w1.cell? ⟨w.heap.size,3,none⟩=some (.string ⟨rhs.toArray⟩):=hrow.cell 3
 have C4:w1.cell? ⟨w.heap.size,4,none⟩=some (.string ⟨range.toArray⟩):=hrow.cell 4
 have hlt:w.heap.size<w1.heap.size:=hrow.lt
 have n0':=World.new_ne w1 ⟨w.heap.size,0,none⟩ C0
 have HROW:=Lib.hid hrow
 have HB1:=Lib.hid hb1
 have HT1:=Lib.hid (ht.keep hb1)
 clear hb1 hrow ht
 go_enter Tryz.func33,Tryz.ntmps33
 go_upto_region 1 with fail
 try rw[← hw1]
 clear hw1
 obtain ⟨bx,hbq⟩:∃ b,b=w.heap.size:=⟨_,rfl⟩
 rw[← hbq]at C0 C1 C2 C3 C4 hlt n0' HROW ⊢
 have HBQ:=Lib.hid hbq
 clear hbq
 go_upto_region 3 with fail
 go_cut [3,4] (fun p q wc=>∃ p1 p2:Nat,p=.pointer (some ⟨p1,0,none⟩)∧q=.pointer (some ⟨p2,0,none⟩)∧Hid (Row wc p1 28 #[.string ⟨name.toArray⟩,.int .i64 kind,.slice A0 n0 c0,.string ⟨rhs.toArray⟩,.string ⟨range.toArray⟩])∧Hid (Row wc p2 28 #[.string ⟨name.toArray⟩,.int .i64 kind,.slice A0 n0 c0,.string ⟨rhs.toArray⟩,.string ⟨range.toArray⟩])∧Hid (p1≠p2∧w1.heap.size≤p1∧w1.heap.size≤p2)∧Hid (Below w1.heap.size w1 wc))
 case first=>
  go_region_held3 (fun W=>W.cell? ⟨bx,0,none⟩=some (.string ⟨name.toArray⟩)∧W.cell? ⟨bx,1,none⟩=some (.int .i64 kind)∧W.cell? ⟨bx,2,none⟩=some (.slice A0 n0 c0)∧W.cell? ⟨bx,3,none⟩=some (.string ⟨rhs.toArray⟩)∧W.cell? ⟨bx,4,none⟩=some (.string ⟨range.toArray⟩)) (first|go_keep|(exact ⟨C0,C1,C2,C3,C4⟩)) (fail)
  ·go_wp2_with fail
   go_meet
   have tr:=two_rows w1 28 #[.string ⟨name.toArray⟩,.int .i64 kind,.slice A0 n0 c0,.string ⟨rhs.toArray⟩,.string ⟨range.toArray⟩] #[.string ⟨name.toArray⟩,.int .i64 kind,.slice A0 n0 c0,.string ⟨rhs.toArray⟩,.string ⟨range.toArray⟩]
   exact ⟨_,_,rfl,rfl,Lib.hid tr.1,Lib.hid tr.2.1,Lib.hid ⟨by omega,by omega,by omega⟩,Lib.hid tr.2.2⟩
  ·go_wp2_with fail
   go_meet
   have tr:=two_rows w1 28 #[.string ⟨name.toArray⟩,.int .i64 kind,.slice A0 n0 c0,.string ⟨rhs.toArray⟩,.string ⟨range.toArray⟩] #[.string ⟨name.toArray⟩,.int .i64 kind,.slice A0 n0 c0,.string ⟨rhs.toArray⟩,.string ⟨range.toArray⟩]
   exact ⟨_,_,rfl,rfl,Lib.hid tr.2.1,Lib.hid tr.1,Lib.hid ⟨by omega,by omega,by omega⟩,Lib.hid tr.2.2⟩
 case rest=>
  obtain ⟨p1,p2,rfl,rfl,HA,HB,HP,HBC⟩:=hcut
  have HALL:Hid (∀ W,Below wc.heap.size wc W→W.cell? ⟨bx,0,none⟩=some (.string ⟨name.toArray⟩)∧W.cell? ⟨bx,1,none⟩=some (.int .i64 kind)∧W.cell? ⟨bx,2,none⟩=some (.slice A0 n0 c0)∧W.cell? ⟨bx,3,none⟩=some (.string ⟨rhs.toArray⟩)∧W.cell? ⟨bx,4,none⟩=some (.string ⟨range.toArray⟩)):=Lib.hid fun W hW=>by
   have h0:=(HROW.out.keep HBC.out).keep hW
   exact ⟨h0.cell 0,h0.cell 1,h0.cell 2,h0.cell 3,h0.cell 4⟩
  have HTC:=Lib.hid (HT1.out.keep HBC.out)
  have CR:Hid (∀ W,Below wc.heap.size wc W→Calls Tryz.prog 99 #[.string ⟨rhs.toArray⟩] W (fun e w'=>∃ x,e=.returned x∧FracPtr w' x (fracOf rhs)∧Fits 1000000 (fracOf rhs)∧Below W.heap.size W w')):=Lib.hid fun W hW=>split_number W rhs f3 (HTC.out.keep hW) f1
  have CG:Hid (∀ W,Below wc.heap.size wc W→Calls Tryz.prog 99 #[.string ⟨range.toArray⟩] W (fun e w'=>∃ x,e=.returned x∧FracPtr w' x (fracOf range)∧Fits 1000000 (fracOf range)∧Below W.heap.size W w')):=Lib.hid fun W hW=>split_number W range f4 (HTC.out.keep hW) f2
  clear C0 C1 C2 C3 C4 hlt n0' hne h f1 f2 f3 f4
  generalize fracOf rhs=qr at *
  generalize fracOf range=qg at *
  go_upto_region 4 with fail
  refine wp_region_held (S:=fun W=>Below wc.heap.size wc W) (by kernel_rfl) ?_
  change wpAnyH _ _ _ _ _ _ _ _ (World.drew _)
  obtain ⟨W0,hW0⟩:∃ X,X=(wc).drew:=⟨_,rfl⟩
  rw[← hW0]
  have z0:Below (wc).heap.size (wc) W0:=by rw[hW0];exact Below.drewN_ (Below.refl _ _) 1
  clear hW0
  refine tkH (i:=0) (oi:=vrng4_0) (v:=.pointer (some ⟨bx,3,none⟩)) (by kernel_rfl) rfl (fun _ _ _ h=>h) ?_ (z0) ?_
  ·intro w hSw;go_simp<;>first|omega|(intro hh;exfalso;omega)|rfl
  try simp only[Act.put,qa,qb,qc,vrng4_0]
  refine tkH (i:=1) (oi:=vrng4_1) (v:=.string ⟨rhs.toArray⟩) (by kernel_rfl) rfl (fun _ _ _ h=>h) ?_ (z0) ?_
  ·intro w hSw;obtain ⟨C0,C1,C2,C3,C4⟩:=HALL.out w hSw;go_simp<;>first|omega|(intro hh;exfalso;omega)|rfl
  try simp only[Act.put,qa,qb,qc,vrng4_1]
  refine tkH (i:=3) (oi:=vrng4_3) (v:=.pointer (some ⟨bx,4,none⟩)) (by kernel_rfl) rfl (fun _ _ _ h=>h) ?_ (z0) ?_
  ·intro w hSw;go_simp<;>first|omega|(intro hh;exfalso;omega)|rfl
  try simp only[Act.put,qa,qb,qc,vrng4_3]
  refine tkH (i:=4) (oi:=vrng4_4) (v:=.string ⟨range.toArray⟩) (by kernel_rfl) rfl (fun _ _ _ h=>h) ?_ (z0) ?_
  ·intro w hSw;obtain ⟨C0,C1,C2,C3,C4⟩:=HALL.out w hSw;go_simp<;>first|omega|(intro hh;exfalso;omega)|rfl
  try simp only[Act.put,qa,qb,qc,vrng4_4]
  refine oneH (i:=2) (o:=vrng4_2) (by kernel_rfl) rfl ?_
  intro K hK
  simp only[vrng4_2]
  go_simp
  go_at_call 99
  refine (CR.out _ z0).mono ?_
  rintro e' V1 ⟨x1,rfl,hx1,hf1,b1⟩
  obtain ⟨q1,rfl⟩:=hx1.ptr
  have z1:=below_seq z0 b1
  refine hK.out _ _ (z1) (fun hHeld=>?_)
  clear hK K hHeld
  try simp only[Act.put,qa,qb,qc]
  refine oneH (i:=5) (o:=vrng4_5) (by kernel_rfl) rfl ?_
  intro K hK
  simp only[vrng4_5]
  go_simp
  go_at_call 99
  refine (CG.out _ z1).mono ?_
  rintro e' V2 ⟨x2,rfl,hx2,hf2,b2⟩
  obtain ⟨q2,rfl⟩:=hx2.ptr
  have z2:=below_seq z1 b2
  refine hK.out _ _ (z2) (fun hHeld=>?_)
  clear hK K hHeld
  try simp only[Act.put,qa,qb,qc]
  refine tkH (i:=6) (oi:=vrng4_6) (v:=.pointer (q1)) (by kernel_rfl) rfl (fun _ _ _ h=>h) ?_ (z2) ?_
  ·intro w hSw;go_simp<;>first|omega|(intro hh;exfalso;omega)|rfl
  try simp only[Act.put,qa,qb,qc,vrng4_6]
  refine tkH (i:=7) (oi:=vrng4_7) (v:=.pointer (q2)) (by kernel_rfl) rfl (fun _ _ _ h=>h) ?_ (z2) ?_
  ·intro w hSw;go_simp<;>first|omega|(intro hh;exfalso;omega)|rfl
  try simp only[Act.put,qa,qb,qc,vrng4_7]
  refine wpAnyH_done (by kernel_rfl) ?_ _
  have hx1':=hx1.keep b2
  have HX1:=Lib.hid hx1'
  have HX2:=Lib.hid hx2
  have HZ:=Lib.hid (below_seq HB1.out (below_seq HBC.out z2))
  have HR1:=Lib.hid (HA.out.keep z2)
  have HR2:=Lib.hid (HB.out.keep z2)
  have HT2:=Lib.hid (HTC.out.keep z2)
  have HX0:=Lib.hid ((HROW.out.keep HBC.out).keep z2)
  have HPP:Hid (w.heap.size≤p1∧w.heap.size≤p2):=Lib.hid ⟨Nat.le_trans HB1.out.size HP.out.2.1,Nat.le_trans HB1.out.size HP.out.2.2⟩
  have hpn:=HP.out.1
  clear hx1 hx2 hx1' b1 b2 z1 z2 z0 CR CG HTC HALL HROW HA HB HBC HB1 HT1 HBQ HP hf1 hf2
  have CS:=Lib.hid (frac_Sign V2 _ qg HX2.out.at_ (f6.mono (by omega)))
  have hsg:=signI_neg qg
  generalize hsq:signI qg=sg at *
  have HSQ:=Lib.hid hsq
  have HSG:=Lib.hid hsg
  clear hsq hsg
  go_upto_region 6 with fail
  go_upto_if 24 with fail
  refine CS.out.mono ?_
  rintro e V3 ⟨rfl,b3⟩
  have HX23:=Lib.hid (HX2.out.keep b3)
  have HX13:=Lib.hid (HX1.out.keep b3)
  have HZ3:=Lib.hid (below_seq HZ.out b3)
  have HR13:=Lib.hid (HR1.out.keep b3)
  have HR23:=Lib.hid (HR2.out.keep b3)
  have HT3:=Lib.hid (HT2.out.keep b3)
  have HX03:=Lib.hid (HX0.out.keep b3)
  clear HX2 HX1 HX0 HZ HR1 HR2 HT2 b3 CS
  go_upto_if 24 with fail
  go_cut [7] (fun t wd=>∃ q,t=.pointer q∧Hid (FracPtr wd (.pointer q) (if qg<0 then -qg else qg))∧Hid (Below V3.heap.size V3 wd))
  case first=>
   by_cases hlt:qg<0
   ·have hs:sg<0:=of_decide_eq_true (by rw[HSG.out];exact decide_eq_true hlt)
    have CN:=Lib.hid (frac_Neg V3 _ qg HX23.out.at_ (f6.mono (by omega)))
    have HL:=Lib.hid hlt
    clear hlt
    go_wp2_with fail
    refine CN.out.mono ?_
    rintro e V4 ⟨z,rfl,hz,b4⟩
    obtain ⟨q4,rfl⟩:=hz.ptr
    go_wp2_with fail
    go_meet
    exact ⟨_,rfl,Lib.hid (by rw[if_pos HL.out];exact hz),Lib.hid b4⟩
   ·have hs:¬ sg<0:=of_decide_eq_false (by rw[HSG.out];exact decide_eq_false hlt)
    have HL:=Lib.hid hlt
    clear hlt
    go_wp2_with fail
    go_meet
    exact ⟨_,rfl,Lib.hid (by rw[if_neg HL.out];exact HX23.out),Lib.hid (Below.refl _ _)⟩
  case rest=>
   obtain ⟨q7,rfl,HX7,HB7⟩:=hcut
   have HY1:=Lib.hid (HX13.out.keep HB7.out)
   have HY2:=Lib.hid (HX23.out.keep HB7.out)
   have HZ4:=Lib.hid (below_seq HZ3.out HB7.out)
   have HR14:=Lib.hid (HR13.out.keep HB7.out)
   have HR24:=Lib.hid (HR23.out.keep HB7.out)
   have HT4:=Lib.hid (HT3.out.keep HB7.out)
   have HX04:=Lib.hid (HX03.out.keep HB7.out)
   have fsz:Fits 400000 (if qg<0 then -qg else qg):=by split;exact fits_neg f6;exact f6
   clear HX13 HX23 HZ3 HR13 HR23 HT3 HX03 HB7
   go_upto_block 0 with fail
   go_cut [] (fun wd=>∃ (k1:Int) (s1:Txt) (k2:Int) (s2:Txt),Hid (RM = [⟨name,k1,coef,s1,[]⟩,⟨name,k2,coef,s2,[]⟩])∧Hid (Row wd p1 28 #[.string ⟨name.toArray⟩,.int .i64 k1,.slice A0 n0 c0,.string ⟨s1.toArray⟩,.string ⟨range.toArray⟩])∧Hid (Row wd p2 28 #[.string ⟨name.toArray⟩,.int .i64 k2,.slice A0 n0 c0,.string ⟨s2.toArray⟩,.string ⟨range.toArray⟩])∧Hid (Below w.heap.size w wd))
   case first=>
    have e1:wc.cell? ⟨bx,1,none⟩=some (.int .i64 kind):=HX04.out.cell 1
    clear HX04
    by_cases hk1:kind=1
    ·subst hk1
     rw[if_pos rfl]at hM
     generalize (if qg<0 then -qg else qg)=size at *
     have CC:=Lib.hid (frac_Sub wc (.pointer q1) (.pointer q7) qr size HY1.out.at_ HX7.out.at_ (f5.mono (by omega)) (fsz.mono (by omega)))
     have FT:=Lib.hid (by rw[Rat.sub_eq_add_neg];exact fits_add f5 (fits_neg fsz):Fits 800001 (qr - size))
     generalize qr - size=res at *
     go_wp2_with fail
     refine CC.out.mono ?_
     rintro e W1 ⟨z,rfl,hz,d1⟩
     obtain ⟨qz,rfl⟩:=hz.ptr
     have CT:=Lib.hid (frac_Text W1 _ res hz.at_ (FT.out.mono (by omega)) (HT4.out.keep d1))
     have D1:=Lib.hid d1
     clear hz d1 CC
     go_wp2_with fail
     refine CT.out.mono ?_
     rintro e W2 ⟨rfl,d2⟩
     generalize fracText res=T at *
     have DD:=Lib.hid (below_seq D1.out d2)
     have r1:=HR14.out.keep DD.out
     have r2:=HR24.out.keep DD.out
     have HBZ:=Lib.hid (below_seq HZ4.out DD.out)
     clear d2 CT D1
     have c21:W2.cell? ⟨p2,1,none⟩=some (.int .i64 1):=r2.cell 1
     have g21:=r2.free 1
     have c23:W2.cell? ⟨p2,3,none⟩=some (.string ⟨rhs.toArray⟩):=r2.cell 3
     have g23:=r2.free 3
     have K1:=Lib.hid ((r1.far (p:=⟨p2,1,none⟩) hpn (.int .i64 3)).far (p:=⟨p2,3,none⟩) hpn (.string ⟨T.toArray⟩))
     have K2:=Lib.hid ((r2.set 1 (.int .i64 3)).set 3 (.string ⟨T.toArray⟩))
     have K3:=Lib.hid ((HBZ.out.setCell (p:=⟨p2,1,none⟩) HPP.out.2 (.int .i64 3)).setCell (p:=⟨p2,3,none⟩) HPP.out.2 (.string ⟨T.toArray⟩))
     clear r1 r2
     go_wp2_with fail
     go_meet
     exact ⟨1,rhs,3,T,Lib.hid (hM.out),K1,K2,K3⟩
    ·have hk1b:(kind == 1)=false:=beq_eq_false_iff_ne.2 hk1
     by_cases hk3:kind=3
     ·subst hk3
      rw[if_neg hk1,if_pos rfl]at hM
      generalize (if qg<0 then -qg else qg)=size at *
      clear hk1
      have CC:=Lib.hid (frac_Add wc (.pointer q1) (.pointer q7) qr size HY1.out.at_ HX7.out.at_ (f5.mono (by omega)) (fsz.mono (by omega)))
      have FT:=Lib.hid (fits_add f5 fsz:Fits 800001 (qr+size))
      generalize qr+size=res at *
      go_wp2_with fail
      refine CC.out.mono ?_
      rintro e W1 ⟨z,rfl,hz,d1⟩
      obtain ⟨qz,rfl⟩:=hz.ptr
      have CT:=Lib.hid (frac_Text W1 _ res hz.at_ (FT.out.mono (by omega)) (HT4.out.keep d1))
      have D1:=Lib.hid d1
      clear hz d1 CC
      go_wp2_with fail
      refine CT.out.mono ?_
      rintro e W2 ⟨rfl,d2⟩
      generalize fracText res=T at *
      have DD:=Lib.hid (below_seq D1.out d2)
      have r1:=HR14.out.keep DD.out
      have r2:=HR24.out.keep DD.out
      have HBZ:=Lib.hid (below_seq HZ4.out DD.out)
      clear d2 CT D1
      have c21:W2.cell? ⟨p2,1,none⟩=some (.int .i64 3):=r2.cell 1
      have g21:=r2.free 1
      have c23:W2.cell? ⟨p2,3,none⟩=some (.string ⟨rhs.toArray⟩):=r2.cell 3
      have g23:=r2.free 3
      have K1:=Lib.hid ((r1.far (p:=⟨p2,1,none⟩) hpn (.int .i64 1)).far (p:=⟨p2,3,none⟩) hpn (.string ⟨T.toArray⟩))
      have K2:=Lib.hid ((r2.set 1 (.int .i64 1)).set 3 (.string ⟨T.toArray⟩))
      have K3:=Lib.hid ((HBZ.out.setCell (p:=⟨p2,1,none⟩) HPP.out.2 (.int .i64 1)).setCell (p:=⟨p2,3,none⟩) HPP.out.2 (.string ⟨T.toArray⟩))
      clear r1 r2
      go_wp2_with fail
      go_meet
      exact ⟨3,rhs,1,T,Lib.hid (hM.out),K1,K2,K3⟩
     ·have hk3b:(kind == 3)=false:=beq_eq_false_iff_ne.2 hk3
      rw[if_neg hk1,if_neg hk3]at hM
      clear HX7 fsz
      clear hk1 hk3
      have cs0:=frac_Sign wc (.pointer q2) qg HY2.out.at_ (f6.mono (by omega))
      rw[HSQ.out]at cs0
      have CS:=Lib.hid cs0
      clear cs0
      go_wp2_with fail
      refine CS.out.mono ?_
      rintro e W0 ⟨rfl,d0⟩
      have HY1:=Lib.hid (HY1.out.keep d0)
      have HY2:=Lib.hid (HY2.out.keep d0)
      have HZ4:=Lib.hid (below_seq HZ4.out d0)
      have HR14:=Lib.hid (HR14.out.keep d0)
      have HR24:=Lib.hid (HR24.out.keep d0)
      have HT4:=Lib.hid (HT4.out.keep d0)
      clear d0 CS
      go_upto_if 54 with fail
      by_cases hlt:qg<0
      ·have hs:sg<0:=of_decide_eq_true (by rw[HSG.out];exact decide_eq_true hlt)
       rw[if_pos hlt]at hM
       clear hlt
       have CC:=Lib.hid (frac_Add W0 (.pointer q1) (.pointer q2) qr qg HY1.out.at_ HY2.out.at_ (f5.mono (by omega)) (f6.mono (by omega)))
       have FT:=Lib.hid (fits_add f5 f6:Fits 800001 (qr+qg))
       generalize qr+qg=res at *
       go_wp2_with fail
       refine CC.out.mono ?_
       rintro e W1 ⟨z,rfl,hz,d1⟩
       obtain ⟨qz,rfl⟩:=hz.ptr
       have CT:=Lib.hid (frac_Text W1 _ res hz.at_ (FT.out.mono (by omega)) (HT4.out.keep d1))
       have D1:=Lib.hid d1
       clear hz d1 CC
       go_wp2_with fail
       refine CT.out.mono ?_
       rintro e W2 ⟨rfl,d2⟩
       generalize fracText res=T at *
       have DD:=Lib.hid (below_seq D1.out d2)
       have r1:=HR14.out.keep DD.out
       have r2:=HR24.out.keep DD.out
       have HBZ:=Lib.hid (below_seq HZ4.out DD.out)
       clear d2 CT D1
       have c11:W2.cell? ⟨p1,1,none⟩=some (.int .i64 kind):=r1.cell 1
       have g11:=r1.free 1
       have c13:W2.cell? ⟨p1,3,none⟩=some (.string ⟨rhs.toArray⟩):=r1.cell 3
       have g13:=r1.free 3
       have c21:W2.cell? ⟨p2,1,none⟩=some (.int .i64 kind):=r2.cell 1
       have g21:=r2.free 1
       have K1:=Lib.hid (((r1.set 1 (.int .i64 3)).set 3 (.string ⟨T.toArray⟩)).far (p:=⟨p2,1,none⟩) hpn (.int .i64 1))
       have K2:=Lib.hid (((r2.far (p:=⟨p1,1,none⟩) (Ne.symm hpn) (.int .i64 3)).far (p:=⟨p1,3,none⟩) (Ne.symm hpn) (.string ⟨T.toArray⟩)).set 1 (.int .i64 1))
       have K3:=Lib.hid (((HBZ.out.setCell (p:=⟨p1,1,none⟩) HPP.out.1 (.int .i64 3)).setCell (p:=⟨p1,3,none⟩) HPP.out.1 (.string ⟨T.toArray⟩)).setCell (p:=⟨p2,1,none⟩) HPP.out.2 (.int .i64 1))
       clear r1 r2
       go_wp2_with fail
       go_meet
       exact ⟨3,T,1,rhs,Lib.hid (hM.out),K1,K2,K3⟩
      ·have hs:¬ sg<0:=of_decide_eq_false (by rw[HSG.out];exact decide_eq_false hlt)
       rw[if_neg hlt]at hM
       clear hlt
       have CC:=Lib.hid (frac_Add W0 (.pointer q1) (.pointer q2) qr qg HY1.out.at_ HY2.out.at_ (f5.mono (by omega)) (f6.mono (by omega)))
       have FT:=Lib.hid (fits_add f5 f6:Fits 800001 (qr+qg))
       generalize qr+qg=res at *
       go_wp2_with fail
       refine CC.out.mono ?_
       rintro e W1 ⟨z,rfl,hz,d1⟩
       obtain ⟨qz,rfl⟩:=hz.ptr
       have CT:=Lib.hid (frac_Text W1 _ res hz.at_ (FT.out.mono (by omega)) (HT4.out.keep d1))
       have D1:=Lib.hid d1
       clear hz d1 CC
       go_wp2_with fail
       refine CT.out.mono ?_
       rintro e W2 ⟨rfl,d2⟩
       generalize fracText res=T at *
       have DD:=Lib.hid (below_seq D1.out d2)
       have r1:=HR14.out.keep DD.out
       have r2:=HR24.out.keep DD.out
       have HBZ:=Lib.hid (below_seq HZ4.out DD.out)
       clear d2 CT D1
       have c11:W2.cell? ⟨p1,1,none⟩=some (.int .i64 kind):=r1.cell 1
       have g11:=r1.free 1
       have c21:W2.cell? ⟨p2,1,none⟩=some (.int .i64 kind):=r2.cell 1
       have g21:=r2.free 1
       have c23:W2.cell? ⟨p2,3,none⟩=some (.string ⟨rhs.toArray⟩):=r2.cell 3
       have g23:=r2.free 3
       have K1:=Lib.hid (((r1.set 1 (.int .i64 3)).far (p:=⟨p2,1,none⟩) hpn (.int .i64 1)).far (p:=⟨p2,3,none⟩) hpn (.string ⟨T.toArray⟩))
       have K2:=Lib.hid (((r2.far (p:=⟨p1,1,none⟩) (Ne.symm hpn) (.int .i64 3)).set 1 (.int .i64 1)).set 3 (.string ⟨T.toArray⟩))
       have K3:=Lib.hid (((HBZ.out.setCell (p:=⟨p1,1,none⟩) HPP.out.1 (.int .i64 3)).setCell (p:=⟨p2,1,none⟩) HPP.out.2 (.int .i64 1)).setCell (p:=⟨p2,3,none⟩) HPP.out.2 (.string ⟨T.toArray⟩))
       clear r1 r2
       go_wp2_with fail
       go_meet
       exact ⟨3,rhs,1,T,Lib.hid (hM.out),K1,K2,K3⟩
   case rest=>
    obtain ⟨k1,s1,k2,s2,HM,K1,K2,K3⟩:=hcut
    have h1:=K1.out;have h2:=K2.out
    have a0:wc.cell? ⟨p1,0,none⟩=some (.string ⟨name.toArray⟩):=h1.cell 0
    have a1:wc.cell? ⟨p1,1,none⟩=some (.int .i64 k1):=h1.cell 1
    have a2:wc.cell? ⟨p1,2,none⟩=some (.slice A0 n0 c0):=h1.cell 2
    have a3:wc.cell? ⟨p1,3,none⟩=some (.string ⟨s1.toArray⟩):=h1.cell 3
    have a4:wc.cell? ⟨p1,4,none⟩=some (.string ⟨range.toArray⟩):=h1.cell 4
    have b0:wc.cell? ⟨p2,0,none⟩=some (.string ⟨name.toArray⟩):=h2.cell 0
    have b1:wc.cell? ⟨p2,1,none⟩=some (.int .i64 k2):=h2.cell 1
    have b2:wc.cell? ⟨p2,2,none⟩=some (.slice A0 n0 c0):=h2.cell 2
    have b3:wc.cell? ⟨p2,3,none⟩=some (.string ⟨s2.toArray⟩):=h2.cell 3
    have b4:wc.cell? ⟨p2,4,none⟩=some (.string ⟨range.toArray⟩):=h2.cell 4
    have f1:=h1.free 4;have f2:=h2.free 4
    have HBF:=Lib.hid ((K3.out.setCell (p:=⟨p1,4,none⟩) HPP.out.1 (.string ⟨#[]⟩)).setCell (p:=⟨p2,4,none⟩) HPP.out.2 (.string ⟨#[]⟩))
    have HS:=Lib.hid K3.out.size
    clear h1 h2 HX7 HY1 HY2 HR14 HR24 HT4 HX04 HZ4 fsz hM K1 K2 K3
    go_wp2_with fail
    go_ret
    rw[HM.out]
    have hr:=Row.new ((wc.setCell ⟨p1,4,none⟩ (.string ⟨#[]⟩)).setCell ⟨p2,4,none⟩ (.string ⟨#[]⟩)) 28 ([(⟨name,k1,coef,s1,[]⟩:RowM),⟨name,k2,coef,s2,[]⟩].flatMap (encVR (.slice A0 n0 c0))).toArray
    rw[show ((wc.setCell ⟨p1,4,none⟩ (.string ⟨#[]⟩)).setCell ⟨p2,4,none⟩ (.string ⟨#[]⟩)).heap.size=wc.heap.size by simp]at hr
    exact ⟨_,rfl,HS.out,hr,HBF.out.alloc HBF.out.size _⟩
theorem split_ranged (w:World) (r:RowM) (A0:Option Addr) (n0 c0:Nat) (ht:Tab w) (hf:r.range≠[]→FitRng r) :
 Calls Tryz.prog 33 #[.agg #[.string ⟨r.name.toArray⟩,.int .i64 r.kind,.slice A0 n0 c0,.string ⟨r.rhs.toArray⟩,.string ⟨r.range.toArray⟩]] w (fun e w'=>∃ g,e=.returned (.slice (some ⟨g,0,none⟩) (rangedM r).length (rangedM r).length)∧w.heap.size≤g∧Row w' g 28 ((rangedM r).flatMap (encVR (.slice A0 n0 c0))).toArray∧Below w.heap.size w w'):=by
 by_cases h:r.range = []
 ·exact split_ranged_one w r A0 n0 c0 h
 ·exact split_ranged_two w r A0 n0 c0 h ht (hf h)
end Go.Proofs.YtbdfhnelmojbpaaGreatDoor
end
section
namespace Vic
open Go Go.RowKit
abbrev VRow:=Value × RowM
def encVR2 (p:VRow):List Value:=encVR p.1 p.2
def OwnCs (w:World) (B:Nat) (v:Value) (cs:List CoefM):Prop:=Own w B 24 2 v cs.length (cs.flatMap encCf)
theorem OwnK.offT {w w':World}{B B':Nat}{e e':TypeId}{size size':Nat}{v v':Value}{n n':Nat}{xs ys:List Value}(h:Own w B e size v n xs) (ho:Own w B' e' size' v' n' ys) (hg:w.grownBy w' v'.ownBlock) (hne:e≠e'):Own w' B e size v n xs:=
 h.stay fun g hg'=>by obtain ⟨cur,hc⟩:=h.typed hg';exact grown_other ho hg hc hne
structure TwR (w:World) (B:Nat) (c1 v1 c2 v2 te:Value) (C1 C2:List ColM) (R1 R2:List VRow) (TE:List (Value × List CoefM)):Prop where
 rows:OwnF w B 28 5 (fun _:Bool=>True) (fun i=>if i then v2 else v1) (fun i=>if i then R2.length else R1.length) (fun i=>if i then R2.flatMap encVR2 else R1.flatMap encVR2)
 tech:Own w B 25 1 te TE.length (TE.map (·.1))
 co1:∀ p∈R1,OwnCs w B p.1 p.2.coef
 co2:∀ p∈R2,OwnCs w B p.1 p.2.coef
 cot:∀ p∈TE,OwnCs w B p.1 p.2
 cl1:Own w B 31 5 c1 C1.length (C1.flatMap encCol)
 cl2:Own w B 31 5 c2 C2.length (C2.flatMap encCol)
variable {w w':World}{B:Nat}{c1 v1 c2 v2 te:Value}{C1 C2:List ColM}{R1 R2:List VRow}{TE:List (Value × List CoefM)}
theorem TwR.own1 (h:TwR w B c1 v1 c2 v2 te C1 C2 R1 R2 TE):Own w B 28 5 v1 R1.length (R1.flatMap encVR2):=by have:=h.rows.own false trivial;simpa using this
theorem TwR.own2 (h:TwR w B c1 v1 c2 v2 te C1 C2 R1 R2 TE):Own w B 28 5 v2 R2.length (R2.flatMap encVR2):=by have:=h.rows.own true trivial;simpa using this
theorem TwR.stay (h:TwR w B c1 v1 c2 v2 te C1 C2 R1 R2 TE) (hs:∀ g,B≤g→g<w.heap.size→w'.heap[g]?=w.heap[g]?):TwR w' B c1 v1 c2 v2 te C1 C2 R1 R2 TE:=
 ⟨h.rows.stay fun i g hi hg=>hs g ((h.rows.own i hi).lt hg).1 ((h.rows.own i hi).lt hg).2,h.tech.stay fun g hg=>hs g (h.tech.lt hg).1 (h.tech.lt hg).2,
  fun p hp=>OwnK.stay (h.co1 p hp) fun g hg=>hs g (OwnK.lt (h.co1 p hp) hg).1 (OwnK.lt (h.co1 p hp) hg).2,fun p hp=>OwnK.stay (h.co2 p hp) fun g hg=>hs g (OwnK.lt (h.co2 p hp) hg).1 (OwnK.lt (h.co2 p hp) hg).2,fun p hp=>OwnK.stay (h.cot p hp) fun g hg=>hs g (OwnK.lt (h.cot p hp) hg).1 (OwnK.lt (h.cot p hp) hg).2,
  h.cl1.stay fun g hg=>hs g (h.cl1.lt hg).1 (h.cl1.lt hg).2,h.cl2.stay fun g hg=>hs g (h.cl2.lt hg).1 (h.cl2.lt hg).2⟩
theorem TwR.keep (h:TwR w B c1 v1 c2 v2 te C1 C2 R1 R2 TE) (hb:Below w.heap.size w w'):TwR w' B c1 v1 c2 v2 te C1 C2 R1 R2 TE:=h.stay fun g _ hg=>hb.block g hg
theorem TwR.put (h:TwR w B c1 v1 c2 v2 te C1 C2 R1 R2 TE) {b i:Nat}(u:Value) (hb:b<B):TwR (w.setCell ⟨b,i,none⟩ u) B c1 v1 c2 v2 te C1 C2 R1 R2 TE:=h.stay fun g hg _=>set_other _ _ _ _ g (by omega)
theorem TwR.app1 (h:TwR w B c1 v1 c2 v2 te C1 C2 R1 R2 TE) {v':Value}{p:VRow}(ho:Own w' B 28 5 v' (R1.length+1) (R1.flatMap encVR2 ++ encVR2 p)) (hg:w.grownBy w' v1.ownBlock) (hl:v'.ownBlock=v1.ownBlock∨v'.ownBlock=some w.heap.size) (hp:OwnCs w B p.1 p.2.coef) :
 TwR w' B c1 v' c2 v2 te C1 C2 (R1 ++ [p]) R2 TE:=by
 have h0:=h.own1
 refine ⟨?_,OwnK.offT h.tech h0 hg (by decide),fun q hq=>?_,fun q hq=>OwnK.offT (h.co2 q hq) h0 hg (by decide),fun q hq=>OwnK.offT (h.cot q hq) h0 hg (by decide),OwnK.offT h.cl1 h0 hg (by decide),OwnK.offT h.cl2 h0 hg (by decide)⟩
 ·have:=OwnF.app h.rows false trivial ho hg hl
  refine this.sub fun i _=>?_
  cases i<;>simp
 ·rcases List.mem_append.1 hq with hq|hq
  ·exact OwnK.offT (h.co1 q hq) h0 hg (by decide)
  ·rw[List.mem_singleton.1 hq];exact OwnK.offT hp h0 hg (by decide)
theorem TwR.app2 (h:TwR w B c1 v1 c2 v2 te C1 C2 R1 R2 TE) {v':Value}{p:VRow}(ho:Own w' B 28 5 v' (R2.length+1) (R2.flatMap encVR2 ++ encVR2 p)) (hg:w.grownBy w' v2.ownBlock) (hl:v'.ownBlock=v2.ownBlock∨v'.ownBlock=some w.heap.size) (hp:OwnCs w B p.1 p.2.coef) :
 TwR w' B c1 v1 c2 v' te C1 C2 R1 (R2 ++ [p]) TE:=by
 have h0:=h.own2
 refine ⟨?_,OwnK.offT h.tech h0 hg (by decide),fun q hq=>OwnK.offT (h.co1 q hq) h0 hg (by decide),fun q hq=>?_,fun q hq=>OwnK.offT (h.cot q hq) h0 hg (by decide),OwnK.offT h.cl1 h0 hg (by decide),OwnK.offT h.cl2 h0 hg (by decide)⟩
 ·have:=OwnF.app h.rows true trivial ho hg hl
  refine this.sub fun i _=>?_
  cases i<;>simp
 ·rcases List.mem_append.1 hq with hq|hq
  ·exact OwnK.offT (h.co2 q hq) h0 hg (by decide)
  ·rw[List.mem_singleton.1 hq];exact OwnK.offT hp h0 hg (by decide)
theorem TwR.appT (h:TwR w B c1 v1 c2 v2 te C1 C2 R1 R2 TE) {v':Value}{p:Value × List CoefM}(ho:Own w' B 25 1 v' (TE.length+1) (TE.map (·.1) ++ [p.1])) (hg:w.grownBy w' te.ownBlock) (hp:OwnCs w B p.1 p.2) :
 TwR w' B c1 v1 c2 v2 v' C1 C2 R1 R2 (TE ++ [p]):=by
 have h0:=h.tech
 refine ⟨?_,?_,fun q hq=>OwnK.offT (h.co1 q hq) h0 hg (by decide),fun q hq=>OwnK.offT (h.co2 q hq) h0 hg (by decide),fun q hq=>?_,OwnK.offT h.cl1 h0 hg (by decide),OwnK.offT h.cl2 h0 hg (by decide)⟩
 ·exact h.rows.stay fun i g hi hgi=>by obtain ⟨cur,hc⟩:=(h.rows.own i hi).typed hgi;exact grown_other h0 hg hc (by decide)
 ·simpa using ho
 ·rcases List.mem_append.1 hq with hq|hq
  ·exact OwnK.offT (h.cot q hq) h0 hg (by decide)
  ·rw[List.mem_singleton.1 hq];exact OwnK.offT hp h0 hg (by decide)
theorem TwR.nil (h1:Own w B 31 5 c1 C1.length (C1.flatMap encCol)) (h2:Own w B 31 5 c2 C2.length (C2.flatMap encCol)):TwR w B c1 (.slice none 0 0) c2 (.slice none 0 0) (.slice none 0 0) C1 C2 [] [] []:=
 ⟨⟨fun i _=>by cases i<;>exact OwnK.nil_ _ _ _ _ _,fun i j g _ _ h1 _=>(by cases i<;>cases h1)⟩,OwnK.nil_ _ _ _ _ _,fun p hp=>(by cases hp),fun p hp=>(by cases hp),fun p hp=>(by cases hp),h1,h2⟩
def TechR (w:World) (g o:Nat) (l:List CoefM):Prop:=∃ cv,w.cell? ⟨g,o,none⟩=some cv∧CsIn w cv l
theorem TechR.firm:Firm TechR:=fun _ _ _ _ _ ⟨cv,h1,h2⟩ hb=>⟨cv,cell_keep h1 hb,h2.keep CoefR.firm hb⟩
abbrev TechIn (w:World) (v:Value) (l:List (List CoefM)):Prop:=SlIn TechR 1 w v l
def TwoIn (w:World) (v:Value) (t:TwoM):Prop:=∃ c1 v1 c2 v2 te,v=.agg #[c1,v1,c2,v2,te]∧ColsIn w c1 t.first.cols∧RowsIn w v1 t.first.rows∧ColsIn w c2 t.second.cols∧RowsIn w v2 t.second.rows∧TechIn w te t.tech
end Vic
namespace Vic
open Go Go.RowKit
theorem SlIn.map_ {α β:Type}{R:World→Nat→Nat→β→Prop}{size:Nat}{w:World}{v:Value}{l:List α}(f:α→β) (h:SlIn (fun w g o x=>R w g o (f x)) size w v l):SlIn R size w v (l.map f):=by
 obtain ⟨A,c,h1,h2,h3⟩:=h
 refine ⟨A,c,by rw[List.length_map];exact h1,by rw[List.length_map];exact h2,fun i x hx=>?_⟩
 rw[List.getElem?_map]at hx
 obtain ⟨y,hy,rfl⟩:=Option.map_eq_some_iff.1 hx
 exact h3 i y hy
theorem OwnCs.csIn {w:World}{B:Nat}{v:Value}{cs:List CoefM}(h:OwnCs w B v cs):CsIn w v cs:=
 OwnK.slIn encCf_len h fun g i x hx hk=>⟨by simpa using hk 0 _ rfl,hk 1 _ rfl⟩
theorem own_colsIn {w:World}{B:Nat}{v:Value}{cs:List ColM}(h:Own w B 31 5 v cs.length (cs.flatMap encCol)):ColsIn w v cs:=
 OwnK.slIn encCol_len h fun g i x hx hk=>⟨by simpa using hk 0 _ rfl,hk 1 _ rfl,hk 2 _ rfl,hk 3 _ rfl,hk 4 _ rfl⟩
theorem own_rowsIn {w:World}{B:Nat}{v:Value}{l:List VRow}(h:Own w B 28 5 v l.length (l.flatMap encVR2)) (hc:∀ p∈l,OwnCs w B p.1 p.2.coef):RowsIn w v (l.map (·.2)):=
 SlIn.map_ (·.2) (OwnK.slIn (size:=5) (fun _=>rfl) h fun g i x hx hk=>⟨x.1,by simpa using hk 0 _ rfl,hk 1 _ rfl,hk 2 _ rfl,hk 3 _ rfl,hk 4 _ rfl,(hc x (List.mem_of_getElem? hx)).csIn⟩)
theorem map_flat1 (l:List (Value × List CoefM)):l.map (·.1)=l.flatMap fun p=>[p.1]:=by
 induction l with
 | nil=>rfl
 | cons a l ih=>rw[List.map_cons,List.flatMap_cons,ih];rfl
theorem own_techIn {w:World}{B:Nat}{v:Value}{l:List (Value × List CoefM)}(h:Own w B 25 1 v l.length (l.map (·.1))) (hc:∀ p∈l,OwnCs w B p.1 p.2):TechIn w v (l.map (·.2)):=by
 rw[map_flat1]at h
 exact SlIn.map_ (R:=TechR) (fun p:Value × List CoefM=>p.2) (OwnK.slIn (R:=fun w g o p=>TechR w g o p.2) (enc:=fun p=>[p.1]) (size:=1) (fun _=>rfl) h fun g i x hx hk=>⟨x.1,by simpa using hk 0 _ rfl,(hc x (List.mem_of_getElem? hx)).csIn⟩)
theorem TwR.twoIn {w:World}{B:Nat}{c1 v1 c2 v2 te:Value}{C1 C2:List ColM}{R1 R2:List VRow}{TE:List (Value × List CoefM)}(h:TwR w B c1 v1 c2 v2 te C1 C2 R1 R2 TE) {t:TwoM}
 (e:t=⟨⟨C1,R1.map (·.2)⟩,⟨C2,R2.map (·.2)⟩,TE.map (·.2)⟩):TwoIn w (.agg #[c1,v1,c2,v2,te]) t:=by
 subst e
 exact ⟨_,_,_,_,_,rfl,own_colsIn h.cl1,own_rowsIn h.own1 h.co1,own_colsIn h.cl2,own_rowsIn h.own2 h.co2,own_techIn h.tech h.cot⟩
theorem cut_in {c:CoreM}{ps:List PerM}(h:mayTime c ps=0):ps.length=2∧∃ col row:Nat,cutCol c ps=(col:Nat)∧cutRow c ps=(row:Nat)∧0<col∧col<c.cols.length∧row<c.rows.length:=by
 rcases ps with _|⟨a,_|⟨b,_|⟨d,l⟩⟩⟩
 ·cases h
 ·cases h
 ·refine ⟨rfl,?_⟩
  have hu:mayTime c [a,b]=if colAt c a.1<0∨colAt c b.1<0∨Vic.rowAt c a.2.1<0∨Vic.rowAt c b.2.1<0∨a.2.2=b.2.2 then 4 else if colAt c a.1≠0∨1<Vic.rowAt c a.2.1∨colAt c b.1≤0∨Vic.rowAt c b.2.1≤Vic.rowAt c a.2.1 then 5 else 0:=rfl
  rw[hu]at h
  split at h
  ·cases h
  ·rename_i h1
   split at h
   ·cases h
   ·rename_i h2
    have hc:=idxT_ge (c.cols.map (·.name)) b.1
    have hr:=idxT_ge (c.rows.map (·.name)) b.2.1
    rw[List.length_map]at hc hr
    have hca:colAt c b.1=idxT (c.cols.map (·.name)) b.1:=rfl
    have hra:rowIx c b.2.1=idxT (c.rows.map (·.name)) b.2.1:=rfl
    have h3:0≤rowIx c b.2.1:=by
     have h4:1≤Vic.rowAt c b.2.1:=by omega
     unfold Vic.rowAt at h4
     split at h4
     ·omega
     ·split at h4<;>omega
    refine ⟨(colAt c b.1).toNat,(rowIx c b.2.1).toNat,?_,?_,?_,?_,?_⟩
    ·show colAt c b.1=_;omega
    ·show rowIx c b.2.1=_;omega
    ·omega
    ·omega
    ·omega
 ·cases h
theorem TwoIn.keep {w w':World}{v:Value}{t:TwoM}(h:TwoIn w v t) (hb:Below w.heap.size w w'):TwoIn w' v t:=by
 obtain ⟨a,b,c,d,e,h1,h2,h3,h4,h5,h6⟩:=h
 exact ⟨a,b,c,d,e,h1,h2.keep ColR.firm hb,h3.keep RowR.firm hb,h4.keep ColR.firm hb,h5.keep RowR.firm hb,h6.keep TechR.firm hb⟩
theorem TwoIn.no (w:World):TwoIn w (.agg #[.slice none 0 0,.slice none 0 0,.slice none 0 0,.slice none 0 0,.slice none 0 0]) noTwo:=
 ⟨_,_,_,_,_,rfl,SlIn.nil_ _ _ _,SlIn.nil_ _ _ _,SlIn.nil_ _ _ _,SlIn.nil_ _ _ _,SlIn.nil_ _ _ _⟩
def RowC (w:World) (g o:Nat) (x:RowM):Prop:=
 ∃ cv,w.cell? ⟨g,o,none⟩=some (.string ⟨x.name.toArray⟩)∧w.cell? ⟨g,o+1,none⟩=some (.int .i64 x.kind)∧w.cell? ⟨g,o+2,none⟩=some cv∧w.cell? ⟨g,o+3,none⟩=some (.string ⟨x.rhs.toArray⟩)∧w.cell? ⟨g,o+4,none⟩=some (.string ⟨x.range.toArray⟩)∧CsIn w cv x.coef∧NilOr cv x.coef
theorem RowC.rowsIn {w:World}{v:Value}{l:List RowM}(h:SlIn RowC 5 w v l):RowsIn w v l:=h.imp fun g o x _ ⟨cv,h1,h2,h3,h4,h5,h6,_⟩=>⟨cv,h1,h2,h3,h4,h5,h6⟩
end Vic
end
section
namespace Vic
open Go Go.RowKit
noncomputable def workF (row i:Nat) (r:RowM):List (Bool × RowM):=(rangedM r).map fun x=>(decide (i<row),x)
noncomputable def work (row:Nat):Nat→List RowM→List (Bool × RowM)
 | _,[]=>[]
 | i,r :: l=>workF row i r ++ work row (i+1) l
theorem work_snoc (row:Nat) (r:RowM):∀ (l:List RowM) (i:Nat),work row i (l ++ [r])=work row i l ++ workF row (i+l.length) r
 | [],i=>by simp[work]
 | a :: l,i=>by
   rw[List.cons_append,work,work,work_snoc row r l (i+1),List.append_assoc,List.length_cons,show i+1+l.length=i+(l.length+1) by omega]
theorem ranged_len (r:RowM):(rangedM r).length≤2:=by
 unfold rangedM
 dsimp only
 split
 ·simp
 ·split
  ·simp
  ·split
   ·simp
   ·split<;>simp
theorem ranged_coef {r x:RowM}(h:x∈rangedM r):x.coef=r.coef:=by
 unfold rangedM at h
 dsimp only at h
 split at h
 ·rw[List.mem_singleton.1 h]
 ·split at h
  ·simp at h;rcases h with rfl|rfl<;>rfl
  ·split at h
   ·simp at h;rcases h with rfl|rfl<;>rfl
   ·split at h
    ·simp at h;rcases h with rfl|rfl<;>rfl
    ·simp at h;rcases h with rfl|rfl<;>rfl
theorem work_len (row:Nat):∀ (l:List RowM) (i:Nat),(work row i l).length≤2*l.length
 | [],i=>by simp[work]
 | r :: l,i=>by
   have h1:=work_len row l (i+1)
   have h2:=ranged_len r
   rw[work,List.length_append,List.length_cons,workF,List.length_map]
   omega
theorem workF_fst (row i:Nat) (r:RowM):((workF row i r).filter (·.1)).map (·.2)=if i<row then rangedM r else []:=by
 unfold workF
 by_cases h:i<row
 ·rw[if_pos h,List.filter_eq_self.2 (fun p hp=>by obtain ⟨x,_,rfl⟩:=List.mem_map.1 hp;simp[h]),List.map_map]
  exact List.map_id _
 ·rw[if_neg h,List.filter_eq_nil_iff.2 (fun p hp=>by obtain ⟨x,_,rfl⟩:=List.mem_map.1 hp;simp[h])]
  rfl
theorem workF_snd (row i:Nat) (r:RowM):((workF row i r).filter (fun p=>!p.1)).map (·.2)=if i<row then []else rangedM r:=by
 unfold workF
 by_cases h:i<row
 ·rw[if_pos h,List.filter_eq_nil_iff.2 (fun p hp=>by obtain ⟨x,_,rfl⟩:=List.mem_map.1 hp;simp[h])]
  rfl
 ·rw[if_neg h,List.filter_eq_self.2 (fun p hp=>by obtain ⟨x,_,rfl⟩:=List.mem_map.1 hp;simp[h]),List.map_map]
  exact List.map_id _
theorem work_fst (row:Nat):∀ (l:List RowM) (i:Nat),((work row i l).filter (·.1)).map (·.2)=((l.take (row - i)).map rangedM).flatten
 | [],i=>by simp[work]
 | r :: l,i=>by
   rw[work,List.filter_append,List.map_append,work_fst row l (i+1),workF_fst]
   by_cases h:i<row
   ·rw[if_pos h,show row - i=(row - (i+1))+1 by omega,List.take_succ_cons]
    rfl
   ·rw[if_neg h,show row - i=0 by omega,show row - (i+1)=0 by omega]
    rfl
theorem work_snd (row:Nat):∀ (l:List RowM) (i:Nat),((work row i l).filter (fun p=>!p.1)).map (·.2)=((l.drop (row - i)).map rangedM).flatten
 | [],i=>by simp[work]
 | r :: l,i=>by
   rw[work,List.filter_append,List.map_append,work_snd row l (i+1),workF_snd]
   by_cases h:i<row
   ·rw[if_pos h,show row - i=(row - (i+1))+1 by omega,List.drop_succ_cons]
    rfl
   ·rw[if_neg h,show row - i=0 by omega,show row - (i+1)=0 by omega]
    rfl
structure DoneR (col:Nat) (P:List (Bool × RowM)) (R1 R2:List VRow) (TE:List (Value × List CoefM)):Prop where
 fst:R1.map (·.2)=(P.filter (·.1)).map (·.2)
 snd:R2.map (·.2)=(P.filter (fun p=>!p.1)).map fun p=>{ p.2 with coef:=ownM p.2.coef col }
 tech:TE.map (·.2)=(P.filter (fun p=>!p.1)).map fun p=>techM p.2.coef col
theorem DoneR.nil (col:Nat):DoneR col [] [] [] []:=⟨rfl,rfl,rfl⟩
theorem DoneR.app1 {col:Nat}{P:List (Bool × RowM)}{R1 R2:List VRow}{TE:List (Value × List CoefM)}(h:DoneR col P R1 R2 TE) (cv:Value) (x:RowM):DoneR col (P ++ [(true,x)]) (R1 ++ [(cv,x)]) R2 TE:=
 ⟨by rw[List.map_append,h.fst,List.filter_append,List.map_append];rfl,by rw[h.snd,List.filter_append];simp,by rw[h.tech,List.filter_append];simp⟩
theorem DoneR.app2 {col:Nat}{P:List (Bool × RowM)}{R1 R2:List VRow}{TE:List (Value × List CoefM)}(h:DoneR col P R1 R2 TE) (cv a:Value) (x:RowM) :
 DoneR col (P ++ [(false,x)]) R1 (R2 ++ [(cv,{ x with coef:=ownM x.coef col })]) (TE ++ [(a,techM x.coef col)]):=
 ⟨by rw[h.fst,List.filter_append];simp,by rw[List.map_append,h.snd,List.filter_append,List.map_append];rfl,by rw[List.map_append,h.tech,List.filter_append,List.map_append];rfl⟩
theorem DoneR.lens {col:Nat}{P:List (Bool × RowM)}{R1 R2:List VRow}{TE:List (Value × List CoefM)}(h:DoneR col P R1 R2 TE):R1.length≤P.length∧R2.length≤P.length∧TE.length≤P.length:=by
 have h1:=congrArg List.length h.fst
 have h2:=congrArg List.length h.snd
 have h3:=congrArg List.length h.tech
 simp only[List.length_map]at h1 h2 h3
 exact ⟨h1▸List.length_filter_le _ _,h2▸List.length_filter_le _ _,h3▸List.length_filter_le _ _⟩
theorem DoneR.end_ {c:CoreM}{col row:Nat}{R1 R2:List VRow}{TE:List (Value × List CoefM)}(h:DoneR col (work row 0 c.rows) R1 R2 TE) :
 splitTwo c col row=⟨⟨c.cols.take col,R1.map (·.2)⟩,⟨c.cols.drop col,R2.map (·.2)⟩,TE.map (·.2)⟩:=by
 have h1:R1.map (·.2)=((c.rows.take row).map rangedM).flatten:=by rw[h.fst,work_fst];simp
 have e:((c.rows.drop row).map rangedM).flatten=((work row 0 c.rows).filter (fun p=>!p.1)).map (·.2):=by rw[work_snd];simp
 have h2:R2.map (·.2)=(((c.rows.drop row).map rangedM).flatten).map fun r=>{ r with coef:=ownM r.coef col }:=by rw[h.snd,e,List.map_map];rfl
 have h3:TE.map (·.2)=(((c.rows.drop row).map rangedM).flatten).map fun r=>techM r.coef col:=by rw[h.tech,e,List.map_map];rfl
 unfold splitTwo
 rw[h1,h2,h3]
structure MadeR (w:World) (bt:Nat) (c1 v1 c2 v2 te:Value) (C1 C2:List ColM) (R1 R2:List VRow) (TE:List (Value × List CoefM)):Prop where
 row:Row w bt 39 #[c1,v1,c2,v2,te]
 two:TwR w (bt+1) c1 v1 c2 v2 te C1 C2 R1 R2 TE
theorem MadeR.keep {w w':World}{bt:Nat}{c1 v1 c2 v2 te:Value}{C1 C2:List ColM}{R1 R2:List VRow}{TE:List (Value × List CoefM)}(h:MadeR w bt c1 v1 c2 v2 te C1 C2 R1 R2 TE) (hb:Below w.heap.size w w'):MadeR w' bt c1 v1 c2 v2 te C1 C2 R1 R2 TE:=
 ⟨h.row.keep hb,h.two.keep hb⟩
theorem MadeR.app1 {w w':World}{bt:Nat}{c1 v1 c2 v2 te:Value}{C1 C2:List ColM}{R1 R2:List VRow}{TE:List (Value × List CoefM)}(h:MadeR w bt c1 v1 c2 v2 te C1 C2 R1 R2 TE) {v':Value}{p:VRow}
 (ho:Own w' (bt+1) 28 5 v' (R1.length+1) (R1.flatMap encVR2 ++ encVR2 p)) (hg:w.grownBy w' v1.ownBlock) (hl:v'.ownBlock=v1.ownBlock∨v'.ownBlock=some w.heap.size) (hp:OwnCs w (bt+1) p.1 p.2.coef) :
 MadeR (w'.setCell ⟨bt,1,none⟩ v') bt c1 v' c2 v2 te C1 C2 (R1 ++ [p]) R2 TE:=by
 refine ⟨?_,(h.two.app1 ho hg hl hp).put _ (by omega)⟩
 have hr:Row w' bt 39 #[c1,v1,c2,v2,te]:=(grown_other h.two.own1 hg h.row (by decide)).trans h.row
 have:=hr.set 1 v'
 simpa using this
theorem MadeR.app2 {w w':World}{bt:Nat}{c1 v1 c2 v2 te:Value}{C1 C2:List ColM}{R1 R2:List VRow}{TE:List (Value × List CoefM)}(h:MadeR w bt c1 v1 c2 v2 te C1 C2 R1 R2 TE) {v':Value}{p:VRow}
 (ho:Own w' (bt+1) 28 5 v' (R2.length+1) (R2.flatMap encVR2 ++ encVR2 p)) (hg:w.grownBy w' v2.ownBlock) (hl:v'.ownBlock=v2.ownBlock∨v'.ownBlock=some w.heap.size) (hp:OwnCs w (bt+1) p.1 p.2.coef) :
 Row w' bt 39 #[c1,v1,c2,v2,te]∧TwR w' (bt+1) c1 v1 c2 v' te C1 C2 R1 (R2 ++ [p]) TE:=
 ⟨(grown_other h.two.own2 hg h.row (by decide)).trans h.row,h.two.app2 ho hg hl hp⟩
theorem made_appT {w w':World}{bt:Nat}{c1 v1 c2 v2 v2' te:Value}{C1 C2:List ColM}{R1 R2:List VRow}{TE:List (Value × List CoefM)}(hr:Row w bt 39 #[c1,v1,c2,v2,te]) (h:TwR w (bt+1) c1 v1 c2 v2' te C1 C2 R1 R2 TE) {v':Value}{p:Value × List CoefM}
 (ho:Own w' (bt+1) 25 1 v' (TE.length+1) (TE.map (·.1) ++ [p.1])) (hg:w.grownBy w' te.ownBlock) (hp:OwnCs w (bt+1) p.1 p.2) :
 Row w' bt 39 #[c1,v1,c2,v2,te]∧MadeR ((w'.setCell ⟨bt,3,none⟩ v2').setCell ⟨bt,4,none⟩ v') bt c1 v1 c2 v2' v' C1 C2 R1 R2 (TE ++ [p]):=by
 have hr':Row w' bt 39 #[c1,v1,c2,v2,te]:=(grown_other h.tech hg hr (by decide)).trans hr
 refine ⟨hr',?_,((h.appT ho hg hp).put _ (by omega)).put _ (by omega)⟩
 have:=(hr'.set 3 v2').set 4 v'
 simpa using this
theorem own_ne {v v':Value}{n g:Nat}(hl:v'.ownBlock=v.ownBlock∨v'.ownBlock=some n) (h:v.ownBlock≠some g) (hg:g<n):v'.ownBlock≠some g:=by
 rcases hl with e|e
 ·rw[e];exact h
 ·rw[e];intro he;injection he;omega
theorem rw_grown {w w':World}{v:Value}{g:Nat}{t:TypeId}{xs:Array Value}(h:Row w g t xs) (hg:w.grownBy w' v.ownBlock) (hn:v.ownBlock≠some g):Row w' g t xs:=
 (hg.block g h.lt (fun e=>hn e.symm)).trans h
structure InR (w5:World) (bt:Nat) (c1 c2:Value) (col:Nat) (C1 C2:List ColM) (P:List (Bool × RowM)) (v1 v2 te:Value) (R1 R2:List VRow) (TE:List (Value × List CoefM)) (w:World):Prop where
 made:MadeR w bt c1 v1 c2 v2 te C1 C2 R1 R2 TE
 done:DoneR col P R1 R2 TE
 below:Below w5.heap.size w5 w
 low:w5.heap.size≤bt
section
variable {w5 w w':World}{bt:Nat}{c1 c2:Value}{col:Nat}{C1 C2:List ColM}{P:List (Bool × RowM)}{v1 v2 te:Value}{R1 R2:List VRow}{TE:List (Value × List CoefM)}
theorem InR.keep (h:InR w5 bt c1 c2 col C1 C2 P v1 v2 te R1 R2 TE w) (hb:Below w.heap.size w w'):InR w5 bt c1 c2 col C1 C2 P v1 v2 te R1 R2 TE w':=
 ⟨h.made.keep hb,h.done,h.below.trans (hb.mono h.below.size),h.low⟩
theorem InR.lt (h:InR w5 bt c1 c2 col C1 C2 P v1 v2 te R1 R2 TE w):bt<w.heap.size:=h.made.row.lt
theorem InR.step1 (h:InR w5 bt c1 c2 col C1 C2 P v1 v2 te R1 R2 TE w) {v' cv:Value}{x:RowM}
 (ho:Own w' (bt+1) 28 5 v' (R1.length+1) (R1.flatMap encVR2 ++ encVR2 (cv,x))) (hg:w.grownBy w' v1.ownBlock) (hl:v'.ownBlock=v1.ownBlock∨v'.ownBlock=some w.heap.size) (hp:OwnCs w (bt+1) cv x.coef) :
 InR w5 bt c1 c2 col C1 C2 (P ++ [(true,x)]) v' v2 te (R1 ++ [(cv,x)]) R2 TE (w'.setCell ⟨bt,1,none⟩ v'):=
 ⟨h.made.app1 ho hg hl hp,h.done.app1 cv x,(h.below.grown hg h.below.size fun j hj=>by have:=(h.made.two.own1.lt hj).1;have:=h.low;omega).setCell (p:=⟨bt,1,none⟩) h.low _,h.low⟩
theorem InR.step2 (h:InR w5 bt c1 c2 col C1 C2 P v1 v2 te R1 R2 TE w) {w2 w3:World}{v2' te' cv a:Value}{x:RowM}
 (ho:Own w' (bt+1) 28 5 v2' (R2.length+1) (R2.flatMap encVR2 ++ encVR2 (cv,{ x with coef:=ownM x.coef col }))) (hg:w.grownBy w' v2.ownBlock) (hl:v2'.ownBlock=v2.ownBlock∨v2'.ownBlock=some w.heap.size) (hp:OwnCs w (bt+1) cv (ownM x.coef col))
 (hb:Below w'.heap.size w' w2) (hoT:Own w3 (bt+1) 25 1 te' (TE.length+1) (TE.map (·.1) ++ [a])) (hgT:w2.grownBy w3 te.ownBlock) (hpT:OwnCs w (bt+1) a (techM x.coef col)) :
 InR w5 bt c1 c2 col C1 C2 (P ++ [(false,x)]) v1 v2' te' R1 (R2 ++ [(cv,{ x with coef:=ownM x.coef col })]) (TE ++ [(a,techM x.coef col)]) ((w3.setCell ⟨bt,3,none⟩ v2').setCell ⟨bt,4,none⟩ te'):=by
 obtain ⟨h1,h2⟩:=h.made.app2 (p:=(cv,{ x with coef:=ownM x.coef col })) ho hg hl hp
 have hpT':OwnCs w' (bt+1) a (techM x.coef col):=OwnK.offT hpT h.made.two.own2 hg (by decide)
 obtain ⟨h3,h4⟩:=made_appT (p:=(a,techM x.coef col)) (h1.keep hb) (h2.keep hb) hoT hgT (OwnK.keep hpT' hb)
 have hb1:Below w5.heap.size w5 w':=h.below.grown hg h.below.size fun j hj=>by have:=(h.made.two.own2.lt hj).1;have:=h.low;omega
 have hb2:Below w5.heap.size w5 w2:=hb1.trans (hb.mono hb1.size)
 have hb3:Below w5.heap.size w5 w3:=hb2.grown hgT hb2.size fun j hj=>by have:=((h2.keep hb).tech.lt hj).1;have:=h.low;omega
 exact ⟨h4,h.done.app2 cv a x,(hb3.setCell (p:=⟨bt,3,none⟩) h.low _).setCell (p:=⟨bt,4,none⟩) h.low _,h.low⟩
end
theorem one_row5 {w:World}{b:Nat}{t:TypeId}{x1 x2 x3 x4 x5:Value}(h:Row w b t #[x1,x2,x3,x4,x5]) (j:Nat) (u:Value) (hj : [x1,x2,x3,x4,x5][j]?=some u):w.cell? ((⟨b,0,none⟩:Addr).add j)=some u:=by
 rcases j with _|_|_|_|_|j<;>simp at hj<;>subst hj
 ·exact h.cell 0
 ·exact h.cell 1
 ·exact h.cell 2
 ·exact h.cell 3
 ·exact h.cell 4
theorem one_row1 {w:World}{b:Nat}{t:TypeId}{x1:Value}(h:Row w b t #[x1]) (j:Nat) (u:Value) (hj : [x1][j]?=some u):w.cell? ((⟨b,0,none⟩:Addr).add j)=some u:=by
 rcases j with _|j<;>simp at hj
 subst hj
 exact h.cell 0
theorem encVR_len (cv:Value) (r:RowM):(encVR cv r).length=5:=rfl
theorem src_cell {w:World}{g:Nat}{cv:Value}{l:List RowM}(h:Row w g 28 (l.flatMap (encVR cv)).toArray) {j:Nat}{x:RowM}(hx:l[j]?=some x) {i:Nat}{u:Value}(hi:(encVR cv x)[i]?=some u):w.cell? ⟨g,j*5+i,none⟩=some u:=by
 have h5:i<5:=by
  have:=(List.getElem?_eq_some_iff.1 hi).1
  rw[encVR_len]at this
  exact this
 rw[h.cell]
 have:=fl_get (encVR_len cv) hx h5
 simpa using this.trans hi
end Vic
end
