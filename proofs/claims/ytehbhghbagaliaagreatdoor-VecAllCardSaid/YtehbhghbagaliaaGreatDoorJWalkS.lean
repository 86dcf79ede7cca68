/- Package victuallerref1: products and sums of the document's fractions. And: Package victuallerref1: sums of the document's fractions. Package victuallerref1: fractions as values: sums, products, their text, whether one is nought; the number at a place of coefficients. -/
import Derived.Test.YtehbhghbagaliaaGreatDoorJWalkR
import Derived.Deep.RegionHeld
import Derived.Test.YtehbhghbagaliaaGreatDoorJWalkT
import Derived.Test.YtehbhghbagaliaaGreatDoorJWalkF
set_option linter.unusedVariables false
set_option linter.unusedSimpArgs false
namespace Go.Proofs.YtehbhghbagaliaaGreatDoor
open Go.RowKit Vic
abbrev vprod1_0:Oper:={ dst:=some 5,op:=Go.Op.fieldAddr 35 (Go.Operand.tmp 2) 0,type:=0,pos:="ref.go:304",after:=#[],guard:=none }
abbrev vprod1_1:Oper:={ dst:=some 6,op:=Go.Op.load 4 (Go.Operand.tmp 5),type:=4,pos:="ref.go:304",after:=#[{ on:=0,ground:=Go.Ground.data }],guard:=none }
abbrev vprod1_2:Oper:={ dst:=some 7,op:=Go.Op.fieldAddr 35 (Go.Operand.tmp 3) 0,type:=0,pos:="ref.go:304",after:=#[],guard:=none }
abbrev vprod1_3:Oper:={ dst:=some 8,op:=Go.Op.load 4 (Go.Operand.tmp 7),type:=4,pos:="ref.go:304",after:=#[{ on:=2,ground:=Go.Ground.data }],guard:=none }
abbrev vprod1_4:Oper:={ dst:=some 9,op:=Go.Op.binOp Go.BinOp.neq 4 (Go.Operand.tmp 6) (Go.Operand.tmp 8) 4,type:=4,pos:="ref.go:304",after:=#[{ on:=1,ground:=Go.Ground.data },{ on:=3,ground:=Go.Ground.data }],guard:=none }
abbrev vprod1_5:Oper:={ dst:=some 10,op:=Go.Op.fieldAddr 35 (Go.Operand.tmp 2) 1,type:=0,pos:="ref.go:304",after:=#[],guard:=none }
abbrev vprod1_6:Oper:={ dst:=some 11,op:=Go.Op.load 33 (Go.Operand.tmp 10),type:=33,pos:="ref.go:304",after:=#[{ on:=5,ground:=Go.Ground.data }],guard:=none }
abbrev vprod1_7:Oper:={ dst:=some 12,op:=Go.Op.fieldAddr 35 (Go.Operand.tmp 3) 1,type:=0,pos:="ref.go:304",after:=#[],guard:=none }
abbrev vprod1_8:Oper:={ dst:=some 13,op:=Go.Op.load 33 (Go.Operand.tmp 12),type:=33,pos:="ref.go:304",after:=#[{ on:=7,ground:=Go.Ground.data }],guard:=none }
abbrev vprod1_9:Oper:={ dst:=some 14,op:=Go.Op.call { callee:=Go.Callee.value (Go.Operand.func 48),args:=#[Go.Operand.tmp 11,Go.Operand.tmp 13],argTypes:=#[33,33] },type:=33,pos:="ref.go:304",after:=#[{ on:=6,ground:=Go.Ground.data },{ on:=8,ground:=Go.Ground.data }],guard:=none }
abbrev vprod1_10:Oper:={ dst:=some 15,op:=Go.Op.fieldAddr 35 (Go.Operand.tmp 2) 2,type:=0,pos:="ref.go:304",after:=#[],guard:=none }
abbrev vprod1_11:Oper:={ dst:=some 16,op:=Go.Op.load 33 (Go.Operand.tmp 15),type:=33,pos:="ref.go:304",after:=#[{ on:=10,ground:=Go.Ground.data }],guard:=none }
abbrev vprod1_12:Oper:={ dst:=some 17,op:=Go.Op.fieldAddr 35 (Go.Operand.tmp 3) 2,type:=0,pos:="ref.go:304",after:=#[],guard:=none }
abbrev vprod1_13:Oper:={ dst:=some 18,op:=Go.Op.load 33 (Go.Operand.tmp 17),type:=33,pos:="ref.go:304",after:=#[{ on:=12,ground:=Go.Ground.data }],guard:=none }
abbrev vprod1_14:Oper:={ dst:=some 19,op:=Go.Op.call { callee:=Go.Callee.value (Go.Operand.func 48),args:=#[Go.Operand.tmp 16,Go.Operand.tmp 18],argTypes:=#[33,33] },type:=33,pos:="ref.go:304",after:=#[{ on:=11,ground:=Go.Ground.data },{ on:=13,ground:=Go.Ground.data },{ on:=9,ground:=Go.Ground.chain }],guard:=none }
abbrev vprod1_15:Oper:={ dst:=some 20,op:=Go.Op.call { callee:=Go.Callee.value (Go.Operand.func 41),args:=#[Go.Operand.tmp 9,Go.Operand.tmp 14,Go.Operand.tmp 19],argTypes:=#[4,33,33] },type:=35,pos:="ref.go:304",after:=#[{ on:=4,ground:=Go.Ground.data },{ on:=9,ground:=Go.Ground.data },{ on:=14,ground:=Go.Ground.data },{ on:=14,ground:=Go.Ground.chain }],guard:=none }
abbrev vprod1_16:Oper:={ dst:=none,op:=Go.Op.store 35 (Go.Operand.tmp 4) (Go.Operand.tmp 20),type:=0,pos:="ref.go:304",after:=#[{ on:=15,ground:=Go.Ground.data },{ on:=15,ground:=Go.Ground.chain },{ on:=0,ground:=Go.Ground.phase },{ on:=1,ground:=Go.Ground.phase },{ on:=2,ground:=Go.Ground.phase },{ on:=3,ground:=Go.Ground.phase },{ on:=4,ground:=Go.Ground.phase },{ on:=5,ground:=Go.Ground.phase },{ on:=6,ground:=Go.Ground.phase },{ on:=7,ground:=Go.Ground.phase },{ on:=8,ground:=Go.Ground.phase },{ on:=9,ground:=Go.Ground.phase },{ on:=10,ground:=Go.Ground.phase },{ on:=11,ground:=Go.Ground.phase },{ on:=12,ground:=Go.Ground.phase },{ on:=13,ground:=Go.Ground.phase },{ on:=14,ground:=Go.Ground.phase },{ on:=15,ground:=Go.Ground.phase }],guard:=none }
set_option maxRecDepth 100000 in
set_option maxHeartbeats 8000000 in
theorem ref_Prod (w:World) (u v:Value) (p q:Bool) (n d m e:Nat) (hu:RefQ w u p n d) (hv:RefQ w v q m e) (hnl:(tdg n).length≤500000) (hdl:(tdg d).length≤500000) (hml:(tdg m).length≤500000) (hel:(tdg e).length≤500000) :
 Calls Tryz.prog 15 #[u,v] w (Gives (fun x w'=>RefQ w' x ((p != q) && decide (n*m≠0)) (n*m) (d*e)) w):=by
 obtain ⟨A1,c1,A2,c2,rfl,hn,hd,_⟩:=hu.open_
 obtain ⟨A3,c3,A4,c4,rfl,hm,he,_⟩:=hv.open_
 obtain ⟨k1,hk1⟩:∃ k1,k1=(tdg n).length:=⟨_,rfl⟩
 obtain ⟨k2,hk2⟩:∃ k2,k2=(tdg d).length:=⟨_,rfl⟩
 obtain ⟨k3,hk3⟩:∃ k3,k3=(tdg m).length:=⟨_,rfl⟩
 obtain ⟨k4,hk4⟩:∃ k4,k4=(tdg e).length:=⟨_,rfl⟩
 rw[← hk1]at hn ⊢
 rw[← hk2]at hd ⊢
 rw[← hk3]at hm ⊢
 rw[← hk4]at he ⊢
 obtain ⟨wa,hwa⟩:∃ X,X=w.alloc (.cells #[.bool p,.slice A1 k1 c1,.slice A2 k2 c2] 35):=⟨_,rfl⟩
 have ba:Below w.heap.size w wa:=by rw[hwa];exact (Below.refl _ _).alloc (Nat.le_refl _) _
 have ea:wa.heap.size=w.heap.size+1:=by rw[hwa];simp
 have ra:Row wa w.heap.size 35 #[.bool p,.slice A1 k1 c1,.slice A2 k2 c2]:=by rw[hwa];exact Row.new _ _ _
 obtain ⟨wb,hwb⟩:∃ X,X=wa.alloc (.cells #[.bool q,.slice A3 k3 c3,.slice A4 k4 c4] 35):=⟨_,rfl⟩
 have bb:Below wa.heap.size wa wb:=by rw[hwb];exact (Below.refl _ _).alloc (Nat.le_refl _) _
 have eb:wb.heap.size=w.heap.size+1+1:=by rw[hwb];simp[ea]
 have rb:Row wb (w.heap.size+1) 35 #[.bool q,.slice A3 k3 c3,.slice A4 k4 c4]:=by rw[← ea,hwb];exact Row.new _ _ _
 obtain ⟨wc,hwc⟩:∃ X,X=wb.alloc (.cells #[.bool false,.slice none 0 0,.slice none 0 0] 35):=⟨_,rfl⟩
 have bc:Below wb.heap.size wb wc:=by rw[hwc];exact (Below.refl _ _).alloc (Nat.le_refl _) _
 have rc:Row wc (w.heap.size+1+1) 35 #[.bool false,.slice none 0 0,.slice none 0 0]:=by rw[← eb,hwc];exact Row.new _ _ _
 have BC:Below w.heap.size w wc:=below_seq ba (below_seq bb bc)
 have HWA:=Lib.hid hwa;have HWB:=Lib.hid hwb;have HWC:=Lib.hid hwc
 have BWC:Below wa.heap.size wa wc:=below_seq bb bc
 have HS:Hid (∀ W,Below wb.heap.size wb W→(W.cell? ⟨w.heap.size,0,none⟩=some (.bool p)∧W.cell? ⟨w.heap.size,1,none⟩=some (.slice A1 k1 c1)∧W.cell? ⟨w.heap.size,2,none⟩=some (.slice A2 k2 c2)∧W.cell? ⟨w.heap.size+1,0,none⟩=some (.bool q)∧W.cell? ⟨w.heap.size+1,1,none⟩=some (.slice A3 k3 c3)∧W.cell? ⟨w.heap.size+1,2,none⟩=some (.slice A4 k4 c4))):=Lib.hid fun W h=>by
  have r1:=(ra.keep bb).keep h
  have r2:=rb.keep h
  exact ⟨r1.cell 0,r1.cell 1,r1.cell 2,r2.cell 0,r2.cell 1,r2.cell 2⟩
 have CM1:Hid (∀ W,Below wc.heap.size wc W→Calls Tryz.prog 48 #[.slice A1 k1 c1,.slice A3 k3 c3] W (Gives (fun x w'=>RefN w' x (n*m)) W)):=Lib.hid fun W h=>ref_Mul W _ _ n m (hn.keep (below_seq BC h)) (hm.keep (below_seq BC h)) hnl hml
 have CM2:Hid (∀ W,Below wc.heap.size wc W→Calls Tryz.prog 48 #[.slice A2 k2 c2,.slice A4 k4 c4] W (Gives (fun x w'=>RefN w' x (d*e)) W)):=Lib.hid fun W h=>ref_Mul W _ _ d e (hd.keep (below_seq BC h)) (he.keep (below_seq BC h)) hdl hel
 have HRC:=Lib.hid rc
 have HBC:=Lib.hid BC
 have HCB:=Lib.hid bc
 have hsz:(Tryz.prog.info? 35).map (·.size)=some 3:=by kernel_rfl
 have HWB0:Hid (w.heap.size≤wb.heap.size∧wb.heap.size=w.heap.size+1+1):=Lib.hid ⟨by omega,eb⟩
 obtain ⟨pq,hpq⟩:∃ pq,pq=(p != q):=⟨_,rfl⟩
 obtain ⟨sb,hsb⟩:∃ sb,sb=(pq && decide (n*m≠0)):=⟨_,rfl⟩
 rw[← hpq,← hsb]
 have HPQ:=Lib.hid hpq;have HSB:=Lib.hid hsb
 clear hpq hsb
 clear hk1 hk2 hk3 hk4 hwa hwb hwc ra rb rc ba bb bc BWC BC hu hv hn hd hm he hnl hdl hml hel ea eb
 have CFR:Hid (∀ W x y,RefN W x (n*m)→RefN W y (d*e)→Calls Tryz.prog 41 #[.bool pq,x,y] W (Gives (fun z w'=>RefQ w' z sb (n*m) (d*e)) W)):=Lib.hid fun W x y hx hy=>by
  rw[HSB.out];exact ref_Frac W pq x y _ _ hx hy
 go_enter Tryz.func15,Tryz.ntmps15
 go_wp2_with fail
 rw[← HWA.out,← HWB.out,← HWC.out]
 refine wp_region_held (S:=fun W=>Below wb.heap.size wb W) (by kernel_rfl) ?_
 change wpAnyH _ _ _ _ _ _ _ _ (World.drew _)
 obtain ⟨W0,hW0⟩:∃ X,X=(wc).drew:=⟨_,rfl⟩
 rw[← hW0]
 have z0:Below (wc).heap.size (wc) W0:=by rw[hW0];exact Below.drewN_ (Below.refl _ _) 1
 clear hW0
 refine wpAnyH_take (i:=0) (oi:=vprod1_0) (v:=.pointer (some ⟨w.heap.size,0,none⟩)) rfl (by kernel_rfl) (by kernel_rfl) (by kernel_rfl) (fun _ _ _ h=>h) (Or.inl ⟨by kernel_rfl,?_⟩) (below_seq HCB.out z0) ?_
 ·intro w hSw;go_simp<;>first|omega|(intro hh;exfalso;omega)|rfl|(rw[HPQ.out];cases p<;>cases q<;>first|rfl|simp)
 try simp only[Act.put,List.setIfInBounds_toArray,List.set_cons_zero,List.set_cons_succ,vprod1_0]
 refine wpAnyH_take (i:=1) (oi:=vprod1_1) (v:=.bool p) rfl (by kernel_rfl) (by kernel_rfl) (by kernel_rfl) (fun _ _ _ h=>h) (Or.inl ⟨by kernel_rfl,?_⟩) (below_seq HCB.out z0) ?_
 ·intro w hSw;obtain ⟨e0,e1,e2,e3,e4,e5⟩:=HS.out w hSw;go_simp<;>first|omega|(intro hh;exfalso;omega)|rfl|(rw[HPQ.out];cases p<;>cases q<;>first|rfl|simp)
 try simp only[Act.put,List.setIfInBounds_toArray,List.set_cons_zero,List.set_cons_succ,vprod1_1]
 refine wpAnyH_take (i:=2) (oi:=vprod1_2) (v:=.pointer (some ⟨w.heap.size+1,0,none⟩)) rfl (by kernel_rfl) (by kernel_rfl) (by kernel_rfl) (fun _ _ _ h=>h) (Or.inl ⟨by kernel_rfl,?_⟩) (below_seq HCB.out z0) ?_
 ·intro w hSw;go_simp<;>first|omega|(intro hh;exfalso;omega)|rfl|(rw[HPQ.out];cases p<;>cases q<;>first|rfl|simp)
 try simp only[Act.put,List.setIfInBounds_toArray,List.set_cons_zero,List.set_cons_succ,vprod1_2]
 refine wpAnyH_take (i:=3) (oi:=vprod1_3) (v:=.bool q) rfl (by kernel_rfl) (by kernel_rfl) (by kernel_rfl) (fun _ _ _ h=>h) (Or.inl ⟨by kernel_rfl,?_⟩) (below_seq HCB.out z0) ?_
 ·intro w hSw;obtain ⟨e0,e1,e2,e3,e4,e5⟩:=HS.out w hSw;go_simp<;>first|omega|(intro hh;exfalso;omega)|rfl|(rw[HPQ.out];cases p<;>cases q<;>first|rfl|simp)
 try simp only[Act.put,List.setIfInBounds_toArray,List.set_cons_zero,List.set_cons_succ,vprod1_3]
 refine wpAnyH_take (i:=4) (oi:=vprod1_4) (v:=.bool pq) rfl (by kernel_rfl) (by kernel_rfl) (by kernel_rfl) (fun _ _ _ h=>h) (Or.inl ⟨by kernel_rfl,?_⟩) (below_seq HCB.out z0) ?_
 ·intro w hSw;go_simp<;>first|omega|(intro hh;exfalso;omega)|rfl|(rw[HPQ.out];cases p<;>cases q<;>first|rfl|simp)
 try simp only[Act.put,List.setIfInBounds_toArray,List.set_cons_zero,List.set_cons_succ,vprod1_4]
 refine wpAnyH_take (i:=5) (oi:=vprod1_5) (v:=.pointer (some ⟨w.heap.size,1,none⟩)) rfl (by kernel_rfl) (by kernel_rfl) (by kernel_rfl) (fun _ _ _ h=>h) (Or.inl ⟨by kernel_rfl,?_⟩) (below_seq HCB.out z0) ?_
 ·intro w hSw;go_simp<;>first|omega|(intro hh;exfalso;omega)|rfl|(rw[HPQ.out];cases p<;>cases q<;>first|rfl|simp)
 try simp only[Act.put,List.setIfInBounds_toArray,List.set_cons_zero,List.set_cons_succ,vprod1_5]
 refine wpAnyH_take (i:=6) (oi:=vprod1_6) (v:=.slice A1 k1 c1) rfl (by kernel_rfl) (by kernel_rfl) (by kernel_rfl) (fun _ _ _ h=>h) (Or.inl ⟨by kernel_rfl,?_⟩) (below_seq HCB.out z0) ?_
 ·intro w hSw;obtain ⟨e0,e1,e2,e3,e4,e5⟩:=HS.out w hSw;go_simp<;>first|omega|(intro hh;exfalso;omega)|rfl|(rw[HPQ.out];cases p<;>cases q<;>first|rfl|simp)
 try simp only[Act.put,List.setIfInBounds_toArray,List.set_cons_zero,List.set_cons_succ,vprod1_6]
 refine wpAnyH_take (i:=7) (oi:=vprod1_7) (v:=.pointer (some ⟨w.heap.size+1,1,none⟩)) rfl (by kernel_rfl) (by kernel_rfl) (by kernel_rfl) (fun _ _ _ h=>h) (Or.inl ⟨by kernel_rfl,?_⟩) (below_seq HCB.out z0) ?_
 ·intro w hSw;go_simp<;>first|omega|(intro hh;exfalso;omega)|rfl|(rw[HPQ.out];cases p<;>cases q<;>first|rfl|simp)
 try simp only[Act.put,List.setIfInBounds_toArray,List.set_cons_zero,List.set_cons_succ,vprod1_7]
 refine wpAnyH_take (i:=8) (oi:=vprod1_8) (v:=.slice A3 k3 c3) rfl (by kernel_rfl) (by kernel_rfl) (by kernel_rfl) (fun _ _ _ h=>h) (Or.inl ⟨by kernel_rfl,?_⟩) (below_seq HCB.out z0) ?_
 ·intro w hSw;obtain ⟨e0,e1,e2,e3,e4,e5⟩:=HS.out w hSw;go_simp<;>first|omega|(intro hh;exfalso;omega)|rfl|(rw[HPQ.out];cases p<;>cases q<;>first|rfl|simp)
 try simp only[Act.put,List.setIfInBounds_toArray,List.set_cons_zero,List.set_cons_succ,vprod1_8]
 refine wpAnyH_take (i:=10) (oi:=vprod1_10) (v:=.pointer (some ⟨w.heap.size,2,none⟩)) rfl (by kernel_rfl) (by kernel_rfl) (by kernel_rfl) (fun _ _ _ h=>h) (Or.inl ⟨by kernel_rfl,?_⟩) (below_seq HCB.out z0) ?_
 ·intro w hSw;go_simp<;>first|omega|(intro hh;exfalso;omega)|rfl|(rw[HPQ.out];cases p<;>cases q<;>first|rfl|simp)
 try simp only[Act.put,List.setIfInBounds_toArray,List.set_cons_zero,List.set_cons_succ,vprod1_10]
 refine wpAnyH_take (i:=11) (oi:=vprod1_11) (v:=.slice A2 k2 c2) rfl (by kernel_rfl) (by kernel_rfl) (by kernel_rfl) (fun _ _ _ h=>h) (Or.inl ⟨by kernel_rfl,?_⟩) (below_seq HCB.out z0) ?_
 ·intro w hSw;obtain ⟨e0,e1,e2,e3,e4,e5⟩:=HS.out w hSw;go_simp<;>first|omega|(intro hh;exfalso;omega)|rfl|(rw[HPQ.out];cases p<;>cases q<;>first|rfl|simp)
 try simp only[Act.put,List.setIfInBounds_toArray,List.set_cons_zero,List.set_cons_succ,vprod1_11]
 refine wpAnyH_take (i:=12) (oi:=vprod1_12) (v:=.pointer (some ⟨w.heap.size+1,2,none⟩)) rfl (by kernel_rfl) (by kernel_rfl) (by kernel_rfl) (fun _ _ _ h=>h) (Or.inl ⟨by kernel_rfl,?_⟩) (below_seq HCB.out z0) ?_
 ·intro w hSw;go_simp<;>first|omega|(intro hh;exfalso;omega)|rfl|(rw[HPQ.out];cases p<;>cases q<;>first|rfl|simp)
 try simp only[Act.put,List.setIfInBounds_toArray,List.set_cons_zero,List.set_cons_succ,vprod1_12]
 refine wpAnyH_take (i:=13) (oi:=vprod1_13) (v:=.slice A4 k4 c4) rfl (by kernel_rfl) (by kernel_rfl) (by kernel_rfl) (fun _ _ _ h=>h) (Or.inl ⟨by kernel_rfl,?_⟩) (below_seq HCB.out z0) ?_
 ·intro w hSw;obtain ⟨e0,e1,e2,e3,e4,e5⟩:=HS.out w hSw;go_simp<;>first|omega|(intro hh;exfalso;omega)|rfl|(rw[HPQ.out];cases p<;>cases q<;>first|rfl|simp)
 try simp only[Act.put,List.setIfInBounds_toArray,List.set_cons_zero,List.set_cons_succ,vprod1_13]
 refine wpAnyH_ready (rs:=[9]) (by kernel_rfl) (by simp) ?_
 apply AllReadyH.cons (o:=vprod1_9) (by kernel_rfl)
 case hs=>exact AllReadyH.nil
 intro K hK
 simp only[vprod1_9]
 go_simp
 go_at_call 48
 refine (CM1.out _ z0).mono ?_
 rintro e' W1 ⟨x1,rfl,hx1,b1⟩
 have z1:=below_seq z0 b1
 refine hK.out _ _ (below_seq HCB.out z1) (fun hHeld=>?_)
 clear hK K hHeld
 try simp only[Act.put,List.setIfInBounds_toArray,List.set_cons_zero,List.set_cons_succ]
 refine wpAnyH_ready (rs:=[14]) (by kernel_rfl) (by simp) ?_
 apply AllReadyH.cons (o:=vprod1_14) (by kernel_rfl)
 case hs=>exact AllReadyH.nil
 intro K hK
 simp only[vprod1_14]
 go_simp
 go_at_call 48
 refine (CM2.out _ z1).mono ?_
 rintro e' W2 ⟨x2,rfl,hx2,b2⟩
 have z2:=below_seq z1 b2
 have hk2:=hx1.keep b2
 refine hK.out _ _ (below_seq HCB.out z2) (fun hHeld=>?_)
 clear hK K hHeld
 try simp only[Act.put,List.setIfInBounds_toArray,List.set_cons_zero,List.set_cons_succ]
 refine wpAnyH_ready (rs:=[15]) (by kernel_rfl) (by simp) ?_
 apply AllReadyH.cons (o:=vprod1_15) (by kernel_rfl)
 case hs=>exact AllReadyH.nil
 intro K hK
 simp only[vprod1_15]
 go_simp
 go_at_call 41
 refine (CFR.out W2 _ _ hk2 hx2).mono ?_
 rintro e' W3 ⟨x3,rfl,hx3,b3⟩
 have z3:=below_seq z2 b3
 obtain ⟨B1,g1,B2,g2,rfl,hn3,hd3,hs3⟩:=hx3.open_
 refine hK.out _ _ (below_seq HCB.out z3) (fun hHeld=>?_)
 clear hK K hHeld
 try simp only[Act.put,List.setIfInBounds_toArray,List.set_cons_zero,List.set_cons_succ]
 refine wpAnyH_ready (rs:=[16]) (by kernel_rfl) (by simp) ?_
 apply AllReadyH.cons (o:=vprod1_16) (by kernel_rfl)
 case hs=>exact AllReadyH.nil
 intro K hK
 simp only[vprod1_16]
 obtain ⟨w9,hw9,hrow9,hb9,q0,q1,q2,f0,f1,f2⟩:=qput (.bool sb) (.slice B1 (tdg (n*m)).length g1) (.slice B2 (tdg (d*e)).length g2) (HRC.out.keep z3) (HBC.out.trans (z3.mono HBC.out.size)) (by omega)
 have hO:Only (w.heap.size+1+1) W3 w9:=by rw[hw9];exact (((Only.refl _ _).setCell 0 _).setCell 1 _).setCell 2 _
 have S9:Below wb.heap.size wb w9:=(below_seq HCB.out z3).trans (hO.below (by have:=HWB0.out.2;omega))
 have hcs:=qrow_far false (.slice none 0 0) (.slice none 0 0) (fun _ _ h=>by cases h) (fun _ _ h=>by cases h)
 have hn9:=Ints.rowfar hn3 (HRC.out.keep z3) (hcs _) hO
 have hd9:=Ints.rowfar hd3 (HRC.out.keep z3) (hcs _) hO
 have HW9:=Lib.hid hw9;have HR9:=Lib.hid hrow9;have HN9:=Lib.hid hn9;have HD9:=Lib.hid hd9;have HS3:=Lib.hid hs3
 clear hw9 hrow9 hn9 hd9 hn3 hd3 hs3 hO hcs
 go_simp
 rw[← HW9.out]
 clear q0 q1 q2 f0 f1 f2
 refine hK.out _ _ (S9) (fun hHeld=>?_)
 clear hK K hHeld
 try simp only[Act.put,List.setIfInBounds_toArray,List.set_cons_zero,List.set_cons_succ]
 refine wpAnyH_done (by kernel_rfl) ?_ _
 go_wp2_with fail
 refine bodyPost_ret (v:=.agg #[.bool sb,.slice B1 (tdg (n*m)).length g1,.slice B2 (tdg (d*e)).length g2]) (results_cell_row (p:=4) (ty:=35) Tryz.results15 _ _ (w.heap.size+1+1) 35 #[.bool sb,.slice B1 (tdg (n*m)).length g1,.slice B2 (tdg (d*e)).length g2] (0,0) _ (by simp[go_sem]) HR9.out Tryz.underlying35 rfl hsz) rfl ?_
 exact ⟨_,rfl,⟨_,_,rfl,HN9.out,HD9.out,HS3.out⟩,hb9⟩
end Go.Proofs.YtehbhghbagaliaaGreatDoor
set_option linter.unusedVariables false
set_option linter.unusedSimpArgs false
namespace Vic
open Go Go.RowKit
def sumS (p q:Bool) (x y:Nat):Bool:=if p=q then p else if y≤x then p else q
def sumN (p q:Bool) (x y:Nat):Nat:=if p=q then x+y else if y≤x then x - y else y - x
theorem sum_sgn (p q:Bool) (x y:Nat):sgn (sumS p q x y) (sumN p q x y)=sgn p x+sgn q y:=by
 unfold sumS sumN sgn
 cases p<;>cases q<;>by_cases h:y≤x<;>simp[h]<;>omega
theorem tdg_mul_len (a b:Nat):(tdg (a*b)).length≤(tdg a).length+(tdg b).length:=by
 have h1:a<10000 ^ (tdg a).length:=lt_pow_digs_length (B:=10000) (by omega) a
 have h2:b<10000 ^ (tdg b).length:=lt_pow_digs_length (B:=10000) (by omega) b
 apply tdg_len;rw[Nat.pow_add];exact Nat.mul_lt_mul'' h1 h2
end Vic
namespace Go.Proofs.YtehbhghbagaliaaGreatDoor
open Go.RowKit Vic
abbrev vsum1_0:Oper:={ dst:=some 8,op:=Go.Op.fieldAddr 35 (Go.Operand.tmp 2) 1,type:=0,pos:="ref.go:293",after:=#[],guard:=none }
abbrev vsum1_1:Oper:={ dst:=some 9,op:=Go.Op.load 33 (Go.Operand.tmp 8),type:=33,pos:="ref.go:293",after:=#[{ on:=0,ground:=Go.Ground.data }],guard:=none }
abbrev vsum1_2:Oper:={ dst:=some 10,op:=Go.Op.fieldAddr 35 (Go.Operand.tmp 3) 2,type:=0,pos:="ref.go:293",after:=#[],guard:=none }
abbrev vsum1_3:Oper:={ dst:=some 11,op:=Go.Op.load 33 (Go.Operand.tmp 10),type:=33,pos:="ref.go:293",after:=#[{ on:=2,ground:=Go.Ground.data }],guard:=none }
abbrev vsum1_4:Oper:={ dst:=some 12,op:=Go.Op.call { callee:=Go.Callee.value (Go.Operand.func 48),args:=#[Go.Operand.tmp 9,Go.Operand.tmp 11],argTypes:=#[33,33] },type:=33,pos:="ref.go:293",after:=#[{ on:=1,ground:=Go.Ground.data },{ on:=3,ground:=Go.Ground.data }],guard:=none }
abbrev vsum1_5:Oper:={ dst:=some 13,op:=Go.Op.fieldAddr 35 (Go.Operand.tmp 3) 1,type:=0,pos:="ref.go:293",after:=#[],guard:=none }
abbrev vsum1_6:Oper:={ dst:=some 14,op:=Go.Op.load 33 (Go.Operand.tmp 13),type:=33,pos:="ref.go:293",after:=#[{ on:=5,ground:=Go.Ground.data }],guard:=none }
abbrev vsum1_7:Oper:={ dst:=some 15,op:=Go.Op.fieldAddr 35 (Go.Operand.tmp 2) 2,type:=0,pos:="ref.go:293",after:=#[],guard:=none }
abbrev vsum1_8:Oper:={ dst:=some 16,op:=Go.Op.load 33 (Go.Operand.tmp 15),type:=33,pos:="ref.go:293",after:=#[{ on:=7,ground:=Go.Ground.data }],guard:=none }
abbrev vsum1_9:Oper:={ dst:=some 17,op:=Go.Op.call { callee:=Go.Callee.value (Go.Operand.func 48),args:=#[Go.Operand.tmp 14,Go.Operand.tmp 16],argTypes:=#[33,33] },type:=33,pos:="ref.go:293",after:=#[{ on:=6,ground:=Go.Ground.data },{ on:=8,ground:=Go.Ground.data },{ on:=4,ground:=Go.Ground.chain }],guard:=none }
abbrev vsum1_10:Oper:={ dst:=some 5,op:=Go.Op.assign (Go.Operand.tmp 12),type:=33,pos:="ref.go:293",after:=#[{ on:=4,ground:=Go.Ground.data },{ on:=9,ground:=Go.Ground.chain },{ on:=0,ground:=Go.Ground.phase },{ on:=1,ground:=Go.Ground.phase },{ on:=2,ground:=Go.Ground.phase },{ on:=3,ground:=Go.Ground.phase },{ on:=4,ground:=Go.Ground.phase },{ on:=5,ground:=Go.Ground.textOnly Go.Departure.lateStores },{ on:=6,ground:=Go.Ground.textOnly Go.Departure.lateStores },{ on:=7,ground:=Go.Ground.textOnly Go.Departure.lateStores },{ on:=8,ground:=Go.Ground.textOnly Go.Departure.lateStores },{ on:=9,ground:=Go.Ground.textOnly Go.Departure.lateStoresUnsure }],guard:=none }
abbrev vsum1_11:Oper:={ dst:=some 6,op:=Go.Op.assign (Go.Operand.tmp 17),type:=33,pos:="ref.go:293",after:=#[{ on:=9,ground:=Go.Ground.data },{ on:=10,ground:=Go.Ground.chain },{ on:=0,ground:=Go.Ground.phase },{ on:=1,ground:=Go.Ground.phase },{ on:=2,ground:=Go.Ground.phase },{ on:=3,ground:=Go.Ground.phase },{ on:=4,ground:=Go.Ground.phase },{ on:=5,ground:=Go.Ground.phase },{ on:=6,ground:=Go.Ground.phase },{ on:=7,ground:=Go.Ground.phase },{ on:=8,ground:=Go.Ground.phase },{ on:=9,ground:=Go.Ground.phase },{ on:=10,ground:=Go.Ground.phase }],guard:=none }
abbrev vsum4_0:Oper:={ dst:=some 29,op:=Go.Op.fieldAddr 35 (Go.Operand.tmp 2) 0,type:=0,pos:="ref.go:297",after:=#[],guard:=none }
abbrev vsum4_1:Oper:={ dst:=some 30,op:=Go.Op.load 4 (Go.Operand.tmp 29),type:=4,pos:="ref.go:297",after:=#[{ on:=0,ground:=Go.Ground.data }],guard:=none }
abbrev vsum4_2:Oper:={ dst:=some 31,op:=Go.Op.move (Go.Operand.tmp 5),type:=33,pos:="ref.go:297",after:=#[],guard:=none }
abbrev vsum4_3:Oper:={ dst:=some 32,op:=Go.Op.move (Go.Operand.tmp 6),type:=33,pos:="ref.go:297",after:=#[],guard:=none }
abbrev vsum4_4:Oper:={ dst:=some 33,op:=Go.Op.call { callee:=Go.Callee.value (Go.Operand.func 49),args:=#[Go.Operand.tmp 31,Go.Operand.tmp 32],argTypes:=#[33,33] },type:=33,pos:="ref.go:297",after:=#[{ on:=2,ground:=Go.Ground.data },{ on:=3,ground:=Go.Ground.data }],guard:=none }
abbrev vsum4_5:Oper:={ dst:=some 34,op:=Go.Op.move (Go.Operand.tmp 7),type:=33,pos:="ref.go:297",after:=#[],guard:=none }
abbrev vsum4_6:Oper:={ dst:=some 35,op:=Go.Op.call { callee:=Go.Callee.value (Go.Operand.func 41),args:=#[Go.Operand.tmp 30,Go.Operand.tmp 33,Go.Operand.tmp 34],argTypes:=#[4,33,33] },type:=35,pos:="ref.go:297",after:=#[{ on:=1,ground:=Go.Ground.data },{ on:=4,ground:=Go.Ground.data },{ on:=5,ground:=Go.Ground.data },{ on:=4,ground:=Go.Ground.chain }],guard:=none }
abbrev vsum4_7:Oper:={ dst:=none,op:=Go.Op.store 35 (Go.Operand.tmp 4) (Go.Operand.tmp 35),type:=0,pos:="ref.go:297",after:=#[{ on:=6,ground:=Go.Ground.data },{ on:=6,ground:=Go.Ground.chain },{ on:=0,ground:=Go.Ground.phase },{ on:=1,ground:=Go.Ground.phase },{ on:=2,ground:=Go.Ground.phase },{ on:=3,ground:=Go.Ground.phase },{ on:=4,ground:=Go.Ground.phase },{ on:=5,ground:=Go.Ground.phase },{ on:=6,ground:=Go.Ground.phase }],guard:=none }
abbrev vsum6_0:Oper:={ dst:=some 41,op:=Go.Op.fieldAddr 35 (Go.Operand.tmp 2) 0,type:=0,pos:="ref.go:299",after:=#[],guard:=none }
abbrev vsum6_1:Oper:={ dst:=some 42,op:=Go.Op.load 4 (Go.Operand.tmp 41),type:=4,pos:="ref.go:299",after:=#[{ on:=0,ground:=Go.Ground.data }],guard:=none }
abbrev vsum6_2:Oper:={ dst:=some 43,op:=Go.Op.move (Go.Operand.tmp 5),type:=33,pos:="ref.go:299",after:=#[],guard:=none }
abbrev vsum6_3:Oper:={ dst:=some 44,op:=Go.Op.move (Go.Operand.tmp 6),type:=33,pos:="ref.go:299",after:=#[],guard:=none }
abbrev vsum6_4:Oper:={ dst:=some 45,op:=Go.Op.call { callee:=Go.Callee.value (Go.Operand.func 50),args:=#[Go.Operand.tmp 43,Go.Operand.tmp 44],argTypes:=#[33,33] },type:=33,pos:="ref.go:299",after:=#[{ on:=2,ground:=Go.Ground.data },{ on:=3,ground:=Go.Ground.data }],guard:=none }
abbrev vsum6_5:Oper:={ dst:=some 46,op:=Go.Op.move (Go.Operand.tmp 7),type:=33,pos:="ref.go:299",after:=#[],guard:=none }
abbrev vsum6_6:Oper:={ dst:=some 47,op:=Go.Op.call { callee:=Go.Callee.value (Go.Operand.func 41),args:=#[Go.Operand.tmp 42,Go.Operand.tmp 45,Go.Operand.tmp 46],argTypes:=#[4,33,33] },type:=35,pos:="ref.go:299",after:=#[{ on:=1,ground:=Go.Ground.data },{ on:=4,ground:=Go.Ground.data },{ on:=5,ground:=Go.Ground.data },{ on:=4,ground:=Go.Ground.chain }],guard:=none }
abbrev vsum6_7:Oper:={ dst:=none,op:=Go.Op.store 35 (Go.Operand.tmp 4) (Go.Operand.tmp 47),type:=0,pos:="ref.go:299",after:=#[{ on:=6,ground:=Go.Ground.data },{ on:=6,ground:=Go.Ground.chain },{ on:=0,ground:=Go.Ground.phase },{ on:=1,ground:=Go.Ground.phase },{ on:=2,ground:=Go.Ground.phase },{ on:=3,ground:=Go.Ground.phase },{ on:=4,ground:=Go.Ground.phase },{ on:=5,ground:=Go.Ground.phase },{ on:=6,ground:=Go.Ground.phase }],guard:=none }
abbrev vsum7_0:Oper:={ dst:=some 48,op:=Go.Op.fieldAddr 35 (Go.Operand.tmp 3) 0,type:=0,pos:="ref.go:301",after:=#[],guard:=none }
abbrev vsum7_1:Oper:={ dst:=some 49,op:=Go.Op.load 4 (Go.Operand.tmp 48),type:=4,pos:="ref.go:301",after:=#[{ on:=0,ground:=Go.Ground.data }],guard:=none }
abbrev vsum7_2:Oper:={ dst:=some 50,op:=Go.Op.move (Go.Operand.tmp 6),type:=33,pos:="ref.go:301",after:=#[],guard:=none }
abbrev vsum7_3:Oper:={ dst:=some 51,op:=Go.Op.move (Go.Operand.tmp 5),type:=33,pos:="ref.go:301",after:=#[],guard:=none }
abbrev vsum7_4:Oper:={ dst:=some 52,op:=Go.Op.call { callee:=Go.Callee.value (Go.Operand.func 50),args:=#[Go.Operand.tmp 50,Go.Operand.tmp 51],argTypes:=#[33,33] },type:=33,pos:="ref.go:301",after:=#[{ on:=2,ground:=Go.Ground.data },{ on:=3,ground:=Go.Ground.data }],guard:=none }
abbrev vsum7_5:Oper:={ dst:=some 53,op:=Go.Op.move (Go.Operand.tmp 7),type:=33,pos:="ref.go:301",after:=#[],guard:=none }
abbrev vsum7_6:Oper:={ dst:=some 54,op:=Go.Op.call { callee:=Go.Callee.value (Go.Operand.func 41),args:=#[Go.Operand.tmp 49,Go.Operand.tmp 52,Go.Operand.tmp 53],argTypes:=#[4,33,33] },type:=35,pos:="ref.go:301",after:=#[{ on:=1,ground:=Go.Ground.data },{ on:=4,ground:=Go.Ground.data },{ on:=5,ground:=Go.Ground.data },{ on:=4,ground:=Go.Ground.chain }],guard:=none }
abbrev vsum7_7:Oper:={ dst:=none,op:=Go.Op.store 35 (Go.Operand.tmp 4) (Go.Operand.tmp 54),type:=0,pos:="ref.go:301",after:=#[{ on:=6,ground:=Go.Ground.data },{ on:=6,ground:=Go.Ground.chain },{ on:=0,ground:=Go.Ground.phase },{ on:=1,ground:=Go.Ground.phase },{ on:=2,ground:=Go.Ground.phase },{ on:=3,ground:=Go.Ground.phase },{ on:=4,ground:=Go.Ground.phase },{ on:=5,ground:=Go.Ground.phase },{ on:=6,ground:=Go.Ground.phase }],guard:=none }
set_option maxRecDepth 100000 in
set_option maxHeartbeats 8000000 in
theorem ref_Sum (w:World) (u v:Value) (p q:Bool) (n d m e:Nat) (hu:RefQ w u p n d) (hv:RefQ w v q m e) (hd0:d≠0) (he0:e≠0) (hnl:(tdg n).length≤100000) (hdl:(tdg d).length≤100000) (hml:(tdg m).length≤100000) (hel:(tdg e).length≤100000) :
 Calls Tryz.prog 14 #[u,v] w (Gives (fun x w'=>RefQ w' x (sumS p q (n*e) (m*d) && decide (sumN p q (n*e) (m*d)≠0)) (sumN p q (n*e) (m*d)) (d*e)) w):=by
 obtain ⟨A1,c1,A2,c2,rfl,hn,hd,hsp⟩:=hu.open_
 obtain ⟨A3,c3,A4,c4,rfl,hm,he,hsq⟩:=hv.open_
 obtain ⟨k1,hk1⟩:∃ k1,k1=(tdg n).length:=⟨_,rfl⟩
 obtain ⟨k2,hk2⟩:∃ k2,k2=(tdg d).length:=⟨_,rfl⟩
 obtain ⟨k3,hk3⟩:∃ k3,k3=(tdg m).length:=⟨_,rfl⟩
 obtain ⟨k4,hk4⟩:∃ k4,k4=(tdg e).length:=⟨_,rfl⟩
 rw[← hk1]at hn ⊢
 rw[← hk2]at hd ⊢
 rw[← hk3]at hm ⊢
 rw[← hk4]at he ⊢
 obtain ⟨wa,hwa⟩:∃ X,X=w.alloc (.cells #[.bool p,.slice A1 k1 c1,.slice A2 k2 c2] 35):=⟨_,rfl⟩
 have ba:Below w.heap.size w wa:=by rw[hwa];exact (Below.refl _ _).alloc (Nat.le_refl _) _
 have ea:wa.heap.size=w.heap.size+1:=by rw[hwa];simp
 have ra:Row wa w.heap.size 35 #[.bool p,.slice A1 k1 c1,.slice A2 k2 c2]:=by rw[hwa];exact Row.new _ _ _
 obtain ⟨wb,hwb⟩:∃ X,X=wa.alloc (.cells #[.bool q,.slice A3 k3 c3,.slice A4 k4 c4] 35):=⟨_,rfl⟩
 have bb:Below wa.heap.size wa wb:=by rw[hwb];exact (Below.refl _ _).alloc (Nat.le_refl _) _
 have eb:wb.heap.size=w.heap.size+1+1:=by rw[hwb];simp[ea]
 have rb:Row wb (w.heap.size+1) 35 #[.bool q,.slice A3 k3 c3,.slice A4 k4 c4]:=by rw[← ea,hwb];exact Row.new _ _ _
 obtain ⟨wc,hwc⟩:∃ X,X=wb.alloc (.cells #[.bool false,.slice none 0 0,.slice none 0 0] 35):=⟨_,rfl⟩
 have bc:Below wb.heap.size wb wc:=by rw[hwc];exact (Below.refl _ _).alloc (Nat.le_refl _) _
 have rc:Row wc (w.heap.size+1+1) 35 #[.bool false,.slice none 0 0,.slice none 0 0]:=by rw[← eb,hwc];exact Row.new _ _ _
 have BC:Below w.heap.size w wc:=below_seq ba (below_seq bb bc)
 have HWA:=Lib.hid hwa;have HWB:=Lib.hid hwb;have HWC:=Lib.hid hwc
 have BWC:Below wa.heap.size wa wc:=below_seq bb bc
 have HS:Hid (∀ W,Below wb.heap.size wb W→(W.cell? ⟨w.heap.size,0,none⟩=some (.bool p)∧W.cell? ⟨w.heap.size,1,none⟩=some (.slice A1 k1 c1)∧W.cell? ⟨w.heap.size,2,none⟩=some (.slice A2 k2 c2)∧W.cell? ⟨w.heap.size+1,0,none⟩=some (.bool q)∧W.cell? ⟨w.heap.size+1,1,none⟩=some (.slice A3 k3 c3)∧W.cell? ⟨w.heap.size+1,2,none⟩=some (.slice A4 k4 c4))):=Lib.hid fun W h=>by
  have r1:=(ra.keep bb).keep h
  have r2:=rb.keep h
  exact ⟨r1.cell 0,r1.cell 1,r1.cell 2,r2.cell 0,r2.cell 1,r2.cell 2⟩
 have CX:Hid (∀ W,Below wc.heap.size wc W→Calls Tryz.prog 48 #[.slice A1 k1 c1,.slice A4 k4 c4] W (Gives (fun x w'=>RefN w' x (n*e)) W)):=Lib.hid fun W h=>ref_Mul W _ _ n e (hn.keep (below_seq BC h)) (he.keep (below_seq BC h)) (by omega) (by omega)
 have CY:Hid (∀ W,Below wc.heap.size wc W→Calls Tryz.prog 48 #[.slice A3 k3 c3,.slice A2 k2 c2] W (Gives (fun x w'=>RefN w' x (m*d)) W)):=Lib.hid fun W h=>ref_Mul W _ _ m d (hm.keep (below_seq BC h)) (hd.keep (below_seq BC h)) (by omega) (by omega)
 have CD:Hid (∀ W,Below wc.heap.size wc W→Calls Tryz.prog 48 #[.slice A2 k2 c2,.slice A4 k4 c4] W (Gives (fun x w'=>RefN w' x (d*e)) W)):=Lib.hid fun W h=>ref_Mul W _ _ d e (hd.keep (below_seq BC h)) (he.keep (below_seq BC h)) (by omega) (by omega)
 obtain ⟨x,hx⟩:∃ x,x=n*e:=⟨_,rfl⟩
 obtain ⟨y,hy⟩:∃ y,y=m*d:=⟨_,rfl⟩
 have hxl:(tdg x).length≤300000:=by rw[hx];exact Nat.le_trans (tdg_mul_len n e) (by omega)
 have hyl:(tdg y).length≤300000:=by rw[hy];exact Nat.le_trans (tdg_mul_len m d) (by omega)
 have hx0:p=true→x≠0:=fun h=>by rw[hx];exact Nat.mul_ne_zero (hsp h) he0
 have hy0:q=true→y≠0:=fun h=>by rw[hy];exact Nat.mul_ne_zero (hsq h) hd0
 rw[← hx]at CX ⊢
 rw[← hy]at CY ⊢
 have HRC:=Lib.hid rc
 have HBC:=Lib.hid BC
 have HCB:=Lib.hid bc
 have hsz:(Tryz.prog.info? 35).map (·.size)=some 3:=by kernel_rfl
 have HWB0:Hid (w.heap.size≤wb.heap.size∧wb.heap.size=w.heap.size+1+1):=Lib.hid ⟨by omega,eb⟩
 have HX0:=Lib.hid hx0;have HY0:=Lib.hid hy0;have HXL:=Lib.hid hxl;have HYL:=Lib.hid hyl
 clear hk1 hk2 hk3 hk4 hwa hwb hwc ra rb rc ba bb bc BC hu hv hn hd hm he hnl hdl hml hel ea eb hx hy hsp hsq hd0 he0 hx0 hy0 hxl hyl
 obtain ⟨M,hM⟩:∃ M,M=sumN p q x y:=⟨_,rfl⟩
 obtain ⟨sg,hsg⟩:∃ sg,sg=(sumS p q x y && decide (M≠0)):=⟨_,rfl⟩
 rw[← hM,← hsg]
 have HM:=Lib.hid hM;have HSG:=Lib.hid hsg
 clear hM hsg
 go_enter Tryz.func14,Tryz.ntmps14
 go_wp2_with fail
 rw[← HWA.out,← HWB.out,← HWC.out]
 refine wp_region_held (S:=fun W=>Below wb.heap.size wb W) (by kernel_rfl) ?_
 change wpAnyH _ _ _ _ _ _ _ _ (World.drew _)
 obtain ⟨W0,hW0⟩:∃ X,X=(wc).drew:=⟨_,rfl⟩
 rw[← hW0]
 have z0:Below (wc).heap.size (wc) W0:=by rw[hW0];exact Below.drewN_ (Below.refl _ _) 1
 clear hW0
 refine wpAnyH_take (i:=0) (oi:=vsum1_0) (v:=.pointer (some ⟨w.heap.size,1,none⟩)) rfl (by kernel_rfl) (by kernel_rfl) (by kernel_rfl) (fun _ _ _ h=>h) (Or.inl ⟨by kernel_rfl,?_⟩) (below_seq HCB.out z0) ?_
 ·intro w hSw;go_simp<;>first|omega|(intro hh;exfalso;omega)|rfl
 try simp only[Act.put,List.setIfInBounds_toArray,List.set_cons_zero,List.set_cons_succ,vsum1_0]
 refine wpAnyH_take (i:=1) (oi:=vsum1_1) (v:=.slice A1 k1 c1) rfl (by kernel_rfl) (by kernel_rfl) (by kernel_rfl) (fun _ _ _ h=>h) (Or.inl ⟨by kernel_rfl,?_⟩) (below_seq HCB.out z0) ?_
 ·intro w hSw;obtain ⟨e0,e1,e2,e3,e4,e5⟩:=HS.out w hSw;go_simp<;>first|omega|(intro hh;exfalso;omega)|rfl
 try simp only[Act.put,List.setIfInBounds_toArray,List.set_cons_zero,List.set_cons_succ,vsum1_1]
 refine wpAnyH_take (i:=2) (oi:=vsum1_2) (v:=.pointer (some ⟨w.heap.size+1,2,none⟩)) rfl (by kernel_rfl) (by kernel_rfl) (by kernel_rfl) (fun _ _ _ h=>h) (Or.inl ⟨by kernel_rfl,?_⟩) (below_seq HCB.out z0) ?_
 ·intro w hSw;go_simp<;>first|omega|(intro hh;exfalso;omega)|rfl
 try simp only[Act.put,List.setIfInBounds_toArray,List.set_cons_zero,List.set_cons_succ,vsum1_2]
 refine wpAnyH_take (i:=3) (oi:=vsum1_3) (v:=.slice A4 k4 c4) rfl (by kernel_rfl) (by kernel_rfl) (by kernel_rfl) (fun _ _ _ h=>h) (Or.inl ⟨by kernel_rfl,?_⟩) (below_seq HCB.out z0) ?_
 ·intro w hSw;obtain ⟨e0,e1,e2,e3,e4,e5⟩:=HS.out w hSw;go_simp<;>first|omega|(intro hh;exfalso;omega)|rfl
 try simp only[Act.put,List.setIfInBounds_toArray,List.set_cons_zero,List.set_cons_succ,vsum1_3]
 refine wpAnyH_take (i:=5) (oi:=vsum1_5) (v:=.pointer (some ⟨w.heap.size+1,1,none⟩)) rfl (by kernel_rfl) (by kernel_rfl) (by kernel_rfl) (fun _ _ _ h=>h) (Or.inl ⟨by kernel_rfl,?_⟩) (below_seq HCB.out z0) ?_
 ·intro w hSw;go_simp<;>first|omega|(intro hh;exfalso;omega)|rfl
 try simp only[Act.put,List.setIfInBounds_toArray,List.set_cons_zero,List.set_cons_succ,vsum1_5]
 refine wpAnyH_take (i:=6) (oi:=vsum1_6) (v:=.slice A3 k3 c3) rfl (by kernel_rfl) (by kernel_rfl) (by kernel_rfl) (fun _ _ _ h=>h) (Or.inl ⟨by kernel_rfl,?_⟩) (below_seq HCB.out z0) ?_
 ·intro w hSw;obtain ⟨e0,e1,e2,e3,e4,e5⟩:=HS.out w hSw;go_simp<;>first|omega|(intro hh;exfalso;omega)|rfl
 try simp only[Act.put,List.setIfInBounds_toArray,List.set_cons_zero,List.set_cons_succ,vsum1_6]
 refine wpAnyH_take (i:=7) (oi:=vsum1_7) (v:=.pointer (some ⟨w.heap.size,2,none⟩)) rfl (by kernel_rfl) (by kernel_rfl) (by kernel_rfl) (fun _ _ _ h=>h) (Or.inl ⟨by kernel_rfl,?_⟩) (below_seq HCB.out z0) ?_
 ·intro w hSw;go_simp<;>first|omega|(intro hh;exfalso;omega)|rfl
 try simp only[Act.put,List.setIfInBounds_toArray,List.set_cons_zero,List.set_cons_succ,vsum1_7]
 refine wpAnyH_take (i:=8) (oi:=vsum1_8) (v:=.slice A2 k2 c2) rfl (by kernel_rfl) (by kernel_rfl) (by kernel_rfl) (fun _ _ _ h=>h) (Or.inl ⟨by kernel_rfl,?_⟩) (below_seq HCB.out z0) ?_
 ·intro w hSw;obtain ⟨e0,e1,e2,e3,e4,e5⟩:=HS.out w hSw;go_simp<;>first|omega|(intro hh;exfalso;omega)|rfl
 try simp only[Act.put,List.setIfInBounds_toArray,List.set_cons_zero,List.set_cons_succ,vsum1_8]
 refine wpAnyH_ready (rs:=[4]) (by kernel_rfl) (by simp) ?_
 apply AllReadyH.cons (o:=vsum1_4) (by kernel_rfl)
 case hs=>exact AllReadyH.nil
 intro K hK
 simp only[vsum1_4]
 go_simp
 go_at_call 48
 refine (CX.out _ z0).mono ?_
 rintro e' Wx ⟨vx,rfl,hx,bx⟩
 have zx:=below_seq z0 bx
 refine hK.out _ _ (below_seq HCB.out zx) (fun hHeld=>?_)
 clear hK K hHeld
 try simp only[Act.put,List.setIfInBounds_toArray,List.set_cons_zero,List.set_cons_succ]
 refine wpAnyH_ready (rs:=[9]) (by kernel_rfl) (by simp) ?_
 apply AllReadyH.cons (o:=vsum1_9) (by kernel_rfl)
 case hs=>exact AllReadyH.nil
 intro K hK
 simp only[vsum1_9]
 go_simp
 go_at_call 48
 refine (CY.out _ zx).mono ?_
 rintro e' Wy ⟨vy,rfl,hy,byy⟩
 have zy:=below_seq zx byy
 refine hK.out _ _ (below_seq HCB.out zy) (fun hHeld=>?_)
 clear hK K hHeld
 try simp only[Act.put,List.setIfInBounds_toArray,List.set_cons_zero,List.set_cons_succ]
 refine wpAnyH_take (i:=10) (oi:=vsum1_10) (v:=vx) rfl (by kernel_rfl) (by kernel_rfl) (by kernel_rfl) (fun _ _ _ h=>h) (Or.inl ⟨by kernel_rfl,?_⟩) (below_seq HCB.out zy) ?_
 ·intro w hSw;go_simp<;>first|omega|(intro hh;exfalso;omega)|rfl
 try simp only[Act.put,List.setIfInBounds_toArray,List.set_cons_zero,List.set_cons_succ,vsum1_10]
 refine wpAnyH_take (i:=11) (oi:=vsum1_11) (v:=vy) rfl (by kernel_rfl) (by kernel_rfl) (by kernel_rfl) (fun _ _ _ h=>h) (Or.inl ⟨by kernel_rfl,?_⟩) (below_seq HCB.out zy) ?_
 ·intro w hSw;go_simp<;>first|omega|(intro hh;exfalso;omega)|rfl
 try simp only[Act.put,List.setIfInBounds_toArray,List.set_cons_zero,List.set_cons_succ,vsum1_11]
 refine wpAnyH_done (by kernel_rfl) ?_ _
 obtain ⟨P1,c7,e7,_⟩:=hx.open_
 obtain ⟨P2,c8,e8,_⟩:=hy.open_
 subst e7
 subst e8
 have HVX:Hid (RefN Wy (.slice P1 (tdg x).length c7) x):=Lib.hid (by first|exact hx|exact hx.keep byy)
 have HVY:Hid (RefN Wy (.slice P2 (tdg y).length c8) y):=Lib.hid (by first|exact hy|exact hy.keep bx)
 clear hx hy
 obtain ⟨s0,s1,s2,s3,s4,s5⟩:=HS.out _ (below_seq HCB.out zy)
 go_wp2_with fail
 go_at_call 48
 refine (CD.out _ zy).mono ?_
 rintro e' W3 ⟨v3,rfl,h3,b3⟩
 have z3:=below_seq zy b3
 obtain ⟨P3,c9,e9,_⟩:=h3.open_
 subst e9
 replace HVX:=Lib.hid (HVX.out.keep b3)
 replace HVY:=Lib.hid (HVY.out.keep b3)
 have HVD:=Lib.hid h3
 clear h3 s0 s1 s2 s3 s4 s5
 obtain ⟨s0,s1,s2,s3,s4,s5⟩:=HS.out _ (below_seq HCB.out z3)
 go_wp2_with fail
 ·have hpq:p=q:=by
   have:(p == q)=true:=by assumption
   simpa using this
  have hM1:M=x+y:=by rw[HM.out];unfold sumN;rw[if_pos hpq]
  have hS1:sumS p q x y=p:=by unfold sumS;rw[if_pos hpq]
  subst hpq
  have HCA:Hid (∀ W,Below W3.heap.size W3 W→Calls Tryz.prog 49 #[.slice P1 (tdg x).length c7,.slice P2 (tdg y).length c8] W (Gives (fun t w'=>RefN w' t M) W)):=Lib.hid fun W h=>by
   rw[hM1];exact ref_Add W _ _ x y (HVX.out.keep h) (HVY.out.keep h) (Nat.le_trans HXL.out (by decide)) (Nat.le_trans HYL.out (by decide))
  have HFR:Hid (∀ W x z,RefN W x M→RefN W z (d*e)→Calls Tryz.prog 41 #[.bool p,x,z] W (Gives (fun t w'=>RefQ w' t sg M (d*e)) W)):=Lib.hid fun W x z hx hz=>by
   rw[HSG.out,hS1];exact ref_Frac W p x z _ _ hx hz
  clear hS1 hM1 s0 s1 s2 s3 s4 s5
  refine wp_region_held (S:=fun W=>Below wb.heap.size wb W) (by kernel_rfl) ?_
  change wpAnyH _ _ _ _ _ _ _ _ (World.drew _)
  obtain ⟨W4,hW4⟩:∃ X,X=(W3).drew:=⟨_,rfl⟩
  rw[← hW4]
  have y4:Below (W3).heap.size (W3) W4:=by rw[hW4];exact Below.drewN_ (Below.refl _ _) 1
  clear hW4
  have z4:=below_seq z3 y4
  refine wpAnyH_take (i:=0) (oi:=vsum4_0) (v:=.pointer (some ⟨w.heap.size,0,none⟩)) rfl (by kernel_rfl) (by kernel_rfl) (by kernel_rfl) (fun _ _ _ h=>h) (Or.inl ⟨by kernel_rfl,?_⟩) (below_seq HCB.out z4) ?_
  ·intro w hSw;go_simp<;>first|omega|(intro hh;exfalso;omega)|rfl
  try simp only[Act.put,List.setIfInBounds_toArray,List.set_cons_zero,List.set_cons_succ,vsum4_0]
  refine wpAnyH_take (i:=1) (oi:=vsum4_1) (v:=.bool p) rfl (by kernel_rfl) (by kernel_rfl) (by kernel_rfl) (fun _ _ _ h=>h) (Or.inl ⟨by kernel_rfl,?_⟩) (below_seq HCB.out z4) ?_
  ·intro w hSw;obtain ⟨e0,e1,e2,e3,e4,e5⟩:=HS.out w hSw;go_simp<;>first|omega|(intro hh;exfalso;omega)|rfl
  try simp only[Act.put,List.setIfInBounds_toArray,List.set_cons_zero,List.set_cons_succ,vsum4_1]
  refine wpAnyH_take (i:=2) (oi:=vsum4_2) (v:=.slice P1 (tdg x).length c7) rfl (by kernel_rfl) (by kernel_rfl) (by kernel_rfl) (fun _ _ _ h=>h) (Or.inl ⟨by kernel_rfl,?_⟩) (below_seq HCB.out z4) ?_
  ·intro w hSw;go_simp<;>first|omega|(intro hh;exfalso;omega)|rfl
  try simp only[Act.put,List.setIfInBounds_toArray,List.set_cons_zero,List.set_cons_succ,vsum4_2]
  refine wpAnyH_take (i:=3) (oi:=vsum4_3) (v:=.slice P2 (tdg y).length c8) rfl (by kernel_rfl) (by kernel_rfl) (by kernel_rfl) (fun _ _ _ h=>h) (Or.inl ⟨by kernel_rfl,?_⟩) (below_seq HCB.out z4) ?_
  ·intro w hSw;go_simp<;>first|omega|(intro hh;exfalso;omega)|rfl
  try simp only[Act.put,List.setIfInBounds_toArray,List.set_cons_zero,List.set_cons_succ,vsum4_3]
  refine wpAnyH_take (i:=5) (oi:=vsum4_5) (v:=.slice P3 (tdg (d*e)).length c9) rfl (by kernel_rfl) (by kernel_rfl) (by kernel_rfl) (fun _ _ _ h=>h) (Or.inl ⟨by kernel_rfl,?_⟩) (below_seq HCB.out z4) ?_
  ·intro w hSw;go_simp<;>first|omega|(intro hh;exfalso;omega)|rfl
  try simp only[Act.put,List.setIfInBounds_toArray,List.set_cons_zero,List.set_cons_succ,vsum4_5]
  refine wpAnyH_ready (rs:=[4]) (by kernel_rfl) (by simp) ?_
  apply AllReadyH.cons (o:=vsum4_4) (by kernel_rfl)
  case hs=>exact AllReadyH.nil
  intro K hK
  simp only[vsum4_4]
  go_simp
  go_at_call 49
  refine (HCA.out W4 y4).mono ?_
  rintro e' W5 ⟨v5,rfl,h5,b5⟩
  have z5:=below_seq z4 b5
  refine hK.out _ _ (below_seq HCB.out z5) (fun hHeld=>?_)
  clear hK K hHeld
  try simp only[Act.put,List.setIfInBounds_toArray,List.set_cons_zero,List.set_cons_succ]
  refine wpAnyH_ready (rs:=[6]) (by kernel_rfl) (by simp) ?_
  apply AllReadyH.cons (o:=vsum4_6) (by kernel_rfl)
  case hs=>exact AllReadyH.nil
  intro K hK
  simp only[vsum4_6]
  go_simp
  go_at_call 41
  refine (HFR.out W5 _ _ h5 ((HVD.out.keep y4).keep b5)).mono ?_
  rintro e' W6 ⟨x6,rfl,h6,b6⟩
  have z6:=below_seq z5 b6
  obtain ⟨B1,g1,B2,g2,rfl,hn3,hd3,hs3⟩:=h6.open_
  refine hK.out _ _ (below_seq HCB.out z6) (fun hHeld=>?_)
  clear hK K hHeld
  try simp only[Act.put,List.setIfInBounds_toArray,List.set_cons_zero,List.set_cons_succ]
  refine wpAnyH_ready (rs:=[7]) (by kernel_rfl) (by simp) ?_
  apply AllReadyH.cons (o:=vsum4_7) (by kernel_rfl)
  case hs=>exact AllReadyH.nil
  intro K hK
  simp only[vsum4_7]
  obtain ⟨w9,hw9,hrow9,hb9,q0,q1,q2,f0,f1,f2⟩:=qput (.bool sg) (.slice B1 (tdg M).length g1) (.slice B2 (tdg (d*e)).length g2) (HRC.out.keep z6) (HBC.out.trans (z6.mono HBC.out.size)) (by omega)
  have hO:Only (w.heap.size+1+1) W6 w9:=by rw[hw9];exact (((Only.refl _ _).setCell 0 _).setCell 1 _).setCell 2 _
  have S9:Below wb.heap.size wb w9:=(below_seq HCB.out z6).trans (hO.below (by have:=HWB0.out.2;omega))
  have hcs:=qrow_far false (.slice none 0 0) (.slice none 0 0) (fun _ _ h=>by cases h) (fun _ _ h=>by cases h)
  have hn9:=Ints.rowfar hn3 (HRC.out.keep z6) (hcs _) hO
  have hd9:=Ints.rowfar hd3 (HRC.out.keep z6) (hcs _) hO
  have HW9:=Lib.hid hw9;have HR9:=Lib.hid hrow9;have HN9:=Lib.hid hn9;have HD9:=Lib.hid hd9;have HS3:=Lib.hid hs3
  clear hw9 hrow9 hn9 hd9 hn3 hd3 hs3 hO hcs
  go_simp
  rw[← HW9.out]
  clear q0 q1 q2 f0 f1 f2
  refine hK.out _ _ (S9) (fun hHeld=>?_)
  clear hK K hHeld
  try simp only[Act.put,List.setIfInBounds_toArray,List.set_cons_zero,List.set_cons_succ]
  refine wpAnyH_done (by kernel_rfl) ?_ _
  go_wp2_with fail
  refine bodyPost_ret (v:=.agg #[.bool sg,.slice B1 (tdg M).length g1,.slice B2 (tdg (d*e)).length g2]) (results_cell_row (p:=4) (ty:=35) Tryz.results14 _ _ (w.heap.size+1+1) 35 #[.bool sg,.slice B1 (tdg M).length g1,.slice B2 (tdg (d*e)).length g2] (0,0) _ (by simp[go_sem]) HR9.out Tryz.underlying35 rfl hsz) rfl ?_
  exact ⟨_,rfl,⟨_,_,rfl,HN9.out,HD9.out,HS3.out⟩,hb9⟩
 ·have hpq:¬ p=q:=by
   have:(p == q)=false:=by assumption
   simpa using this
  go_at_call 42
  refine (ref_Cmp W3 _ _ x y HVX.out HVY.out (Nat.le_trans HXL.out (by decide)) (Nat.le_trans HYL.out (by decide))).mono ?_
  rintro e' W' ⟨rfl,rfl⟩
  obtain ⟨cm,hcm⟩:∃ cm,cm=cmpI x y:=⟨_,rfl⟩
  rw[← hcm]
  have HCMN:Hid ((0≤cm→y≤x)∧(cm<0→x<y)):=Lib.hid (by rw[hcm];unfold cmpI;split<;>(try split)<;>omega)
  clear hcm
  go_wp2_with fail
  ·have hle:y≤x:=by
    have:=HCMN.out
    omega
   have hM1:M=x - y:=by
    rw[HM.out];unfold sumN;rw[if_neg hpq];rw[if_pos hle]
   have hS1:sumS p q x y=p:=by
    unfold sumS;rw[if_neg hpq];rw[if_pos hle]
   have h0:x≠0:=by
    have k1:=HX0.out;have k2:=HY0.out
    cases p<;>cases q<;>simp at hpq k1 k2<;>omega
   have HCA:Hid (∀ W,Below W3.heap.size W3 W→Calls Tryz.prog 50 #[.slice P1 (tdg x).length c7,.slice P2 (tdg y).length c8] W (Gives (fun t w'=>RefN w' t M) W)):=Lib.hid fun W h=>by
    rw[hM1];exact ref_Sub W _ _ x y (HVX.out.keep h) (HVY.out.keep h) (Nat.le_trans HXL.out (by decide)) h0 (by omega)
   have HFR:Hid (∀ W x z,RefN W x M→RefN W z (d*e)→Calls Tryz.prog 41 #[.bool p,x,z] W (Gives (fun t w'=>RefQ w' t sg M (d*e)) W)):=Lib.hid fun W x z hx hz=>by
    rw[HSG.out,hS1];exact ref_Frac W p x z _ _ hx hz
   clear hS1 hM1 s0 s1 s2 s3 s4 s5
   refine wp_region_held (S:=fun W=>Below wb.heap.size wb W) (by kernel_rfl) ?_
   change wpAnyH _ _ _ _ _ _ _ _ (World.drew _)
   obtain ⟨W4,hW4⟩:∃ X,X=(W3).drew:=⟨_,rfl⟩
   rw[← hW4]
   have y4:Below (W3).heap.size (W3) W4:=by rw[hW4];exact Below.drewN_ (Below.refl _ _) 1
   clear hW4
   have z4:=below_seq z3 y4
   refine wpAnyH_take (i:=0) (oi:=vsum6_0) (v:=.pointer (some ⟨w.heap.size,0,none⟩)) rfl (by kernel_rfl) (by kernel_rfl) (by kernel_rfl) (fun _ _ _ h=>h) (Or.inl ⟨by kernel_rfl,?_⟩) (below_seq HCB.out z4) ?_
   ·intro w hSw;go_simp<;>first|omega|(intro hh;exfalso;omega)|rfl
   try simp only[Act.put,List.setIfInBounds_toArray,List.set_cons_zero,List.set_cons_succ,vsum6_0]
   refine wpAnyH_take (i:=1) (oi:=vsum6_1) (v:=.bool p) rfl (by kernel_rfl) (by kernel_rfl) (by kernel_rfl) (fun _ _ _ h=>h) (Or.inl ⟨by kernel_rfl,?_⟩) (below_seq HCB.out z4) ?_
   ·intro w hSw;obtain ⟨e0,e1,e2,e3,e4,e5⟩:=HS.out w hSw;go_simp<;>first|omega|(intro hh;exfalso;omega)|rfl
   try simp only[Act.put,List.setIfInBounds_toArray,List.set_cons_zero,List.set_cons_succ,vsum6_1]
   refine wpAnyH_take (i:=2) (oi:=vsum6_2) (v:=.slice P1 (tdg x).length c7) rfl (by kernel_rfl) (by kernel_rfl) (by kernel_rfl) (fun _ _ _ h=>h) (Or.inl ⟨by kernel_rfl,?_⟩) (below_seq HCB.out z4) ?_
   ·intro w hSw;go_simp<;>first|omega|(intro hh;exfalso;omega)|rfl
   try simp only[Act.put,List.setIfInBounds_toArray,List.set_cons_zero,List.set_cons_succ,vsum6_2]
   refine wpAnyH_take (i:=3) (oi:=vsum6_3) (v:=.slice P2 (tdg y).length c8) rfl (by kernel_rfl) (by kernel_rfl) (by kernel_rfl) (fun _ _ _ h=>h) (Or.inl ⟨by kernel_rfl,?_⟩) (below_seq HCB.out z4) ?_
   ·intro w hSw;go_simp<;>first|omega|(intro hh;exfalso;omega)|rfl
   try simp only[Act.put,List.setIfInBounds_toArray,List.set_cons_zero,List.set_cons_succ,vsum6_3]
   refine wpAnyH_take (i:=5) (oi:=vsum6_5) (v:=.slice P3 (tdg (d*e)).length c9) rfl (by kernel_rfl) (by kernel_rfl) (by kernel_rfl) (fun _ _ _ h=>h) (Or.inl ⟨by kernel_rfl,?_⟩) (below_seq HCB.out z4) ?_
   ·intro w hSw;go_simp<;>first|omega|(intro hh;exfalso;omega)|rfl
   try simp only[Act.put,List.setIfInBounds_toArray,List.set_cons_zero,List.set_cons_succ,vsum6_5]
   refine wpAnyH_ready (rs:=[4]) (by kernel_rfl) (by simp) ?_
   apply AllReadyH.cons (o:=vsum6_4) (by kernel_rfl)
   case hs=>exact AllReadyH.nil
   intro K hK
   simp only[vsum6_4]
   go_simp
   go_at_call 50
   refine (HCA.out W4 y4).mono ?_
   rintro e' W5 ⟨v5,rfl,h5,b5⟩
   have z5:=below_seq z4 b5
   refine hK.out _ _ (below_seq HCB.out z5) (fun hHeld=>?_)
   clear hK K hHeld
   try simp only[Act.put,List.setIfInBounds_toArray,List.set_cons_zero,List.set_cons_succ]
   refine wpAnyH_ready (rs:=[6]) (by kernel_rfl) (by simp) ?_
   apply AllReadyH.cons (o:=vsum6_6) (by kernel_rfl)
   case hs=>exact AllReadyH.nil
   intro K hK
   simp only[vsum6_6]
   go_simp
   go_at_call 41
   refine (HFR.out W5 _ _ h5 ((HVD.out.keep y4).keep b5)).mono ?_
   rintro e' W6 ⟨x6,rfl,h6,b6⟩
   have z6:=below_seq z5 b6
   obtain ⟨B1,g1,B2,g2,rfl,hn3,hd3,hs3⟩:=h6.open_
   refine hK.out _ _ (below_seq HCB.out z6) (fun hHeld=>?_)
   clear hK K hHeld
   try simp only[Act.put,List.setIfInBounds_toArray,List.set_cons_zero,List.set_cons_succ]
   refine wpAnyH_ready (rs:=[7]) (by kernel_rfl) (by simp) ?_
   apply AllReadyH.cons (o:=vsum6_7) (by kernel_rfl)
   case hs=>exact AllReadyH.nil
   intro K hK
   simp only[vsum6_7]
   obtain ⟨w9,hw9,hrow9,hb9,q0,q1,q2,f0,f1,f2⟩:=qput (.bool sg) (.slice B1 (tdg M).length g1) (.slice B2 (tdg (d*e)).length g2) (HRC.out.keep z6) (HBC.out.trans (z6.mono HBC.out.size)) (by omega)
   have hO:Only (w.heap.size+1+1) W6 w9:=by rw[hw9];exact (((Only.refl _ _).setCell 0 _).setCell 1 _).setCell 2 _
   have S9:Below wb.heap.size wb w9:=(below_seq HCB.out z6).trans (hO.below (by have:=HWB0.out.2;omega))
   have hcs:=qrow_far false (.slice none 0 0) (.slice none 0 0) (fun _ _ h=>by cases h) (fun _ _ h=>by cases h)
   have hn9:=Ints.rowfar hn3 (HRC.out.keep z6) (hcs _) hO
   have hd9:=Ints.rowfar hd3 (HRC.out.keep z6) (hcs _) hO
   have HW9:=Lib.hid hw9;have HR9:=Lib.hid hrow9;have HN9:=Lib.hid hn9;have HD9:=Lib.hid hd9;have HS3:=Lib.hid hs3
   clear hw9 hrow9 hn9 hd9 hn3 hd3 hs3 hO hcs
   go_simp
   rw[← HW9.out]
   clear q0 q1 q2 f0 f1 f2
   refine hK.out _ _ (S9) (fun hHeld=>?_)
   clear hK K hHeld
   try simp only[Act.put,List.setIfInBounds_toArray,List.set_cons_zero,List.set_cons_succ]
   refine wpAnyH_done (by kernel_rfl) ?_ _
   go_wp2_with fail
   refine bodyPost_ret (v:=.agg #[.bool sg,.slice B1 (tdg M).length g1,.slice B2 (tdg (d*e)).length g2]) (results_cell_row (p:=4) (ty:=35) Tryz.results14 _ _ (w.heap.size+1+1) 35 #[.bool sg,.slice B1 (tdg M).length g1,.slice B2 (tdg (d*e)).length g2] (0,0) _ (by simp[go_sem]) HR9.out Tryz.underlying35 rfl hsz) rfl ?_
   exact ⟨_,rfl,⟨_,_,rfl,HN9.out,HD9.out,HS3.out⟩,hb9⟩
  ·have hle:x<y:=by
    have:=HCMN.out
    omega
   have hM1:M=y - x:=by
    rw[HM.out];unfold sumN;rw[if_neg hpq];rw[if_neg (by omega)]
   have hS1:sumS p q x y=q:=by
    unfold sumS;rw[if_neg hpq];rw[if_neg (by omega)]
   have h0:y≠0:=by
    have k1:=HX0.out;have k2:=HY0.out
    cases p<;>cases q<;>simp at hpq k1 k2<;>omega
   have HCA:Hid (∀ W,Below W3.heap.size W3 W→Calls Tryz.prog 50 #[.slice P2 (tdg y).length c8,.slice P1 (tdg x).length c7] W (Gives (fun t w'=>RefN w' t M) W)):=Lib.hid fun W h=>by
    rw[hM1];exact ref_Sub W _ _ y x (HVY.out.keep h) (HVX.out.keep h) (Nat.le_trans HYL.out (by decide)) h0 (by omega)
   have HFR:Hid (∀ W x z,RefN W x M→RefN W z (d*e)→Calls Tryz.prog 41 #[.bool q,x,z] W (Gives (fun t w'=>RefQ w' t sg M (d*e)) W)):=Lib.hid fun W x z hx hz=>by
    rw[HSG.out,hS1];exact ref_Frac W q x z _ _ hx hz
   clear hS1 hM1 s0 s1 s2 s3 s4 s5
   refine wp_region_held (S:=fun W=>Below wb.heap.size wb W) (by kernel_rfl) ?_
   change wpAnyH _ _ _ _ _ _ _ _ (World.drew _)
   obtain ⟨W4,hW4⟩:∃ X,X=(W3).drew:=⟨_,rfl⟩
   rw[← hW4]
   have y4:Below (W3).heap.size (W3) W4:=by rw[hW4];exact Below.drewN_ (Below.refl _ _) 1
   clear hW4
   have z4:=below_seq z3 y4
   refine wpAnyH_take (i:=0) (oi:=vsum7_0) (v:=.pointer (some ⟨w.heap.size+1,0,none⟩)) rfl (by kernel_rfl) (by kernel_rfl) (by kernel_rfl) (fun _ _ _ h=>h) (Or.inl ⟨by kernel_rfl,?_⟩) (below_seq HCB.out z4) ?_
   ·intro w hSw;go_simp<;>first|omega|(intro hh;exfalso;omega)|rfl
   try simp only[Act.put,List.setIfInBounds_toArray,List.set_cons_zero,List.set_cons_succ,vsum7_0]
   refine wpAnyH_take (i:=1) (oi:=vsum7_1) (v:=.bool q) rfl (by kernel_rfl) (by kernel_rfl) (by kernel_rfl) (fun _ _ _ h=>h) (Or.inl ⟨by kernel_rfl,?_⟩) (below_seq HCB.out z4) ?_
   ·intro w hSw;obtain ⟨e0,e1,e2,e3,e4,e5⟩:=HS.out w hSw;go_simp<;>first|omega|(intro hh;exfalso;omega)|rfl
   try simp only[Act.put,List.setIfInBounds_toArray,List.set_cons_zero,List.set_cons_succ,vsum7_1]
   refine wpAnyH_take (i:=2) (oi:=vsum7_2) (v:=.slice P2 (tdg y).length c8) rfl (by kernel_rfl) (by kernel_rfl) (by kernel_rfl) (fun _ _ _ h=>h) (Or.inl ⟨by kernel_rfl,?_⟩) (below_seq HCB.out z4) ?_
   ·intro w hSw;go_simp<;>first|omega|(intro hh;exfalso;omega)|rfl
   try simp only[Act.put,List.setIfInBounds_toArray,List.set_cons_zero,List.set_cons_succ,vsum7_2]
   refine wpAnyH_take (i:=3) (oi:=vsum7_3) (v:=.slice P1 (tdg x).length c7) rfl (by kernel_rfl) (by kernel_rfl) (by kernel_rfl) (fun _ _ _ h=>h) (Or.inl ⟨by kernel_rfl,?_⟩) (below_seq HCB.out z4) ?_
   ·intro w hSw;go_simp<;>first|omega|(intro hh;exfalso;omega)|rfl
   try simp only[Act.put,List.setIfInBounds_toArray,List.set_cons_zero,List.set_cons_succ,vsum7_3]
   refine wpAnyH_take (i:=5) (oi:=vsum7_5) (v:=.slice P3 (tdg (d*e)).length c9) rfl (by kernel_rfl) (by kernel_rfl) (by kernel_rfl) (fun _ _ _ h=>h) (Or.inl ⟨by kernel_rfl,?_⟩) (below_seq HCB.out z4) ?_
   ·intro w hSw;go_simp<;>first|omega|(intro hh;exfalso;omega)|rfl
   try simp only[Act.put,List.setIfInBounds_toArray,List.set_cons_zero,List.set_cons_succ,vsum7_5]
   refine wpAnyH_ready (rs:=[4]) (by kernel_rfl) (by simp) ?_
   apply AllReadyH.cons (o:=vsum7_4) (by kernel_rfl)
   case hs=>exact AllReadyH.nil
   intro K hK
   simp only[vsum7_4]
   go_simp
   go_at_call 50
   refine (HCA.out W4 y4).mono ?_
   rintro e' W5 ⟨v5,rfl,h5,b5⟩
   have z5:=below_seq z4 b5
   refine hK.out _ _ (below_seq HCB.out z5) (fun hHeld=>?_)
   clear hK K hHeld
   try simp only[Act.put,List.setIfInBounds_toArray,List.set_cons_zero,List.set_cons_succ]
   refine wpAnyH_ready (rs:=[6]) (by kernel_rfl) (by simp) ?_
   apply AllReadyH.cons (o:=vsum7_6) (by kernel_rfl)
   case hs=>exact AllReadyH.nil
   intro K hK
   simp only[vsum7_6]
   go_simp
   go_at_call 41
   refine (HFR.out W5 _ _ h5 ((HVD.out.keep y4).keep b5)).mono ?_
   rintro e' W6 ⟨x6,rfl,h6,b6⟩
   have z6:=below_seq z5 b6
   obtain ⟨B1,g1,B2,g2,rfl,hn3,hd3,hs3⟩:=h6.open_
   refine hK.out _ _ (below_seq HCB.out z6) (fun hHeld=>?_)
   clear hK K hHeld
   try simp only[Act.put,List.setIfInBounds_toArray,List.set_cons_zero,List.set_cons_succ]
   refine wpAnyH_ready (rs:=[7]) (by kernel_rfl) (by simp) ?_
   apply AllReadyH.cons (o:=vsum7_7) (by kernel_rfl)
   case hs=>exact AllReadyH.nil
   intro K hK
   simp only[vsum7_7]
   obtain ⟨w9,hw9,hrow9,hb9,q0,q1,q2,f0,f1,f2⟩:=qput (.bool sg) (.slice B1 (tdg M).length g1) (.slice B2 (tdg (d*e)).length g2) (HRC.out.keep z6) (HBC.out.trans (z6.mono HBC.out.size)) (by omega)
   have hO:Only (w.heap.size+1+1) W6 w9:=by rw[hw9];exact (((Only.refl _ _).setCell 0 _).setCell 1 _).setCell 2 _
   have S9:Below wb.heap.size wb w9:=(below_seq HCB.out z6).trans (hO.below (by have:=HWB0.out.2;omega))
   have hcs:=qrow_far false (.slice none 0 0) (.slice none 0 0) (fun _ _ h=>by cases h) (fun _ _ h=>by cases h)
   have hn9:=Ints.rowfar hn3 (HRC.out.keep z6) (hcs _) hO
   have hd9:=Ints.rowfar hd3 (HRC.out.keep z6) (hcs _) hO
   have HW9:=Lib.hid hw9;have HR9:=Lib.hid hrow9;have HN9:=Lib.hid hn9;have HD9:=Lib.hid hd9;have HS3:=Lib.hid hs3
   clear hw9 hrow9 hn9 hd9 hn3 hd3 hs3 hO hcs
   go_simp
   rw[← HW9.out]
   clear q0 q1 q2 f0 f1 f2
   refine hK.out _ _ (S9) (fun hHeld=>?_)
   clear hK K hHeld
   try simp only[Act.put,List.setIfInBounds_toArray,List.set_cons_zero,List.set_cons_succ]
   refine wpAnyH_done (by kernel_rfl) ?_ _
   go_wp2_with fail
   refine bodyPost_ret (v:=.agg #[.bool sg,.slice B1 (tdg M).length g1,.slice B2 (tdg (d*e)).length g2]) (results_cell_row (p:=4) (ty:=35) Tryz.results14 _ _ (w.heap.size+1+1) 35 #[.bool sg,.slice B1 (tdg M).length g1,.slice B2 (tdg (d*e)).length g2] (0,0) _ (by simp[go_sem]) HR9.out Tryz.underlying35 rfl hsz) rfl ?_
   exact ⟨_,rfl,⟨_,_,rfl,HN9.out,HD9.out,HS3.out⟩,hb9⟩
end Go.Proofs.YtehbhghbagaliaaGreatDoor
set_option linter.unusedVariables false
set_option linter.unusedSimpArgs false
namespace Vic
open Go Go.RowKit
def RefIs (w:World) (v:Value) (q:Rat) (L:Nat):Prop:=∃ ng n d,RefQ w v ng n d∧d≠0∧quo ng n d=q∧(tdg n).length≤L∧(tdg d).length≤L
theorem RefIs.keep {w w':World}{v:Value}{q:Rat}{L:Nat}(h:RefIs w v q L) (hb:Below w.heap.size w w'):RefIs w' v q L:=by
 obtain ⟨ng,n,d,h1,h2⟩:=h
 exact ⟨ng,n,d,h1.keep hb,h2⟩
theorem RefIs.mono {w:World}{v:Value}{q:Rat}{L M:Nat}(h:RefIs w v q L) (hm:L≤M):RefIs w v q M:=by
 obtain ⟨ng,n,d,h1,h2,h3,h4,h5⟩:=h
 exact ⟨ng,n,d,h1,h2,h3,Nat.le_trans h4 hm,Nat.le_trans h5 hm⟩
theorem RefIs.shape {w:World}{v:Value}{q:Rat}{L:Nat}(h:RefIs w v q L):∃ ng A m c B k e,v=.agg #[.bool ng,.slice A m c,.slice B k e]:=by
 obtain ⟨ng,n,d,h1,_⟩:=h
 obtain ⟨A1,c1,A2,c2,rfl,_⟩:=h1.open_
 exact ⟨_,_,_,_,_,_,_,rfl⟩
theorem tdg_add_len (a b:Nat):(tdg (a+b)).length≤max (tdg a).length (tdg b).length+1:=by
 have h1:a<10000 ^ (tdg a).length:=lt_pow_digs_length (B:=10000) (by omega) a
 have h2:b<10000 ^ (tdg b).length:=lt_pow_digs_length (B:=10000) (by omega) b
 apply tdg_len
 have h3:(10000:Nat) ^ (tdg a).length≤10000 ^ max (tdg a).length (tdg b).length:=Nat.pow_le_pow_right (by omega) (Nat.le_max_left _ _)
 have h4:(10000:Nat) ^ (tdg b).length≤10000 ^ max (tdg a).length (tdg b).length:=Nat.pow_le_pow_right (by omega) (Nat.le_max_right _ _)
 rw[Nat.pow_succ]
 omega
theorem sumN_le (p q:Bool) (x y:Nat):sumN p q x y≤x+y:=by unfold sumN;split<;>(try split)<;>omega
theorem quo_zero_iff {ng:Bool}{n d:Nat}(hd:d≠0):quo ng n d=0↔n=0:=by
 constructor
 ·intro h
  have h1:=quo_natAbs (neg:=ng) (n:=n) hd
  rw[h]at h1
  have h2:n / Nat.gcd n d=0:=h1.symm
  have h3:=Nat.gcd_dvd_left n d
  rw[← Nat.div_mul_cancel h3,h2,Nat.zero_mul]
 ·intro h;subst h
  cases ng<;>simp[quo,sgn]
theorem quo_and {p:Bool}{n d:Nat}:quo (p && decide (n≠0)) n d=quo p n d:=by
 by_cases h:n=0
 ·subst h;cases p<;>simp[quo,sgn]
 ·simp[h]
theorem mk_sum (p q:Bool) (n d m e:Nat) (hd:d≠0) (he:e≠0):quo (sumS p q (n*e) (m*d)) (sumN p q (n*e) (m*d)) (d*e)=quo p n d+quo q m e:=by
 unfold quo
 rw[sum_sgn,Rat.mkRat_add_mkRat _ _ hd he]
 congr 1
 cases p<;>cases q<;>simp[sgn,Int.natCast_mul,Int.neg_mul]
def atC (cs:List VCoef) (i:Int):Rat:=match cs.find? (fun x=>x.1 == i)with
 | some x=>fracOf x.2
 | none=>0
def GivesQ (q:Rat) (L:Nat) (w:World) (e:Ending) (w':World):Prop:=∃ x,e=.returned x∧RefIs w' x q L∧Below w.heap.size w w'
end Vic
namespace Go.Proofs.YtehbhghbagaliaaGreatDoor
open Go.RowKit Vic
theorem refq_Sum (w:World) (u v:Value) (x y:Rat) (L M:Nat) (hu:RefIs w u x L) (hv:RefIs w v y M) (hL:L≤100000) (hM:M≤100000):Calls Tryz.prog 14 #[u,v] w (GivesQ (x+y) (L+M+1) w):=by
 obtain ⟨p,n,d,h1,h2,rfl,h4,h5⟩:=hu
 obtain ⟨q,m,e,k1,k2,rfl,k4,k5⟩:=hv
 refine (ref_Sum w u v p q n d m e h1 k1 h2 k2 (by omega) (by omega) (by omega) (by omega)).mono ?_
 rintro _ w' ⟨z,rfl,hz,hb⟩
 refine ⟨z,rfl,⟨_,_,_,hz,Nat.mul_ne_zero h2 k2,?_,?_,?_⟩,hb⟩
 ·rw[quo_and];exact mk_sum p q n d m e h2 k2
 ·have a1:=tdg_mul_len n e
  have a2:=tdg_mul_len m d
  have a3:=tdg_add_len (n*e) (m*d)
  exact Nat.le_trans (tdg_le (sumN_le _ _ _ _)) (by omega)
 ·have a1:=tdg_mul_len d e;omega
theorem refq_Prod (w:World) (u v:Value) (x y:Rat) (L M:Nat) (hu:RefIs w u x L) (hv:RefIs w v y M) (hL:L≤100000) (hM:M≤100000):Calls Tryz.prog 15 #[u,v] w (GivesQ (x*y) (L+M) w):=by
 obtain ⟨p,n,d,h1,h2,rfl,h4,h5⟩:=hu
 obtain ⟨q,m,e,k1,k2,rfl,k4,k5⟩:=hv
 refine (ref_Prod w u v p q n d m e h1 k1 (by omega) (by omega) (by omega) (by omega)).mono ?_
 rintro _ w' ⟨z,rfl,hz,hb⟩
 refine ⟨z,rfl,⟨_,_,_,hz,Nat.mul_ne_zero h2 k2,?_,?_,?_⟩,hb⟩
 ·rw[quo_and];exact quo_mul p q n m d e
 ·exact Nat.le_trans (tdg_mul_len n m) (by omega)
 ·exact Nat.le_trans (tdg_mul_len d e) (by omega)
theorem refq_Text (w:World) (v:Value) (q:Rat) (L:Nat) (h:RefIs w v q L) (hL:L≤100000):Calls Tryz.prog 17 #[v] w (Keeps (.string ⟨(fracText q).toArray⟩) w):=by
 obtain ⟨p,n,d,h1,h2,rfl,h4,h5⟩:=h
 exact ref_Q_Text w v p n d h1 h2 (by omega) (by omega)
theorem refq_Zero (w:World):Calls Tryz.prog 12 #[] w (GivesQ 0 1 w):=by
 refine (ref_Zero w).mono ?_
 rintro _ w' ⟨g,rfl,hg,hb⟩
 refine ⟨_,rfl,⟨false,0,1,⟨_,_,rfl,?_,hg,by simp⟩,by omega,by simp[quo,sgn],?_,?_⟩,hb⟩
 ·show Ints .i64 w' (.slice none 0 0) (tdg 0)
  rw[show tdg 0 = []from digs_zero _];exact Ints.nil_ _ _
 ·rw[show tdg 0 = []from digs_zero _];simp
 ·rw[tdg_one];simp
theorem ref_Q_Zero (w:World) (v:Value) (q:Rat) (L:Nat) (h:RefIs w v q L):Calls Tryz.prog 18 #[v] w (Keeps (.bool (decide (q=0))) w):=by
 obtain ⟨p,n,d,h1,h2,rfl,h4,h5⟩:=h
 obtain ⟨A1,c1,A2,c2,rfl,hx,hy,hs⟩:=h1.open_
 have e0:decide (quo p n d=0)=decide (((tdg n).length:Int)=0):=by
  apply decide_eq_decide.2
  rw[quo_zero_iff h2]
  constructor
  ·intro h;subst h;rw[show tdg 0 = []from digs_zero _];rfl
  ·intro h
   have h3:(tdg n).length=0:=by omega
   exact (digs_eq_nil (B:=10000) (by omega)).1 (List.eq_nil_of_length_eq_zero h3)
 rw[e0]
 obtain ⟨m1,hm1⟩:∃ m1,m1=(tdg n).length:=⟨_,rfl⟩
 rw[← hm1]
 clear hx hy hs h1 h4 h5 e0 h2 hm1
 go_enter Tryz.func18,Tryz.ntmps18
 go_wp2_with fail
 go_ret
 refine ⟨?_,(Below.refl _ _).alloc (Nat.le_refl _) _⟩
 first|rfl|simp
theorem refq_got {l:List UInt8}{w w':World}{e:Ending}(h:RefGotQ l w e w') (hg:FracGood l):∃ x,e=.returned (.tuple #[x,.bool true])∧RefIs w' x (fracOf l) 600∧Below w.heap.size w w':=by
 obtain ⟨v,b,rfl,hb,(⟨_,hno,_⟩|⟨rfl,_,ng,n,d,h1,h2,h3,h4,h5⟩)⟩:=h
 ·exact absurd hg hno
 ·exact ⟨v,rfl,⟨ng,n,d,h1,h2,h3,h4,h5⟩,hb⟩
end Go.Proofs.YtehbhghbagaliaaGreatDoor
