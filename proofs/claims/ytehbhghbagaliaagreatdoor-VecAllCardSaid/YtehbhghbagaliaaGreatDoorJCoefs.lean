/- Package victuallerlaw1: coefs: coefficients out of numbers and texts. -/
import Derived.Test.YtehbhghbagaliaaGreatDoorJAppAny
import Derived.Test.YtehbhghbagaliaaGreatDoorJWalkT
import Derived.Test.YtehbhghbagaliaaGreatDoorJWalkQ
import Derived.Test.YtehbhghbagaliaaGreatDoorJPlainC
import Derived.Deep.RegionWith
set_option linter.unusedVariables false
set_option linter.unusedSimpArgs false
namespace Vic
open Go Go.RowKit
def CoefsMade (T:TypeId) (w:World) (e:Ending) (w':World):Prop:=∃ sv cs,e=.returned sv∧CoefsOk cs∧cs.length≤10∧(∀ x∈cs,x.2.length≤20000)∧OwnCoefs w' w.heap.size T sv cs∧Below w.heap.size w w'
theorem flat_take:∀ (cs:List VCoef) (k:Nat),(cs.take k).flatMap encCoef=(cs.flatMap encCoef).take (k*2)
 | [],k=>by simp
 | x :: cs,0=>by simp
 | x :: cs,k+1=>by
   have ih:=flat_take cs k
   rw[List.take_succ_cons,List.flatMap_cons,List.flatMap_cons,ih,show (k+1)*2=k*2+2 by omega]
   simp[encCoef]
theorem flat_drop:∀ (cs:List VCoef) (k:Nat),(cs.drop k).flatMap encCoef=(cs.flatMap encCoef).drop (k*2)
 | [],k=>by simp
 | x :: cs,0=>by simp
 | x :: cs,k+1=>by
   have ih:=flat_drop cs k
   rw[List.drop_succ_cons,List.flatMap_cons,ih,show (k+1)*2=k*2+2 by omega]
   simp[encCoef]
theorem flat_len (cs:List VCoef):(cs.flatMap encCoef).length=cs.length*2:=by
 induction cs with
 | nil=>rfl
 | cons x cs ih=>rw[List.flatMap_cons,List.length_append,ih];simp[encCoef];omega
theorem flat_kind (cs:List VCoef):∀ u∈cs.flatMap encCoef,coefKind u∧u.oneCell'=true:=by
 intro u hu
 obtain ⟨x,_,hx⟩:=List.mem_flatMap.1 hu
 refine ⟨encCoef_kind x u hx,?_⟩
 simp[encCoef]at hx
 rcases hx with rfl|rfl<;>rfl
theorem OwnK.base_le {Kd:Value→Prop}{w:World}{B B':Nat}{e:TypeId}{size:Nat}{v:Value}{n:Nat}{xs:List Value}(h:OwnK Kd w B e size v n xs) (hb:B'≤B):OwnK Kd w B' e size v n xs:=by
 obtain ⟨h1,h2|⟨g,cap,cur,a1,a2,a3⟩⟩:=h
 ·exact ⟨h1,.inl h2⟩
 ·exact ⟨h1,.inr ⟨g,cap,cur,a1,Nat.le_trans hb a2,a3⟩⟩
theorem OwnCoefs.shape2 {w:World}{base:Nat}{T:TypeId}{v:Value}{cs:List VCoef}(h:OwnCoefs w base T v cs):(v=.slice none 0 0∧cs = [])∨(∃ g c,v=.slice (some ⟨g,0,none⟩) cs.length c∧cs.length≤c∧(∀ (i:Nat) x,cs[i]?=some x→w.cell? ⟨g,i*2,none⟩=some (.int .i64 x.1)∧w.cell? ⟨g,i*2+1,none⟩=some (.string ⟨x.2.toArray⟩))∧∀ (j:Nat) u,(cs.flatMap encCoef)[j]?=some u→w.cell? ⟨g,j,none⟩=some u):=by
 have hin:=h.in_
 obtain ⟨h1,⟨rfl,h2⟩|⟨g,cap,cur,rfl,a2,a3,a4,a5,a6,a7,_⟩⟩:=h
 ·exact .inl ⟨rfl,List.eq_nil_of_length_eq_zero h2⟩
 ·obtain ⟨A,c,e,_,h5⟩:=hin
  injection e with e1 e2 e3
  subst e1
  refine .inr ⟨g,cap,rfl,a4,fun i x hx=>?_,fun j u hj=>?_⟩
  ·obtain ⟨g',o,e4,h6,h7⟩:=h5 i x hx
   cases e4
   exact ⟨by simpa using h6,by simpa using h7⟩
  ·have hjl:=(List.getElem?_eq_some_iff.1 hj).1
   rw[flat_len]at hjl
   rw[← a7,List.getElem?_take,if_pos hjl]at hj
   simp only[World.cell?,a3]
   rw[← Array.getElem?_toList];exact hj
theorem CoefsOk.texts {cs:List VCoef}{k L:Nat}{c:Int}{V:List UInt8}(h:∀ x∈cs,x.2.length≤L) (hV:V.length≤L):∀ x∈cs.take k ++ (c,V) :: cs.drop k,x.2.length≤L:=by
 intro x hx
 rcases List.mem_append.1 hx with hx|hx
 ·exact h x (List.mem_of_mem_take hx)
 ·rcases List.mem_cons.1 hx with rfl|hx
  ·exact hV
  ·exact h x (List.mem_of_mem_drop hx)
theorem src_take {w W:World}{g k:Nat}{cs:List VCoef}(h:∀ (j:Nat) u,(cs.flatMap encCoef)[j]?=some u→w.cell? ⟨g,j,none⟩=some u) (hb:Below w.heap.size w W) {j:Nat}{u:Value}(hj:((cs.take k).flatMap encCoef)[j]?=some u) :
 ∃ a:Addr,(some ⟨g,0,none⟩:Option Addr)=some a∧W.cell? (a.add j)=some u:=by
 refine ⟨_,rfl,?_⟩
 rw[flat_take]at hj
 have hjl:=(List.getElem?_eq_some_iff.1 hj).1
 rw[List.length_take]at hjl
 rw[List.getElem?_take_of_lt (by omega)]at hj
 have e:(⟨g,0,none⟩:Addr).add j=⟨g,j,none⟩:=by
  rcases j with _|j
  ·rfl
  ·simp[Addr.add]
 rw[e];exact cell_keep (h j u hj) hb
theorem src_drop {w W:World}{g c k:Nat}{cs:List VCoef}{a2:Option Addr}(h:∀ (j:Nat) u,(cs.flatMap encCoef)[j]?=some u→w.cell? ⟨g,j,none⟩=some u) (hb:Below w.heap.size w W) (ha:(if c=k then some ⟨g,0,none⟩else some ⟨g,k*2,none⟩)=a2) (hc:cs.length≤c) {j:Nat}{u:Value}(hj:((cs.drop k).flatMap encCoef)[j]?=some u) :
 ∃ a:Addr,a2=some a∧W.cell? (a.add j)=some u:=by
 have hjl:=(List.getElem?_eq_some_iff.1 hj).1
 rw[flat_len,List.length_drop]at hjl
 rw[if_neg (by omega)]at ha
 refine ⟨_,ha.symm,?_⟩
 rw[flat_drop,List.getElem?_drop]at hj
 have e:(⟨g,k*2,none⟩:Addr).add j=⟨g,k*2+j,none⟩:=by simp[Addr.add]
 rw[e];exact cell_keep (h _ u hj) hb
theorem one_row {W:World}{b:Nat}{T:TypeId}{c:Int}{V:List UInt8}(h:Row W b T #[.int .i64 c,.string ⟨V.toArray⟩]):∀ (j:Nat) u,(encCoef (c,V))[j]?=some u→W.cell? ((⟨b,0,none⟩:Addr).add j)=some u:=fun j u hj=>by
 match j,hj with
 | 0,hj=>exact (h.cell 0).trans (by simpa [encCoef]using hj)
 | 1,hj=>exact (h.cell 1).trans (by simpa [encCoef]using hj)
 | j+2,hj=>simp[encCoef]at hj
theorem own_insert {w:World}{B:Nat}{T:TypeId}{v:Value}{cs:List VCoef}{k n:Nat}{c:Int}{V:List UInt8}(h:OwnK coefKind w B T 2 v n ([] ++ (cs.take k).flatMap encCoef ++ encCoef (c,V) ++ (cs.drop k).flatMap encCoef)) (hn:(cs.take k ++ (c,V) :: cs.drop k).length=n):OwnCoefs w B T v (cs.take k ++ (c,V) :: cs.drop k):=by
 unfold OwnCoefs
 rw[hn,List.flatMap_append,List.flatMap_cons]
 simpa using h
end Vic
namespace Go.Proofs.YtehbhghbagaliaaGreatDoor
open Go.RowKit Vic
abbrev vcoef14_0:Oper:={ dst:=some 74,op:=Go.Op.move (Go.Operand.tmp 5),type:=25,pos:="law.go:312",after:=#[],guard:=none }
abbrev vcoef14_1:Oper:={ dst:=some 75,op:=Go.Op.move (Go.Operand.tmp 8),type:=3,pos:="law.go:312",after:=#[],guard:=none }
abbrev vcoef14_2:Oper:={ dst:=some 76,op:=Go.Op.slice 25 (Go.Operand.tmp 74) none (some (Go.Operand.tmp 75)) none,type:=25,pos:="law.go:312",after:=#[{ on:=0,ground:=Go.Ground.data },{ on:=1,ground:=Go.Ground.data }],guard:=none }
abbrev vcoef14_3:Oper:={ dst:=some 77,op:=Go.Op.call { callee:=Go.Callee.builtin Go.Builtin.append,args:=#[Go.Operand.const (Go.Value.slice none 0 0),Go.Operand.tmp 76],argTypes:=#[25,25] },type:=25,pos:="law.go:312",after:=#[{ on:=2,ground:=Go.Ground.data }],guard:=none }
abbrev vcoef14_4:Oper:={ dst:=some 78,op:=Go.Op.move (Go.Operand.tmp 7),type:=3,pos:="law.go:312",after:=#[],guard:=none }
abbrev vcoef14_5:Oper:={ dst:=some 79,op:=Go.Op.move (Go.Operand.tmp 9),type:=9,pos:="law.go:312",after:=#[],guard:=none }
abbrev vcoef14_6:Oper:={ dst:=some 80,op:=Go.Op.build 46 #[(0,Go.Operand.tmp 78),(1,Go.Operand.tmp 79)],type:=46,pos:="law.go:312",after:=#[{ on:=4,ground:=Go.Ground.data },{ on:=5,ground:=Go.Ground.data }],guard:=none }
abbrev vcoef14_7:Oper:={ dst:=some 81,op:=Go.Op.buildSlice 25 1 #[(0,Go.Operand.tmp 80)],type:=25,pos:="law.go:312",after:=#[{ on:=6,ground:=Go.Ground.data }],guard:=none }
abbrev vcoef14_8:Oper:={ dst:=some 82,op:=Go.Op.call { callee:=Go.Callee.builtin Go.Builtin.append,args:=#[Go.Operand.tmp 77,Go.Operand.tmp 81],argTypes:=#[25,25] },type:=25,pos:="law.go:312",after:=#[{ on:=3,ground:=Go.Ground.data },{ on:=7,ground:=Go.Ground.data },{ on:=3,ground:=Go.Ground.chain }],guard:=none }
abbrev vcoef14_9:Oper:={ dst:=some 83,op:=Go.Op.move (Go.Operand.tmp 5),type:=25,pos:="law.go:312",after:=#[],guard:=none }
abbrev vcoef14_10:Oper:={ dst:=some 84,op:=Go.Op.move (Go.Operand.tmp 8),type:=3,pos:="law.go:312",after:=#[],guard:=none }
abbrev vcoef14_11:Oper:={ dst:=some 85,op:=Go.Op.slice 25 (Go.Operand.tmp 83) (some (Go.Operand.tmp 84)) none none,type:=25,pos:="law.go:312",after:=#[{ on:=9,ground:=Go.Ground.data },{ on:=10,ground:=Go.Ground.data }],guard:=none }
abbrev vcoef14_12:Oper:={ dst:=some 86,op:=Go.Op.call { callee:=Go.Callee.builtin Go.Builtin.append,args:=#[Go.Operand.tmp 82,Go.Operand.tmp 85],argTypes:=#[25,25] },type:=25,pos:="law.go:312",after:=#[{ on:=8,ground:=Go.Ground.data },{ on:=11,ground:=Go.Ground.data },{ on:=8,ground:=Go.Ground.chain }],guard:=none }
abbrev vcoef14_13:Oper:={ dst:=some 5,op:=Go.Op.assign (Go.Operand.tmp 86),type:=25,pos:="law.go:312",after:=#[{ on:=12,ground:=Go.Ground.data },{ on:=12,ground:=Go.Ground.chain },{ on:=0,ground:=Go.Ground.phase },{ on:=1,ground:=Go.Ground.phase },{ on:=2,ground:=Go.Ground.phase },{ on:=3,ground:=Go.Ground.phase },{ on:=4,ground:=Go.Ground.phase },{ on:=5,ground:=Go.Ground.phase },{ on:=6,ground:=Go.Ground.phase },{ on:=7,ground:=Go.Ground.phase },{ on:=8,ground:=Go.Ground.phase },{ on:=9,ground:=Go.Ground.phase },{ on:=10,ground:=Go.Ground.phase },{ on:=11,ground:=Go.Ground.phase },{ on:=12,ground:=Go.Ground.phase }],guard:=none }
set_option maxRecDepth 100000 in
set_option maxHeartbeats 16000000 in
theorem law_coefs (w:World) (va vb:Value) (xs:List Int) (ys:List (List UInt8)) (hx:IntsArg w va xs) (hy:StrsArg w vb ys) (hxl:xs.length≤9223372036854775807) (hyl:ys.length≤9223372036854775807) (hxb:∀ x∈xs,-9223372036854775808≤x∧x≤9223372036854775807) (hyb:∀ y∈ys,y.length≤9223372036854775807) :
 Calls Tryz.prog 5 #[va,vb] w (CoefsMade 46 w):=by
 obtain ⟨A1,c1,rfl,hxc⟩:=hx
 obtain ⟨A2,c2,rfl,hyc⟩:=hy
 have HXC:=Lib.hid hxc;have HYC:=Lib.hid hyc;have HXB:=Lib.hid hxb;have HYB:=Lib.hid hyb
 clear hxc hyc hxb hyb hxl hyl
 go_enter Tryz.func5,Tryz.ntmps5
 go_wp2_with fail
 go_loopw [6,5] (fun t sv wr=>∃ (i:Nat) (cs:List VCoef),t=.int .i64 i∧i≤10∧Hid (CoefsOk cs)∧cs.length≤i∧Hid (∀ x∈cs,x.2.length≤20000)∧Hid (OwnCoefs wr w.heap.size 46 sv cs)∧Below w.heap.size w wr) (fun t _ _=>10 - (intOf t).toNat)
 case atStart=>exact ⟨0,[],rfl,by omega,Lib.hid ⟨List.Pairwise.nil,fun x hx=>by cases hx⟩,Nat.le_refl _,Lib.hid (fun x hx=>by cases hx),Lib.hid (OwnK.nil_ _ _ _ _ _),Below.refl _ _⟩
 case round=>
  obtain ⟨i,cs,rfl,hi,hok,hcl,hlen,hown,hbr⟩:=hrel
  obtain ⟨A3,c3,hsv⟩:=hown.out.shape
  by_cases hgo:i<xs.length∧i<ys.length∧i<10
  case neg=>
   have hor:¬ (i:Int)<(xs.length:Int)∨((i:Int)<(xs.length:Int)∧¬ (i:Int)<(ys.length:Int))∨((i:Int)<(xs.length:Int)∧(i:Int)<(ys.length:Int)∧¬ (i:Int)<10):=by omega
   subst hsv
   clear hgo
   rcases hor with h1|⟨h1,h2⟩|⟨h1,h2,h3⟩
   all_goals
    go_wp2_with fail
    go_ret
    exact ⟨_,cs,rfl,hok.out,by omega,hlen.out,hown.out,hbr⟩
  case pos=>
   obtain ⟨h1,h2,h3⟩:=hgo
   obtain ⟨x,hx⟩:∃ x,xs[i]?=some x:=⟨xs[i],by simp[h1]⟩
   obtain ⟨y,hy⟩:∃ y,ys[i]?=some y:=⟨ys[i],by simp[h2]⟩
   obtain ⟨gx,ox,rfl,hcx⟩:=HXC.out i x hx
   obtain ⟨gy,oy,rfl,hcy⟩:=HYC.out i y hy
   have hcx':=cell_keep hcx hbr
   have hyl:=HYB.out y (List.mem_of_getElem? hy)
   have CG:Hid (∀ wr,Calls Tryz.prog 9 #[.string ⟨y.toArray⟩] wr (RefGotQ y wr)):=Lib.hid fun wr=>ref_Get wr y hyl
   obtain ⟨r,hr⟩:∃ r,r=x.tmod 30:=⟨_,rfl⟩
   have hr1 : -29≤r:=by have:=Int.lt_tmod_of_pos x (show (0:Int)<30 by omega);omega
   have hr2:r≤29:=by have:=Int.tmod_lt_of_pos x (show (0:Int)<30 by omega);omega
   have hr3:=hr.symm
   obtain ⟨c,hc,hc30⟩:∃ c:Nat,(r+30).tmod 30=(c:Int)∧c<30:=by
    have a1:=Int.tmod_nonneg (a:=r+30) 30 (by omega)
    have a2:=Int.tmod_lt_of_pos (r+30) (show (0:Int)<30 by omega)
    exact ⟨((r+30).tmod 30).toNat,by omega,by omega⟩
   have h1':=Int.ofNat_lt.2 h1
   have h2':=Int.ofNat_lt.2 h2
   have h3':(i:Int)<10:=by omega
   have HCY:=Lib.hid hcy
   subst hsv
   clear hx hy hcx hcy hyl hr
   go_wp2_with fail
   go_loopw [8] (fun t wx=>∃ k:Nat,t=.int .i64 k∧k≤cs.length∧Hid (∀ (j:Nat) z,j<k→cs[j]?=some z→z.1<(c:Int))∧wx=wr) (fun t _=>cs.length - (intOf t).toNat)
   case atStart=>exact ⟨0,rfl,Nat.zero_le _,Lib.hid (fun j z hj=>by omega),rfl⟩
   case round=>
    obtain ⟨k,rfl,hk,hlow,rfl⟩:=hrel
    rcases hown.out.shape2 with ⟨hsv,hnil⟩|⟨g3,c4,hsv,hc4,hcell,hfl⟩
    ·injection hsv with e1 _ e3
     subst e1
     subst e3
     subst hnil
     obtain rfl:k=0:=by simpa using hk
     have HUP:Hid (∀ z,([]:List VCoef)[0]?=some z→(c:Int)<z.1):=Lib.hid fun z hz=>by simp at hz
     have hcy':=cell_keep HCY.out hbr
     go_wp2_with fail
     go_at_call 9
     refine (CG.out _).mono ?_
     rintro e w1 ⟨v,bb,rfl,hb1,(⟨rfl,hno,gz,rfl⟩|⟨rfl,hgood,ng,n,d,hq,hd,hquo,hn,hdl⟩)⟩
     case' inl=>
      obtain ⟨V,hV⟩:∃ V:List UInt8,V = [48]:=⟨_,rfl⟩
      have HVG:Hid (FracGood V):=Lib.hid (by rw[hV];exact fg_zero)
      have hVl:V.length≤20000:=by rw[hV];simp
      have HVE:Hid (V = [48]):=Lib.hid hV
      obtain ⟨wz,hwz⟩:∃ X,X=w1.alloc (.cells #[.bool false,.slice none 0 0,.slice (some ⟨gz,0,none⟩) 1 1] 35):=⟨_,rfl⟩
      have BZ:Below wr.heap.size wr wz:=by rw[hwz];exact below_seq hb1 ((Below.refl _ _).alloc (Nat.le_refl _) _)
      have HWZ:=Lib.hid hwz
      clear hwz hV hno hb1 CG
      go_upto_region 14 with fail
      rw[← HWZ.out]
     case' inr=>
      obtain ⟨A8,c8,A9,c9,rfl,hx8,hy8,_⟩:=hq.open_
      obtain ⟨m1,hm1⟩:∃ m1,m1=(tdg n).length:=⟨_,rfl⟩
      obtain ⟨m2,hm2⟩:∃ m2,m2=(tdg d).length:=⟨_,rfl⟩
      rw[← hm1,← hm2]at hq ⊢
      obtain ⟨w2,hw2⟩:∃ X,X=w1.alloc (.cells #[.bool ng,.slice A8 m1 c8,.slice A9 m2 c9] 35):=⟨_,rfl⟩
      have h12:Below w1.heap.size w1 w2:=by rw[hw2];exact (Below.refl _ _).alloc (Nat.le_refl _) _
      have CT0:=ref_Q_Text w2 _ ng n d (hq.keep h12) hd (by omega) (by omega)
      rw[hquo]at CT0
      obtain ⟨V,hV⟩:∃ V:List UInt8,V=fracText (fracOf y):=⟨_,rfl⟩
      rw[← hV]at CT0
      have hVy:V=y:=by rw[hV];exact hgood.2.2.2
      have HVG:Hid (FracGood V):=Lib.hid (by rw[hVy];exact hgood)
      have hVl:V.length≤20000:=by rw[hV,← hquo];exact text_len hd (by omega) (by omega)
      have CT:=Lib.hid CT0
      have HW2:=Lib.hid hw2
      have B2:Below wr.heap.size wr w2:=below_seq hb1 h12
      have hR2:Row w2 w1.heap.size 35 #[.bool ng,.slice A8 m1 c8,.slice A9 m2 c9]:=by rw[hw2];exact Row.new _ _ _
      clear CT0 hq hgood hquo hV hVy hm1 hm2 hw2 hx8 hy8 hb1 h12 CG
      go_wp2_with fail
      rw[← HW2.out]
      go_at_call 17
      refine CT.out.mono ?_
      rintro e wz ⟨rfl,hbz⟩
      have BZ:=below_seq B2 hbz
      clear CT hbz B2 hR2
      go_upto_region 14 with fail
     all_goals
      obtain ⟨i1,hi1,hz1,hsz1,hby1⟩:=info_coef
      have HA1:Hid (∀ W,Below wz.heap.size wz W→∃ v' w',(Builtin.append_ #[25,25] 25 #[.slice none 0 0,.slice none 0 0]).run Tryz.prog W=.ok v' w'∧OwnK coefKind w' wz.heap.size 46 2 v' (0+0) ([] ++ (([]:List VCoef).take 0).flatMap encCoef)∧W.grownBy w' (Value.ownBlock (.slice none 0 0))∧(v'.ownBlock=Value.ownBlock (.slice none 0 0)∨v'.ownBlock=some W.heap.size)):=Lib.hid fun W hW=>by
       refine OwnK.appendAny (P:=Tryz.prog) Tryz.underlying25 hi1 hz1 hsz1 rfl (by omega) (OwnK.nil_ _ _ _ _ _) _ 0 _ ((([]:List VCoef).take 0).flatMap encCoef) (by simp only[flat_len,List.length_take,List.length_nil]<;>omega) (fun j u hj=>?_) (fun u hu=>(flat_kind _ u hu).2) (fun u hu=>(flat_kind _ u hu).1) (by simp[coefKind,Value.cells]) (by unfold maxLen;omega) (by rw[hby1];omega) hW.size
       simp at hj
      have HA3:Hid (∀ W v2,Below wz.heap.size wz W→OwnK coefKind W wz.heap.size 46 2 v2 (0+0+1) ([] ++ (([]:List VCoef).take 0).flatMap encCoef ++ encCoef (c,V))→∃ v' w',(Builtin.append_ #[25,25] 25 #[v2,.slice none 0 0]).run Tryz.prog W=.ok v' w'∧OwnK coefKind w' wz.heap.size 46 2 v' (0+0+1+0) ([] ++ (([]:List VCoef).take 0).flatMap encCoef ++ encCoef (c,V) ++ (([]:List VCoef).drop 0).flatMap encCoef)∧W.grownBy w' v2.ownBlock∧(v'.ownBlock=v2.ownBlock∨v'.ownBlock=some W.heap.size)):=Lib.hid fun W v2 hW ho=>by
       refine OwnK.appendAny (P:=Tryz.prog) Tryz.underlying25 hi1 hz1 hsz1 rfl (by omega) ho _ 0 _ ((([]:List VCoef).drop 0).flatMap encCoef) (by simp only[flat_len,List.length_drop,List.length_nil]<;>omega) (fun j u hj=>?_) (fun u hu=>(flat_kind _ u hu).2) (fun u hu=>(flat_kind _ u hu).1) (by simp[coefKind,Value.cells]) (by unfold maxLen;omega) (by rw[hby1];omega) hW.size
       simp at hj
      refine wp_region_any (by kernel_rfl) ?_
      change wpAny _ _ _ _ _ _ _ (World.drew _)
      obtain ⟨W0,hW0⟩:∃ X,X=(wz).drew:=⟨_,rfl⟩
      rw[← hW0]
      have z0:Below (wz).heap.size (wz) W0:=by rw[hW0];exact Below.drewN_ (Below.refl _ _) 1
      clear hW0
      refine wpAny_take (i:=0) (oi:=vcoef14_0) (v:=.slice none 0 0) rfl (by kernel_rfl) (by kernel_rfl) (by kernel_rfl) (fun _ _ _ h=>h) (Or.inl ⟨by kernel_rfl,?_⟩) ?_
      ·intro w;go_simp<;>first|omega|(intro hh;exfalso;omega)|rfl|(rw[HVE.out])
      try simp only[Act.put,List.setIfInBounds_toArray,List.set_cons_zero,List.set_cons_succ,vcoef14_0]
      refine wpAny_take (i:=1) (oi:=vcoef14_1) (v:=.int .i64 0) rfl (by kernel_rfl) (by kernel_rfl) (by kernel_rfl) (fun _ _ _ h=>h) (Or.inl ⟨by kernel_rfl,?_⟩) ?_
      ·intro w;go_simp<;>first|omega|(intro hh;exfalso;omega)|rfl|(rw[HVE.out])
      try simp only[Act.put,List.setIfInBounds_toArray,List.set_cons_zero,List.set_cons_succ,vcoef14_1]
      refine wpAny_take (i:=2) (oi:=vcoef14_2) (v:=.slice none 0 0) rfl (by kernel_rfl) (by kernel_rfl) (by kernel_rfl) (fun _ _ _ h=>h) (Or.inl ⟨by kernel_rfl,?_⟩) ?_
      ·intro w;go_simp<;>first|omega|(intro hh;exfalso;omega)|rfl|(rw[HVE.out])
      try simp only[Act.put,List.setIfInBounds_toArray,List.set_cons_zero,List.set_cons_succ,vcoef14_2]
      refine wpAny_take (i:=4) (oi:=vcoef14_4) (v:=.int .i64 c) rfl (by kernel_rfl) (by kernel_rfl) (by kernel_rfl) (fun _ _ _ h=>h) (Or.inl ⟨by kernel_rfl,?_⟩) ?_
      ·intro w;go_simp<;>first|omega|(intro hh;exfalso;omega)|rfl|(rw[HVE.out])
      try simp only[Act.put,List.setIfInBounds_toArray,List.set_cons_zero,List.set_cons_succ,vcoef14_4]
      refine wpAny_take (i:=5) (oi:=vcoef14_5) (v:=.string ⟨V.toArray⟩) rfl (by kernel_rfl) (by kernel_rfl) (by kernel_rfl) (fun _ _ _ h=>h) (Or.inl ⟨by kernel_rfl,?_⟩) ?_
      ·intro w;go_simp<;>first|omega|(intro hh;exfalso;omega)|rfl|(rw[HVE.out])
      try simp only[Act.put,List.setIfInBounds_toArray,List.set_cons_zero,List.set_cons_succ,vcoef14_5]
      refine wpAny_take (i:=6) (oi:=vcoef14_6) (v:=.agg #[.int .i64 c,.string ⟨V.toArray⟩]) rfl (by kernel_rfl) (by kernel_rfl) (by kernel_rfl) (fun _ _ _ h=>h) (Or.inl ⟨by kernel_rfl,?_⟩) ?_
      ·intro w;go_simp<;>first|omega|(intro hh;exfalso;omega)|rfl|(rw[HVE.out])
      try simp only[Act.put,List.setIfInBounds_toArray,List.set_cons_zero,List.set_cons_succ,vcoef14_6]
      refine wpAny_take (i:=9) (oi:=vcoef14_9) (v:=.slice none 0 0) rfl (by kernel_rfl) (by kernel_rfl) (by kernel_rfl) (fun _ _ _ h=>h) (Or.inl ⟨by kernel_rfl,?_⟩) ?_
      ·intro w;go_simp<;>first|omega|(intro hh;exfalso;omega)|rfl|(rw[HVE.out])
      try simp only[Act.put,List.setIfInBounds_toArray,List.set_cons_zero,List.set_cons_succ,vcoef14_9]
      refine wpAny_take (i:=10) (oi:=vcoef14_10) (v:=.int .i64 0) rfl (by kernel_rfl) (by kernel_rfl) (by kernel_rfl) (fun _ _ _ h=>h) (Or.inl ⟨by kernel_rfl,?_⟩) ?_
      ·intro w;go_simp<;>first|omega|(intro hh;exfalso;omega)|rfl|(rw[HVE.out])
      try simp only[Act.put,List.setIfInBounds_toArray,List.set_cons_zero,List.set_cons_succ,vcoef14_10]
      refine wpAny_take (i:=11) (oi:=vcoef14_11) (v:=.slice none 0 0) rfl (by kernel_rfl) (by kernel_rfl) (by kernel_rfl) (fun _ _ _ h=>h) (Or.inl ⟨by kernel_rfl,?_⟩) ?_
      ·intro w;go_simp<;>first|omega|(intro hh;exfalso;omega)|rfl|(rw[HVE.out])
      try simp only[Act.put,List.setIfInBounds_toArray,List.set_cons_zero,List.set_cons_succ,vcoef14_11]
      refine wpAny_ready (rs:=[3,7]) (by kernel_rfl) (by simp) ?_
      apply AllReady.cons (o:=vcoef14_3) (by kernel_rfl)
      case h=>
       intro K hK
       obtain ⟨v1,x1,run1,own1,gr1,lc1⟩:=HA1.out _ z0
       refine step_append_run rfl (.const (.slice none 0 0)) (.tmp 76) 25 rfl _ _ rfl rfl run1 ?_
       have z1:=Below.grown z0 gr1 z0.size (fun j hj=>by cases hj)
       have y1:Below W0.heap.size W0 x1:=Below.grown (Below.refl _ _) gr1 (Nat.le_refl _) (fun j hj=>by cases hj)
       have OW1:=Lib.hid own1
       clear run1 gr1 lc1 own1 y1
       refine hK _ _ ?_
       clear hK K
       try simp only[Act.put,List.setIfInBounds_toArray,List.set_cons_zero,List.set_cons_succ]
       refine wpAny_ready (rs:=[7]) (by kernel_rfl) (by simp) ?_
       apply AllReady.cons (o:=vcoef14_7) (by kernel_rfl)
       case hs=>exact AllReady.nil
       intro K hK
       simp only[vcoef14_7]
       go_simp
       first
        | skip
       obtain ⟨W2,hW2⟩:∃ X,X=x1.alloc (.cells #[.int .i64 c,.string ⟨V.toArray⟩] 46):=⟨_,rfl⟩
       rw[← hW2]
       have y2:Below x1.heap.size x1 W2:=by rw[hW2];exact (Below.refl _ _).alloc (Nat.le_refl _) _
       have z2:=below_seq z1 y2
       have NN2:=Lib.hid (show Row W2 x1.heap.size 46 #[.int .i64 c,.string ⟨V.toArray⟩] by rw[hW2];exact Row.new _ _ _)
       have OW2:=Lib.hid (OW1.out.keep y2)
       clear hW2 y2
       refine hK _ _ ?_
       clear hK K
       try simp only[Act.put,List.setIfInBounds_toArray,List.set_cons_zero,List.set_cons_succ]
       refine wpAny_ready (rs:=[8]) (by kernel_rfl) (by simp) ?_
       apply AllReady.cons (o:=vcoef14_8) (by kernel_rfl)
       case hs=>exact AllReady.nil
       intro K hK
       obtain ⟨v2,x2,run2,own2,gr2,lc2⟩:=OwnK.append (P:=Tryz.prog) (ty:=25) Tryz.underlying25 hi1 hz1 hsz1 rfl (by omega) OW2.out ⟨x1.heap.size,0,none⟩ 1 1 (encCoef (c,V)) rfl (one_row NN2.out) (by simp[Value.oneCell',encCoef]) (encCoef_kind _) (by simp[coefKind,Value.cells]) (by omega) (by unfold maxLen;omega) (by rw[hby1];omega) z2.size
       refine step_append_run rfl (.tmp 77) (.tmp 81) 25 rfl _ _ rfl rfl run2 ?_
       have z3:=Below.grown z2 gr2 z2.size (fun j hj=>(OW2.out.lt hj).1)
       have OW3:=Lib.hid own2
       clear run2 gr2 lc2 own2
       refine hK _ _ ?_
       clear hK K
       try simp only[Act.put,List.setIfInBounds_toArray,List.set_cons_zero,List.set_cons_succ]
       refine wpAny_ready (rs:=[12]) (by kernel_rfl) (by simp) ?_
       apply AllReady.cons (o:=vcoef14_12) (by kernel_rfl)
       case hs=>exact AllReady.nil
       intro K hK
       obtain ⟨v3,x3,run3,own3,gr3,lc3⟩:=HA3.out _ _ z3 OW3.out
       refine step_append_run rfl (.tmp 82) (.tmp 85) 25 rfl _ _ rfl rfl run3 ?_
       have z4:=Below.grown z3 gr3 z3.size (fun j hj=>(OW3.out.lt hj).1)
       have OW4:=Lib.hid own3
       clear run3 gr3 lc3 own3
       refine hK _ _ ?_
       clear hK K
       try simp only[Act.put,List.setIfInBounds_toArray,List.set_cons_zero,List.set_cons_succ]
       refine wpAny_take (i:=13) (oi:=vcoef14_13) (v:=v3) rfl (by kernel_rfl) (by kernel_rfl) (by kernel_rfl) (fun _ _ _ h=>h) (Or.inl ⟨by kernel_rfl,?_⟩) ?_
       ·intro w;go_simp<;>first|omega|(intro hh;exfalso;omega)|rfl|(rw[HVE.out])
       try simp only[Act.put,List.setIfInBounds_toArray,List.set_cons_zero,List.set_cons_succ,vcoef14_13]
       refine wpAny_done (by kernel_rfl) ?_ _
       have BB:=hbr.trans (below_seq (below_seq BZ (Below.refl _ _)) z4 |>.mono hbr.size)
       have HOWN:Hid (OwnCoefs x3 w.heap.size 46 v3 (([]:List VCoef).take 0 ++ ((c:Int),V) :: ([]:List VCoef).drop 0)):=Lib.hid (own_insert (OW4.out.base_le (Nat.le_trans hbr.size BZ.size)) (by simp<;>omega))
       have HOK2:=Lib.hid (CoefsOk.insert hok.out (k:=0) (c:=(c:Int)) (v:=V) hlow.out HUP.out ⟨by omega,by omega⟩ HVG.out)
       have HTX:=Lib.hid (CoefsOk.texts (k:=0) (c:=(c:Int)) hlen.out hVl)
       have HBB:=Lib.hid BB
       go_wp2_with fail
       exact ⟨⟨i+1,_,by go_num,by omega,HOK2,by simp<;>omega,HTX,HOWN,HBB.out⟩,by simp[intOf];omega⟩
      apply AllReady.cons (o:=vcoef14_7) (by kernel_rfl)
      case h=>
       intro K hK
       simp only[vcoef14_7]
       go_simp
       first
        | skip
       obtain ⟨W5,hW5⟩:∃ X,X=W0.alloc (.cells #[.int .i64 c,.string ⟨V.toArray⟩] 46):=⟨_,rfl⟩
       rw[← hW5]
       have y5:Below W0.heap.size W0 W5:=by rw[hW5];exact (Below.refl _ _).alloc (Nat.le_refl _) _
       have z5:=below_seq z0 y5
       have NN5:=Lib.hid (show Row W5 W0.heap.size 46 #[.int .i64 c,.string ⟨V.toArray⟩] by rw[hW5];exact Row.new _ _ _)
       clear hW5 y5
       refine hK _ _ ?_
       clear hK K
       try simp only[Act.put,List.setIfInBounds_toArray,List.set_cons_zero,List.set_cons_succ]
       refine wpAny_ready (rs:=[3]) (by kernel_rfl) (by simp) ?_
       apply AllReady.cons (o:=vcoef14_3) (by kernel_rfl)
       case hs=>exact AllReady.nil
       intro K hK
       obtain ⟨v1,x1,run1,own1,gr1,lc1⟩:=HA1.out _ z5
       refine step_append_run rfl (.const (.slice none 0 0)) (.tmp 76) 25 rfl _ _ rfl rfl run1 ?_
       have z6:=Below.grown z5 gr1 z5.size (fun j hj=>by cases hj)
       have y6:Below W5.heap.size W5 x1:=Below.grown (Below.refl _ _) gr1 (Nat.le_refl _) (fun j hj=>by cases hj)
       have OW6:=Lib.hid own1
       have NN6:=Lib.hid (NN5.out.keep y6)
       clear run1 gr1 lc1 own1 y6
       refine hK _ _ ?_
       clear hK K
       try simp only[Act.put,List.setIfInBounds_toArray,List.set_cons_zero,List.set_cons_succ]
       refine wpAny_ready (rs:=[8]) (by kernel_rfl) (by simp) ?_
       apply AllReady.cons (o:=vcoef14_8) (by kernel_rfl)
       case hs=>exact AllReady.nil
       intro K hK
       obtain ⟨v2,x2,run2,own2,gr2,lc2⟩:=OwnK.append (P:=Tryz.prog) (ty:=25) Tryz.underlying25 hi1 hz1 hsz1 rfl (by omega) OW6.out ⟨W0.heap.size,0,none⟩ 1 1 (encCoef (c,V)) rfl (one_row NN6.out) (by simp[Value.oneCell',encCoef]) (encCoef_kind _) (by simp[coefKind,Value.cells]) (by omega) (by unfold maxLen;omega) (by rw[hby1];omega) z6.size
       refine step_append_run rfl (.tmp 77) (.tmp 81) 25 rfl _ _ rfl rfl run2 ?_
       have z7:=Below.grown z6 gr2 z6.size (fun j hj=>(OW6.out.lt hj).1)
       have OW7:=Lib.hid own2
       clear run2 gr2 lc2 own2
       refine hK _ _ ?_
       clear hK K
       try simp only[Act.put,List.setIfInBounds_toArray,List.set_cons_zero,List.set_cons_succ]
       refine wpAny_ready (rs:=[12]) (by kernel_rfl) (by simp) ?_
       apply AllReady.cons (o:=vcoef14_12) (by kernel_rfl)
       case hs=>exact AllReady.nil
       intro K hK
       obtain ⟨v3,x3,run3,own3,gr3,lc3⟩:=HA3.out _ _ z7 OW7.out
       refine step_append_run rfl (.tmp 82) (.tmp 85) 25 rfl _ _ rfl rfl run3 ?_
       have z8:=Below.grown z7 gr3 z7.size (fun j hj=>(OW7.out.lt hj).1)
       have OW8:=Lib.hid own3
       clear run3 gr3 lc3 own3
       refine hK _ _ ?_
       clear hK K
       try simp only[Act.put,List.setIfInBounds_toArray,List.set_cons_zero,List.set_cons_succ]
       refine wpAny_take (i:=13) (oi:=vcoef14_13) (v:=v3) rfl (by kernel_rfl) (by kernel_rfl) (by kernel_rfl) (fun _ _ _ h=>h) (Or.inl ⟨by kernel_rfl,?_⟩) ?_
       ·intro w;go_simp<;>first|omega|(intro hh;exfalso;omega)|rfl|(rw[HVE.out])
       try simp only[Act.put,List.setIfInBounds_toArray,List.set_cons_zero,List.set_cons_succ,vcoef14_13]
       refine wpAny_done (by kernel_rfl) ?_ _
       have BB:=hbr.trans (below_seq (below_seq BZ (Below.refl _ _)) z8 |>.mono hbr.size)
       have HOWN:Hid (OwnCoefs x3 w.heap.size 46 v3 (([]:List VCoef).take 0 ++ ((c:Int),V) :: ([]:List VCoef).drop 0)):=Lib.hid (own_insert (OW8.out.base_le (Nat.le_trans hbr.size BZ.size)) (by simp<;>omega))
       have HOK2:=Lib.hid (CoefsOk.insert hok.out (k:=0) (c:=(c:Int)) (v:=V) hlow.out HUP.out ⟨by omega,by omega⟩ HVG.out)
       have HTX:=Lib.hid (CoefsOk.texts (k:=0) (c:=(c:Int)) hlen.out hVl)
       have HBB:=Lib.hid BB
       go_wp2_with fail
       exact ⟨⟨i+1,_,by go_num,by omega,HOK2,by simp<;>omega,HTX,HOWN,HBB.out⟩,by simp[intOf];omega⟩
      exact AllReady.nil
    ·injection hsv with e1 _ e3
     subst e1
     subst e3
     have HCELL:=Lib.hid hcell
     have HFL:=Lib.hid hfl
     clear hcell hfl
     by_cases hlt:k<cs.length
     ·obtain ⟨z,hz⟩:∃ z,cs[k]?=some z:=⟨cs[k],by simp[hlt]⟩
      obtain ⟨hz1,hz2⟩:=HCELL.out k z hz
      have HZ:=Lib.hid hz
      have hlt':=Int.ofNat_lt.2 hlt
      obtain ⟨zc,zt⟩:=z
      simp only at hz1 hz2
      clear hz hz2
      by_cases hzc:zc<(c:Int)
      ·go_wp2_with fail
       go_roundw
       case rel=>
        refine ⟨k+1,by go_num,by omega,Lib.hid (fun j z hj hz=>?_),by first|rfl|trivial⟩
        by_cases hjk:j=k
        ·subst hjk
         rw[HZ.out]at hz
         cases hz
         exact hzc
        ·exact hlow.out j z (by omega) hz
       case measure=>simp[intOf];omega
      ·by_cases hze:zc=(c:Int)
       ·have hzb:(zc == (c:Int))=true:=by rw[beq_iff_eq];exact hze
        have hzn:¬ zc<(c:Int):=hzc
        have hzd:decide (zc=(c:Int))=true:=decide_eq_true hze
        clear hzc
        go_wp2_with fail
        exact ⟨⟨i+1,cs,by go_num,by omega,hok,by omega,hlen,hown,hbr⟩,by simp[intOf];omega⟩
       ·have hzb:(zc == (c:Int))=false:=by rw[beq_eq_false_iff_ne];exact hze
        have HUP:Hid (∀ z,cs[k]?=some z→(c:Int)<z.1):=Lib.hid fun z hz=>by
         rw[HZ.out]at hz
         cases hz
         show (c:Int)<zc
         omega
        have hzn:¬ zc<(c:Int):=hzc
        have hzd:decide (zc=(c:Int))=false:=decide_eq_false hze
        clear hzc
        obtain ⟨a2,ha2⟩:∃ a2:Option Addr,(if c3=k then some ⟨g3,0,none⟩else some ⟨g3,k*2,none⟩)=a2:=⟨_,rfl⟩
        have hk':(k:Int)≤(cs.length:Int):=by omega
        have hkc':(k:Int)≤(c3:Int):=by omega
        have hcy':=cell_keep HCY.out hbr
        go_wp2_with fail
        go_at_call 9
        refine (CG.out _).mono ?_
        rintro e w1 ⟨v,bb,rfl,hb1,(⟨rfl,hno,gz,rfl⟩|⟨rfl,hgood,ng,n,d,hq,hd,hquo,hn,hdl⟩)⟩
        case' inl=>
         obtain ⟨V,hV⟩:∃ V:List UInt8,V = [48]:=⟨_,rfl⟩
         have HVG:Hid (FracGood V):=Lib.hid (by rw[hV];exact fg_zero)
         have hVl:V.length≤20000:=by rw[hV];simp
         have HVE:Hid (V = [48]):=Lib.hid hV
         obtain ⟨wz,hwz⟩:∃ X,X=w1.alloc (.cells #[.bool false,.slice none 0 0,.slice (some ⟨gz,0,none⟩) 1 1] 35):=⟨_,rfl⟩
         have BZ:Below wr.heap.size wr wz:=by rw[hwz];exact below_seq hb1 ((Below.refl _ _).alloc (Nat.le_refl _) _)
         have HWZ:=Lib.hid hwz
         clear hwz hV hno hb1 CG
         go_upto_region 14 with fail
         rw[← HWZ.out]
        case' inr=>
         obtain ⟨A8,c8,A9,c9,rfl,hx8,hy8,_⟩:=hq.open_
         obtain ⟨m1,hm1⟩:∃ m1,m1=(tdg n).length:=⟨_,rfl⟩
         obtain ⟨m2,hm2⟩:∃ m2,m2=(tdg d).length:=⟨_,rfl⟩
         rw[← hm1,← hm2]at hq ⊢
         obtain ⟨w2,hw2⟩:∃ X,X=w1.alloc (.cells #[.bool ng,.slice A8 m1 c8,.slice A9 m2 c9] 35):=⟨_,rfl⟩
         have h12:Below w1.heap.size w1 w2:=by rw[hw2];exact (Below.refl _ _).alloc (Nat.le_refl _) _
         have CT0:=ref_Q_Text w2 _ ng n d (hq.keep h12) hd (by omega) (by omega)
         rw[hquo]at CT0
         obtain ⟨V,hV⟩:∃ V:List UInt8,V=fracText (fracOf y):=⟨_,rfl⟩
         rw[← hV]at CT0
         have hVy:V=y:=by rw[hV];exact hgood.2.2.2
         have HVG:Hid (FracGood V):=Lib.hid (by rw[hVy];exact hgood)
         have hVl:V.length≤20000:=by rw[hV,← hquo];exact text_len hd (by omega) (by omega)
         have CT:=Lib.hid CT0
         have HW2:=Lib.hid hw2
         have B2:Below wr.heap.size wr w2:=below_seq hb1 h12
         have hR2:Row w2 w1.heap.size 35 #[.bool ng,.slice A8 m1 c8,.slice A9 m2 c9]:=by rw[hw2];exact Row.new _ _ _
         clear CT0 hq hgood hquo hV hVy hm1 hm2 hw2 hx8 hy8 hb1 h12 CG
         go_wp2_with fail
         rw[← HW2.out]
         go_at_call 17
         refine CT.out.mono ?_
         rintro e wz ⟨rfl,hbz⟩
         have BZ:=below_seq B2 hbz
         clear CT hbz B2 hR2
         go_upto_region 14 with fail
        all_goals
         obtain ⟨i1,hi1,hz1,hsz1,hby1⟩:=info_coef
         have HA1:Hid (∀ W,Below wz.heap.size wz W→∃ v' w',(Builtin.append_ #[25,25] 25 #[.slice none 0 0,.slice (some ⟨g3,0,none⟩) k c3]).run Tryz.prog W=.ok v' w'∧OwnK coefKind w' wz.heap.size 46 2 v' (0+k) ([] ++ (cs.take k).flatMap encCoef)∧W.grownBy w' (Value.ownBlock (.slice none 0 0))∧(v'.ownBlock=Value.ownBlock (.slice none 0 0)∨v'.ownBlock=some W.heap.size)):=Lib.hid fun W hW=>by
          refine OwnK.appendAny (P:=Tryz.prog) Tryz.underlying25 hi1 hz1 hsz1 rfl (by omega) (OwnK.nil_ _ _ _ _ _) _ k _ ((cs.take k).flatMap encCoef) (by simp only[flat_len,List.length_take,List.length_nil]<;>omega) (fun j u hj=>?_) (fun u hu=>(flat_kind _ u hu).2) (fun u hu=>(flat_kind _ u hu).1) (by simp[coefKind,Value.cells]) (by unfold maxLen;omega) (by rw[hby1];omega) hW.size
          exact src_take HFL.out (below_seq BZ hW) hj
         have HA3:Hid (∀ W v2,Below wz.heap.size wz W→OwnK coefKind W wz.heap.size 46 2 v2 (0+k+1) ([] ++ (cs.take k).flatMap encCoef ++ encCoef (c,V))→∃ v' w',(Builtin.append_ #[25,25] 25 #[v2,.slice a2 (cs.length - k) (c3 - k)]).run Tryz.prog W=.ok v' w'∧OwnK coefKind w' wz.heap.size 46 2 v' (0+k+1+(cs.length - k)) ([] ++ (cs.take k).flatMap encCoef ++ encCoef (c,V) ++ (cs.drop k).flatMap encCoef)∧W.grownBy w' v2.ownBlock∧(v'.ownBlock=v2.ownBlock∨v'.ownBlock=some W.heap.size)):=Lib.hid fun W v2 hW ho=>by
          refine OwnK.appendAny (P:=Tryz.prog) Tryz.underlying25 hi1 hz1 hsz1 rfl (by omega) ho _ (cs.length - k) _ ((cs.drop k).flatMap encCoef) (by simp only[flat_len,List.length_drop,List.length_nil]<;>omega) (fun j u hj=>?_) (fun u hu=>(flat_kind _ u hu).2) (fun u hu=>(flat_kind _ u hu).1) (by simp[coefKind,Value.cells]) (by unfold maxLen;omega) (by rw[hby1];omega) hW.size
          exact src_drop HFL.out (below_seq BZ hW) ha2 hc4 hj
         refine wp_region_any (by kernel_rfl) ?_
         change wpAny _ _ _ _ _ _ _ (World.drew _)
         obtain ⟨W0,hW0⟩:∃ X,X=(wz).drew:=⟨_,rfl⟩
         rw[← hW0]
         have z0:Below (wz).heap.size (wz) W0:=by rw[hW0];exact Below.drewN_ (Below.refl _ _) 1
         clear hW0
         refine wpAny_take (i:=0) (oi:=vcoef14_0) (v:=.slice (some ⟨g3,0,none⟩) cs.length c3) rfl (by kernel_rfl) (by kernel_rfl) (by kernel_rfl) (fun _ _ _ h=>h) (Or.inl ⟨by kernel_rfl,?_⟩) ?_
         ·intro w;go_simp<;>first|omega|(intro hh;exfalso;omega)|rfl|(rw[HVE.out])
         try simp only[Act.put,List.setIfInBounds_toArray,List.set_cons_zero,List.set_cons_succ,vcoef14_0]
         refine wpAny_take (i:=1) (oi:=vcoef14_1) (v:=.int .i64 k) rfl (by kernel_rfl) (by kernel_rfl) (by kernel_rfl) (fun _ _ _ h=>h) (Or.inl ⟨by kernel_rfl,?_⟩) ?_
         ·intro w;go_simp<;>first|omega|(intro hh;exfalso;omega)|rfl|(rw[HVE.out])
         try simp only[Act.put,List.setIfInBounds_toArray,List.set_cons_zero,List.set_cons_succ,vcoef14_1]
         refine wpAny_take (i:=2) (oi:=vcoef14_2) (v:=.slice (some ⟨g3,0,none⟩) k c3) rfl (by kernel_rfl) (by kernel_rfl) (by kernel_rfl) (fun _ _ _ h=>h) (Or.inl ⟨by kernel_rfl,?_⟩) ?_
         ·intro w;go_simp<;>first|omega|(intro hh;exfalso;omega)|rfl|(rw[HVE.out])
         try simp only[Act.put,List.setIfInBounds_toArray,List.set_cons_zero,List.set_cons_succ,vcoef14_2]
         refine wpAny_take (i:=4) (oi:=vcoef14_4) (v:=.int .i64 c) rfl (by kernel_rfl) (by kernel_rfl) (by kernel_rfl) (fun _ _ _ h=>h) (Or.inl ⟨by kernel_rfl,?_⟩) ?_
         ·intro w;go_simp<;>first|omega|(intro hh;exfalso;omega)|rfl|(rw[HVE.out])
         try simp only[Act.put,List.setIfInBounds_toArray,List.set_cons_zero,List.set_cons_succ,vcoef14_4]
         refine wpAny_take (i:=5) (oi:=vcoef14_5) (v:=.string ⟨V.toArray⟩) rfl (by kernel_rfl) (by kernel_rfl) (by kernel_rfl) (fun _ _ _ h=>h) (Or.inl ⟨by kernel_rfl,?_⟩) ?_
         ·intro w;go_simp<;>first|omega|(intro hh;exfalso;omega)|rfl|(rw[HVE.out])
         try simp only[Act.put,List.setIfInBounds_toArray,List.set_cons_zero,List.set_cons_succ,vcoef14_5]
         refine wpAny_take (i:=6) (oi:=vcoef14_6) (v:=.agg #[.int .i64 c,.string ⟨V.toArray⟩]) rfl (by kernel_rfl) (by kernel_rfl) (by kernel_rfl) (fun _ _ _ h=>h) (Or.inl ⟨by kernel_rfl,?_⟩) ?_
         ·intro w;go_simp<;>first|omega|(intro hh;exfalso;omega)|rfl|(rw[HVE.out])
         try simp only[Act.put,List.setIfInBounds_toArray,List.set_cons_zero,List.set_cons_succ,vcoef14_6]
         refine wpAny_take (i:=9) (oi:=vcoef14_9) (v:=.slice (some ⟨g3,0,none⟩) cs.length c3) rfl (by kernel_rfl) (by kernel_rfl) (by kernel_rfl) (fun _ _ _ h=>h) (Or.inl ⟨by kernel_rfl,?_⟩) ?_
         ·intro w;go_simp<;>first|omega|(intro hh;exfalso;omega)|rfl|(rw[HVE.out])
         try simp only[Act.put,List.setIfInBounds_toArray,List.set_cons_zero,List.set_cons_succ,vcoef14_9]
         refine wpAny_take (i:=10) (oi:=vcoef14_10) (v:=.int .i64 k) rfl (by kernel_rfl) (by kernel_rfl) (by kernel_rfl) (fun _ _ _ h=>h) (Or.inl ⟨by kernel_rfl,?_⟩) ?_
         ·intro w;go_simp<;>first|omega|(intro hh;exfalso;omega)|rfl|(rw[HVE.out])
         try simp only[Act.put,List.setIfInBounds_toArray,List.set_cons_zero,List.set_cons_succ,vcoef14_10]
         refine wpAny_take (i:=11) (oi:=vcoef14_11) (v:=.slice a2 (cs.length - k) (c3 - k)) rfl (by kernel_rfl) (by kernel_rfl) (by kernel_rfl) (fun _ _ _ h=>h) (Or.inl ⟨by kernel_rfl,?_⟩) ?_
         ·intro w;go_simp<;>first|omega|(intro hh;exfalso;omega)|rfl|(rw[HVE.out])
         try simp only[Act.put,List.setIfInBounds_toArray,List.set_cons_zero,List.set_cons_succ,vcoef14_11]
         refine wpAny_ready (rs:=[3,7]) (by kernel_rfl) (by simp) ?_
         apply AllReady.cons (o:=vcoef14_3) (by kernel_rfl)
         case h=>
          intro K hK
          obtain ⟨v1,x1,run1,own1,gr1,lc1⟩:=HA1.out _ z0
          refine step_append_run rfl (.const (.slice none 0 0)) (.tmp 76) 25 rfl _ _ rfl rfl run1 ?_
          have z1:=Below.grown z0 gr1 z0.size (fun j hj=>by cases hj)
          have y1:Below W0.heap.size W0 x1:=Below.grown (Below.refl _ _) gr1 (Nat.le_refl _) (fun j hj=>by cases hj)
          have OW1:=Lib.hid own1
          clear run1 gr1 lc1 own1 y1
          refine hK _ _ ?_
          clear hK K
          try simp only[Act.put,List.setIfInBounds_toArray,List.set_cons_zero,List.set_cons_succ]
          refine wpAny_ready (rs:=[7]) (by kernel_rfl) (by simp) ?_
          apply AllReady.cons (o:=vcoef14_7) (by kernel_rfl)
          case hs=>exact AllReady.nil
          intro K hK
          simp only[vcoef14_7]
          go_simp
          first
           | skip
          obtain ⟨W2,hW2⟩:∃ X,X=x1.alloc (.cells #[.int .i64 c,.string ⟨V.toArray⟩] 46):=⟨_,rfl⟩
          rw[← hW2]
          have y2:Below x1.heap.size x1 W2:=by rw[hW2];exact (Below.refl _ _).alloc (Nat.le_refl _) _
          have z2:=below_seq z1 y2
          have NN2:=Lib.hid (show Row W2 x1.heap.size 46 #[.int .i64 c,.string ⟨V.toArray⟩] by rw[hW2];exact Row.new _ _ _)
          have OW2:=Lib.hid (OW1.out.keep y2)
          clear hW2 y2
          refine hK _ _ ?_
          clear hK K
          try simp only[Act.put,List.setIfInBounds_toArray,List.set_cons_zero,List.set_cons_succ]
          refine wpAny_ready (rs:=[8]) (by kernel_rfl) (by simp) ?_
          apply AllReady.cons (o:=vcoef14_8) (by kernel_rfl)
          case hs=>exact AllReady.nil
          intro K hK
          obtain ⟨v2,x2,run2,own2,gr2,lc2⟩:=OwnK.append (P:=Tryz.prog) (ty:=25) Tryz.underlying25 hi1 hz1 hsz1 rfl (by omega) OW2.out ⟨x1.heap.size,0,none⟩ 1 1 (encCoef (c,V)) rfl (one_row NN2.out) (by simp[Value.oneCell',encCoef]) (encCoef_kind _) (by simp[coefKind,Value.cells]) (by omega) (by unfold maxLen;omega) (by rw[hby1];omega) z2.size
          refine step_append_run rfl (.tmp 77) (.tmp 81) 25 rfl _ _ rfl rfl run2 ?_
          have z3:=Below.grown z2 gr2 z2.size (fun j hj=>(OW2.out.lt hj).1)
          have OW3:=Lib.hid own2
          clear run2 gr2 lc2 own2
          refine hK _ _ ?_
          clear hK K
          try simp only[Act.put,List.setIfInBounds_toArray,List.set_cons_zero,List.set_cons_succ]
          refine wpAny_ready (rs:=[12]) (by kernel_rfl) (by simp) ?_
          apply AllReady.cons (o:=vcoef14_12) (by kernel_rfl)
          case hs=>exact AllReady.nil
          intro K hK
          obtain ⟨v3,x3,run3,own3,gr3,lc3⟩:=HA3.out _ _ z3 OW3.out
          refine step_append_run rfl (.tmp 82) (.tmp 85) 25 rfl _ _ rfl rfl run3 ?_
          have z4:=Below.grown z3 gr3 z3.size (fun j hj=>(OW3.out.lt hj).1)
          have OW4:=Lib.hid own3
          clear run3 gr3 lc3 own3
          refine hK _ _ ?_
          clear hK K
          try simp only[Act.put,List.setIfInBounds_toArray,List.set_cons_zero,List.set_cons_succ]
          refine wpAny_take (i:=13) (oi:=vcoef14_13) (v:=v3) rfl (by kernel_rfl) (by kernel_rfl) (by kernel_rfl) (fun _ _ _ h=>h) (Or.inl ⟨by kernel_rfl,?_⟩) ?_
          ·intro w;go_simp<;>first|omega|(intro hh;exfalso;omega)|rfl|(rw[HVE.out])
          try simp only[Act.put,List.setIfInBounds_toArray,List.set_cons_zero,List.set_cons_succ,vcoef14_13]
          refine wpAny_done (by kernel_rfl) ?_ _
          have BB:=hbr.trans (below_seq (below_seq BZ (Below.refl _ _)) z4 |>.mono hbr.size)
          have HOWN:Hid (OwnCoefs x3 w.heap.size 46 v3 (cs.take k ++ ((c:Int),V) :: cs.drop k)):=Lib.hid (own_insert (OW4.out.base_le (Nat.le_trans hbr.size BZ.size)) (by simp<;>omega))
          have HOK2:=Lib.hid (CoefsOk.insert hok.out (k:=k) (c:=(c:Int)) (v:=V) hlow.out HUP.out ⟨by omega,by omega⟩ HVG.out)
          have HTX:=Lib.hid (CoefsOk.texts (k:=k) (c:=(c:Int)) hlen.out hVl)
          have HBB:=Lib.hid BB
          go_wp2_with fail
          exact ⟨⟨i+1,_,by go_num,by omega,HOK2,by simp<;>omega,HTX,HOWN,HBB.out⟩,by simp[intOf];omega⟩
         apply AllReady.cons (o:=vcoef14_7) (by kernel_rfl)
         case h=>
          intro K hK
          simp only[vcoef14_7]
          go_simp
          first
           | skip
          obtain ⟨W5,hW5⟩:∃ X,X=W0.alloc (.cells #[.int .i64 c,.string ⟨V.toArray⟩] 46):=⟨_,rfl⟩
          rw[← hW5]
          have y5:Below W0.heap.size W0 W5:=by rw[hW5];exact (Below.refl _ _).alloc (Nat.le_refl _) _
          have z5:=below_seq z0 y5
          have NN5:=Lib.hid (show Row W5 W0.heap.size 46 #[.int .i64 c,.string ⟨V.toArray⟩] by rw[hW5];exact Row.new _ _ _)
          clear hW5 y5
          refine hK _ _ ?_
          clear hK K
          try simp only[Act.put,List.setIfInBounds_toArray,List.set_cons_zero,List.set_cons_succ]
          refine wpAny_ready (rs:=[3]) (by kernel_rfl) (by simp) ?_
          apply AllReady.cons (o:=vcoef14_3) (by kernel_rfl)
          case hs=>exact AllReady.nil
          intro K hK
          obtain ⟨v1,x1,run1,own1,gr1,lc1⟩:=HA1.out _ z5
          refine step_append_run rfl (.const (.slice none 0 0)) (.tmp 76) 25 rfl _ _ rfl rfl run1 ?_
          have z6:=Below.grown z5 gr1 z5.size (fun j hj=>by cases hj)
          have y6:Below W5.heap.size W5 x1:=Below.grown (Below.refl _ _) gr1 (Nat.le_refl _) (fun j hj=>by cases hj)
          have OW6:=Lib.hid own1
          have NN6:=Lib.hid (NN5.out.keep y6)
          clear run1 gr1 lc1 own1 y6
          refine hK _ _ ?_
          clear hK K
          try simp only[Act.put,List.setIfInBounds_toArray,List.set_cons_zero,List.set_cons_succ]
          refine wpAny_ready (rs:=[8]) (by kernel_rfl) (by simp) ?_
          apply AllReady.cons (o:=vcoef14_8) (by kernel_rfl)
          case hs=>exact AllReady.nil
          intro K hK
          obtain ⟨v2,x2,run2,own2,gr2,lc2⟩:=OwnK.append (P:=Tryz.prog) (ty:=25) Tryz.underlying25 hi1 hz1 hsz1 rfl (by omega) OW6.out ⟨W0.heap.size,0,none⟩ 1 1 (encCoef (c,V)) rfl (one_row NN6.out) (by simp[Value.oneCell',encCoef]) (encCoef_kind _) (by simp[coefKind,Value.cells]) (by omega) (by unfold maxLen;omega) (by rw[hby1];omega) z6.size
          refine step_append_run rfl (.tmp 77) (.tmp 81) 25 rfl _ _ rfl rfl run2 ?_
          have z7:=Below.grown z6 gr2 z6.size (fun j hj=>(OW6.out.lt hj).1)
          have OW7:=Lib.hid own2
          clear run2 gr2 lc2 own2
          refine hK _ _ ?_
          clear hK K
          try simp only[Act.put,List.setIfInBounds_toArray,List.set_cons_zero,List.set_cons_succ]
          refine wpAny_ready (rs:=[12]) (by kernel_rfl) (by simp) ?_
          apply AllReady.cons (o:=vcoef14_12) (by kernel_rfl)
          case hs=>exact AllReady.nil
          intro K hK
          obtain ⟨v3,x3,run3,own3,gr3,lc3⟩:=HA3.out _ _ z7 OW7.out
          refine step_append_run rfl (.tmp 82) (.tmp 85) 25 rfl _ _ rfl rfl run3 ?_
          have z8:=Below.grown z7 gr3 z7.size (fun j hj=>(OW7.out.lt hj).1)
          have OW8:=Lib.hid own3
          clear run3 gr3 lc3 own3
          refine hK _ _ ?_
          clear hK K
          try simp only[Act.put,List.setIfInBounds_toArray,List.set_cons_zero,List.set_cons_succ]
          refine wpAny_take (i:=13) (oi:=vcoef14_13) (v:=v3) rfl (by kernel_rfl) (by kernel_rfl) (by kernel_rfl) (fun _ _ _ h=>h) (Or.inl ⟨by kernel_rfl,?_⟩) ?_
          ·intro w;go_simp<;>first|omega|(intro hh;exfalso;omega)|rfl|(rw[HVE.out])
          try simp only[Act.put,List.setIfInBounds_toArray,List.set_cons_zero,List.set_cons_succ,vcoef14_13]
          refine wpAny_done (by kernel_rfl) ?_ _
          have BB:=hbr.trans (below_seq (below_seq BZ (Below.refl _ _)) z8 |>.mono hbr.size)
          have HOWN:Hid (OwnCoefs x3 w.heap.size 46 v3 (cs.take k ++ ((c:Int),V) :: cs.drop k)):=Lib.hid (own_insert (OW8.out.base_le (Nat.le_trans hbr.size BZ.size)) (by simp<;>omega))
          have HOK2:=Lib.hid (CoefsOk.insert hok.out (k:=k) (c:=(c:Int)) (v:=V) hlow.out HUP.out ⟨by omega,by omega⟩ HVG.out)
          have HTX:=Lib.hid (CoefsOk.texts (k:=k) (c:=(c:Int)) hlen.out hVl)
          have HBB:=Lib.hid BB
          go_wp2_with fail
          exact ⟨⟨i+1,_,by go_num,by omega,HOK2,by simp<;>omega,HTX,HOWN,HBB.out⟩,by simp[intOf];omega⟩
         exact AllReady.nil
     ·have hlt':¬ (k:Int)<(cs.length:Int):=by omega
      have HUP:Hid (∀ z,cs[k]?=some z→(c:Int)<z.1):=Lib.hid fun z hz=>by
       rw[List.getElem?_eq_none (by omega)]at hz
       cases hz
      obtain ⟨a2,ha2⟩:∃ a2:Option Addr,(if c3=k then some ⟨g3,0,none⟩else some ⟨g3,k*2,none⟩)=a2:=⟨_,rfl⟩
      have hk':(k:Int)≤(cs.length:Int):=by omega
      have hkc':(k:Int)≤(c3:Int):=by omega
      have hcy':=cell_keep HCY.out hbr
      go_wp2_with fail
      go_at_call 9
      refine (CG.out _).mono ?_
      rintro e w1 ⟨v,bb,rfl,hb1,(⟨rfl,hno,gz,rfl⟩|⟨rfl,hgood,ng,n,d,hq,hd,hquo,hn,hdl⟩)⟩
      case' inl=>
       obtain ⟨V,hV⟩:∃ V:List UInt8,V = [48]:=⟨_,rfl⟩
       have HVG:Hid (FracGood V):=Lib.hid (by rw[hV];exact fg_zero)
       have hVl:V.length≤20000:=by rw[hV];simp
       have HVE:Hid (V = [48]):=Lib.hid hV
       obtain ⟨wz,hwz⟩:∃ X,X=w1.alloc (.cells #[.bool false,.slice none 0 0,.slice (some ⟨gz,0,none⟩) 1 1] 35):=⟨_,rfl⟩
       have BZ:Below wr.heap.size wr wz:=by rw[hwz];exact below_seq hb1 ((Below.refl _ _).alloc (Nat.le_refl _) _)
       have HWZ:=Lib.hid hwz
       clear hwz hV hno hb1 CG
       go_upto_region 14 with fail
       rw[← HWZ.out]
      case' inr=>
       obtain ⟨A8,c8,A9,c9,rfl,hx8,hy8,_⟩:=hq.open_
       obtain ⟨m1,hm1⟩:∃ m1,m1=(tdg n).length:=⟨_,rfl⟩
       obtain ⟨m2,hm2⟩:∃ m2,m2=(tdg d).length:=⟨_,rfl⟩
       rw[← hm1,← hm2]at hq ⊢
       obtain ⟨w2,hw2⟩:∃ X,X=w1.alloc (.cells #[.bool ng,.slice A8 m1 c8,.slice A9 m2 c9] 35):=⟨_,rfl⟩
       have h12:Below w1.heap.size w1 w2:=by rw[hw2];exact (Below.refl _ _).alloc (Nat.le_refl _) _
       have CT0:=ref_Q_Text w2 _ ng n d (hq.keep h12) hd (by omega) (by omega)
       rw[hquo]at CT0
       obtain ⟨V,hV⟩:∃ V:List UInt8,V=fracText (fracOf y):=⟨_,rfl⟩
       rw[← hV]at CT0
       have hVy:V=y:=by rw[hV];exact hgood.2.2.2
       have HVG:Hid (FracGood V):=Lib.hid (by rw[hVy];exact hgood)
       have hVl:V.length≤20000:=by rw[hV,← hquo];exact text_len hd (by omega) (by omega)
       have CT:=Lib.hid CT0
       have HW2:=Lib.hid hw2
       have B2:Below wr.heap.size wr w2:=below_seq hb1 h12
       have hR2:Row w2 w1.heap.size 35 #[.bool ng,.slice A8 m1 c8,.slice A9 m2 c9]:=by rw[hw2];exact Row.new _ _ _
       clear CT0 hq hgood hquo hV hVy hm1 hm2 hw2 hx8 hy8 hb1 h12 CG
       go_wp2_with fail
       rw[← HW2.out]
       go_at_call 17
       refine CT.out.mono ?_
       rintro e wz ⟨rfl,hbz⟩
       have BZ:=below_seq B2 hbz
       clear CT hbz B2 hR2
       go_upto_region 14 with fail
      all_goals
       obtain ⟨i1,hi1,hz1,hsz1,hby1⟩:=info_coef
       have HA1:Hid (∀ W,Below wz.heap.size wz W→∃ v' w',(Builtin.append_ #[25,25] 25 #[.slice none 0 0,.slice (some ⟨g3,0,none⟩) k c3]).run Tryz.prog W=.ok v' w'∧OwnK coefKind w' wz.heap.size 46 2 v' (0+k) ([] ++ (cs.take k).flatMap encCoef)∧W.grownBy w' (Value.ownBlock (.slice none 0 0))∧(v'.ownBlock=Value.ownBlock (.slice none 0 0)∨v'.ownBlock=some W.heap.size)):=Lib.hid fun W hW=>by
        refine OwnK.appendAny (P:=Tryz.prog) Tryz.underlying25 hi1 hz1 hsz1 rfl (by omega) (OwnK.nil_ _ _ _ _ _) _ k _ ((cs.take k).flatMap encCoef) (by simp only[flat_len,List.length_take,List.length_nil]<;>omega) (fun j u hj=>?_) (fun u hu=>(flat_kind _ u hu).2) (fun u hu=>(flat_kind _ u hu).1) (by simp[coefKind,Value.cells]) (by unfold maxLen;omega) (by rw[hby1];omega) hW.size
        exact src_take HFL.out (below_seq BZ hW) hj
       have HA3:Hid (∀ W v2,Below wz.heap.size wz W→OwnK coefKind W wz.heap.size 46 2 v2 (0+k+1) ([] ++ (cs.take k).flatMap encCoef ++ encCoef (c,V))→∃ v' w',(Builtin.append_ #[25,25] 25 #[v2,.slice a2 (cs.length - k) (c3 - k)]).run Tryz.prog W=.ok v' w'∧OwnK coefKind w' wz.heap.size 46 2 v' (0+k+1+(cs.length - k)) ([] ++ (cs.take k).flatMap encCoef ++ encCoef (c,V) ++ (cs.drop k).flatMap encCoef)∧W.grownBy w' v2.ownBlock∧(v'.ownBlock=v2.ownBlock∨v'.ownBlock=some W.heap.size)):=Lib.hid fun W v2 hW ho=>by
        refine OwnK.appendAny (P:=Tryz.prog) Tryz.underlying25 hi1 hz1 hsz1 rfl (by omega) ho _ (cs.length - k) _ ((cs.drop k).flatMap encCoef) (by simp only[flat_len,List.length_drop,List.length_nil]<;>omega) (fun j u hj=>?_) (fun u hu=>(flat_kind _ u hu).2) (fun u hu=>(flat_kind _ u hu).1) (by simp[coefKind,Value.cells]) (by unfold maxLen;omega) (by rw[hby1];omega) hW.size
        exact src_drop HFL.out (below_seq BZ hW) ha2 hc4 hj
       refine wp_region_any (by kernel_rfl) ?_
       change wpAny _ _ _ _ _ _ _ (World.drew _)
       obtain ⟨W0,hW0⟩:∃ X,X=(wz).drew:=⟨_,rfl⟩
       rw[← hW0]
       have z0:Below (wz).heap.size (wz) W0:=by rw[hW0];exact Below.drewN_ (Below.refl _ _) 1
       clear hW0
       refine wpAny_take (i:=0) (oi:=vcoef14_0) (v:=.slice (some ⟨g3,0,none⟩) cs.length c3) rfl (by kernel_rfl) (by kernel_rfl) (by kernel_rfl) (fun _ _ _ h=>h) (Or.inl ⟨by kernel_rfl,?_⟩) ?_
       ·intro w;go_simp<;>first|omega|(intro hh;exfalso;omega)|rfl|(rw[HVE.out])
       try simp only[Act.put,List.setIfInBounds_toArray,List.set_cons_zero,List.set_cons_succ,vcoef14_0]
       refine wpAny_take (i:=1) (oi:=vcoef14_1) (v:=.int .i64 k) rfl (by kernel_rfl) (by kernel_rfl) (by kernel_rfl) (fun _ _ _ h=>h) (Or.inl ⟨by kernel_rfl,?_⟩) ?_
       ·intro w;go_simp<;>first|omega|(intro hh;exfalso;omega)|rfl|(rw[HVE.out])
       try simp only[Act.put,List.setIfInBounds_toArray,List.set_cons_zero,List.set_cons_succ,vcoef14_1]
       refine wpAny_take (i:=2) (oi:=vcoef14_2) (v:=.slice (some ⟨g3,0,none⟩) k c3) rfl (by kernel_rfl) (by kernel_rfl) (by kernel_rfl) (fun _ _ _ h=>h) (Or.inl ⟨by kernel_rfl,?_⟩) ?_
       ·intro w;go_simp<;>first|omega|(intro hh;exfalso;omega)|rfl|(rw[HVE.out])
       try simp only[Act.put,List.setIfInBounds_toArray,List.set_cons_zero,List.set_cons_succ,vcoef14_2]
       refine wpAny_take (i:=4) (oi:=vcoef14_4) (v:=.int .i64 c) rfl (by kernel_rfl) (by kernel_rfl) (by kernel_rfl) (fun _ _ _ h=>h) (Or.inl ⟨by kernel_rfl,?_⟩) ?_
       ·intro w;go_simp<;>first|omega|(intro hh;exfalso;omega)|rfl|(rw[HVE.out])
       try simp only[Act.put,List.setIfInBounds_toArray,List.set_cons_zero,List.set_cons_succ,vcoef14_4]
       refine wpAny_take (i:=5) (oi:=vcoef14_5) (v:=.string ⟨V.toArray⟩) rfl (by kernel_rfl) (by kernel_rfl) (by kernel_rfl) (fun _ _ _ h=>h) (Or.inl ⟨by kernel_rfl,?_⟩) ?_
       ·intro w;go_simp<;>first|omega|(intro hh;exfalso;omega)|rfl|(rw[HVE.out])
       try simp only[Act.put,List.setIfInBounds_toArray,List.set_cons_zero,List.set_cons_succ,vcoef14_5]
       refine wpAny_take (i:=6) (oi:=vcoef14_6) (v:=.agg #[.int .i64 c,.string ⟨V.toArray⟩]) rfl (by kernel_rfl) (by kernel_rfl) (by kernel_rfl) (fun _ _ _ h=>h) (Or.inl ⟨by kernel_rfl,?_⟩) ?_
       ·intro w;go_simp<;>first|omega|(intro hh;exfalso;omega)|rfl|(rw[HVE.out])
       try simp only[Act.put,List.setIfInBounds_toArray,List.set_cons_zero,List.set_cons_succ,vcoef14_6]
       refine wpAny_take (i:=9) (oi:=vcoef14_9) (v:=.slice (some ⟨g3,0,none⟩) cs.length c3) rfl (by kernel_rfl) (by kernel_rfl) (by kernel_rfl) (fun _ _ _ h=>h) (Or.inl ⟨by kernel_rfl,?_⟩) ?_
       ·intro w;go_simp<;>first|omega|(intro hh;exfalso;omega)|rfl|(rw[HVE.out])
       try simp only[Act.put,List.setIfInBounds_toArray,List.set_cons_zero,List.set_cons_succ,vcoef14_9]
       refine wpAny_take (i:=10) (oi:=vcoef14_10) (v:=.int .i64 k) rfl (by kernel_rfl) (by kernel_rfl) (by kernel_rfl) (fun _ _ _ h=>h) (Or.inl ⟨by kernel_rfl,?_⟩) ?_
       ·intro w;go_simp<;>first|omega|(intro hh;exfalso;omega)|rfl|(rw[HVE.out])
       try simp only[Act.put,List.setIfInBounds_toArray,List.set_cons_zero,List.set_cons_succ,vcoef14_10]
       refine wpAny_take (i:=11) (oi:=vcoef14_11) (v:=.slice a2 (cs.length - k) (c3 - k)) rfl (by kernel_rfl) (by kernel_rfl) (by kernel_rfl) (fun _ _ _ h=>h) (Or.inl ⟨by kernel_rfl,?_⟩) ?_
       ·intro w;go_simp<;>first|omega|(intro hh;exfalso;omega)|rfl|(rw[HVE.out])
       try simp only[Act.put,List.setIfInBounds_toArray,List.set_cons_zero,List.set_cons_succ,vcoef14_11]
       refine wpAny_ready (rs:=[3,7]) (by kernel_rfl) (by simp) ?_
       apply AllReady.cons (o:=vcoef14_3) (by kernel_rfl)
       case h=>
        intro K hK
        obtain ⟨v1,x1,run1,own1,gr1,lc1⟩:=HA1.out _ z0
        refine step_append_run rfl (.const (.slice none 0 0)) (.tmp 76) 25 rfl _ _ rfl rfl run1 ?_
        have z1:=Below.grown z0 gr1 z0.size (fun j hj=>by cases hj)
        have y1:Below W0.heap.size W0 x1:=Below.grown (Below.refl _ _) gr1 (Nat.le_refl _) (fun j hj=>by cases hj)
        have OW1:=Lib.hid own1
        clear run1 gr1 lc1 own1 y1
        refine hK _ _ ?_
        clear hK K
        try simp only[Act.put,List.setIfInBounds_toArray,List.set_cons_zero,List.set_cons_succ]
        refine wpAny_ready (rs:=[7]) (by kernel_rfl) (by simp) ?_
        apply AllReady.cons (o:=vcoef14_7) (by kernel_rfl)
        case hs=>exact AllReady.nil
        intro K hK
        simp only[vcoef14_7]
        go_simp
        first
         | skip
        obtain ⟨W2,hW2⟩:∃ X,X=x1.alloc (.cells #[.int .i64 c,.string ⟨V.toArray⟩] 46):=⟨_,rfl⟩
        rw[← hW2]
        have y2:Below x1.heap.size x1 W2:=by rw[hW2];exact (Below.refl _ _).alloc (Nat.le_refl _) _
        have z2:=below_seq z1 y2
        have NN2:=Lib.hid (show Row W2 x1.heap.size 46 #[.int .i64 c,.string ⟨V.toArray⟩] by rw[hW2];exact Row.new _ _ _)
        have OW2:=Lib.hid (OW1.out.keep y2)
        clear hW2 y2
        refine hK _ _ ?_
        clear hK K
        try simp only[Act.put,List.setIfInBounds_toArray,List.set_cons_zero,List.set_cons_succ]
        refine wpAny_ready (rs:=[8]) (by kernel_rfl) (by simp) ?_
        apply AllReady.cons (o:=vcoef14_8) (by kernel_rfl)
        case hs=>exact AllReady.nil
        intro K hK
        obtain ⟨v2,x2,run2,own2,gr2,lc2⟩:=OwnK.append (P:=Tryz.prog) (ty:=25) Tryz.underlying25 hi1 hz1 hsz1 rfl (by omega) OW2.out ⟨x1.heap.size,0,none⟩ 1 1 (encCoef (c,V)) rfl (one_row NN2.out) (by simp[Value.oneCell',encCoef]) (encCoef_kind _) (by simp[coefKind,Value.cells]) (by omega) (by unfold maxLen;omega) (by rw[hby1];omega) z2.size
        refine step_append_run rfl (.tmp 77) (.tmp 81) 25 rfl _ _ rfl rfl run2 ?_
        have z3:=Below.grown z2 gr2 z2.size (fun j hj=>(OW2.out.lt hj).1)
        have OW3:=Lib.hid own2
        clear run2 gr2 lc2 own2
        refine hK _ _ ?_
        clear hK K
        try simp only[Act.put,List.setIfInBounds_toArray,List.set_cons_zero,List.set_cons_succ]
        refine wpAny_ready (rs:=[12]) (by kernel_rfl) (by simp) ?_
        apply AllReady.cons (o:=vcoef14_12) (by kernel_rfl)
        case hs=>exact AllReady.nil
        intro K hK
        obtain ⟨v3,x3,run3,own3,gr3,lc3⟩:=HA3.out _ _ z3 OW3.out
        refine step_append_run rfl (.tmp 82) (.tmp 85) 25 rfl _ _ rfl rfl run3 ?_
        have z4:=Below.grown z3 gr3 z3.size (fun j hj=>(OW3.out.lt hj).1)
        have OW4:=Lib.hid own3
        clear run3 gr3 lc3 own3
        refine hK _ _ ?_
        clear hK K
        try simp only[Act.put,List.setIfInBounds_toArray,List.set_cons_zero,List.set_cons_succ]
        refine wpAny_take (i:=13) (oi:=vcoef14_13) (v:=v3) rfl (by kernel_rfl) (by kernel_rfl) (by kernel_rfl) (fun _ _ _ h=>h) (Or.inl ⟨by kernel_rfl,?_⟩) ?_
        ·intro w;go_simp<;>first|omega|(intro hh;exfalso;omega)|rfl|(rw[HVE.out])
        try simp only[Act.put,List.setIfInBounds_toArray,List.set_cons_zero,List.set_cons_succ,vcoef14_13]
        refine wpAny_done (by kernel_rfl) ?_ _
        have BB:=hbr.trans (below_seq (below_seq BZ (Below.refl _ _)) z4 |>.mono hbr.size)
        have HOWN:Hid (OwnCoefs x3 w.heap.size 46 v3 (cs.take k ++ ((c:Int),V) :: cs.drop k)):=Lib.hid (own_insert (OW4.out.base_le (Nat.le_trans hbr.size BZ.size)) (by simp<;>omega))
        have HOK2:=Lib.hid (CoefsOk.insert hok.out (k:=k) (c:=(c:Int)) (v:=V) hlow.out HUP.out ⟨by omega,by omega⟩ HVG.out)
        have HTX:=Lib.hid (CoefsOk.texts (k:=k) (c:=(c:Int)) hlen.out hVl)
        have HBB:=Lib.hid BB
        go_wp2_with fail
        exact ⟨⟨i+1,_,by go_num,by omega,HOK2,by simp<;>omega,HTX,HOWN,HBB.out⟩,by simp[intOf];omega⟩
       apply AllReady.cons (o:=vcoef14_7) (by kernel_rfl)
       case h=>
        intro K hK
        simp only[vcoef14_7]
        go_simp
        first
         | skip
        obtain ⟨W5,hW5⟩:∃ X,X=W0.alloc (.cells #[.int .i64 c,.string ⟨V.toArray⟩] 46):=⟨_,rfl⟩
        rw[← hW5]
        have y5:Below W0.heap.size W0 W5:=by rw[hW5];exact (Below.refl _ _).alloc (Nat.le_refl _) _
        have z5:=below_seq z0 y5
        have NN5:=Lib.hid (show Row W5 W0.heap.size 46 #[.int .i64 c,.string ⟨V.toArray⟩] by rw[hW5];exact Row.new _ _ _)
        clear hW5 y5
        refine hK _ _ ?_
        clear hK K
        try simp only[Act.put,List.setIfInBounds_toArray,List.set_cons_zero,List.set_cons_succ]
        refine wpAny_ready (rs:=[3]) (by kernel_rfl) (by simp) ?_
        apply AllReady.cons (o:=vcoef14_3) (by kernel_rfl)
        case hs=>exact AllReady.nil
        intro K hK
        obtain ⟨v1,x1,run1,own1,gr1,lc1⟩:=HA1.out _ z5
        refine step_append_run rfl (.const (.slice none 0 0)) (.tmp 76) 25 rfl _ _ rfl rfl run1 ?_
        have z6:=Below.grown z5 gr1 z5.size (fun j hj=>by cases hj)
        have y6:Below W5.heap.size W5 x1:=Below.grown (Below.refl _ _) gr1 (Nat.le_refl _) (fun j hj=>by cases hj)
        have OW6:=Lib.hid own1
        have NN6:=Lib.hid (NN5.out.keep y6)
        clear run1 gr1 lc1 own1 y6
        refine hK _ _ ?_
        clear hK K
        try simp only[Act.put,List.setIfInBounds_toArray,List.set_cons_zero,List.set_cons_succ]
        refine wpAny_ready (rs:=[8]) (by kernel_rfl) (by simp) ?_
        apply AllReady.cons (o:=vcoef14_8) (by kernel_rfl)
        case hs=>exact AllReady.nil
        intro K hK
        obtain ⟨v2,x2,run2,own2,gr2,lc2⟩:=OwnK.append (P:=Tryz.prog) (ty:=25) Tryz.underlying25 hi1 hz1 hsz1 rfl (by omega) OW6.out ⟨W0.heap.size,0,none⟩ 1 1 (encCoef (c,V)) rfl (one_row NN6.out) (by simp[Value.oneCell',encCoef]) (encCoef_kind _) (by simp[coefKind,Value.cells]) (by omega) (by unfold maxLen;omega) (by rw[hby1];omega) z6.size
        refine step_append_run rfl (.tmp 77) (.tmp 81) 25 rfl _ _ rfl rfl run2 ?_
        have z7:=Below.grown z6 gr2 z6.size (fun j hj=>(OW6.out.lt hj).1)
        have OW7:=Lib.hid own2
        clear run2 gr2 lc2 own2
        refine hK _ _ ?_
        clear hK K
        try simp only[Act.put,List.setIfInBounds_toArray,List.set_cons_zero,List.set_cons_succ]
        refine wpAny_ready (rs:=[12]) (by kernel_rfl) (by simp) ?_
        apply AllReady.cons (o:=vcoef14_12) (by kernel_rfl)
        case hs=>exact AllReady.nil
        intro K hK
        obtain ⟨v3,x3,run3,own3,gr3,lc3⟩:=HA3.out _ _ z7 OW7.out
        refine step_append_run rfl (.tmp 82) (.tmp 85) 25 rfl _ _ rfl rfl run3 ?_
        have z8:=Below.grown z7 gr3 z7.size (fun j hj=>(OW7.out.lt hj).1)
        have OW8:=Lib.hid own3
        clear run3 gr3 lc3 own3
        refine hK _ _ ?_
        clear hK K
        try simp only[Act.put,List.setIfInBounds_toArray,List.set_cons_zero,List.set_cons_succ]
        refine wpAny_take (i:=13) (oi:=vcoef14_13) (v:=v3) rfl (by kernel_rfl) (by kernel_rfl) (by kernel_rfl) (fun _ _ _ h=>h) (Or.inl ⟨by kernel_rfl,?_⟩) ?_
        ·intro w;go_simp<;>first|omega|(intro hh;exfalso;omega)|rfl|(rw[HVE.out])
        try simp only[Act.put,List.setIfInBounds_toArray,List.set_cons_zero,List.set_cons_succ,vcoef14_13]
        refine wpAny_done (by kernel_rfl) ?_ _
        have BB:=hbr.trans (below_seq (below_seq BZ (Below.refl _ _)) z8 |>.mono hbr.size)
        have HOWN:Hid (OwnCoefs x3 w.heap.size 46 v3 (cs.take k ++ ((c:Int),V) :: cs.drop k)):=Lib.hid (own_insert (OW8.out.base_le (Nat.le_trans hbr.size BZ.size)) (by simp<;>omega))
        have HOK2:=Lib.hid (CoefsOk.insert hok.out (k:=k) (c:=(c:Int)) (v:=V) hlow.out HUP.out ⟨by omega,by omega⟩ HVG.out)
        have HTX:=Lib.hid (CoefsOk.texts (k:=k) (c:=(c:Int)) hlen.out hVl)
        have HBB:=Lib.hid BB
        go_wp2_with fail
        exact ⟨⟨i+1,_,by go_num,by omega,HOK2,by simp<;>omega,HTX,HOWN,HBB.out⟩,by simp[intOf];omega⟩
       exact AllReady.nil
end Go.Proofs.YtehbhghbagaliaaGreatDoor
