/- CoreMark returns true at all numbers. -/
import Derived.Test.YtjipjfoambbofaaGreatDoorKao
import Derived.Test.YtjipjfoambbofaaGreatDoorKbe
import Derived.Test.YtjipjfoambbofaaGreatDoorKbf
import Derived.Test.YtjipjfoambbofaaGreatDoorKav
import Derived.Deep.LoopGhost
import Derived.Deep.QuietTactic
import Derived.BigQuiet
set_option linter.unusedVariables false
set_option linter.unusedSimpArgs false
namespace Vic
open Go Go.RowKit
def m4 (x:Int):Nat:=((x.tmod 4+4).tmod 4).toNat
theorem m4_is (x:Int):m4 x<4∧(wrap64 (x.tmod 4+4)).tmod 4=(m4 x:Int):=by
 have h1:=Int.tmod_lt_of_pos x (by decide:(0:Int)<4)
 have h2:=Int.lt_tmod_of_pos x (by decide:(0:Int)<4)
 unfold m4
 generalize x.tmod 4=a at *
 have e1:wrap64 (a+4)=a+4:=by unfold wrap64;omega
 rw[e1]
 have h3:=Int.tmod_lt_of_pos (a+4) (by decide:(0:Int)<4)
 have h4:=Int.tmod_nonneg (a:=a+4) 4 (by omega)
 generalize (a+4).tmod 4=b at *
 obtain ⟨B,rfl⟩:=Int.eq_ofNat_of_zero_le h4
 exact ⟨by omega,by omega⟩
def mkA (ks:List Nat):Txt:=textOf (mark0 ++ mkLines 0 ks)
theorem mkA_nil:mkA [] = [78,65,77,69,32,65,10,82,79,87,83,10,32,78,32,111,10,32,76,32,114,10,67,79,76,85,77,78,83,10]:=by rfl
theorem mkA_snoc (ks:List Nat) (k:Nat):mkA (ks ++ [k])=mkA ks ++ (mkLine ks.length k ++ [10]):=by
 unfold mkA
 rw[mkLines_snoc,← List.append_assoc,textOf_app _ [_],textOf_one,Nat.zero_add]
theorem mkA_end (ks:List Nat):markText ks=mkA ks ++ [82,72,83,10,69,78,68,65,84,65,10]:=by
 unfold markText mkA
 rw[← List.append_assoc,textOf_app _ markTail];rfl
theorem mkLine_len (i k:Nat):(mkLine i k).length≤20:=by
 unfold mkLine
 have:=dec2_len i
 split
 ·decide
 ·split
  ·decide
  ·simp[mcolL,xN];omega
theorem mkA_len:∀ (ks:List Nat),(mkA ks).length≤30+21*ks.length:=by
 intro ks
 have h:∀ (l:List Nat) (i:Nat),(textOf (mkLines i l)).length≤21*l.length:=by
  intro l
  induction l with
  | nil=>intro i;exact Nat.zero_le _
  | cons a l ih=>
    intro i
    have h1:=ih (i+1)
    have h2:=mkLine_len i a
    rw[mkLines,show textOf (mkLine i a :: mkLines (i+1) l)=(mkLine i a ++ [10]) ++ textOf (mkLines (i+1) l)from rfl,List.length_append,List.length_append]
    simp only[List.length_cons,List.length_nil]
    omega
 unfold mkA
 rw[textOf_app,List.length_append]
 have:=h ks 0
 have e:(textOf mark0).length=30:=by decide
 omega
def mkT (xs:List Int) (k:Nat):List Nat:=(xs.take k).map m4
theorem mkT_succ {xs:List Int}{k:Nat}{x:Int}(h:xs[k]?=some x):mkT xs (k+1)=mkT xs k ++ [m4 x]:=by
 unfold mkT
 rw[List.take_add_one,h]
 simp
theorem mkT_len {xs:List Int}{k:Nat}(h:k≤xs.length):(mkT xs k).length=k:=by
 unfold mkT
 rw[List.length_map,List.length_take,Nat.min_eq_left h]
def mk0:MkS:=⟨false,false,0,[]⟩
def mkF (xs:List Int) (k:Nat):MkS:=mkFold 0 mk0 (mkT xs k)
theorem mkF_succ {xs:List Int}{k:Nat}{x:Int}(h:xs[k]?=some x) (hk:k≤xs.length):mkF xs (k+1)=mkStep k (mkF xs k) (m4 x):=by
 unfold mkF
 rw[mkT_succ h,mkFold_snoc,mkT_len hk,Nat.zero_add]
theorem mkF_at:∀ (l:List Nat) (i:Nat) (s:MkS),i+l.length≤12→s.at_≤100→(mkFold i s l).at_≤100
 | [],i,s,_,h=>h
 | k :: l,i,s,hi,h=>by
   rw[List.length_cons]at hi
   rw[mkFold]
   refine mkF_at l (i+1) _ (by omega) ?_
   unfold mkStep
   split
   ·dsimp only;split<;>omega
   ·split
    ·dsimp only;split<;>omega
    ·exact h
theorem mkF_want:∀ (l:List Nat) (i:Nat) (s:MkS),(mkFold i s l).want.length≤s.want.length+l.length
 | [],i,s=>Nat.le_refl _
 | k :: l,i,s=>by
   rw[mkFold]
   have h:=mkF_want l (i+1) (mkStep i s k)
   have h2:(mkStep i s k).want.length≤s.want.length+1:=by
    unfold mkStep
    split
    ·exact Nat.le_succ _
    ·split
     ·exact Nat.le_succ _
     ·simp
   rw[List.length_cons];omega
end Vic
namespace Go.Proofs.YtjipjfoambbofaaGreatDoor
open Go.RowKit Vic
theorem info_bo0:(Tryz.prog.info? 4).map (fun i=>(i.zero,i.size,i.bytes))=some (some (.bool false),1,1):=by kernel_rfl
theorem info_bo:∃ i:TypeInfo,Tryz.prog.info? 4=some i∧i.zero=some (.bool false)∧i.size=1∧i.bytes=1:=by
 have h:=info_bo0
 cases hi:Tryz.prog.info? 4 with
 | none=>rw[hi]at h;simp at h
 | some i=>rw[hi]at h;simp at h;exact ⟨i,rfl,h.1,h.2.1,h.2.2⟩
set_option maxRecDepth 100000 in
set_option maxHeartbeats 8000000 in
theorem law7_CoreMark (w:World) (hT:T7 w) (hE:TabE w) (v:Value) (xs:List Int) (hv:IntsArg w v xs) (hxl:xs.length≤9223372036854775807) (hxb:∀ x∈xs,-9223372036854775808≤x∧x≤9223372036854775807) :
 Calls Tryz.prog 3 #[v] w (Keeps (.bool true) w):=by
 have CB:=Lib.hid (begun7 hT)
 have HE:=Lib.hid hE
 obtain ⟨A,cp,rfl,hcell⟩:=hv
 have HC:=Lib.hid hcell
 have HXB:=Lib.hid hxb
 clear hT hE hcell hxb
 obtain ⟨n,hn⟩:∃ n,n=min xs.length 12:=⟨_,rfl⟩
 have hn1:n≤xs.length:=by omega
 have hn2:n≤12:=by omega
 have HN:Hid (xs.length=n∨n=12):=Lib.hid (by omega)
 clear hn
 go_enter Tryz.func3,Tryz.ntmps3
 go_wp2_with fail
 refine CB.out.mono ?_
 rintro e w1 ⟨rfl,hb1⟩
 have HB1:=Lib.hid hb1
 clear hb1 CB
 go_wp2_with fail
 go_loopg [10,4,5,6,7,8,9] n (fun g t s wv inn bad at_ ln wr=>∃ (k:Nat) (F:MkS),t=.int .i64 k∧k+g=n∧Hid (F=mkF xs k)∧s=.string ⟨(mkA (mkT xs k)).toArray⟩∧Hid (Own wr w1.heap.size 4 1 wv F.want.length (F.want.map .bool))∧inn=.bool F.inn∧bad=.bool F.bad∧at_=.int .i64 (F.at_:Nat)∧ln=.int .i64 (5+(k:Int))∧Hid (Below w1.heap.size w1 wr))
 case atStart=>exact ⟨0,mk0,rfl,by omega,Lib.hid rfl,by rw[show mkT xs 0 = []from rfl,mkA_nil],Lib.hid (OwnK.nil_ _ _ _ _ _),rfl,rfl,rfl,rfl,Lib.hid (Below.refl _ _)⟩
 case round=>
  obtain ⟨k,F,rfl,hk,HF,rfl,HO,rfl,rfl,rfl,rfl,HBR⟩:=hrel
  by_cases hlt:k<n
  ·obtain ⟨x,hx⟩:∃ x,xs[k]?=some x:=⟨xs[k]'(by omega),List.getElem?_eq_getElem (by omega)⟩
   obtain ⟨g,o,rfl,hc⟩:=HC.out k x hx
   have hcr:=cell_keep hc (below_seq HB1.out HBR.out)
   have hxl1:(k:Int)<(xs.length:Int):=by omega
   have hk12:(k:Int)<12:=by omega
   obtain ⟨hq4,hm4⟩:=m4_is x
   have HF1:Hid (mkF xs (k+1)=mkStep k F (m4 x)):=Lib.hid (by rw[HF.out];exact mkF_succ hx (by omega))
   have HT1:Hid (mkA (mkT xs (k+1))=mkA (mkT xs k) ++ (mkLine k (m4 x) ++ [10])):=Lib.hid (by rw[mkT_succ hx,mkA_snoc,mkT_len (by omega)])
   have hln:=mkA_len (mkT xs k)
   rw[mkT_len (by omega)]at hln
   have HK:=Lib.hid hk
   have hwl:F.want.length≤12:=by
    have h1:=mkF_want (mkT xs k) 0 mk0
    rw[mkT_len (by omega)]at h1
    have h2:(mkF xs k).want.length≤(mk0).want.length+k:=h1
    rw[HF.out]
    have h3:mk0.want.length=0:=rfl
    omega
   obtain ⟨q,hq⟩:∃ q,q=m4 x:=⟨_,rfl⟩
   rw[← hq]at hq4 hm4 HF1 HT1
   clear hc hx hq hk HF
   go_upto_block 2 with fail
   try rw[hm4]
   clear hm4 hcr
   obtain ⟨inn,bad,at_,want⟩:=F
   dsimp only at HO hwl ⊢
   by_cases hq01:q=0∨q=1
   ·clear hwl hq4
    rcases hq01 with rfl|rfl
    ·have hcat:(⟨(mkA (mkT xs k)).toArray⟩:ByteArray) ++ ⟨#[32,77,32,39,77,65,82,75,69,82,39,32,39,73,78,84,79,82,71,39,10]⟩=⟨(mkA (mkT xs (k+1))).toArray⟩:=by
      apply ByteArray.ext;rw[HT1.out];simp[mkLine,inL]
     cases inn<;>cases bad
     all_goals
      go_wp2_with fail
      go_roundg (gk - 1)
      case measure=>have:=HK.out;omega
      case rel=>exact ⟨k+1,mkF xs (k+1),by go_num,by have:=HK.out;omega,Lib.hid rfl,by first|rfl|rw[hcat],by rw[HF1.out];exact HO,by rw[HF1.out];rfl,by rw[HF1.out];rfl,by rw[HF1.out];first|rfl|(simp[mkStep];try omega),by go_num,HBR⟩
    ·have hcat:(⟨(mkA (mkT xs k)).toArray⟩:ByteArray) ++ ⟨#[32,77,32,39,77,65,82,75,69,82,39,32,39,73,78,84,69,78,68,39,10]⟩=⟨(mkA (mkT xs (k+1))).toArray⟩:=by
      apply ByteArray.ext;rw[HT1.out];simp[mkLine,outL]
     cases inn<;>cases bad
     all_goals
      go_wp2_with fail
      go_roundg (gk - 1)
      case measure=>have:=HK.out;omega
      case rel=>exact ⟨k+1,mkF xs (k+1),by go_num,by have:=HK.out;omega,Lib.hid rfl,by first|rfl|rw[hcat],by rw[HF1.out];exact HO,by rw[HF1.out];rfl,by rw[HF1.out];rfl,by rw[HF1.out];first|rfl|(simp[mkStep];try omega),by go_num,HBR⟩
   ·obtain ⟨q0,q1⟩:((q:Int) == 0)=false∧((q:Int) == 1)=false:=⟨beq_eq_false_iff_ne.2 (by omega),beq_eq_false_iff_ne.2 (by omega)⟩
    have hqn:mkLine k q=mcolL k:=by unfold mkLine;rw[if_neg (by omega),if_neg (by omega)]
    have hst:mkStep k ⟨inn,bad,at_,want⟩ q=⟨inn,bad,at_,want ++ [inn]⟩:=by unfold mkStep;rw[if_neg (by omega),if_neg (by omega)]
    rw[hst]at HF1
    rw[hqn]at HT1
    have CN:=Lib.hid (law7_num wr (k:Int) (by omega) (by omega))
    have hcat:(⟨(mkA (mkT xs k)).toArray⟩:ByteArray) ++ ((⟨#[32,120]⟩ ++ ⟨(intT (k:Int)).toArray⟩) ++ ⟨#[32,114,32,49,10]⟩)=⟨(mkA (mkT xs (k+1))).toArray⟩:=by
     apply ByteArray.ext;rw[HT1.out,show intT (k:Int)=dec2 k by unfold intT;rw[if_neg (by omega),Int.natAbs_natCast,List.nil_append]];simp[mcolL,xN]
    have l2:=intT_len (k:Int)
    obtain ⟨i9,hi9,hz9,hsz9,hby9⟩:=info_bo
    clear hq01 hq4 hst hqn
    go_wp2_with fail
    refine CN.out.mono ?_
    rintro e w2 ⟨rfl,hb2⟩
    have HB2:=Lib.hid (HBR.out.trans (hb2.mono HBR.out.size))
    have hal:Below w2.heap.size w2 (w2.alloc (.cells #[.bool inn] 4)):=(Below.refl _ _).alloc (Nat.le_refl _) _
    have ho5:=Lib.hid ((HO.out.keep hb2).keep hal)
    have hnew:Hid (∀ (j:Nat) v,[Value.bool inn][j]?=some v→(w2.alloc (.cells #[.bool inn] 4)).cell? ((⟨w2.heap.size,0,none⟩:Addr).add j)=some v):=Lib.hid fun j v hj=>by
     rcases j with _|j
     ·cases hj
      exact (Row.new w2 4 #[.bool inn]).cell 0
     ·simp at hj
    have hk1:w1.heap.size≤(w2.alloc (.cells #[.bool inn] 4)).heap.size:=Nat.le_trans HB2.out.size hal.size
    have HAL:=Lib.hid hal
    clear hb2 hal
    go_wp2_with (at_builtin;refine wpList_append_ownK (Kd:=fun _=>True) rfl (.tmp 43) (.tmp 45) 24 rfl w1.heap.size 4 i9 _ 1 Tryz.underlying24 hi9 hz9 hsz9 rfl (by omega) _ want.length _ rfl ho5.out ⟨w2.heap.size,0,none⟩ 1 1 [Value.bool inn] rfl (by simp) hnew.out (by simp[Value.oneCell']) (by simp) (by simp) (by omega) (by unfold maxLen;omega) (by rw[hby9];omega) hk1 ?_;intro v6 w6 hown6 hgr6 hloc6;refine Hid.out ?_)
    have hb6:=Lib.hid ((HB2.out.trans (HAL.out.mono HB2.out.size)).grown hgr6 hk1 fun j hj=>(ho5.out.lt hj).1)
    have hO6:Hid (Own w6 w1.heap.size 4 1 v6 (want ++ [inn]).length ((want ++ [inn]).map Value.bool)):=Lib.hid (by simpa using hown6)
    refine Lib.hid ?_
    clear hown6 hgr6 hloc6 hnew hk1 ho5
    go_wp2_with fail
    go_roundg (gk - 1)
    case measure=>have:=HK.out;omega
    case rel=>exact ⟨k+1,mkF xs (k+1),by go_num,by have:=HK.out;omega,Lib.hid rfl,by first|rfl|rw[hcat],by rw[HF1.out];exact hO6,by rw[HF1.out],by rw[HF1.out],by rw[HF1.out],by go_num,hb6⟩
  ·obtain rfl:k=n:=by omega
   have hkl:(mkT xs k).length=k:=mkT_len (by omega)
   have hMK:=mark_is (ks:=mkT xs k) (by omega)
   have HF2:Hid (F=mkFold 0 ⟨false,false,0,[]⟩ (mkT xs k)):=Lib.hid HF.out
   rw[← HF2.out]at hMK
   have hcat:(⟨(mkA (mkT xs k)).toArray⟩:ByteArray) ++ ⟨#[82,72,83,10,69,78,68,65,84,65,10]⟩=⟨(markText (mkT xs k)).toArray⟩:=by
    apply ByteArray.ext;rw[mkA_end];simp
   have hln:=mkA_len (mkT xs k)
   rw[hkl]at hln
   have hB:=below_seq HB1.out HBR.out
   have hlen:(markText (mkT xs k)).length≤4294967280:=by
    rw[mkA_end,List.length_append]
    have:([82,72,83,10,69,78,68,65,84,65,10]:Txt).length=11:=rfl
    omega
   have cg:=core_Get wr (markText (mkT xs k)) (HE.out.keep hB).tab (HE.out.keep hB) hlen
   unfold CoreGot at cg
   obtain ⟨R,hR⟩:∃ R,R=coreGet (markText (mkT xs k)):=⟨_,rfl⟩
   rw[← hR]at cg hMK
   have hwl:F.want.length≤12:=by
    have h1:=mkF_want (mkT xs k) 0 mk0
    rw[hkl]at h1
    have h2:(mkF xs k).want.length≤(mk0).want.length+k:=h1
    rw[HF.out]
    have h3:mk0.want.length=0:=rfl
    omega
   have hal:=mkF_at (mkT xs k) 0 mk0 (by omega) (by decide)
   rw[show mkFold 0 mk0 (mkT xs k)=F from HF2.out.symm]at hal
   have CG:=Lib.hid cg
   have HBQ:=Lib.hid hB
   have HMK:=Lib.hid hMK
   clear hR cg hlen hk hlt hkl hMK hB HF HF2
   have hcond:((k:Int)<(xs.length:Int)∧¬ (k:Int)<12)∨¬ (k:Int)<(xs.length:Int):=by
    rcases HN.out with h|h<;>omega
   obtain ⟨inn,bad,at_,want⟩:=F
   dsimp only at HO hwl hal HMK ⊢
   rcases hcond with ⟨c1,c2⟩|c1
   all_goals
    go_wp2_with fail
    try rw[hcat]
    refine CG.out.mono ?_
    rintro e w3 ⟨v,rfl,⟨rv,cv,rfl,hrows,hcols⟩,hb3⟩
    have HB3:=Lib.hid (below_seq HBQ.out hb3)
    have HO3:=Lib.hid (HO.out.keep hb3)
    obtain ⟨rA,rc,rfl,_,_⟩:=hrows
    obtain ⟨cA,cc,rfl,hcc,hcol⟩:=hcols
    have HCO:=Lib.hid hcol
    clear hb3 hcol
    cases bad
    ·obtain ⟨c,hR,hw⟩:∃ c,R=(c,0,0)∧c.cols.map (·.int)=want:=by
      have:=HMK.out
      unfold MkRight at this
      rwa [if_neg (by simp)]at this
     subst hR
     dsimp only at hcc HCO ⊢
     obtain ⟨wA,wc,rfl,hwc,hwcell⟩:=HO3.out.sl
     have HWC:=Lib.hid hwcell
     have hm:c.cols.length=want.length:=by rw[← hw];simp
     rw[hm]at hcc
     have HW:=Lib.hid hw
     have HM:=Lib.hid hm
     clear hwcell hw hm
     rw[HM.out]
     obtain ⟨w4,hw4⟩:∃ X,X=w3.alloc (.cells #[.string ⟨c.name.toArray⟩,.string ⟨c.obj.toArray⟩,.slice rA c.rows.length rc,.slice cA want.length cc] 29):=⟨_,rfl⟩
     have hb4:Below w3.heap.size w3 w4:=by rw[hw4];exact (Below.refl _ _).alloc (Nat.le_refl _) _
     have hc4:w4.cell? ⟨w3.heap.size,3,none⟩=some (.slice cA want.length cc):=by rw[hw4];simp
     have HB4:=Lib.hid hb4
     have HC4:=Lib.hid hc4
     have hwn:w3.alloc (.cells #[.string ⟨c.name.toArray⟩,.string ⟨c.obj.toArray⟩,.slice rA c.rows.length rc,.slice cA want.length cc] 29)=w4:=hw4.symm
     clear hb4 hw4
     go_wp2_with fail
     try rw[hwn]
     clear hwn hc4
     go_loopg [95] want.length (fun g jv wx=>∃ j:Nat,jv=.int .i64 j∧j+g=want.length∧Below w4.heap.size w4 wx)
     case atStart=>exact ⟨0,rfl,by omega,Below.refl _ _⟩
     case round=>
      obtain ⟨j,rfl,hj,hbj⟩:=hrel
      by_cases hlt:j<want.length
      ·obtain ⟨y,hy⟩:∃ y,c.cols[j]?=some y:=⟨c.cols[j]'(by rw[HM.out];exact hlt),List.getElem?_eq_getElem (by rw[HM.out];exact hlt)⟩
       obtain ⟨g1,o1,rfl,_,_,_,_,hy4⟩:=HCO.out j y hy
       have hwj:want[j]?=some y.int:=by rw[← HW.out,List.getElem?_map,hy];rfl
       obtain ⟨g2,rfl,hw2⟩:=HWC.out j (.bool y.int) (by rw[List.getElem?_map,hwj];rfl)
       have k1:=cell_keep (cell_keep hy4 HB4.out) hbj
       have k2:=cell_keep (cell_keep hw2 HB4.out) hbj
       have k3:=cell_keep HC4.out hbj
       have hj1:(j:Int)<(want.length:Int):=by omega
       have HJ:=Lib.hid hj
       have HBJ:=Lib.hid hbj
       clear hy hy4 hwj hw2 hj hbj
       go_wp2_with fail
       go_quiet (fail)
       have hbz:Below w4.heap.size w4 (wr.drewN nq):=Below.drewN_ HBJ.out nq
       clear k1 k2 k3
       go_wp2_with fail
       go_roundg (gk - 1)
       case measure=>have:=HJ.out;omega
       case rel=>exact ⟨j+1,by go_num,by have:=HJ.out;omega,hbz⟩
      ·obtain rfl:j=want.length:=by omega
       have hB9:=Lib.hid (below_seq HB3.out (below_seq HB4.out hbj))
       clear hj hbj
       go_wp2_with fail
       go_ret
       exact ⟨rfl,hB9.out⟩
    ·have hR:R=(noCore,at_,5):=by
      have:=HMK.out
      unfold MkRight at this
      rwa [if_pos rfl]at this
     subst hR
     go_wp2_with fail
     go_ret
     refine ⟨?_,below_seq HB3.out ((Below.refl _ _).alloc (Nat.le_refl _) _)⟩
     first|rfl|(refine ret_bool ?_;simp)
end Go.Proofs.YtjipjfoambbofaaGreatDoor
