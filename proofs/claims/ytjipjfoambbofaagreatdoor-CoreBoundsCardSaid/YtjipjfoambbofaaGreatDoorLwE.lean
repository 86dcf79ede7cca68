/- CoreBounds returns true at all numbers. -/
import Derived.Test.YtjipjfoambbofaaGreatDoorKao
import Derived.Test.YtjipjfoambbofaaGreatDoorKbe
import Derived.Test.YtjipjfoambbofaaGreatDoorKbf
import Derived.Test.YtjipjfoambbofaaGreatDoorBndLaw
import Derived.Test.YtjipjfoambbofaaGreatDoorKav
import Derived.Deep.LoopGhost
import Derived.Deep.DeepCutAuto
import Derived.Deep.CutBlock
set_option linter.unusedVariables false
set_option linter.unusedSimpArgs false
namespace Vic
open Go Go.RowKit
def m9 (x:Int):Nat:=((x.tmod 9+9).tmod 9).toNat
theorem m9_is (x:Int):m9 x<9∧(wrap64 (x.tmod 9+9)).tmod 9=(m9 x:Int):=by
 have h1:=Int.tmod_lt_of_pos x (by decide:(0:Int)<9)
 have h2:=Int.lt_tmod_of_pos x (by decide:(0:Int)<9)
 unfold m9
 generalize x.tmod 9=a at *
 have e1:wrap64 (a+9)=a+9:=by unfold wrap64;omega
 rw[e1]
 have h3:=Int.tmod_lt_of_pos (a+9) (by decide:(0:Int)<9)
 have h4:=Int.tmod_nonneg (a:=a+9) 9 (by omega)
 generalize (a+9).tmod 9=b at *
 obtain ⟨B,rfl⟩:=Int.eq_ofNat_of_zero_le h4
 exact ⟨by omega,by omega⟩
theorem m100_is (x:Int) : -100<x.tmod 100∧x.tmod 100<100:=⟨Int.lt_tmod_of_pos x (by decide),Int.tmod_lt_of_pos x (by decide)⟩
def bndA (l:List (Nat × Int)):Txt:=textOf (bnd0 ++ bLines l)
theorem bndA_nil:bndA []=textOf (bnd0.take 14) ++ [66,79,85,78,68,83,10]:=by rfl
theorem bndA_snoc (l:List (Nat × Int)) (q:Nat) (z:Int):bndA (l ++ [(q,z)])=bndA l ++ (bLine q (intT z) ++ [10]):=by
 unfold bndA bLines
 rw[List.map_append,← List.append_assoc,textOf_app _ (List.map _ [_]),List.map_singleton,textOf_one]
theorem bndA_end (l:List (Nat × Int)):bndText l=bndA l ++ [69,78,68,65,84,65,10]:=by
 unfold bndText bndA
 rw[← List.append_assoc,textOf_app _ [endH]];rfl
def bPairs (xs ys:List Int) (k:Nat):List (Nat × Int):=(List.range k).map fun i=>(m9 (xs.getD i 0),(ys.getD i 0).tmod 100)
theorem bPairs_succ {xs ys:List Int}{k:Nat}{x y:Int}(hx:xs[k]?=some x) (hy:ys[k]?=some y):bPairs xs ys (k+1)=bPairs xs ys k ++ [(m9 x,y.tmod 100)]:=by
 unfold bPairs
 rw[List.range_succ,List.map_append,List.map_singleton]
 simp[List.getD,hx,hy]
theorem bPairs_len (xs ys:List Int) (k:Nat):(bPairs xs ys k).length=k:=by simp[bPairs]
theorem bPairs_ok (xs ys:List Int) (k:Nat):∀ x∈bPairs xs ys k,x.1<9∧-100<x.2∧x.2<100:=by
 intro x hx
 obtain ⟨i,_,rfl⟩:=List.mem_map.1 hx
 exact ⟨(m9_is _).1,m100_is _⟩
theorem bLine_len {q:Nat}(hq:q<9) (z:Int):(bLine q (intT z)).length≤20:=by
 have h:=intT_len z
 have h2:∀ q,q<9→(bName q).length≤2:=by decide
 have h3:=h2 q hq
 unfold bLine
 split<;>simp<;>omega
theorem bndA_len (xs ys:List Int):∀ k,(bndA (bPairs xs ys k)).length≤200+21*k
 | 0=>by
   have:(bndA (bPairs xs ys 0)).length=(bndA []).length:=rfl
   rw[this]
   have e:(bndA []).length≤200:=by decide +kernel
   omega
 | k+1=>by
   have h:=bndA_len xs ys k
   unfold bPairs at h ⊢
   rw[List.range_succ,List.map_append,List.map_singleton,bndA_snoc,List.length_append,List.length_append,List.length_singleton]
   have h2:=bLine_len (m9_is (xs.getD k 0)).1 ((ys.getD k 0).tmod 100)
   omega
def bs0:BS:=⟨[48],[],false⟩
theorem bFold_snoc (s:BS) (l:List (Nat × Int)) (q:Nat) (z:Int):bFold s (l ++ [(q,z)])=bStep (bFold s l) q (intT z):=by
 unfold bFold
 rw[List.foldl_append];rfl
end Vic
namespace Go.Proofs.YtjipjfoambbofaaGreatDoor
open Go.RowKit Vic
theorem law7_head_is (w:World):Calls Tryz.prog 9 #[] w (fun e w'=>e=.returned (.string ⟨(textOf (bnd0.take 14)).toArray⟩)∧w'=w):=by
 go_enter Tryz.func9,Tryz.ntmps9
 go_wp2_with fail
 go_ret
 exact ⟨by rfl,rfl⟩
set_option maxRecDepth 100000 in
set_option maxHeartbeats 8000000 in
theorem law7_CoreBounds (w:World) (hT:T7 w) (hE:TabE w) (v u:Value) (xs ys:List Int) (hv:IntsArg w v xs) (hu:IntsArg w u ys) (hxl:xs.length≤9223372036854775807) (hyl:ys.length≤9223372036854775807) (hxb:∀ x∈xs,-9223372036854775808≤x∧x≤9223372036854775807) (hyb:∀ x∈ys,-9223372036854775808≤x∧x≤9223372036854775807) :
 Calls Tryz.prog 4 #[v,u] w (Keeps (.bool true) w):=by
 have CB:=Lib.hid (begun7 hT)
 have HE:=Lib.hid hE
 obtain ⟨A,cp,rfl,hcell⟩:=hv
 obtain ⟨A',cp',rfl,hcell'⟩:=hu
 have HC:=Lib.hid hcell
 have HC':=Lib.hid hcell'
 clear hT hE hcell hcell' hxb hyb
 obtain ⟨n,hn⟩:∃ n,n=min (min xs.length 12) ys.length:=⟨_,rfl⟩
 have hn1:n≤xs.length:=by omega
 have hn2:n≤12:=by omega
 have hn3:n≤ys.length:=by omega
 have HN:Hid (xs.length=n∨(n<xs.length∧n=12)∨(n<xs.length∧n<12∧ys.length=n)):=Lib.hid (by omega)
 clear hn
 go_enter Tryz.func4,Tryz.ntmps4
 go_wp2_with fail
 refine CB.out.mono ?_
 rintro e w1 ⟨rfl,hb1⟩
 have HB1:=Lib.hid hb1
 have hcat0:(⟨(textOf (bnd0.take 14)).toArray⟩:ByteArray) ++ ⟨#[66,79,85,78,68,83,10]⟩=⟨(bndA (bPairs xs ys 0)).toArray⟩:=by
  apply ByteArray.ext;rw[show bndA (bPairs xs ys 0)=bndA []from rfl,bndA_nil];simp
 obtain ⟨T0,hT0⟩:∃ T,T=textOf (bnd0.take 14):=⟨_,rfl⟩
 have hT0l:T0.length≤300:=by rw[hT0];decide
 have CH:Hid (∀ W,Calls Tryz.prog 9 #[] W (fun e w'=>e=.returned (.string ⟨T0.toArray⟩)∧w'=W)):=Lib.hid fun W=>by rw[hT0];exact law7_head_is W
 rw[← hT0]at hcat0
 clear hb1 CB hT0
 go_wp2_with fail
 refine (CH.out _).mono ?_
 rintro e w' ⟨rfl,rfl⟩
 go_wp2_with fail
 try rw[hcat0]
 clear hcat0 hT0l CH
 go_loopg [10,6,7,8,9] n (fun g t s low up isI wr=>∃ (k:Nat) (F:BS),t=.int .i64 k∧k+g=n∧Hid (F=bFold bs0 (bPairs xs ys k))∧s=.string ⟨(bndA (bPairs xs ys k)).toArray⟩∧low=.string ⟨F.low.toArray⟩∧up=.string ⟨F.up.toArray⟩∧isI=.bool F.int∧Hid (Below w'.heap.size w' wr))
 case atStart=>exact ⟨0,bs0,rfl,by omega,Lib.hid rfl,rfl,rfl,rfl,rfl,Lib.hid (Below.refl _ _)⟩
 case round=>
  obtain ⟨k,F,rfl,hk,HF,rfl,rfl,rfl,rfl,HBR⟩:=hrel
  by_cases hlt:k<n
  ·obtain ⟨x,hx⟩:∃ x,xs[k]?=some x:=⟨xs[k]'(by omega),List.getElem?_eq_getElem (by omega)⟩
   obtain ⟨y,hy⟩:∃ y,ys[k]?=some y:=⟨ys[k]'(by omega),List.getElem?_eq_getElem (by omega)⟩
   obtain ⟨g,o,rfl,hc⟩:=HC.out k x hx
   obtain ⟨g',o',rfl,hc'⟩:=HC'.out k y hy
   have hcr:=cell_keep hc (below_seq HB1.out HBR.out)
   have hcr':=cell_keep hc' (below_seq HB1.out HBR.out)
   have hxl1:(k:Int)<(xs.length:Int):=by omega
   have hyl1:(k:Int)<(ys.length:Int):=by omega
   have hk12:(k:Int)<12:=by omega
   obtain ⟨hq9,hm9⟩:=m9_is x
   obtain ⟨hz1,hz2⟩:=m100_is y
   obtain ⟨z,hz⟩:∃ z,z=y.tmod 100:=⟨_,rfl⟩
   obtain ⟨q,hq⟩:∃ q,q=m9 x:=⟨_,rfl⟩
   have HF1:Hid (bFold bs0 (bPairs xs ys (k+1))=bStep F q (intT z)):=Lib.hid (by rw[bPairs_succ hx hy,bFold_snoc,HF.out,hq,hz])
   have HT1:Hid (bndA (bPairs xs ys (k+1))=bndA (bPairs xs ys k) ++ (bLine q (intT z) ++ [10])):=Lib.hid (by rw[bPairs_succ hx hy,bndA_snoc,hq,hz])
   have hln:=bndA_len xs ys k
   have HK:=Lib.hid hk
   rw[← hz]at hz1 hz2
   rw[← hq]at hq9 hm9
   have hzz:y.tmod 100=z:=hz.symm
   have CO:=Lib.hid (fun W=>ref_Of W z (by omega) (by omega))
   have CT:Hid (∀ W v,RefQ W v (decide (z<0)) z.natAbs 1→Calls Tryz.prog 11 #[v] W (Keeps (.string ⟨(intT z).toArray⟩) W)):=Lib.hid fun W v hv=>num_text W v z hz1 hz2 hv
   have hzl:=intT_len z
   clear hc hc' hx hy hq hz hk HF hz1 hz2
   go_wp2_with fail
   try rw[hzz]
   refine (CO.out _).mono ?_
   rintro e w2 ⟨rv,rfl,hrv,hb2⟩
   have CT2:=Lib.hid (CT.out w2 rv hrv)
   clear hrv CO CT hzz hcr'
   go_wp2_with fail
   refine CT2.out.mono ?_
   rintro e w3 ⟨rfl,hb3⟩
   have hcr3:=cell_keep (cell_keep hcr hb2) hb3
   have hB3:=HBR.out.trans ((hb2.mono HBR.out.size).trans (hb3.mono (Nat.le_trans HBR.out.size hb2.size)))
   have HB3:=Lib.hid (hB3.alloc (o:=(.cells #[.string ⟨#[85,80]⟩,.string ⟨#[76,79]⟩,.string ⟨#[70,88]⟩,.string ⟨#[70,82]⟩,.string ⟨#[77,73]⟩,.string ⟨#[80,76]⟩,.string ⟨#[66,86]⟩,.string ⟨#[76,73]⟩,.string ⟨#[85,73]⟩] 9)) hB3.size)
   clear hcr hb2 hb3 CT2 hB3 HBR
   go_upto_region 11 with fail
   try rw[hm9]
   clear hm9 hcr3
   obtain ⟨low,up,int⟩:=F
   dsimp only
   have hq:q=0∨q=1∨q=2∨q=3∨q=4∨q=5∨q=6∨q=7∨q=8:=by omega
   clear hq9
   rcases hq with rfl|rfl|rfl|rfl|rfl|rfl|rfl|rfl|rfl
   all_goals
    go_upto_region 32 with fail
    cases int
    all_goals
     go_wp2_with fail
     go_roundg (gk - 1)
     case measure=>have:=HK.out;omega
     case rel=>exact ⟨k+1,bFold bs0 (bPairs xs ys (k+1)),by go_num,by have:=HK.out;omega,Lib.hid rfl,by (refine congrArg Value.string ?_;apply ByteArray.ext;rw[HT1.out];simp[bLine,bName,bKinds]),by rw[HF1.out];first|rfl|simp[bStep],by rw[HF1.out];first|rfl|simp[bStep],by rw[HF1.out];first|rfl|simp[bStep],HB3⟩
  ·obtain rfl:k=n:=by omega
   have hL:=bnd_is (l:=bPairs xs ys k) (by rw[bPairs_len];omega) (bPairs_ok xs ys k)
   have hcat:(⟨(bndA (bPairs xs ys k)).toArray⟩:ByteArray) ++ ⟨#[69,78,68,65,84,65,10]⟩=⟨(bndText (bPairs xs ys k)).toArray⟩:=by
    apply ByteArray.ext;rw[bndA_end];simp
   have hln:=bndA_len xs ys k
   have hB:=below_seq HB1.out HBR.out
   have hlen:(bndText (bPairs xs ys k)).length≤4294967280:=by
    rw[bndA_end,List.length_append]
    have:([69,78,68,65,84,65,10]:Txt).length=7:=rfl
    omega
   have cg:=core_Get wr (bndText (bPairs xs ys k)) (HE.out.keep hB).tab (HE.out.keep hB) hlen
   unfold CoreGot at cg
   obtain ⟨c,hR,hcols⟩:=hL
   have hF2:bFold ⟨[48],[],false⟩ (bPairs xs ys k)=F:=HF.out.symm
   rw[hF2]at hcols
   rw[hR]at cg
   dsimp only at cg
   have CG:=Lib.hid cg
   have HBQ:=Lib.hid hB
   have HCS:=Lib.hid hcols
   clear hR cg hlen hk hlt hB HF hF2 hcols
   obtain ⟨low,up,int⟩:=F
   dsimp only
   go_upto_region 7 with fail
   go_cut [35] (fun t wc=>t=.bool false∧wr=wc)
   case first=>
    rcases HN.out with h|⟨h1,h2⟩|⟨h1,h2,h3⟩
    ·have c1:¬ (k:Int)<(xs.length:Int):=by omega
     clear h HN
     go_wp2_with fail
     go_meet
     exact ⟨rfl,rfl⟩
    ·have c1:(k:Int)<(xs.length:Int):=by omega
     have c2:¬ (k:Int)<12:=by omega
     clear h1 h2 HN
     go_wp2_with fail
     go_meet
     exact ⟨rfl,rfl⟩
    ·have c1:(k:Int)<(xs.length:Int):=by omega
     have c2:(k:Int)<12:=by omega
     have c3:¬ (k:Int)<(ys.length:Int):=by omega
     clear h1 h2 h3 HN
     go_wp2_with fail
     go_meet
     exact ⟨rfl,rfl⟩
   case rest=>
    obtain ⟨rfl,rfl⟩:=hcut
    go_wp2_with fail
    try rw[hcat]
    refine CG.out.mono ?_
    rintro e w3 ⟨v,rfl,⟨rv,cv,rfl,hrows,hcols⟩,hb3⟩
    have HB3:=Lib.hid (below_seq HBQ.out hb3)
    obtain ⟨rA,rc,rfl,_,_⟩:=hrows
    obtain ⟨cA,cc,rfl,hcc,hcol⟩:=hcols
    rw[HCS.out]at hcol hcc
    obtain ⟨g,o,rfl,_,x1,x2,_,x4⟩:=hcol 0 _ rfl
    obtain ⟨g1,o1,e1,_,y1,_,_,y4⟩:=hcol 1 _ rfl
    obtain ⟨g2,o2,e2,_,_,_,_,z4⟩:=hcol 2 _ rfl
    injection e1 with e1;injection e1 with e3 e4
    subst e3;subst e4
    injection e2 with e2;injection e2 with e3 e4
    subst e3;subst e4
    dsimp only[colX,colY,colZ]at x1 x2 x4 y1 y4 z4
    have hcl:c.cols.length=3:=by rw[HCS.out];rfl
    have hc3:(3:Int)≤(cc:Int):=by
     have:([colX ⟨low,up,int⟩,colY,colZ]:List ColM).length=3:=rfl
     omega
    have al:∀ {b p:Nat}{v:Value},w3.cell? ⟨b,p,none⟩=some v→∀ ob,(w3.alloc ob).cell? ⟨b,p,none⟩=some v:=fun h ob=>cell_keep h ((Below.refl _ _).alloc (Nat.le_refl _) _)
    have k1:∀ ob,(w3.alloc ob).cell? ⟨g,o+1,none⟩=some (.string ⟨low.toArray⟩):=al (by simpa using x1)
    have k2:∀ ob,(w3.alloc ob).cell? ⟨g,o+2,none⟩=some (.string ⟨up.toArray⟩):=al (by simpa using x2)
    have k3:∀ ob,(w3.alloc ob).cell? ⟨g,o+4,none⟩=some (.bool int):=al (by simpa using x4)
    have k4:∀ ob,(w3.alloc ob).cell? ⟨g,o+5+1,none⟩=some (.string ⟨#[48]⟩):=al (by simpa using y1)
    have k5:∀ ob,(w3.alloc ob).cell? ⟨g,o+5+4,none⟩=some (.bool true):=al (by simpa using y4)
    have k6:∀ ob,(w3.alloc ob).cell? ⟨g,o+10+4,none⟩=some (.bool false):=al (by simpa using z4)
    have k4':∀ ob,(w3.alloc ob).cell? ⟨g,o+6,none⟩=some (.string ⟨#[48]⟩):=k4
    have k5':∀ ob,(w3.alloc ob).cell? ⟨g,o+9,none⟩=some (.bool true):=k5
    have k6':∀ ob,(w3.alloc ob).cell? ⟨g,o+14,none⟩=some (.bool false):=k6
    have HCL:=Lib.hid hcl
    clear x1 x2 x4 y1 y4 z4 hcol hcl hb3 CG hcc al
    rw[HCL.out]
    go_wp2_with fail
    go_ret
    refine ⟨?_,below_seq HB3.out ((Below.refl _ _).alloc (Nat.le_refl _) _)⟩
    first|rfl|(refine ret_bool ?_;simp)
end Go.Proofs.YtjipjfoambbofaaGreatDoor
