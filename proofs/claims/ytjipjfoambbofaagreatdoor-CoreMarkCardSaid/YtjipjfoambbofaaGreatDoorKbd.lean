/- Package lit: words that have no bound. -/
import Derived.Test.YtjipjfoambbofaaGreatDoorKaz
import Derived.Test.YtjipjfoambbofaaGreatDoorKbc
import Derived.Test.YtjipjfoambbofaaGreatDoorKbb
import Derived.Deep.DeepCutAuto
import Derived.Deep.CutBlock
set_option linter.unusedVariables false
set_option linter.unusedSimpArgs false
section
namespace Go.Proofs.YtjipjfoambbofaaGreatDoor
open Go.RowKit Vic
set_option maxRecDepth 100000 in
theorem lit_Inf (w:World) (s:Txt) (hs:OkWord s):Calls Tryz.prog 223 #[.string ⟨s.toArray⟩] w (Keeps (.tuple #[.int .i64 (infM s),.bool (infM s != 0)]) w):=by
 have CT:=Lib.hid (strings_ToLower w s (by have:=hs.1;omega) hs.2)
 obtain ⟨r,hr⟩:∃ r,r=infM s:=⟨_,rfl⟩
 have HR:=hr
 unfold infM at HR
 rw[← hr]
 generalize Lib.toLowerA s=t at *
 have H:=Lib.hid HR
 clear hr HR hs
 go_enter Tryz.func223,Tryz.ntmps223
 go_wp2_with fail
 refine CT.out.mono ?_
 rintro e w1 ⟨rfl,hb⟩
 by_cases h0:t = [105,110,102]
 ·have HE:Hid (r=1):=by show _=_;rw[H.out];subst h0;rfl
  subst h0
  clear H
  go_wp2_with fail
  go_ret2
  exact ⟨by rw[HE.out];rfl,hb⟩
 ·have b0:(t == [105,110,102])=false:=beq_eq_false_iff_ne.2 h0
  by_cases h1:t = [43,105,110,102]
  ·have HE:Hid (r=1):=by show _=_;rw[H.out];subst h1;rfl
   subst h1
   clear H
   go_wp2_with fail
   go_ret2
   exact ⟨by rw[HE.out];rfl,hb⟩
  ·have b1:(t == [43,105,110,102])=false:=beq_eq_false_iff_ne.2 h1
   by_cases h2:t = [105,110,102,105,110,105,116,121]
   ·have HE:Hid (r=1):=by show _=_;rw[H.out];subst h2;rfl
    subst h2
    clear H
    go_wp2_with fail
    go_ret2
    exact ⟨by rw[HE.out];rfl,hb⟩
   ·have b2:(t == [105,110,102,105,110,105,116,121])=false:=beq_eq_false_iff_ne.2 h2
    by_cases h3:t = [49,101,51,48]
    ·have HE:Hid (r=1):=by show _=_;rw[H.out];subst h3;rfl
     subst h3
     clear H
     go_wp2_with fail
     go_ret2
     exact ⟨by rw[HE.out];rfl,hb⟩
    ·have b3:(t == [49,101,51,48])=false:=beq_eq_false_iff_ne.2 h3
     by_cases h4:t = [45,105,110,102]
     ·have HE:Hid (r=-1):=by show _=_;rw[H.out];subst h4;rfl
      subst h4
      clear H
      go_wp2_with fail
      go_ret2
      exact ⟨by rw[HE.out];rfl,hb⟩
     ·have b4:(t == [45,105,110,102])=false:=beq_eq_false_iff_ne.2 h4
      by_cases h5:t = [45,105,110,102,105,110,105,116,121]
      ·have HE:Hid (r=-1):=by show _=_;rw[H.out];subst h5;rfl
       subst h5
       clear H
       go_wp2_with fail
       go_ret2
       exact ⟨by rw[HE.out];rfl,hb⟩
      ·have b5:(t == [45,105,110,102,105,110,105,116,121])=false:=beq_eq_false_iff_ne.2 h5
       by_cases h6:t = [45,49,101,51,48]
       ·have HE:Hid (r=-1):=by show _=_;rw[H.out];subst h6;rfl
        subst h6
        clear H
        go_wp2_with fail
        go_ret2
        exact ⟨by rw[HE.out];rfl,hb⟩
       ·have b6:(t == [45,49,101,51,48])=false:=beq_eq_false_iff_ne.2 h6
        have HE:Hid (r=0):=by show _=_;rw[H.out];simp[h0,h1,h2,h3,h4,h5,h6]
        clear H h0 h1 h2 h3 h4 h5 h6
        go_wp2_with fail
        go_ret2
        exact ⟨by rw[HE.out];rfl,hb⟩
end Go.Proofs.YtjipjfoambbofaaGreatDoor
end
section
namespace Go.Proofs.YtjipjfoambbofaaGreatDoor
open Go.RowKit Vic
theorem fits_noughtR:Fits 1000000 0:=⟨Nat.le_trans (sz_word (a:=(0:Rat).num.natAbs) (by decide)) (by omega),Nat.le_trans (sz_word (a:=(0:Rat).den) (by decide)) (by omega)⟩
theorem _root_.Vic.RD.cr {B:Nat}{w:World}{r:Nat}{st:CSt}{rv cv lv:Value}{mr mc ms:Nat}{rvs:List RowV}(h:RD B w r st rv cv lv mr mc ms rvs):CR B w r st:=⟨_,_,_,_,_,_,_,h⟩
theorem infM_range (s:Txt):infM s=0∨infM s=1∨infM s=-1:=by
 unfold infM
 dsimp only
 split
 ·exact .inr (.inl rfl)
 ·split
  ·exact .inr (.inr rfl)
  ·exact .inl rfl
set_option maxRecDepth 100000 in
set_option maxHeartbeats 8000000 in
theorem core_bound {B:Nat}{w:World}{r:Nat}{st:CSt}{rv cv lv:Value}{mr mc ms:Nat}{rvs:List RowV}(h:RD B w r st rv cv lv mr mc ms rvs) (hB:B≤w.heap.size) (hT:∀ w',Below B w w'→TabE w') (inf:Int) (hinf : -1≤inf∧inf≤1) :
 Calls Tryz.prog 150 #[.pointer (some ⟨r,0,none⟩),.int .i64 inf] w (fun e w'=>e=.returned (.string ⟨(st.bound inf).1.toArray⟩)∧(∃ lv',RD B w' r (st.bound inf).2 rv cv lv' mr mc ms rvs)∧Below B w w'∧w.heap.size≤w'.heap.size∧Fr w w'):=by
 have hr:=h.rB
 obtain ⟨s,st1,h1⟩:∃ a b,st.word=(a,b):=⟨_,_,rfl⟩
 have hM:Hid (st.bound inf=if infM s≠0∧inf≠0 then ([],st1.fails (infM s != inf) 1)else (fracText ((litOf s).getD 0),st1.fails (litOf s).isNone 1)):=by
  show _=_
  unfold CSt.bound
  dsimp only
  rw[h1]
 have CW:Hid (Calls Tryz.prog 144 #[.pointer (some ⟨r,0,none⟩)] w (fun e w'=>e=.returned (.string ⟨s.toArray⟩)∧(∃ lv',RD B w' r st1 rv cv lv' mr mc ms rvs)∧Only r w w'∧OkWord s)):=by
  have:=core_word_r h
  have hok:=h.cr.word
  unfold WordedR at this
  rw[h1]at this hok
  exact this.mono fun e w' h=>⟨h.1,h.2.1,h.2.2,hok⟩
 have CF:Hid (∀ W b lv',RD B W r st1 rv cv lv' mr mc ms rvs→Calls Tryz.prog 80 #[.pointer (some ⟨r,0,none⟩),.bool b,.int .i64 1] W (NotedR B r st1 rv cv lv' mr mc ms rvs b 1 W)):=Lib.hid fun W b lv' hW=>core_fails_r hW b 1
 have H:=Lib.hid h.cr
 obtain ⟨hi1,hi2⟩:=hinf
 have hir:=infM_range s
 clear h h1
 go_enter Tryz.func150,Tryz.ntmps150
 go_wp2_with fail
 refine CW.out.mono ?_
 rintro e w1 ⟨rfl,⟨lv1,hr1⟩,ho1,hok⟩
 have B1:Hid (Below B w w1∧Fr w w1):=Lib.hid ⟨ho1.below hr,H.out.frame fun g _ hg=>ho1.block g hg⟩
 have HR1:=Lib.hid hr1
 have HOK:=Lib.hid hok
 obtain ⟨v,hv⟩:∃ x,x=infM s:=⟨_,rfl⟩
 rw[← hv]at hM hir
 have CI:Hid (Calls Tryz.prog 223 #[.string ⟨s.toArray⟩] w1 (Keeps (.tuple #[.int .i64 v,.bool (v != 0)]) w1)):=by rw[hv];exact lit_Inf w1 s hok
 clear hv hr1 ho1 hok
 go_wp2_with fail
 refine CI.out.mono ?_
 rintro e w2 ⟨rfl,hb2⟩
 have hz2:Below B w1 w2:=hb2.mono (Nat.le_trans hB B1.out.1.size)
 have HR2:=Lib.hid (HR1.out.keep hb2)
 have B2:Hid (Below B w w2∧Fr w w2):=Lib.hid ⟨B1.out.1.trans hz2,B1.out.2.trans (Fr.below hb2)⟩
 clear hb2 hz2
 have hcs:((v != 0)=true∧(inf != 0)=true∧Hid (v≠0∧inf≠0))∨(Hid (¬ (v≠0∧inf≠0))∧(((v != 0)=true∧(inf != 0)=false)∨(v != 0)=false)):=by
  by_cases a:v=0
  ·exact .inr ⟨fun h=>h.1 a,.inr (by simp[a])⟩
  ·by_cases b:inf=0
   ·exact .inr ⟨fun h=>h.2 b,.inl ⟨by simp[a],by simp[b]⟩⟩
   ·exact .inl ⟨by simp[a],by simp[b],a,b⟩
 rcases hcs with ⟨ha,hb,hp⟩|⟨hp,hgd⟩
 ·go_wp2_with fail
  refine (CF.out _ _ _ HR2.out).mono ?_
  rintro e w3 ⟨rfl,hr3,ho3,hx⟩
  clear hx
  have HR3:=Lib.hid hr3
  have B3:Hid (Below B w w3∧Fr w w3):=Lib.hid ⟨B2.out.1.trans (ho3.below hr),B2.out.2.trans (HR2.out.cr.frame fun g _ hg=>ho3.block g hg)⟩
  clear hr3 ho3
  go_wp2_with fail
  go_ret
  rw[hM.out,if_pos hp.out]
  exact ⟨rfl,⟨_,HR3.out⟩,B3.out.1,B3.out.1.size,B3.out.2⟩
 ·have CL:=Lib.hid (lit_Get_any w2 (hT w2 B2.out.1) s HOK.out)
  rcases hgd with ⟨ha,hb⟩|ha
  all_goals
   go_wp2_with fail
   refine CL.out.mono ?_
   rintro e w3 (⟨h1,rfl,hb3⟩|⟨q,h1,hq,x,rfl,hx,hb3⟩)
   ·have HR3:=Lib.hid (HR2.out.keep hb3)
    have B3:Hid (Below B w w3∧Fr w w3):=Lib.hid ⟨B2.out.1.trans (hb3.mono (Nat.le_trans hB B2.out.1.size)),B2.out.2.trans (Fr.below hb3)⟩
    have H1:=Lib.hid h1
    clear h1 hb3
    go_wp2_with fail
    refine (CF.out _ _ _ HR3.out).mono ?_
    rintro e w4 ⟨rfl,hr4,ho4,hx⟩
    clear hx
    have HR4:=Lib.hid hr4
    have B4:Hid (Below B w w4∧Fr w w4):=Lib.hid ⟨B3.out.1.trans (ho4.below hr),B3.out.2.trans (HR3.out.cr.frame fun g _ hg=>ho4.block g hg)⟩
    have CT:=Lib.hid (frac_Text w4 (.pointer none) 0 (.inl ⟨rfl,rfl⟩) fits_noughtR (hT w4 B4.out.1).tab)
    clear hr4 ho4
    go_wp2_with fail
    refine CT.out.mono ?_
    rintro e w5 ⟨rfl,hb5⟩
    have HB5:=Lib.hid hb5
    clear hb5
    go_wp2_with fail
    go_ret
    rw[hM.out,if_neg hp.out,H1.out]
    exact ⟨rfl,⟨_,HR4.out.keep HB5.out⟩,B4.out.1.trans (HB5.out.mono (Nat.le_trans hB B4.out.1.size)),Nat.le_trans B4.out.1.size HB5.out.size,B4.out.2.trans (Fr.below HB5.out)⟩
   ·have HR3:=Lib.hid (HR2.out.keep hb3)
    have B3:Hid (Below B w w3∧Fr w w3):=Lib.hid ⟨B2.out.1.trans (hb3.mono (Nat.le_trans hB B2.out.1.size)),B2.out.2.trans (Fr.below hb3)⟩
    have H1:=Lib.hid h1
    have HQ:=Lib.hid hq
    have HX:=Lib.hid hx
    clear h1 hq hx hb3
    go_wp2_with fail
    refine (CF.out _ _ _ HR3.out).mono ?_
    rintro e w4 ⟨rfl,hr4,ho4,hsame⟩
    obtain rfl:=hsame rfl
    have HR4:=Lib.hid hr4
    have CT:=Lib.hid (frac_Text w4 x q HX.out.at_ HQ.out (hT w4 B3.out.1).tab)
    clear hr4 ho4 hsame
    go_wp2_with fail
    refine CT.out.mono ?_
    rintro e w5 ⟨rfl,hb5⟩
    have HB5:=Lib.hid hb5
    clear hb5
    go_wp2_with fail
    go_ret
    rw[hM.out,if_neg hp.out,H1.out]
    exact ⟨rfl,⟨_,HR4.out.keep HB5.out⟩,B3.out.1.trans (HB5.out.mono (Nat.le_trans hB B3.out.1.size)),Nat.le_trans B3.out.1.size HB5.out.size,B3.out.2.trans (Fr.below HB5.out)⟩
end Go.Proofs.YtjipjfoambbofaaGreatDoor
end
section
namespace Go.Proofs.YtjipjfoambbofaaGreatDoor
open Go.RowKit Vic
theorem many1 {B:Nat}{w:World}{r:Nat}{st:CSt}(h:CR B w r st) (n:Int):CR B (w.alloc (.cells #[.int .i64 n] 3)) r st∧Calls Tryz.prog 145 #[.pointer (some ⟨r,0,none⟩),.slice (some ⟨w.heap.size,0,none⟩) 1 1] (w.alloc (.cells #[.int .i64 n] 3)) (fun e w'=>e=.returned (.tuple #[])∧CR B w' r (st.many [n])∧Only r (w.alloc (.cells #[.int .i64 n] 3)) w'):=by
 have hk:=h.keep (w':=w.alloc (.cells #[.int .i64 n] 3)) ((Below.refl _ _).alloc (Nat.le_refl _) _)
 refine ⟨hk,(core_many hk (.slice (some ⟨w.heap.size,0,none⟩) 1 1) [n] ⟨_,_,rfl,Nat.le_refl _,fun i x hx=>?_⟩ (by simp)).mono fun e w' h=>⟨h.1,h.2.1,h.2.2.1⟩⟩
 rcases i with _|i
 ·simp at hx;subst hx;exact ⟨_,0,rfl,by unfold IntR;simp⟩
 ·simp at hx
noncomputable def _root_.Vic.CSt.bounds1 (st:CSt) (k:Txt):CSt:=if k∈longM then st.many [4]else if k∈aloneM then st.many [3]else st.fails true 1
noncomputable def _root_.Vic.CSt.boundsEnd (st:CSt) (kd:Txt) (i:Nat):CSt:=
 if kd = [85,80]then (st.bound 1).2.colSet i fun y=>{ y with up:=(st.bound 1).1 }
 else if kd = [76,79]then (st.bound (-1)).2.colSet i fun y=>{ y with low:=(st.bound (-1)).1 }
 else if kd = [70,88]then (st.bound 0).2.colSet i fun y=>{ y with low:=(st.bound 0).1,up:=(st.bound 0).1 }
 else if kd = [76,73]then (st.bound 0).2.colSet i fun y=>{ y with int:=true,low:=(st.bound 0).1 }
 else if kd = [85,73]then (st.bound 0).2.colSet i fun y=>{ y with int:=true,up:=(st.bound 0).1 }
 else if kd = [70,82]then st.colSet i fun y=>{ y with low:=[],up:=[] }
 else if kd = [77,73]then st.colSet i fun y=>{ y with low:=[] }
 else if kd = [80,76]then st.colSet i fun y=>{ y with up:=[] }
 else if kd = [66,86]then st.colSet i fun y=>{ y with int:=true,low:=[48],up:=[49] }
 else st
theorem _root_.Vic.CSt.bound_c (st:CSt) (inf:Int):(st.bound inf).2.c=st.c:=by
 unfold CSt.bound
 dsimp only
 split
 ·exact (CSt.fails_c _ _ _).trans (CSt.word_c st)
 ·exact (CSt.fails_c _ _ _).trans (CSt.word_c st)
theorem _root_.Vic.CSt.colSet_len (st:CSt) (i:Nat) (f:ColM→ColM):(st.colSet i f).c.cols.length=st.c.cols.length:=by simp[CSt.colSet,setColM]
theorem _root_.Vic.CSt.colSet_two (st:CSt) (i:Nat) (f g:ColM→ColM):(st.colSet i f).colSet i g=st.colSet i fun y=>g (f y):=by
 unfold CSt.colSet setColM
 simp only[List.modify_modify_eq]
 rfl
theorem _root_.Vic.RD.putCol {B:Nat}{w:World}{r:Nat}{st:CSt}{rv cv lv:Value}{mr mc ms:Nat}{rvs:List RowV}(h:RD B w r st rv cv lv mr mc ms rvs) {i k:Nat}{f:ColM→ColM}{u:Value}(hi:i<st.c.cols.length) (hk:k<5) (hy:∀ x,encCol (f x)=(encCol x).set k u) :
 ∃ g c,cv=.slice (some ⟨g,0,none⟩) st.c.cols.length c∧st.c.cols.length≤c∧(∃ v,w.cell? ⟨g,i*5+k,none⟩=some v)∧w.frozen? ⟨g,i*5+k,none⟩=false∧RD B (w.setCell ⟨g,i*5+k,none⟩ u) r (st.colSet i f) rv cv lv mr mc ms rvs∧Below B w (w.setCell ⟨g,i*5+k,none⟩ u)∧Fr w (w.setCell ⟨g,i*5+k,none⟩ u):=by
 obtain ⟨x,hx⟩:∃ x,st.c.cols[i]?=some x:=⟨st.c.cols[i],by simp[hi]⟩
 obtain ⟨g,c,h1,h2,h3,h4,h5,⟨cur,h6⟩,h7⟩:=h.setCol (y:=f x) (u:=u) hx hk (hy x)
 refine ⟨g,c,h1,h2,?_,h4,?_,below_set h5,Fr.same h6 (.inr (.inr (.inr rfl))) fun g' _ hg'=>set_other w g _ u g' hg'⟩
 ·have hke:k<(encCol x).length:=hk
  exact ⟨_,h3.trans (List.getElem?_eq_getElem hke)⟩
 ·unfold CSt.colSet setColM
  rw[modify_set hx]
  exact h7
set_option maxRecDepth 100000 in
set_option maxHeartbeats 8000000 in
theorem core_bounds {B:Nat}{w:World}{r:Nat}{st:CSt}(h:CR B w r st) (hB:B≤w.heap.size) (hT:∀ w',Below B w w'→TabE w') (hgood:st.Good) (hl:st.l≠[]) :
 Calls Tryz.prog 79 #[.pointer (some ⟨r,0,none⟩)] w (Turns B r (.tuple #[]) st.bounds w):=by
 unfold Turns
 have hr:=h.base
 obtain ⟨A,c,hlv,hlc,hlow⟩:=h.lv
 obtain ⟨k,l2,hkl⟩:∃ k l2,st.l=k :: l2:=by
  cases hs:st.l with
  | nil=>exact absurd hs hl
  | cons k l2=>exact ⟨k,l2,rfl⟩
 obtain ⟨g,o,rfl,hw1⟩:∃ g o,A=some ⟨g,o,none⟩∧w.cell? ⟨g,o,none⟩=some (.string ⟨k.toArray⟩):=by
  obtain ⟨A',c',e,_,h3⟩:=hlow
  obtain ⟨g,o,h4,h5⟩:=h3 0 k (by simp[hkl])
  injection e with e1 _ _
  exact ⟨g,o,e1.trans h4,h5.2.1⟩
 have hlen:st.l.length=l2.length+1:=by simp[hkl]
 have HHD:Hid (st.l.headD []=k):=Lib.hid (by rw[hkl];rfl)
 rw[hlen]at hlv hlc
 have hl0:(0:Int)<(l2.length:Int)+1:=by omega
 have hl1:(l2.length:Int)+1≤(c:Int):=by omega
 obtain ⟨st1,h1⟩:∃ x,x=st.bounds1 k:=⟨_,rfl⟩
 have C4:=Lib.hid (many1 h 4)
 have C3:=Lib.hid (many1 h 3)
 have CF:=Lib.hid (core_fails h true 1)
 have H:=Lib.hid h
 have H1:=Lib.hid h1
 clear h h1 hlow hkl hlen hl
 go_enter Tryz.func79,Tryz.ntmps79
 go_upto_block 0 with fail
 go_cut [14,23] (fun _ _ wc=>Hid (CR B wc r st1)∧Hid (Below B w wc∧Fr w wc))
 case first=>
  have hmk:∀ n w',CR B w' r (st.many [n])→Only r (w.alloc (.cells #[.int .i64 n] 3)) w'→st1=st.many [n]→Hid (CR B w' r st1)∧Hid (Below B w w'∧Fr w w'):=fun n w' a b e=>⟨Lib.hid (e▸a),Lib.hid ⟨((Below.refl _ _).alloc hB _).trans (b.below hr),(Fr.below ((Below.refl _ _).alloc (Nat.le_refl _) _)).trans ((H.out.keep ((Below.refl _ _).alloc (Nat.le_refl _) _)).frame fun g _ hg=>b.block g hg)⟩⟩
  have HMK:=Lib.hid hmk
  clear hmk
  by_cases hA:k∈longM
  ·have hE:Hid (st1=st.many [4]):=by show _=_;rw[H1.out];unfold CSt.bounds1;rw[if_pos hA]
   simp only[longM,List.mem_cons,List.not_mem_nil,or_false]at hA
   rcases hA with rfl|rfl|rfl|rfl|rfl
   all_goals
    go_wp2_with fail
    refine C4.out.2.mono ?_
    rintro e w1 ⟨rfl,hr1,ho1⟩
    have HC:=Lib.hid (HMK.out 4 w1 hr1 ho1 hE.out)
    clear hr1 ho1
    go_wp2_with fail
    go_meet
    exact HC.out
  ·by_cases hC:k∈aloneM
   ·have hE:Hid (st1=st.many [3]):=by show _=_;rw[H1.out];unfold CSt.bounds1;rw[if_neg hA,if_pos hC]
    simp only[aloneM,List.mem_cons,List.not_mem_nil,or_false]at hC
    clear hA
    rcases hC with rfl|rfl|rfl|rfl
    all_goals
     go_wp2_with fail
     refine C3.out.2.mono ?_
     rintro e w1 ⟨rfl,hr1,ho1⟩
     have HC:=Lib.hid (HMK.out 3 w1 hr1 ho1 hE.out)
     clear hr1 ho1
     go_wp2_with fail
     go_meet
     exact HC.out
   ·have hE:Hid (st1=st.fails true 1):=by show _=_;rw[H1.out];unfold CSt.bounds1;rw[if_neg hA,if_neg hC]
    have n1:(k == [85,80])=false:=beq_eq_false_iff_ne.2 fun e=>hA (e▸by simp[longM])
    have n2:(k == [76,79])=false:=beq_eq_false_iff_ne.2 fun e=>hA (e▸by simp[longM])
    have n3:(k == [70,88])=false:=beq_eq_false_iff_ne.2 fun e=>hA (e▸by simp[longM])
    have n4:(k == [76,73])=false:=beq_eq_false_iff_ne.2 fun e=>hA (e▸by simp[longM])
    have n5:(k == [85,73])=false:=beq_eq_false_iff_ne.2 fun e=>hA (e▸by simp[longM])
    have n6:(k == [70,82])=false:=beq_eq_false_iff_ne.2 fun e=>hC (e▸by simp[aloneM])
    have n7:(k == [77,73])=false:=beq_eq_false_iff_ne.2 fun e=>hC (e▸by simp[aloneM])
    have n8:(k == [80,76])=false:=beq_eq_false_iff_ne.2 fun e=>hC (e▸by simp[aloneM])
    have n9:(k == [66,86])=false:=beq_eq_false_iff_ne.2 fun e=>hC (e▸by simp[aloneM])
    clear hA hC
    go_wp2_with fail
    refine CF.out.mono ?_
    rintro e w1 ⟨rfl,hr1,ho1,hx⟩
    clear hx
    have HC:Hid (Hid (CR B w1 r st1)∧Hid (Below B w w1∧Fr w w1)):=Lib.hid ⟨Lib.hid (hE.out▸hr1),Lib.hid ⟨ho1.below hr,H.out.frame fun g _ hg=>ho1.block g hg⟩⟩
    clear hr1 ho1
    go_wp2_with fail
    go_meet
    exact HC.out
 case rest=>
  obtain ⟨hr1,b1⟩:=hcut
  obtain ⟨kd,st2,h2⟩:∃ a b,st1.word=(a,b):=⟨_,_,rfl⟩
  obtain ⟨s,st3,h3⟩:∃ a b,st2.word=(a,b):=⟨_,_,rfl⟩
  obtain ⟨st4,h4⟩:∃ x,x=st3.fails (!nameB s) 4:=⟨_,rfl⟩
  have CA:Hid (Calls Tryz.prog 144 #[.pointer (some ⟨r,0,none⟩)] wc (fun e w'=>e=.returned (.string ⟨kd.toArray⟩)∧CR B w' r st2∧Only r wc w')):=by
   have:=core_word hr1.out
   unfold Worded at this
   rwa [h2]at this
  have CB:Hid (∀ W,CR B W r st2→Calls Tryz.prog 144 #[.pointer (some ⟨r,0,none⟩)] W (fun e w'=>e=.returned (.string ⟨s.toArray⟩)∧CR B w' r st3∧Only r W w'∧OkWord s)):=Lib.hid fun W hW=>by
   have:=core_word hW
   have hok:=hW.word
   unfold Worded at this
   rw[h3]at this hok
   exact this.mono fun e w' h=>⟨h.1,h.2.1,h.2.2,hok⟩
  have H2:=Lib.hid h2;have H3:=Lib.hid h3;have H4:=Lib.hid h4
  clear h2 h3 h4 hlv hlc hw1 C4 C3 CF
  go_wp2_with fail
  refine CA.out.mono ?_
  rintro e w2 ⟨rfl,hr2,ho2⟩
  have C5:=Lib.hid (CB.out w2 hr2)
  have b2:Hid (Below B w w2∧Fr w w2):=Lib.hid ⟨b1.out.1.trans (ho2.below hr),b1.out.2.trans (hr1.out.frame fun g _ hg=>ho2.block g hg)⟩
  have HR2:=Lib.hid hr2
  clear hr2 ho2
  go_wp2_with fail
  refine C5.out.mono ?_
  rintro e w3 ⟨rfl,hr3,ho3,hok⟩
  have HR3:=Lib.hid hr3
  have HOK:=Lib.hid hok
  have b3:Hid (Below B w w3∧Fr w w3):=Lib.hid ⟨b2.out.1.trans (ho3.below hr),b2.out.2.trans (HR2.out.frame fun g _ hg=>ho3.block g hg)⟩
  clear hr3 ho3 hok
  go_wp2_with fail
  refine (words_Name _ _ (Nat.le_trans HOK.out.1 (by omega))).mono ?_
  rintro e w4 ⟨rfl,hb4⟩
  have HR4:=Lib.hid (HR3.out.keep hb4)
  have b4:Hid (Below B w w4∧Fr w w4):=Lib.hid ⟨b3.out.1.trans (hb4.mono (Nat.le_trans hB b3.out.1.size)),b3.out.2.trans (Fr.below hb4)⟩
  clear hb4
  go_wp2_with fail
  refine (core_fails HR4.out _ 4).mono ?_
  rintro e w5 ⟨rfl,hr5,ho5,hx⟩
  clear hx
  have HR5:Hid (CR B w5 r st4):=Lib.hid (hr5.cast H4.out.symm)
  have b5:Hid (Below B w w5∧Fr w w5):=Lib.hid ⟨b4.out.1.trans (ho5.below hr),b4.out.2.trans (HR4.out.frame fun g _ hg=>ho5.block g hg)⟩
  clear hr5 ho5
  obtain ⟨cn,st5,h6⟩:∃ a b,st4.word=(a,b):=⟨_,_,rfl⟩
  obtain ⟨o6,ho6⟩:∃ x,x=atT st5.cols cn:=⟨_,rfl⟩
  obtain ⟨rv,cv,lv5,mr,mc,ms,rvs,hd5⟩:=HR5.out
  have hd5d:RD B w5.drew r st4 rv cv lv5 mr mc ms rvs:=hd5.keep (Below.refl _ _).drew
  have C6:Hid (Calls Tryz.prog 144 #[.pointer (some ⟨r,0,none⟩)] w5.drew (fun e w'=>e=.returned (.string ⟨cn.toArray⟩)∧(∃ lv',RD B w' r st5 rv cv lv' mr mc ms rvs)∧Only r w5.drew w')):=by
   have:=core_word_r hd5d
   unfold WordedR at this
   rwa [h6]at this
  have hmc5:w5.cell? ⟨r,6,none⟩=some (.map (some mc)):=hd5.cells.2.2.2.2.2.2.1
  have HD5:=Lib.hid hd5
  have H6:=Lib.hid h6
  obtain ⟨at_,hat_⟩:∃ x,x=o6.getD 0:=⟨_,rfl⟩
  obtain ⟨is_,his⟩:∃ x,x=o6.isSome:=⟨_,rfl⟩
  have HLK:Hid (∀ W lv',RD B W r st5 rv cv lv' mr mc ms rvs→(Instr.lookup 88 (.map (some mc)) (.string ⟨cn.toArray⟩) true).run Tryz.prog W=.ok (.tuple #[.int .i64 at_,.bool is_]) W):=Lib.hid fun W lv' hW=>by
   have:=look_int hW.mapC cn
   rw[← ho6,← hat_,← his]at this
   exact this
  have HO6:=Lib.hid ho6;have HAT:=Lib.hid hat_;have HIS:=Lib.hid his
  clear hd5 hd5d h6 ho6 hat_ his
  go_upto_region 15 with fail
  go_region_held3 (fun W=>W.cell? ⟨r,6,none⟩=some (.map (some mc))) (first|go_keep|assumption|(simpa using hmc5))
   (first
    | (go_at_call 144;refine C6.out.mono ?_;rintro e w6 ⟨rfl,⟨lv6,hd6⟩,ho6⟩;have hmc6:w6.cell? ⟨r,6,none⟩=some (.map (some mc)):=hd6.cells.2.2.2.2.2.2.1;have hlk6:=HLK.out w6 lv6 hd6))
  have HD6:=Lib.hid hd6
  have b6:Hid (Below B w w6∧Fr w w6):=Lib.hid ⟨(b5.out.1.trans (Below.refl _ _).drew).trans (ho6.below hr),(b5.out.2.trans (Fr.below (Below.refl _ _).drew)).trans ((HD5.out.cr.keep (Below.refl _ _).drew).frame fun g _ hg=>ho6.block g hg)⟩
  obtain ⟨st6,h7⟩:∃ x,x=st5.fails (!is_) 4:=⟨_,rfl⟩
  have C7:Hid (∀ b,Calls Tryz.prog 80 #[.pointer (some ⟨r,0,none⟩),.bool b,.int .i64 4] w6 (NotedR B r st5 rv cv lv6 mr mc ms rvs b 4 w6)):=Lib.hid fun b=>core_fails_r hd6 b 4
  have H7:=Lib.hid h7
  clear hd6 ho6 hmc6 hlk6 hmc5 h7
  go_wp2_with fail
  refine (C7.out _).mono ?_
  rintro e w7 ⟨rfl,hd7,ho7,hx⟩
  clear hx
  rw[← H7.out]at hd7
  have HD7:=Lib.hid hd7
  have b7:Hid (Below B w w7∧Fr w w7):=Lib.hid ⟨b6.out.1.trans (ho7.below hr),b6.out.2.trans (HD6.out.cr.frame fun g _ hg=>ho7.block g hg)⟩
  have he7:=hd7.cr.eC
  clear hd7 ho7
  by_cases h0:st6.e=0
  ·have h01:(st6.e != 0)=false:=by simp[h0]
   have hisT:is_=true:=by
    cases hb:is_ with
    | true=>rfl
    | false=>
      exfalso
      have h2:=H7.out
      rw[hb]at h2
      apply (?_:¬ st6.e=0) h0
      rw[h2]
      unfold CSt.fails
      by_cases h5:st5.e=0
      ·simp[h5]
      ·simp[h5]
   obtain ⟨a0,ha0⟩:∃ a,o6=some a:=by
    have:=HIS.out
    rw[hisT]at this
    exact Option.isSome_iff_exists.1 this.symm
   have hat0:at_=a0:=by rw[HAT.out,ha0];rfl
   have z6:st6.Same st:=by
    have z1:st1.Same st:=by
     rw[H1.out];unfold CSt.bounds1
     split
     ·exact CSt.fails_same _ _ _
     ·split<;>exact CSt.fails_same _ _ _
    have z2:st2.Same st1:=by have:=CSt.word_same st1;rwa [H2.out]at this
    have z3:st3.Same st2:=by have:=CSt.word_same st2;rwa [H3.out]at this
    have z4:st4.Same st3:=H4.out▸CSt.fails_same _ _ _
    have z5:st5.Same st4:=by have:=CSt.word_same st4;rwa [H6.out]at this
    have z6:st6.Same st5:=H7.out▸CSt.fails_same _ _ _
    exact z6.trans (z5.trans (z4.trans (z3.trans (z2.trans z1))))
   have h56:st5.cols=st6.cols:=by rw[H7.out];unfold CSt.fails;split<;>rfl
   have hin:=(z6.good hgood).2 cn a0 (by rw[← h56,← HO6.out,ha0])
   obtain ⟨i,rfl⟩:=Int.eq_ofNat_of_zero_le hin.1
   have hil:i<st6.c.cols.length:=by omega
   have hM:Hid (st.bounds=st6.boundsEnd kd i):=by
    show _=_
    unfold CSt.bounds CSt.boundsEnd
    dsimp only
    rw[HHD.out]
    have e1:(if k∈longM then st.many [4]else if k∈aloneM then st.many [3]else st.fails true 1)=st1:=H1.out.symm
    have e7:st5.fails o6.isNone 4=st6:=by rw[H7.out,HIS.out];cases o6<;>rfl
    rw[e1,H2.out]
    dsimp only
    rw[H3.out]
    dsimp only
    rw[← H4.out,H6.out]
    dsimp only
    rw[← HO6.out,e7,if_neg (by simp[h0]),ha0]
    rfl
   rw[hat0]
   have hcc:=HD7.out.cells.2.2.2.1
   obtain ⟨gc,cc,hcv,hlc,_⟩:=HD7.out.putCol (f:=fun y=>{ y with up:=[] }) (k:=2) (u:=.string ⟨([]:Txt).toArray⟩) hil (by omega) (fun x=>rfl)
   obtain ⟨n6,hn6⟩:∃ n,n=st6.c.cols.length:=⟨_,rfl⟩
   rw[← hn6]at hil hcv hlc
   have HPUT:Hid (∀ W s lv',RD B W r s rv cv lv' mr mc ms rvs→s.c.cols.length=n6→∀ (k:Nat) (u:Value) (f:ColM→ColM),k<5→(∀ x,encCol (f x)=(encCol x).set k u)→(∃ v,W.cell? ⟨gc,i*5+k,none⟩=some v)∧W.frozen? ⟨gc,i*5+k,none⟩=false∧RD B (W.setCell ⟨gc,i*5+k,none⟩ u) r (s.colSet i f) rv cv lv' mr mc ms rvs∧Below B W (W.setCell ⟨gc,i*5+k,none⟩ u)∧Fr W (W.setCell ⟨gc,i*5+k,none⟩ u)):=by
    intro W s lv' hW hs k u f hk hy
    obtain ⟨g,c,h1,_,h3,h4,h5,h6,h7⟩:=hW.putCol (i:=i) (f:=f) (u:=u) (by rw[hs];exact hil) hk hy
    rw[hcv]at h1
    injection h1 with e1 _ _
    injection e1 with e1
    injection e1 with e1
    subst e1
    exact ⟨h3,h4,h5,h6,h7⟩
   rw[hcv]at hcc
   have HN6:Hid (st6.c.cols.length=n6):=hn6.symm
   have CB:Hid (∀ inf,-1≤inf∧inf≤1→Calls Tryz.prog 150 #[.pointer (some ⟨r,0,none⟩),.int .i64 inf] w7 (fun e w'=>e=.returned (.string ⟨(st6.bound inf).1.toArray⟩)∧(∃ lv',RD B w' r (st6.bound inf).2 rv cv lv' mr mc ms rvs)∧Below B w7 w'∧w7.heap.size≤w'.heap.size∧Fr w7 w')):=Lib.hid fun inf hinf=>core_bound HD7.out (Nat.le_trans hB b7.out.1.size) (fun W hW=>hT W (b7.out.1.trans hW)) inf hinf
   have HBC:Hid (∀ inf,(st6.bound inf).2.c.cols.length=n6):=Lib.hid fun inf=>by rw[CSt.bound_c];exact HN6.out
   have hi0:(0:Int)≤(i:Int):=by omega
   have hi1:(i:Int)<(n6:Int):=by omega
   clear H7 H6 H4 H3 H2 H1 HO6 HAT HIS C5 C6 C7 HLK HD6 HD5 HR2 HR3 HR4 HR5 HOK hr1 b1 b2 b3 b4 b5 b6 ha0 hin hat0 h56 z6 hn6 hil hgood hT H HHD hisT h0 hcv HN6
   have HN7:Hid (st6.c.cols.length=n6):=Lib.hid (by have:=HBC.out 0;rwa [CSt.bound_c]at this)
   by_cases q0:kd = [85,80]
   ·subst q0
    obtain ⟨T,st8,h8⟩:∃ a b,st6.bound (1)=(a,b):=⟨_,_,rfl⟩
    have hl8:st8.c.cols.length=n6:=by have:=HBC.out (1);rwa [h8]at this
    have C8:=CB.out (1) (by decide)
    rw[h8]at C8
    have HC8:=Lib.hid C8
    have HE:Hid (st.bounds=st8.colSet i fun y=>{ y with up:=T }):=by show _=_;rw[hM.out];unfold CSt.boundsEnd;rw[if_pos rfl,h8]
    clear C8 h8
    go_wp2_with fail
    refine HC8.out.mono ?_
    rintro e w8 ⟨rfl,⟨lv8,hd8⟩,hb8,hs8,hf8⟩
    have b8:Hid (Below B w w8∧Fr w w8):=Lib.hid ⟨b7.out.1.trans hb8,b7.out.2.trans hf8⟩
    obtain ⟨⟨v1,hv1⟩,hz1,hd91,hb91,hf91⟩:=HPUT.out _ _ _ hd8 hl8 2 (.string ⟨T.toArray⟩) (fun y=>{ y with up:=T }) (by omega) (fun x=>rfl)
    have b91:=Lib.hid (And.intro (b8.out.1.trans hb91) (b8.out.2.trans hf91))
    have hl91:=(CSt.colSet_len _ i (fun y=>{ y with up:=T })).trans hl8
    have HDZ:=Lib.hid hd91
    clear hd91 hb91 hf91 hl91 hd8 hl8 hb8 hs8 hf8
    go_wp2_with fail
    go_end0
    exact ⟨rfl,by rw[HE.out];have:=HDZ.out.cr;skip;exact this,b91.out.1,b91.out.1.size,b91.out.2⟩
   have n0:(kd == [85,80])=false:=beq_eq_false_iff_ne.2 q0
   by_cases q1:kd = [76,79]
   ·subst q1
    obtain ⟨T,st8,h8⟩:∃ a b,st6.bound (-1)=(a,b):=⟨_,_,rfl⟩
    have hl8:st8.c.cols.length=n6:=by have:=HBC.out (-1);rwa [h8]at this
    have C8:=CB.out (-1) (by decide)
    rw[h8]at C8
    have HC8:=Lib.hid C8
    have HE:Hid (st.bounds=st8.colSet i fun y=>{ y with low:=T }):=by show _=_;rw[hM.out];unfold CSt.boundsEnd;rw[if_neg (by decide),if_pos rfl,h8]
    clear C8 h8
    go_wp2_with fail
    refine HC8.out.mono ?_
    rintro e w8 ⟨rfl,⟨lv8,hd8⟩,hb8,hs8,hf8⟩
    have b8:Hid (Below B w w8∧Fr w w8):=Lib.hid ⟨b7.out.1.trans hb8,b7.out.2.trans hf8⟩
    obtain ⟨⟨v1,hv1⟩,hz1,hd91,hb91,hf91⟩:=HPUT.out _ _ _ hd8 hl8 1 (.string ⟨T.toArray⟩) (fun y=>{ y with low:=T }) (by omega) (fun x=>rfl)
    have b91:=Lib.hid (And.intro (b8.out.1.trans hb91) (b8.out.2.trans hf91))
    have hl91:=(CSt.colSet_len _ i (fun y=>{ y with low:=T })).trans hl8
    have HDZ:=Lib.hid hd91
    clear hd91 hb91 hf91 hl91 hd8 hl8 hb8 hs8 hf8
    go_wp2_with fail
    go_end0
    exact ⟨rfl,by rw[HE.out];have:=HDZ.out.cr;skip;exact this,b91.out.1,b91.out.1.size,b91.out.2⟩
   have n1:(kd == [76,79])=false:=beq_eq_false_iff_ne.2 q1
   by_cases q2:kd = [70,88]
   ·subst q2
    obtain ⟨T,st8,h8⟩:∃ a b,st6.bound (0)=(a,b):=⟨_,_,rfl⟩
    have hl8:st8.c.cols.length=n6:=by have:=HBC.out (0);rwa [h8]at this
    have C8:=CB.out (0) (by decide)
    rw[h8]at C8
    have HC8:=Lib.hid C8
    have HE:Hid (st.bounds=st8.colSet i fun y=>{ y with low:=T,up:=T }):=by show _=_;rw[hM.out];unfold CSt.boundsEnd;rw[if_neg (by decide),if_neg (by decide),if_pos rfl,h8]
    clear C8 h8
    go_wp2_with fail
    refine HC8.out.mono ?_
    rintro e w8 ⟨rfl,⟨lv8,hd8⟩,hb8,hs8,hf8⟩
    have b8:Hid (Below B w w8∧Fr w w8):=Lib.hid ⟨b7.out.1.trans hb8,b7.out.2.trans hf8⟩
    obtain ⟨⟨v1,hv1⟩,hz1,hd91,hb91,hf91⟩:=HPUT.out _ _ _ hd8 hl8 1 (.string ⟨T.toArray⟩) (fun y=>{ y with low:=T }) (by omega) (fun x=>rfl)
    have b91:=Lib.hid (And.intro (b8.out.1.trans hb91) (b8.out.2.trans hf91))
    have hl91:=(CSt.colSet_len _ i (fun y=>{ y with low:=T })).trans hl8
    obtain ⟨⟨v2,hv2⟩,hz2,hd92,hb92,hf92⟩:=HPUT.out _ _ _ hd91 hl91 2 (.string ⟨T.toArray⟩) (fun y=>{ y with up:=T }) (by omega) (fun x=>rfl)
    have b92:=Lib.hid (And.intro (b91.out.1.trans hb92) (b91.out.2.trans hf92))
    have hl92:=(CSt.colSet_len _ i (fun y=>{ y with up:=T })).trans hl91
    have HDZ:=Lib.hid hd92
    have hrd:(w8.setCell ⟨gc,i*5+1,none⟩ (.string ⟨T.toArray⟩)).cell? ⟨gc,i*5+1,none⟩=some (.string ⟨T.toArray⟩):=World.cell?_setCell_same _ _ _ hv1
    clear hd91 hb91 hf91 hl91 hd92 hb92 hf92 hl92 hd8 hl8 hb8 hs8 hf8
    go_wp2_with fail
    go_end0
    exact ⟨rfl,by rw[HE.out];have:=HDZ.out.cr;simp only[CSt.colSet_two]at this;exact this,b92.out.1,b92.out.1.size,b92.out.2⟩
   have n2:(kd == [70,88])=false:=beq_eq_false_iff_ne.2 q2
   by_cases q3:kd = [76,73]
   ·subst q3
    obtain ⟨T,st8,h8⟩:∃ a b,st6.bound (0)=(a,b):=⟨_,_,rfl⟩
    have hl8:st8.c.cols.length=n6:=by have:=HBC.out (0);rwa [h8]at this
    have C8:=CB.out (0) (by decide)
    rw[h8]at C8
    have HC8:=Lib.hid C8
    have HE:Hid (st.bounds=st8.colSet i fun y=>{ y with int:=true,low:=T }):=by show _=_;rw[hM.out];unfold CSt.boundsEnd;rw[if_neg (by decide),if_neg (by decide),if_neg (by decide),if_pos rfl,h8]
    clear C8 h8
    go_wp2_with fail
    refine HC8.out.mono ?_
    rintro e w8 ⟨rfl,⟨lv8,hd8⟩,hb8,hs8,hf8⟩
    have b8:Hid (Below B w w8∧Fr w w8):=Lib.hid ⟨b7.out.1.trans hb8,b7.out.2.trans hf8⟩
    obtain ⟨⟨v1,hv1⟩,hz1,hd91,hb91,hf91⟩:=HPUT.out _ _ _ hd8 hl8 4 (.bool true) (fun y=>{ y with int:=true }) (by omega) (fun x=>rfl)
    have b91:=Lib.hid (And.intro (b8.out.1.trans hb91) (b8.out.2.trans hf91))
    have hl91:=(CSt.colSet_len _ i (fun y=>{ y with int:=true })).trans hl8
    obtain ⟨⟨v2,hv2⟩,hz2,hd92,hb92,hf92⟩:=HPUT.out _ _ _ hd91 hl91 1 (.string ⟨T.toArray⟩) (fun y=>{ y with low:=T }) (by omega) (fun x=>rfl)
    have b92:=Lib.hid (And.intro (b91.out.1.trans hb92) (b91.out.2.trans hf92))
    have hl92:=(CSt.colSet_len _ i (fun y=>{ y with low:=T })).trans hl91
    have HDZ:=Lib.hid hd92
    clear hd91 hb91 hf91 hl91 hd92 hb92 hf92 hl92 hd8 hl8 hb8 hs8 hf8
    go_wp2_with fail
    go_end0
    exact ⟨rfl,by rw[HE.out];have:=HDZ.out.cr;simp only[CSt.colSet_two]at this;exact this,b92.out.1,b92.out.1.size,b92.out.2⟩
   have n3:(kd == [76,73])=false:=beq_eq_false_iff_ne.2 q3
   by_cases q4:kd = [85,73]
   ·subst q4
    obtain ⟨T,st8,h8⟩:∃ a b,st6.bound (0)=(a,b):=⟨_,_,rfl⟩
    have hl8:st8.c.cols.length=n6:=by have:=HBC.out (0);rwa [h8]at this
    have C8:=CB.out (0) (by decide)
    rw[h8]at C8
    have HC8:=Lib.hid C8
    have HE:Hid (st.bounds=st8.colSet i fun y=>{ y with int:=true,up:=T }):=by show _=_;rw[hM.out];unfold CSt.boundsEnd;rw[if_neg (by decide),if_neg (by decide),if_neg (by decide),if_neg (by decide),if_pos rfl,h8]
    clear C8 h8
    go_wp2_with fail
    refine HC8.out.mono ?_
    rintro e w8 ⟨rfl,⟨lv8,hd8⟩,hb8,hs8,hf8⟩
    have b8:Hid (Below B w w8∧Fr w w8):=Lib.hid ⟨b7.out.1.trans hb8,b7.out.2.trans hf8⟩
    obtain ⟨⟨v1,hv1⟩,hz1,hd91,hb91,hf91⟩:=HPUT.out _ _ _ hd8 hl8 4 (.bool true) (fun y=>{ y with int:=true }) (by omega) (fun x=>rfl)
    have b91:=Lib.hid (And.intro (b8.out.1.trans hb91) (b8.out.2.trans hf91))
    have hl91:=(CSt.colSet_len _ i (fun y=>{ y with int:=true })).trans hl8
    obtain ⟨⟨v2,hv2⟩,hz2,hd92,hb92,hf92⟩:=HPUT.out _ _ _ hd91 hl91 2 (.string ⟨T.toArray⟩) (fun y=>{ y with up:=T }) (by omega) (fun x=>rfl)
    have b92:=Lib.hid (And.intro (b91.out.1.trans hb92) (b91.out.2.trans hf92))
    have hl92:=(CSt.colSet_len _ i (fun y=>{ y with up:=T })).trans hl91
    have HDZ:=Lib.hid hd92
    clear hd91 hb91 hf91 hl91 hd92 hb92 hf92 hl92 hd8 hl8 hb8 hs8 hf8
    go_wp2_with fail
    go_end0
    exact ⟨rfl,by rw[HE.out];have:=HDZ.out.cr;simp only[CSt.colSet_two]at this;exact this,b92.out.1,b92.out.1.size,b92.out.2⟩
   have n4:(kd == [85,73])=false:=beq_eq_false_iff_ne.2 q4
   by_cases q5:kd = [70,82]
   ·subst q5
    have HE:Hid (st.bounds=st6.colSet i fun y=>{ y with low:=[],up:=[] }):=by show _=_;rw[hM.out];unfold CSt.boundsEnd;rw[if_neg (by decide),if_neg (by decide),if_neg (by decide),if_neg (by decide),if_neg (by decide),if_pos rfl]
    have hd8:=HD7.out
    have hl8:=HN7.out
    obtain ⟨⟨v1,hv1⟩,hz1,hd91,hb91,hf91⟩:=HPUT.out _ _ _ hd8 hl8 1 (.string ⟨([]:Txt).toArray⟩) (fun y=>{ y with low:=[] }) (by omega) (fun x=>rfl)
    have b91:=Lib.hid (And.intro (b7.out.1.trans hb91) (b7.out.2.trans hf91))
    have hl91:=(CSt.colSet_len _ i (fun y=>{ y with low:=[] })).trans hl8
    obtain ⟨⟨v2,hv2⟩,hz2,hd92,hb92,hf92⟩:=HPUT.out _ _ _ hd91 hl91 2 (.string ⟨([]:Txt).toArray⟩) (fun y=>{ y with up:=[] }) (by omega) (fun x=>rfl)
    have b92:=Lib.hid (And.intro (b91.out.1.trans hb92) (b91.out.2.trans hf92))
    have hl92:=(CSt.colSet_len _ i (fun y=>{ y with up:=[] })).trans hl91
    have HDZ:=Lib.hid hd92
    clear hd91 hb91 hf91 hl91 hd92 hb92 hf92 hl92 hd8 hl8
    go_wp2_with fail
    go_end0
    exact ⟨rfl,by rw[HE.out];have:=HDZ.out.cr;simp only[CSt.colSet_two]at this;exact this,b92.out.1,b92.out.1.size,b92.out.2⟩
   have n5:(kd == [70,82])=false:=beq_eq_false_iff_ne.2 q5
   by_cases q6:kd = [77,73]
   ·subst q6
    have HE:Hid (st.bounds=st6.colSet i fun y=>{ y with low:=[] }):=by show _=_;rw[hM.out];unfold CSt.boundsEnd;rw[if_neg (by decide),if_neg (by decide),if_neg (by decide),if_neg (by decide),if_neg (by decide),if_neg (by decide),if_pos rfl]
    have hd8:=HD7.out
    have hl8:=HN7.out
    obtain ⟨⟨v1,hv1⟩,hz1,hd91,hb91,hf91⟩:=HPUT.out _ _ _ hd8 hl8 1 (.string ⟨([]:Txt).toArray⟩) (fun y=>{ y with low:=[] }) (by omega) (fun x=>rfl)
    have b91:=Lib.hid (And.intro (b7.out.1.trans hb91) (b7.out.2.trans hf91))
    have hl91:=(CSt.colSet_len _ i (fun y=>{ y with low:=[] })).trans hl8
    have HDZ:=Lib.hid hd91
    clear hd91 hb91 hf91 hl91 hd8 hl8
    go_wp2_with fail
    go_end0
    exact ⟨rfl,by rw[HE.out];have:=HDZ.out.cr;skip;exact this,b91.out.1,b91.out.1.size,b91.out.2⟩
   have n6:(kd == [77,73])=false:=beq_eq_false_iff_ne.2 q6
   by_cases q7:kd = [80,76]
   ·subst q7
    have HE:Hid (st.bounds=st6.colSet i fun y=>{ y with up:=[] }):=by show _=_;rw[hM.out];unfold CSt.boundsEnd;rw[if_neg (by decide),if_neg (by decide),if_neg (by decide),if_neg (by decide),if_neg (by decide),if_neg (by decide),if_neg (by decide),if_pos rfl]
    have hd8:=HD7.out
    have hl8:=HN7.out
    obtain ⟨⟨v1,hv1⟩,hz1,hd91,hb91,hf91⟩:=HPUT.out _ _ _ hd8 hl8 2 (.string ⟨([]:Txt).toArray⟩) (fun y=>{ y with up:=[] }) (by omega) (fun x=>rfl)
    have b91:=Lib.hid (And.intro (b7.out.1.trans hb91) (b7.out.2.trans hf91))
    have hl91:=(CSt.colSet_len _ i (fun y=>{ y with up:=[] })).trans hl8
    have HDZ:=Lib.hid hd91
    clear hd91 hb91 hf91 hl91 hd8 hl8
    go_wp2_with fail
    go_end0
    exact ⟨rfl,by rw[HE.out];have:=HDZ.out.cr;skip;exact this,b91.out.1,b91.out.1.size,b91.out.2⟩
   have n7:(kd == [80,76])=false:=beq_eq_false_iff_ne.2 q7
   by_cases q8:kd = [66,86]
   ·subst q8
    have HE:Hid (st.bounds=st6.colSet i fun y=>{ y with int:=true,low:=[48],up:=[49] }):=by show _=_;rw[hM.out];unfold CSt.boundsEnd;rw[if_neg (by decide),if_neg (by decide),if_neg (by decide),if_neg (by decide),if_neg (by decide),if_neg (by decide),if_neg (by decide),if_neg (by decide),if_pos rfl]
    have hd8:=HD7.out
    have hl8:=HN7.out
    obtain ⟨⟨v1,hv1⟩,hz1,hd91,hb91,hf91⟩:=HPUT.out _ _ _ hd8 hl8 4 (.bool true) (fun y=>{ y with int:=true }) (by omega) (fun x=>rfl)
    have b91:=Lib.hid (And.intro (b7.out.1.trans hb91) (b7.out.2.trans hf91))
    have hl91:=(CSt.colSet_len _ i (fun y=>{ y with int:=true })).trans hl8
    obtain ⟨⟨v2,hv2⟩,hz2,hd92,hb92,hf92⟩:=HPUT.out _ _ _ hd91 hl91 1 (.string ⟨([48]:Txt).toArray⟩) (fun y=>{ y with low:=[48] }) (by omega) (fun x=>rfl)
    have b92:=Lib.hid (And.intro (b91.out.1.trans hb92) (b91.out.2.trans hf92))
    have hl92:=(CSt.colSet_len _ i (fun y=>{ y with low:=[48] })).trans hl91
    obtain ⟨⟨v3,hv3⟩,hz3,hd93,hb93,hf93⟩:=HPUT.out _ _ _ hd92 hl92 2 (.string ⟨([49]:Txt).toArray⟩) (fun y=>{ y with up:=[49] }) (by omega) (fun x=>rfl)
    have b93:=Lib.hid (And.intro (b92.out.1.trans hb93) (b92.out.2.trans hf93))
    have hl93:=(CSt.colSet_len _ i (fun y=>{ y with up:=[49] })).trans hl92
    have HDZ:=Lib.hid hd93
    clear hd91 hb91 hf91 hl91 hd92 hb92 hf92 hl92 hd93 hb93 hf93 hl93 hd8 hl8
    go_wp2_with fail
    go_end0
    exact ⟨rfl,by rw[HE.out];have:=HDZ.out.cr;simp only[CSt.colSet_two]at this;exact this,b93.out.1,b93.out.1.size,b93.out.2⟩
   have n8:(kd == [66,86])=false:=beq_eq_false_iff_ne.2 q8
   have HE:Hid (st.bounds=st6):=by show _=_;rw[hM.out];unfold CSt.boundsEnd;rw[if_neg q0,if_neg q1,if_neg q2,if_neg q3,if_neg q4,if_neg q5,if_neg q6,if_neg q7,if_neg q8]
   clear q0 q1 q2 q3 q4 q5 q6 q7 q8
   go_wp2_with fail
   go_end0
   exact ⟨rfl,by rw[HE.out];exact HD7.out.cr,b7.out.1,b7.out.1.size,b7.out.2⟩
  ·have h01:(st6.e != 0)=true:=by simp[h0]
   have hM:Hid (st.bounds=st6):=by
    show _=_
    unfold CSt.bounds
    dsimp only
    rw[HHD.out]
    have e1:(if k∈longM then st.many [4]else if k∈aloneM then st.many [3]else st.fails true 1)=st1:=H1.out.symm
    have e7:st5.fails o6.isNone 4=st6:=by rw[H7.out,HIS.out];cases o6<;>rfl
    rw[e1,H2.out]
    dsimp only
    rw[H3.out]
    dsimp only
    rw[← H4.out,H6.out]
    dsimp only
    rw[← HO6.out,e7,if_pos h0]
   go_wp2_with fail
   refine bodyPost_ret (results_none rfl _ _ _) rfl ?_
   exact ⟨rfl,by rw[hM.out];exact HD7.out.cr,b7.out.1,b7.out.1.size,b7.out.2⟩
end Go.Proofs.YtjipjfoambbofaaGreatDoor
end
section
namespace Vic
open Go Go.RowKit
noncomputable def CSt.named (st:CSt):CSt:=
 let s:=st.word
 let st:={ s.2 with c:={ s.2.c with name:=s.1 } }
 let st:=st.fails (!st.l.isEmpty) 1
 st.fails (!nameB s.1) 4
theorem empty_len {α:Type}(l:List α):(!l.isEmpty)=decide ((0:Int)<(l.length:Int)):=by
 cases l with
 | nil=>simp
 | cons a b=>simp
theorem empty_nil (l:Txt):l.isEmpty=(l == []):=by cases l<;>rfl
end Vic
namespace Go.Proofs.YtjipjfoambbofaaGreatDoor
open Go.RowKit Vic
theorem core_heads (w:World):Calls Tryz.prog 143 #[] w (fun e w'=>e=.returned (.slice (some ⟨w.heap.size,0,none⟩) 8 8)∧w'=w.alloc (.cells #[.string ⟨#[]⟩,.string ⟨#[78,65,77,69]⟩,.string ⟨#[82,79,87,83]⟩,.string ⟨#[67,79,76,85,77,78,83]⟩,.string ⟨#[82,72,83]⟩,.string ⟨#[82,65,78,71,69,83]⟩,.string ⟨#[66,79,85,78,68,83]⟩,.string ⟨#[69,78,68,65,84,65]⟩] 9)):=by
 go_enter Tryz.func143,Tryz.ntmps143
 go_wp2_with fail
 go_ret
 exact ⟨rfl,rfl⟩
set_option maxRecDepth 100000 in
set_option maxHeartbeats 8000000 in
theorem core_head {B:Nat}{w:World}{r:Nat}{st:CSt}(h:CR B w r st) (hB:B≤w.heap.size) (hat : -1≤st.at_∧st.at_≤7):Calls Tryz.prog 75 #[.pointer (some ⟨r,0,none⟩)] w (Turns B r (.tuple #[]) st.head w):=by
 unfold Turns
 have hr:=h.base
 have hrl:=h.lt
 obtain ⟨w0,hw0⟩:∃ X,X=w.alloc (.cells #[.string ⟨#[]⟩,.string ⟨#[78,65,77,69]⟩,.string ⟨#[82,79,87,83]⟩,.string ⟨#[67,79,76,85,77,78,83]⟩,.string ⟨#[82,72,83]⟩,.string ⟨#[82,65,78,71,69,83]⟩,.string ⟨#[66,79,85,78,68,83]⟩,.string ⟨#[69,78,68,65,84,65]⟩] 9):=⟨_,rfl⟩
 have hb0:Below w.heap.size w w0:=by rw[hw0];exact (Below.refl _ _).alloc (Nat.le_refl _) _
 have hrow0:Row w0 w.heap.size 9 #[.string ⟨#[]⟩,.string ⟨#[78,65,77,69]⟩,.string ⟨#[82,79,87,83]⟩,.string ⟨#[67,79,76,85,77,78,83]⟩,.string ⟨#[82,72,83]⟩,.string ⟨#[82,65,78,71,69,83]⟩,.string ⟨#[66,79,85,78,68,83]⟩,.string ⟨#[69,78,68,65,84,65]⟩]:=by rw[hw0];exact Row.new _ _ _
 have CH:Hid (Calls Tryz.prog 143 #[] w (fun e w'=>e=.returned (.slice (some ⟨w.heap.size,0,none⟩) 8 8)∧w'=w0)):=by rw[hw0];exact core_heads w
 obtain ⟨s,st1,h1⟩:∃ a b,st.word=(a,b):=⟨_,_,rfl⟩
 obtain ⟨k,hk⟩:∃ x,x=idxT headsM s:=⟨_,rfl⟩
 obtain ⟨a1,ha1⟩:∃ x,x=st1.at_:=⟨_,rfl⟩
 obtain ⟨late,hlate⟩:∃ x,x=(a1 == 4 || a1 == 5):=⟨_,rfl⟩
 obtain ⟨ok,hok⟩:∃ x,x=(k == a1+1 || k == 6 && late || k == 7 && (late || a1 == 6)):=⟨_,rfl⟩
 obtain ⟨st2,h2⟩:∃ x,x=st1.fails (!ok || k == 0) 5:=⟨_,rfl⟩
 obtain ⟨st3,h3⟩:∃ x,x=(if k=1∧st2.e=0 then st2.named else st2):=⟨_,rfl⟩
 obtain ⟨st4,h4⟩:∃ x,x=st3.fails (!st3.l.isEmpty) 1:=⟨_,rfl⟩
 obtain ⟨st5,h5⟩:∃ x,x=st4.fails (k == 3 && st4.c.obj.isEmpty) 5:=⟨_,rfl⟩
 have hM:Hid (st.head={ st5 with at_:=k,seen:=[] }):=by
  show _=_
  unfold CSt.head
  dsimp only
  rw[h1,h5,h4,h3,h2,hok,hlate,ha1,hk]
  rfl
 have CA:Hid (Calls Tryz.prog 144 #[.pointer (some ⟨r,0,none⟩)] w0 (fun e w'=>e=.returned (.string ⟨s.toArray⟩)∧CR B w' r st1∧Only r w0 w')):=Lib.hid (by
  have:=core_word (h.keep hb0)
  unfold Worded at this
  rwa [h1]at this)
 have CI:Hid (∀ W v,StrsIn W v headsM→Calls Tryz.prog 142 #[v,.string ⟨s.toArray⟩] W (Rets (.int .i64 k) W)):=Lib.hid fun W v hv=>hk▸idx_str W v headsM s hv (by decide)
 have hk1 : -1≤k∧k<8:=by rw[hk];exact idxT_ge headsM s
 have ha : -1≤a1∧a1≤7:=by
  have z1:st1.at_=st.at_:=by have:=CSt.word_same st;rw[h1]at this;exact this.2.1
  rw[ha1,z1];exact hat
 obtain ⟨hka,hkb⟩:=hk1
 obtain ⟨haa,hab⟩:=ha
 have H0:=Lib.hid h
 have HLATE:=Lib.hid hlate;have HOK:=Lib.hid hok;have H2:=Lib.hid h2;have H3:=Lib.hid h3;have H4:=Lib.hid h4;have H5:=Lib.hid h5;have HA1:=Lib.hid ha1
 have HB0:=Lib.hid hb0
 have HROW:=Lib.hid hrow0
 clear h h1 hk ha1 hlate hok h2 h3 h4 h5 hat hw0 hb0 hrow0
 go_enter Tryz.func75,Tryz.ntmps75
 go_wp2_with fail
 refine CH.out.mono ?_
 rintro e w1 ⟨rfl,rfl⟩
 go_wp2_with fail
 refine CA.out.mono ?_
 rintro e w2 ⟨rfl,hr2,ho2⟩
 have hks:StrsIn w2 (.slice (some ⟨w.heap.size,0,none⟩) 8 8) headsM:=by
  refine ⟨_,_,rfl,Nat.le_refl _,fun i x hx=>⟨w.heap.size,0,rfl,?_⟩⟩
  unfold StrR
  rw[ho2.cell (by omega)]
  rw[show (0:Nat)+i*1=i by omega,HROW.out.cell]
  rcases i with _|_|_|_|_|_|_|_|i<;>simp[headsM]at hx<;>subst hx<;>rfl
 have C3:=Lib.hid (CI.out w2 _ hks)
 have b2:Hid (Below B w w2∧Fr w w2):=Lib.hid ⟨(HB0.out.mono hB).trans (ho2.below hr),(Fr.below HB0.out).trans ((H0.out.keep HB0.out).frame fun g _ hg=>ho2.block g hg)⟩
 have HR2:=Lib.hid hr2
 have hat2:=hr2.atC
 rw[← HA1.out]at hat2
 clear hks ho2 hr2
 go_wp2_with fail
 refine C3.out.mono ?_
 rintro e w' ⟨rfl,rfl⟩
 go_upto_region 1 with fail
 go_cut [3] (fun t wc=>t=.bool late∧w2=wc)
 case first=>
  have hc:(a1 == 4)=true∨((a1 == 4)=false∧(a1 == 5)=true)∨((a1 == 4)=false∧(a1 == 5)=false):=by
   cases a1 == 4<;>cases a1 == 5<;>simp
  rcases hc with c1|⟨c1,c2⟩|⟨c1,c2⟩
  all_goals
   go_wp2_with fail
   go_meet
   exact ⟨by rw[HLATE.out];simp[c1, *],rfl⟩
 case rest=>
  obtain ⟨rfl,rfl⟩:=hcut
  go_upto_region 2 with fail
  go_cut [4] (fun t wc=>t=.bool ok∧w2=wc)
  case first=>
   have hc:(k == a1+1)=true∨((k == a1+1)=false∧(k == 6)=true∧(k == 7)=false)∨((k == a1+1)=false∧(k == 6)=false∧(k == 7)=true∧(a1 == 6)=true)∨((k == a1+1)=false∧(k == 6)=false∧(k == 7)=true∧(a1 == 6)=false)∨((k == a1+1)=false∧(k == 6)=false∧(k == 7)=false):=by
    by_cases c1:k=a1+1
    ·exact .inl (beq_iff_eq.2 c1)
    ·have d1:(k == a1+1)=false:=beq_eq_false_iff_ne.2 c1
     by_cases c6:k=6
     ·exact .inr (.inl ⟨d1,beq_iff_eq.2 c6,beq_eq_false_iff_ne.2 (by omega)⟩)
     ·have d6:(k == 6)=false:=beq_eq_false_iff_ne.2 c6
      by_cases c7:k=7
      ·by_cases c8:a1=6
       ·exact .inr (.inr (.inl ⟨d1,d6,beq_iff_eq.2 c7,beq_iff_eq.2 c8⟩))
       ·exact .inr (.inr (.inr (.inl ⟨d1,d6,beq_iff_eq.2 c7,beq_eq_false_iff_ne.2 c8⟩)))
      ·exact .inr (.inr (.inr (.inr ⟨d1,d6,beq_eq_false_iff_ne.2 c7⟩)))
   cases late
   all_goals
    rcases hc with c1|⟨c1,c6,c7⟩|⟨c1,c6,c7,c8⟩|⟨c1,c6,c7,c8⟩|⟨c1,c6,c7⟩
    all_goals
     go_wp2_with fail
     go_meet
     exact ⟨by rw[HOK.out];simp[*],rfl⟩
  case rest=>
   obtain ⟨rfl,rfl⟩:=hcut
   go_upto_region 3 with fail
   go_cut [] (fun wc=>Hid (CR B wc r st2)∧Hid (Below B w wc∧Fr w wc))
   case first=>
    have hc:(ok=true∧(k == 0)=true)∨(ok=true∧(k == 0)=false)∨ok=false:=by
     cases ok<;>cases k == 0<;>simp
    rcases hc with ⟨c1,c2⟩|⟨c1,c2⟩|c1
    all_goals
     subst c1
     have C:=Lib.hid fun b=>core_fails HR2.out b 5
     go_wp2_with fail
     refine (C.out _).mono ?_
     rintro e w3 ⟨rfl,hr3,ho3,hx⟩
     clear hx
     have HC:Hid (Hid (CR B w3 r st2)∧Hid (Below B w w3∧Fr w w3)):=Lib.hid ⟨Lib.hid (hr3.cast (by rw[H2.out];simp[*])),Lib.hid ⟨b2.out.1.trans (ho3.below hr),b2.out.2.trans (HR2.out.frame fun g _ hg=>ho3.block g hg)⟩⟩
     clear hr3 ho3
     go_wp2_with fail
     go_meet
     exact HC.out
   case rest=>
    obtain ⟨HR3,b3⟩:=hcut
    clear C3 HOK HLATE
    have he3:=HR3.out.eC
    obtain ⟨b4,hb4⟩:∃ x,x=((k == 1) && (st2.e == 0)):=⟨_,rfl⟩
    have HB4:=Lib.hid hb4
    have H3':Hid (st3=if b4=true then st2.named else st2):=by
     show _=_
     rw[H3.out,hb4]
     simp
    clear hb4 H3
    go_upto_region 4 with fail
    go_cut [65] (fun t wd=>t=.bool b4∧wc=wd)
    case first=>
     have hc:((k == 1)=true∧(st2.e == 0)=true)∨((k == 1)=true∧(st2.e == 0)=false)∨(k == 1)=false:=by
      cases k == 1<;>cases st2.e == 0<;>simp
     rcases hc with ⟨c1,c2⟩|⟨c1,c2⟩|c1
     all_goals
      go_wp2_with fail
      go_meet
      exact ⟨by rw[HB4.out];simp[*],rfl⟩
    case rest=>
     obtain ⟨rfl,rfl⟩:=hcut
     clear he3 HB4
     go_upto_if 65 with fail
     go_cut [] (fun wd=>Hid (CR B wd r st3)∧Hid (Below B w wd∧Fr w wd))
     case first=>
      cases b4
      ·have HE:Hid (st3=st2):=by show _=_;rw[H3'.out];rfl
       go_wp2_with fail
       go_meet
       exact ⟨Lib.hid (HR3.out.cast HE.out.symm),b3⟩
      ·obtain ⟨s2,sw,h6⟩:∃ a b,st2.word=(a,b):=⟨_,_,rfl⟩
       obtain ⟨sn,hsn⟩:∃ x,x=({ sw with c:={ sw.c with name:=s2 } }:CSt):=⟨_,rfl⟩
       obtain ⟨sa,hsa⟩:∃ x,x=sn.fails (!sn.l.isEmpty) 1:=⟨_,rfl⟩
       have HE:Hid (st3=sa.fails (!nameB s2) 4):=by
        show _=_
        rw[H3'.out,if_pos rfl]
        unfold CSt.named
        dsimp only
        rw[h6,hsa,hsn]
       have CW:Hid (Calls Tryz.prog 144 #[.pointer (some ⟨r,0,none⟩)] wc (fun e w'=>e=.returned (.string ⟨s2.toArray⟩)∧CR B w' r sw∧Only r wc w'∧OkWord s2)):=Lib.hid (by
        have:=core_word HR3.out
        have hok:=HR3.out.word
        unfold Worded at this
        rw[h6]at this hok
        exact this.mono fun e w' h=>⟨h.1,h.2.1,h.2.2,hok⟩)
       have HSN:=Lib.hid hsn;have HSA:=Lib.hid hsa
       clear h6 hsn hsa H3'
       go_wp2_with fail
       refine CW.out.mono ?_
       rintro e w4 ⟨rfl,hr4,ho4,hok4⟩
       have hn4:=hr4.nameC
       have hf4:=hr4.free 0
       have b4:Hid (Below B w w4∧Fr w w4):=Lib.hid ⟨b3.out.1.trans (ho4.below hr),b3.out.2.trans (HR3.out.frame fun g _ hg=>ho4.block g hg)⟩
       have hr5:CR B (w4.setCell ⟨r,0,none⟩ (.string ⟨s2.toArray⟩)) r sn:=by rw[HSN.out];exact hr4.setName s2
       obtain ⟨A5,c5,hl5,hlc5,_⟩:=hr5.lv
       have b5:Hid (Below B w (w4.setCell ⟨r,0,none⟩ (.string ⟨s2.toArray⟩))∧Fr w (w4.setCell ⟨r,0,none⟩ (.string ⟨s2.toArray⟩))):=Lib.hid ⟨b4.out.1.trans (below_set hr),b4.out.2.trans (hr4.frame fun g _ hg=>set_other _ r 0 _ g hg)⟩
       have HOK4:=Lib.hid hok4
       obtain ⟨w5,hw5⟩:∃ X,X=w4.setCell ⟨r,0,none⟩ (.string ⟨s2.toArray⟩):=⟨_,rfl⟩
       rw[← hw5]at hr5 hl5 b5
       have HR5:=Lib.hid hr5
       have C5:=Lib.hid (fun b=>core_fails hr5 b 1)
       clear hr4 ho4 hr5 CW hok4
       go_upto_region 6 with fail
       rw[← hw5]
       clear hw5 hn4 hf4
       go_wp2_with fail
       refine (C5.out _).mono ?_
       rintro e w6 ⟨rfl,hr6,ho6,hx⟩
       clear hx
       have hr6':CR B w6 r sa:=hr6.cast (by rw[HSA.out,empty_len];simp)
       have hn6:w6.cell? ⟨r,0,none⟩=some (.string ⟨s2.toArray⟩):=by
        have:=hr6'.nameC
        rwa [show sa.c.name=s2 by rw[HSA.out,CSt.fails_c,HSN.out]]at this
       have b6:Hid (Below B w w6∧Fr w w6):=Lib.hid ⟨b5.out.1.trans (ho6.below hr),b5.out.2.trans (HR5.out.frame fun g _ hg=>ho6.block g hg)⟩
       have HR6:=Lib.hid hr6'
       clear hr6 ho6 hr6' C5 hl5 hlc5
       go_wp2_with fail
       refine (words_Name _ _ (Nat.le_trans HOK4.out.1 (by omega))).mono ?_
       rintro e w7 ⟨rfl,hb7⟩
       have HR7:=Lib.hid (HR6.out.keep hb7)
       have b7:Hid (Below B w w7∧Fr w w7):=Lib.hid ⟨b6.out.1.trans (hb7.mono (Nat.le_trans hB b6.out.1.size)),b6.out.2.trans (Fr.below hb7)⟩
       clear hb7
       go_wp2_with fail
       refine (core_fails HR7.out _ 4).mono ?_
       rintro e w8 ⟨rfl,hr8,ho8,hx⟩
       clear hx
       have HC:Hid (Hid (CR B w8 r st3)∧Hid (Below B w w8∧Fr w w8)):=Lib.hid ⟨Lib.hid (hr8.cast HE.out.symm),Lib.hid ⟨b7.out.1.trans (ho8.below hr),b7.out.2.trans (HR7.out.frame fun g _ hg=>ho8.block g hg)⟩⟩
       clear hr8 ho8
       go_wp2_with fail
       go_meet
       exact HC.out
     case rest=>
      obtain ⟨HR8,b8⟩:=hcut
      clear H3' HR3 b3
      obtain ⟨A8,c8,hl8,hlc8,_⟩:=HR8.out.lv
      have C8:=Lib.hid (fun b=>core_fails HR8.out b 1)
      go_wp2_with fail
      refine (C8.out _).mono ?_
      rintro e w9 ⟨rfl,hr9,ho9,hx⟩
      clear hx
      have hr9':CR B w9 r st4:=hr9.cast (by rw[H4.out,empty_len];simp)
      have ho9':=hr9'.objC
      have b9:Hid (Below B w w9∧Fr w w9):=Lib.hid ⟨b8.out.1.trans (ho9.below hr),b8.out.2.trans (HR8.out.frame fun g _ hg=>ho9.block g hg)⟩
      have HR9:=Lib.hid hr9'
      have C9:=Lib.hid (fun b=>core_fails hr9' b 5)
      clear hr9 ho9 hr9' C8 hl8 hlc8
      go_upto_region 9 with fail
      go_cut [] (fun wd=>Hid (CR B wd r st5)∧Hid (Below B w wd∧Fr w wd))
      case first=>
       have hc:((k == 3)=true∧(st4.c.obj == [])=true)∨((k == 3)=true∧(st4.c.obj == [])=false)∨(k == 3)=false:=by
        cases k == 3<;>cases st4.c.obj == []<;>simp
       rcases hc with ⟨c1,c2⟩|⟨c1,c2⟩|c1
       all_goals
        go_wp2_with fail
        refine (C9.out _).mono ?_
        rintro e w10 ⟨rfl,hr10,ho10,hx⟩
        clear hx
        have HC:Hid (Hid (CR B w10 r st5)∧Hid (Below B w w10∧Fr w w10)):=Lib.hid ⟨Lib.hid (hr10.cast (by rw[H5.out,empty_nil];simp only[*];rfl)),Lib.hid ⟨b9.out.1.trans (ho10.below hr),b9.out.2.trans (HR9.out.frame fun g _ hg=>ho10.block g hg)⟩⟩
        clear hr10 ho10
        go_wp2_with fail
        go_meet
        exact HC.out
      case rest=>
       obtain ⟨HR10,b10⟩:=hcut
       clear C9 ho9' HR9 b9 HR8 b8
       have ha10:=HR10.out.atC
       have hf10:=HR10.out.free 4
       have HRA:=Lib.hid (HR10.out.setAt k)
       obtain ⟨ms,w11,hm11,hcl11,hcr11,hb11,hs11,hf11⟩:=cr_clearS HRA.out 0
       have b11:Hid (Below B w w11∧Fr w w11):=Lib.hid ⟨(b10.out.1.trans (below_set (p:=⟨r,4,none⟩) (u:=.int .i64 k) hr)).trans hb11,(b10.out.2.trans (HR10.out.frame fun g _ hg=>set_other _ r 4 (.int .i64 k) g hg)).trans hf11⟩
       have hfin:Hid (CR B w11 r st.head):=Lib.hid (hcr11.cast hM.out.symm)
       clear hcr11 hb11 hs11 hf11
       go_wp2_with fail
       go_end0
       exact ⟨rfl,hfin.out,b11.out.1,b11.out.1.size,b11.out.2⟩
end Go.Proofs.YtjipjfoambbofaaGreatDoor
end
