/- Package write: Time. -/
import Derived.Test.YtbdfhnelmojbpaaGreatDoorWat
import Derived.Deep.LoopGhost
import Derived.Deep.DeepCutAuto
import Derived.Deep.CutBlock
import Derived.Test.YtbdfhnelmojbpaaGreatDoorWaq
import Derived.Deep.RegionHeld3
import Derived.Test.YtbdfhnelmojbpaaGreatDoorWap
import Derived.Shelf.Strconv.AtoiAll
import Derived.MapKept
import Derived.Test.YtbdfhnelmojbpaaGreatDoorShelf
import Derived.Shelf.SlSortCmp.SmallK
import Derived.Deep.QuietTactic
import Derived.BigQuiet
import Derived.BigRegion
import Derived.Lib.SliceRun
import Derived.Test.YtbdfhnelmojbpaaGreatDoorTextCut
import Derived.Shelf.Strings.SlTrimAscii
import Derived.Lib.AtoiErrMem
import Derived.Laws.RangeString
import Derived.Lib.IndexAny
set_option linter.unusedVariables false
set_option linter.unusedSimpArgs false
section
namespace Vic
open Go Go.RowKit
def timeTo (name:Txt) (ps:List PerM):Txt:=lineT [timeT,name] ++ (lineT [periodsT] ++ ps.flatMap fun p=>lineT (perWords p))
theorem timeTo_snoc (name:Txt) (ps:List PerM) (p:PerM):timeTo name (ps ++ [p])=timeTo name ps ++ lineT (perWords p):=by
 unfold timeTo
 simp[List.flatMap_append]
theorem timeTo_end (name:Txt) (ps:List PerM):timeTo name ps ++ lineT [endataT]=timeText name ps:=by
 unfold timeTo timeText timeLines
 rw[textOf_app,textOf_app]
 simp[textOf,lineT,List.flatMap_map]
def timeBad (name:Txt) (n:Nat) (ps:List PerM):Bool:=!nameB name || decide (20<n) || ps.any fun p=>!okPer p
theorem lineT_len (l:List Txt) (m:Nat) (h:∀ s∈l,s.length≤m):(joinT l).length≤l.length*(m+1)∧(lineT l).length≤l.length*(m+1)+1:=by
 have h1:(joinT l).length≤l.length*(m+1):=by
  induction l with
  | nil=>simp[joinT]
  | cons a l ih=>
    cases l with
    | nil=>
      have:=h a (by simp)
      simp[joinT];omega
    | cons b l=>
      have h2:=h a (by simp)
      have h3:=ih fun s hs=>h s (by simp only[List.mem_cons]at hs ⊢;exact .inr hs)
      rw[show joinT (a :: b :: l)=a ++ 32 :: joinT (b :: l)from rfl,List.length_append,List.length_cons,List.length_cons,Nat.add_mul]
      omega
 refine ⟨h1,?_⟩
 unfold lineT
 rw[List.length_append]
 simp;omega
theorem timeTo_len (name:Txt) (hn:name.length≤2000000):∀ (ps:List PerM),(∀ p∈ps,p.1.length≤2000000∧p.2.1.length≤2000000∧p.2.2.length≤2000000)→(timeTo name ps).length≤5000000+ps.length*9000000
 | [],_=>by
   unfold timeTo
   simp[lineT,joinT,timeT,periodsT];omega
 | p :: ps,h=>by
   obtain ⟨h1,h2,h3⟩:=h p (by simp)
   have ih:=timeTo_len name hn ps fun q hq=>h q (by simp[hq])
   unfold timeTo at ih ⊢
   rw[List.flatMap_cons,List.length_cons,Nat.add_mul]
   simp only[List.length_append]at ih ⊢
   have:(lineT (perWords p)).length≤9000000:=by
    simp[lineT,perWords,joinT];omega
   omega
end Vic
namespace Go.Proofs.YtbdfhnelmojbpaaGreatDoor
open Go.RowKit Vic
set_option maxRecDepth 100000 in
set_option maxHeartbeats 8000000 in
theorem write_Time (w:World) (name:Txt) (u:Value) (ps:List PerM) (hn:name.length≤2000000) (hu:PersIn w u ps) (hpl:ps.length≤1000) (hps:∀ p∈ps,p.1.length≤2000000∧p.2.1.length≤2000000∧p.2.2.length≤2000000) :
 Calls Tryz.prog 15 #[.string ⟨name.toArray⟩,u] w (Keeps (.tuple #[.string ⟨(if timeBad name ps.length ps then []else timeText name ps).toArray⟩,.bool (!timeBad name ps.length ps)]) w):=by
 obtain ⟨pA,pc,rfl,hpc,hcell⟩:=hu
 have CN:=Lib.hid (fun W s (hs:s.length≤2000000)=>words_Name W s (by omega))
 have HC:=Lib.hid hcell;have HPS:=Lib.hid hps
 clear hcell hps
 obtain ⟨b0,hb0⟩:∃ b,b=(!nameB name || decide (20<ps.length)):=⟨_,rfl⟩
 have HBAD:Hid (∀ qs,timeBad name ps.length qs=(b0 || qs.any fun p=>!okPer p)):=Lib.hid fun qs=>by rw[hb0];rfl
 obtain ⟨res,hres⟩:∃ V,V=Value.tuple #[.string ⟨(if timeBad name ps.length ps then []else timeText name ps).toArray⟩,.bool (!timeBad name ps.length ps)]:=⟨_,rfl⟩
 rw[← hres]
 have HRES:=Lib.hid hres
 have CN0:=Lib.hid (CN.out w name hn)
 obtain ⟨n0,hn0⟩:∃ x,x=nameB name:=⟨_,rfl⟩
 rw[← hn0]at hb0 CN0
 have HB0:=Lib.hid hb0
 clear hb0 hn0 hres
 go_enter Tryz.func15,Tryz.ntmps15
 go_upto_region 1 with fail
 go_cut [6] (fun t wc=>∃ b,t=.pointer (some ⟨b,0,none⟩)∧Hid (FileIn wc w.heap.size b b0 [])∧Hid (Below w.heap.size w wc))
 case first=>
  have hfile:∀ w1,Below w.heap.size w w1→∀ q:Bool,q=b0→FileIn (w1.alloc (.cells #[.pointer none,.slice none 0 0,.bool q] 122)) w.heap.size w1.heap.size b0 []:=fun w1 h1 q hq=>by
   subst hq
   exact .inl ⟨h1.size,_,Row.new _ _ _,World.ownsRow_nil _ _ _ _⟩
  have HFL:=Lib.hid hfile
  have hall:∀ w1,Below w.heap.size w w1→∀ o,Below w.heap.size w (w1.alloc o):=fun w1 h1 o=>h1.alloc h1.size o
  have HAL:=Lib.hid hall
  clear hfile hall
  cases n0
  ·go_wp2_with fail
   refine CN0.out.mono ?_
   rintro e w1 ⟨rfl,h1⟩
   have F1:=Lib.hid (HFL.out w1 h1 true (by rw[HB0.out];rfl))
   have A1:=Lib.hid (HAL.out w1 h1 (.cells #[.pointer none,.slice none 0 0,.bool true] 122))
   go_wp2_with fail
   go_meet
   exact ⟨_,rfl,F1,A1⟩
  ·go_wp2_with fail
   refine CN0.out.mono ?_
   rintro e w1 ⟨rfl,h1⟩
   have F1:=Lib.hid (HFL.out w1 h1 (decide ((20:Int)<(ps.length:Int))) (by rw[HB0.out];simp only[Bool.not_true,Bool.false_or];rw[decide_eq_decide];omega))
   have A1:=Lib.hid (HAL.out w1 h1 (.cells #[.pointer none,.slice none 0 0,.bool (decide ((20:Int)<(ps.length:Int)))] 122))
   go_wp2_with fail
   go_meet
   exact ⟨_,rfl,F1,A1⟩
 case rest=>
  obtain ⟨b,rfl,HF,HB⟩:=hcut
  have hal:Below wc.heap.size wc (wc.alloc (.cells #[.string ⟨#[84,73,77,69]⟩,.string ⟨name.toArray⟩] 9)):=(Below.refl _ _).alloc (Nat.le_refl _) _
  have C1:=Lib.hid (file_line w.heap.size b b0 [] (wc.alloc (.cells #[.string ⟨#[84,73,77,69]⟩,.string ⟨name.toArray⟩] 9)) wc.heap.size 0 2 [timeT,name] (fun j x hx=>by
   have r:=Row.new wc 9 #[.string ⟨#[84,73,77,69]⟩,.string ⟨name.toArray⟩]
   rcases j with _|_|j
   ·cases hx;exact r.cell 0
   ·cases hx;exact r.cell 1
   ·simp at hx) (by simp) (by simp) (by simp) (HF.out.keep hal) (by simp) (by simp[joinT,timeT];omega) (Nat.le_trans HB.out.size hal.size))
  have HB1:=Lib.hid (HB.out.trans (hal.mono HB.out.size))
  clear hal HF HB
  go_wp2_with fail
  refine C1.out.mono ?_
  rintro e w2 ⟨rfl,hf2,hb2⟩
  have HB2:=Lib.hid (HB1.out.trans hb2)
  have hal:Below w2.heap.size w2 (w2.alloc (.cells #[.string ⟨#[80,69,82,73,79,68,83]⟩] 9)):=(Below.refl _ _).alloc (Nat.le_refl _) _
  have C2:=Lib.hid (file_line w.heap.size b b0 ([] ++ lineT [timeT,name]) (w2.alloc (.cells #[.string ⟨#[80,69,82,73,79,68,83]⟩] 9)) w2.heap.size 0 1 [periodsT] (fun j x hx=>by
   have r:=Row.new w2 9 #[.string ⟨#[80,69,82,73,79,68,83]⟩]
   rcases j with _|j
   ·cases hx;exact r.cell 0
   ·simp at hx) (by simp) (by simp) (by simp) (hf2.keep hal) (by simp[lineT,joinT,timeT];omega) (by simp[joinT,periodsT]) (Nat.le_trans HB2.out.size hal.size))
  have HB3:=Lib.hid (HB2.out.trans (hal.mono HB2.out.size))
  clear hal hf2 hb2 C1 HB1
  go_wp2_with fail
  refine C2.out.mono ?_
  rintro e w3 ⟨rfl,hf3,hb3⟩
  have HB4:=Lib.hid (HB3.out.trans hb3)
  have HF3:Hid (FileIn w3 w.heap.size b b0 (timeTo name [])):=Lib.hid ((show [] ++ lineT [timeT,name] ++ lineT [periodsT]=timeTo name [] by simp[timeTo])▸hf3)
  clear hf3 hb3 C2 HB2 HB3
  go_wp2_with fail
  go_loopg [28] ps.length (fun g t wr=>∃ k:Nat,t=.int .i64 k∧k+g=ps.length∧Hid (FileIn wr w.heap.size b (b0 || (ps.take k).any fun p=>!okPer p) (timeTo name (ps.take k)))∧Hid (Below w.heap.size w wr))
  case atStart=>exact ⟨0,rfl,by omega,by simpa using HF3,HB4⟩
  case round=>
   obtain ⟨k,rfl,hk,HFR,HBR⟩:=hrel
   by_cases hlt:k<ps.length
   ·obtain ⟨p,hp⟩:∃ p,ps[k]?=some p:=⟨ps[k],by simp[hlt]⟩
    obtain ⟨g,o,rfl,e0,e1,e2⟩:=HC.out k p hp
    obtain ⟨l1,l2,l3⟩:=HPS.out p (List.mem_of_getElem? hp)
    have htl:=timeTo_len name hn (ps.take k) fun q hq=>HPS.out q (List.mem_of_mem_take hq)
    rw[List.length_take]at htl
    have HTK:Hid (ps.take (k+1)=ps.take k ++ [p]):=Lib.hid (by rw[List.take_add_one,hp];rfl)
    obtain ⟨bk,hbk⟩:∃ x,x=(b0 || (ps.take k).any fun p=>!okPer p):=⟨_,rfl⟩
    rw[← hbk]at HFR
    obtain ⟨T,hT⟩:∃ T,T=timeTo name (ps.take k):=⟨_,rfl⟩
    rw[← hT]at HFR htl
    have HBK:Hid ((b0 || (ps.take (k+1)).any fun p=>!okPer p)=(bk || !okPer p)):=Lib.hid (by rw[HTK.out,hbk];simp[Bool.or_assoc])
    have HT:Hid (timeTo name (ps.take (k+1))=T ++ lineT (perWords p)):=Lib.hid (by rw[HTK.out,timeTo_snoc,hT])
    obtain ⟨s0,s1,s2⟩:=p
    dsimp only at e0 e1 e2 l1 l2 l3
    have d0:=cell_keep e0 HBR.out;have d1:=cell_keep e1 HBR.out;have d2:=cell_keep e2 HBR.out
    obtain ⟨n1,hn1⟩:∃ x,x=nameB s0:=⟨_,rfl⟩
    obtain ⟨n2,hn2⟩:∃ x,x=nameB s1:=⟨_,rfl⟩
    obtain ⟨n3,hn3⟩:∃ x,x=nameB s2:=⟨_,rfl⟩
    have HOK:Hid (okPer (s0,s1,s2)=(n1 && n2 && n3)):=Lib.hid (by rw[hn1,hn2,hn3];rfl)
    have K1:=Lib.hid (fun W=>CN.out W s0 l1)
    have K2:=Lib.hid (fun W=>CN.out W s1 l2)
    have K3:=Lib.hid (fun W=>CN.out W s2 l3)
    rw[← hn1]at K1;rw[← hn2]at K2;rw[← hn3]at K3
    obtain ⟨w1,hw1⟩:∃ X,X=wr.alloc (.cells #[.string ⟨s0.toArray⟩,.string ⟨s1.toArray⟩,.string ⟨s2.toArray⟩] 44):=⟨_,rfl⟩
    have h1:Below wr.heap.size wr w1:=by rw[hw1];exact (Below.refl _ _).alloc (Nat.le_refl _) _
    have r1:Row w1 wr.heap.size 44 #[.string ⟨s0.toArray⟩,.string ⟨s1.toArray⟩,.string ⟨s2.toArray⟩]:=by rw[hw1];exact Row.new _ _ _
    have HF1:=Lib.hid (HFR.out.keep h1)
    have HB1:=Lib.hid (HBR.out.trans (h1.mono HBR.out.size))
    have R1:=Lib.hid r1
    have HNE:Hid (wr.heap.size≠b):=Lib.hid (by have:=HFR.out.cell2.2.2.2;omega)
    have HK:=Lib.hid hk;have HLT:=Lib.hid hlt
    have hkb:k≤1000:=by omega
    clear e0 e1 e2 hp hbk hT hn1 hn2 hn3 h1 r1 HFR HBR hk HTK
    go_upto_region 7 with fail
    rw[← hw1]
    clear hw1 d0 d1 d2 hlt
    obtain ⟨bx,hbx⟩:∃ b,b=wr.heap.size:=⟨_,rfl⟩
    rw[← hbx]at R1 HNE ⊢
    clear hbx
    go_cut [8] (fun t wc=>t=.pointer (some ⟨bx,0,none⟩)∧Hid (FileIn wc w.heap.size b (bk || !okPer (s0,s1,s2)) T)∧Hid (Below w.heap.size w wc)∧Hid (Row wc bx 44 #[.string ⟨s0.toArray⟩,.string ⟨s1.toArray⟩,.string ⟨s2.toArray⟩]))
    case first=>
     have hfin:∀ W (q:Bool),Below w1.heap.size w1 W→q=(bk || !okPer (s0,s1,s2))→Hid (FileIn (W.setCell ⟨b,2,none⟩ (.bool q)) w.heap.size b (bk || !okPer (s0,s1,s2)) T)∧Hid (Below w.heap.size w (W.setCell ⟨b,2,none⟩ (.bool q)))∧Hid (Row (W.setCell ⟨b,2,none⟩ (.bool q)) bx 44 #[.string ⟨s0.toArray⟩,.string ⟨s1.toArray⟩,.string ⟨s2.toArray⟩]):=fun W q hW hq=>by
      subst hq
      have hf:=HF1.out.keep hW
      exact ⟨Lib.hid (hf.flag _),Lib.hid ((HB1.out.trans (hW.mono HB1.out.size)).setCell (p:=⟨b,2,none⟩) hf.cell2.2.2.1 _),Lib.hid ((R1.out.keep hW).far HNE.out _)⟩
     have hcl:∀ W,Below w1.heap.size w1 W→W.cell? ⟨b,2,none⟩=some (.bool bk)∧W.frozen? ⟨b,2,none⟩=false∧W.cell? ⟨bx,0,none⟩=some (.string ⟨s0.toArray⟩)∧W.cell? ⟨bx,1,none⟩=some (.string ⟨s1.toArray⟩)∧W.cell? ⟨bx,2,none⟩=some (.string ⟨s2.toArray⟩):=fun W hW=>by
      have hf:=(HF1.out.keep hW).cell2
      have r:=R1.out.keep hW
      exact ⟨hf.1,hf.2.1,r.cell 0,r.cell 1,r.cell 2⟩
     have HFIN:=Lib.hid hfin;have HCL:=Lib.hid hcl
     clear hfin hcl
     obtain ⟨a0,a1,a2,a3,a4⟩:=HCL.out w1 (Below.refl _ _)
     cases bk
     ·go_wp2_with fail
      refine (K1.out _).mono ?_
      rintro e w2 ⟨rfl,h2⟩
      obtain ⟨b0',b1',b2',b3',b4'⟩:=HCL.out w2 h2
      have H2:=Lib.hid h2
      clear h2 a0 a1 a2 a3 a4
      cases n1
      ·have FF:=HFIN.out w2 true H2.out (by rw[HOK.out];rfl)
       go_wp2_with fail
       go_meet
       exact ⟨rfl,FF⟩
      ·go_wp2_with fail
       refine (K2.out _).mono ?_
       rintro e w3 ⟨rfl,h3⟩
       have H3:=Lib.hid (below_seq H2.out h3)
       obtain ⟨c0,c1,c2,c3,c4⟩:=HCL.out w3 H3.out
       clear h3 b0' b1' b2' b3' b4'
       cases n2
       ·have FF:=HFIN.out w3 true H3.out (by rw[HOK.out];rfl)
        go_wp2_with fail
        go_meet
        exact ⟨rfl,FF⟩
       ·go_wp2_with fail
        refine (K3.out _).mono ?_
        rintro e w4 ⟨rfl,h4⟩
        have H4:=Lib.hid (below_seq H3.out h4)
        obtain ⟨f0,f1,f2,f3,f4⟩:=HCL.out w4 H4.out
        have FF:=HFIN.out w4 (!n3) H4.out (by rw[HOK.out];cases n3<;>rfl)
        clear h4 c0 c1 c2 c3 c4
        cases n3
        all_goals
         go_wp2_with fail
         go_meet
         exact ⟨rfl,FF⟩
     ·have FF:=HFIN.out w1 true (Below.refl _ _) (by rfl)
      go_wp2_with fail
      go_meet
      exact ⟨rfl,FF⟩
    case rest=>
     obtain ⟨rfl,HF2,HB2,R2⟩:=hcut
     have a2:wc.cell? ⟨bx,0,none⟩=some (.string ⟨s0.toArray⟩):=R2.out.cell 0
     have a3:wc.cell? ⟨bx,1,none⟩=some (.string ⟨s1.toArray⟩):=R2.out.cell 1
     have a4:wc.cell? ⟨bx,2,none⟩=some (.string ⟨s2.toArray⟩):=R2.out.cell 2
     have hal:Below wc.heap.size wc (wc.alloc (.cells #[.string ⟨#[]⟩,.string ⟨s0.toArray⟩,.string ⟨s1.toArray⟩,.string ⟨s2.toArray⟩] 9)):=(Below.refl _ _).alloc (Nat.le_refl _) _
     have CL:=Lib.hid (file_line w.heap.size b (bk || !okPer (s0,s1,s2)) T (wc.alloc (.cells #[.string ⟨#[]⟩,.string ⟨s0.toArray⟩,.string ⟨s1.toArray⟩,.string ⟨s2.toArray⟩] 9)) wc.heap.size 0 4 (perWords (s0,s1,s2)) (fun j x hx=>by
      have r:=Row.new wc 9 #[.string ⟨#[]⟩,.string ⟨s0.toArray⟩,.string ⟨s1.toArray⟩,.string ⟨s2.toArray⟩]
      rcases j with _|_|_|_|j
      ·cases hx;exact r.cell 0
      ·cases hx;exact r.cell 1
      ·cases hx;exact r.cell 2
      ·cases hx;exact r.cell 3
      ·simp[perWords]at hx) (by simp) (by simp[perWords]) (by simp[perWords]) (HF2.out.keep hal) (by omega) (by simp[joinT,perWords];omega) (Nat.le_trans HB2.out.size hal.size))
     have HB3:=Lib.hid (HB2.out.trans (hal.mono HB2.out.size))
     clear hal HF2 HB2 K1 K2 K3 HOK
     go_wp2_with fail
     refine CL.out.mono ?_
     rintro e w5 ⟨rfl,hf5,hb5⟩
     have HF5:=Lib.hid hf5
     have HB5:=Lib.hid (HB3.out.trans hb5)
     clear hf5 hb5 a2 a3 a4
     go_wp2_with fail
     go_roundg (gk - 1)
     case measure=>have:=HK.out;have:=HLT.out;omega
     case rel=>exact ⟨k+1,by go_num,by have:=HK.out;have:=HLT.out;omega,Lib.hid (by rw[HBK.out,HT.out];exact HF5.out),HB5⟩
   ·obtain rfl:k=ps.length:=by omega
    rw[List.take_length]at HFR
    have htl:=timeTo_len name hn ps HPS.out
    have hal:Below wr.heap.size wr (wr.alloc (.cells #[.string ⟨#[69,78,68,65,84,65]⟩] 9)):=(Below.refl _ _).alloc (Nat.le_refl _) _
    have hbe:=HBAD.out ps
    rw[← hbe]at HFR
    have CL:=Lib.hid (file_line w.heap.size b (timeBad name ps.length ps) (timeTo name ps) (wr.alloc (.cells #[.string ⟨#[69,78,68,65,84,65]⟩] 9)) wr.heap.size 0 1 [endataT] (fun j x hx=>by
     have r:=Row.new wr 9 #[.string ⟨#[69,78,68,65,84,65]⟩]
     rcases j with _|j
     ·cases hx;exact r.cell 0
     ·simp at hx) (by simp) (by simp) (by simp) (HFR.out.keep hal) (by omega) (by simp[joinT,endataT]) (Nat.le_trans HBR.out.size hal.size))
    have HB3:=Lib.hid (HBR.out.trans (hal.mono HBR.out.size))
    clear hal hk hbe HFR HBR
    go_wp2_with fail
    refine CL.out.mono ?_
    rintro e w5 ⟨rfl,hf5,hb5⟩
    rw[timeTo_end]at hf5
    have HB5:=Lib.hid (HB3.out.trans hb5)
    have CT:=Lib.hid (file_told w.heap.size b (timeBad name ps.length ps) (timeText name ps) w5 hf5 (by rw[← timeTo_end];simp[lineT]) HB5.out.size)
    clear hf5 hb5 CL htl hlt
    obtain ⟨tb,htb⟩:∃ x,x=timeBad name ps.length ps:=⟨_,rfl⟩
    rw[← htb]at CT HRES
    obtain ⟨TT,hTT⟩:∃ x,x=(if tb then []else timeText name ps):=⟨_,rfl⟩
    rw[← hTT]at CT HRES
    clear htb hTT
    go_wp2_with fail
    refine CT.out.mono ?_
    rintro e w6 ⟨rfl,hb6⟩
    go_wp2_with fail
    go_ret2
    exact ⟨by rw[HRES.out];rfl,HB5.out.trans hb6⟩
end Go.Proofs.YtbdfhnelmojbpaaGreatDoor
end
section
namespace Vic
open Go Go.RowKit
abbrev LineV:=LineM × Value
def encLine (x:LineV):List Value:=[.int .i64 (x.1.no:Nat),.bool x.1.head,x.2]
theorem encLine_len (x:LineV):(encLine x).length=3:=rfl
structure LinesOwn (w:World) (B:Nat) (v:Value) (lvs:List LineV):Prop where
 own:Own w B 90 3 v lvs.length (lvs.flatMap encLine)
 words:∀ x∈lvs,StrsTy w x.2 x.1.words
theorem LinesOwn.keep {w w':World}{B:Nat}{v:Value}{lvs:List LineV}(h:LinesOwn w B v lvs) (hb:Below w.heap.size w w'):LinesOwn w' B v lvs:=⟨h.own.keep hb,fun x hx=>(h.words x hx).keep StrTy.firm hb⟩
theorem LinesOwn.in_ {w:World}{B:Nat}{v:Value}{lvs:List LineV}(h:LinesOwn w B v lvs):LinesIn w v (lvs.map (·.1)):=by
 have hs:SlIn (fun w g o (x:LineV)=>LineR w g o x.1) 3 w v lvs:=h.own.slIn encLine_len fun g i x hx hc=>by
  refine ⟨x.2,?_,?_,?_,(h.words x (List.mem_of_getElem? hx)).strs⟩
  ·have:=hc 0 _ rfl;simpa using this
  ·exact hc 1 _ rfl
  ·exact hc 2 _ rfl
 obtain ⟨A,c,h1,h2,h3⟩:=hs
 refine ⟨A,c,by simpa using h1,by simpa using h2,fun i x hx=>?_⟩
 rw[List.getElem?_map]at hx
 cases hv:lvs[i]? with
 | none=>rw[hv]at hx;simp at hx
 | some y=>
   rw[hv]at hx
   simp only[Option.map_some,Option.some.injEq]at hx
   subst hx
   exact h3 i y hv
theorem LinesOwn.add {w w':World}{B:Nat}{v v':Value}{lvs:List LineV}(h:LinesOwn w B v lvs) (x:LineV) (hx:StrsTy w x.2 x.1.words) (ho:Own w' B 90 3 v' (lvs.length+1) (lvs.flatMap encLine ++ encLine x)) (hg:w.grownBy w' v.ownBlock):LinesOwn w' B v' (lvs ++ [x]):=by
 have hs:∀ (sv:Value) (l:List Txt),StrsTy w sv l→StrsTy w' sv l:=fun sv l hl=>hl.imp fun g o s _ ⟨⟨cur,fr,hb⟩,k⟩=>by
  have:w'.heap[g]?=w.heap[g]?:=hg.block g (block_lt k) fun e=>by
   obtain ⟨cur',hc'⟩:=h.own.typed e.symm
   rw[hb]at hc'
   injection hc' with hc'
   injection hc' with _ h2 _
   exact absurd h2 (by decide)
  exact ⟨⟨cur,fr,this.trans hb⟩,by show w'.cell? _=_;simp only[World.cell?,this];exact k⟩
 refine ⟨by simpa using ho,fun y hy=>?_⟩
 rcases List.mem_append.1 hy with hy|hy
 ·exact hs _ _ (h.words y hy)
 ·simp at hy;subst hy;exact hs _ _ hx
def WordsGot (t:Txt) (w:World) (e:Ending) (w':World):Prop:=∃ v,e=.returned (.tuple #[v,.int .i64 ((wordsGet t).2.1:Nat),.int .i64 (wordsGet t).2.2])∧LinesIn w' v (wordsGet t).1∧Below w.heap.size w w'
theorem look_ascii {s:Txt}(h:lookB s=0):∀ c∈s,c.toNat<128:=by
 intro c hc
 unfold lookB at h
 split at h
 ·cases h
 ·split at h
  ·cases h
  ·rename_i h2
   have h3:(trimCr s).any badL=false:=by simpa using h2
   by_cases h13:c=13
   ·subst h13;decide
   ·have hm:c∈trimCr s:=by
     unfold trimCr Lib.trimSuffix
     split
     ·rename_i hs
      obtain ⟨t,ht⟩:=List.isSuffixOf_iff_suffix.1 hs
      rw[← ht]at hc ⊢
      simp at hc ⊢
      rcases hc with hc|hc
      ·exact hc
      ·exact absurd hc h13
     ·exact hc
    have:=List.any_eq_false.1 h3 c hm
    unfold badL at this
    simp only[Bool.or_eq_true,not_or,decide_eq_true_eq,UInt8.lt_iff_toNat_lt]at this
    have:=this.1
    have e:(126:UInt8).toNat=126:=rfl
    omega
theorem get_step {no:Nat}{t:Txt}{acc:List LineM}(h:t≠[]) :
 getFrom no (spl t) acc=if 2500<no then ([],no,6)else if lookB (cutNl t).1≠0 then ([],no,lookB (cutNl t).1)else getFrom (no+1) (spl (cutNl t).2) (acc ++ lineOf no (cutNl t).1):=by
 rw[(spl_cut h).1];rfl
end Vic
namespace Go.Proofs.YtbdfhnelmojbpaaGreatDoor
open Go.RowKit Vic
theorem info_Line0:(Tryz.prog.info? 90).map (fun i=>(i.zero,i.size,i.bytes))=some (some (.agg #[.int .i64 0,.bool false,.slice none 0 0]),3,40):=by kernel_rfl
theorem info_Line:∃ i:TypeInfo,Tryz.prog.info? 90=some i∧i.zero=some (.agg #[.int .i64 0,.bool false,.slice none 0 0])∧i.size=3∧i.bytes=40:=by
 have h:=info_Line0
 cases hi:Tryz.prog.info? 90 with
 | none=>rw[hi]at h;simp at h
 | some i=>rw[hi]at h;simp at h;exact ⟨i,rfl,h.1,h.2.1,h.2.2⟩
set_option maxRecDepth 100000 in
set_option maxHeartbeats 8000000 in
theorem words_Get (w:World) (t:Txt) (ht:Tab w) (hs:t.length≤4294967280):Calls Tryz.prog 20 #[.string ⟨t.toArray⟩] w (WordsGot t w):=by
 unfold WordsGot
 have HT:=Lib.hid ht
 have HR:Hid (wordsGet t=getFrom (0+1) (spl t) (([]:List LineV).map (·.1))):=rfl
 generalize wordsGet t=R at *
 have HS:=Lib.hid hs
 obtain ⟨i1,hi1,hz1,hsz1,hby1⟩:=info_Line
 clear ht hs
 go_enter Tryz.func20,Tryz.ntmps20
 go_wp2_with fail
 go_loopw [0,5,6] (fun tv v nv wr=>∃ (s:Txt) (k:Nat) (lvs:List LineV) (vv:Value),tv=.string ⟨s.toArray⟩∧vv=v∧nv=.int .i64 ((k:Int)+1)∧k≤2500∧lvs.length≤k∧Hid (s.length≤4294967280)∧Hid (R=getFrom (k+1) (spl s) (lvs.map (·.1)))∧Hid (LinesOwn wr w.heap.size vv lvs)∧Below w.heap.size w wr) (fun tv _ _ _=>strLen tv)
 case atStart=>exact ⟨t,0,[],_,rfl,rfl,rfl,by omega,Nat.le_refl _,HS,HR,⟨OwnK.nil_ _ _ _ _ _,fun x hx=>by simp at hx⟩,Below.refl _ _⟩
 case round=>
  obtain ⟨s,k,lvs,vv,rfl,rfl,rfl,hk,hlk,hsl,hR,hown,hbr⟩:=hrel
  by_cases hne:s = []
  ·subst hne
   have HE:Hid (R=(lvs.map (·.1),0,0)):=hR.out
   go_wp2_with fail
   go_ret3
   exact ⟨vv,by rw[HE.out];rfl,by rw[HE.out];exact hown.out.in_,hbr⟩
  ·have hse:s.isEmpty=false:=by
    cases s with
    | nil=>exact absurd rfl hne
    | cons a b=>rfl
   obtain ⟨hc1,hc2,hc3⟩:=spl_cut hne
   have CC:=Lib.hid (strings_Cut wr (HT.out.keep hbr) s [10] (by have:=hsl.out;omega))
   have hR2:=hR.out.trans (get_step hne)
   have hll:(cutNl s).1.length≤s.length:=cut_len1 s [10]
   unfold cutNl at hc1 hc2 hc3 hR2 hll
   generalize Lib.cut s [10]=ct at *
   obtain ⟨a,b,fd⟩:=ct
   simp only at hc1 hc2 hc3 hR2 hll CC
   have HR2:=Lib.hid hR2
   have HC2:=Lib.hid hc2
   have HLL:=Lib.hid hll
   clear hne hc1 hc3 hR hR2 hc2 hll
   go_wp2_with fail
   refine CC.out.mono ?_
   rintro e w1 ⟨rfl,hb1⟩
   have B1:=hbr.trans (hb1.mono hbr.size)
   by_cases hk2:2500<k+1
   ·have HE:Hid (R=([],k+1,6)):=by
     have:=HR2.out
     rwa [if_pos hk2]at this
    go_wp2_with fail
    go_ret3
    exact ⟨_,by rw[HE.out];rfl,by rw[HE.out];exact SlIn.nil_ _ _ _,B1⟩
   ·have hR3:=HR2.out
    rw[if_neg hk2]at hR3
    have HR3:=Lib.hid hR3
    have CL:=Lib.hid (words_look w1 a (by have:=hsl.out;have:=HLL.out;omega))
    have HAS:=Lib.hid (look_ascii (s:=a))
    generalize lookB a=r at *
    clear HR2 hR3
    have hk3:(k:Int)+1≤2500:=by omega
    go_wp2_with fail
    refine CL.out.mono ?_
    rintro e w2 ⟨rfl,hb2⟩
    have B2:=B1.trans (hb2.mono B1.size)
    by_cases hr:r=0
    ·subst hr
     have hR4:=HR3.out
     rw[if_neg (by simp)]at hR4
     have HR4:=Lib.hid hR4
     have CF:=Lib.hid (strings_FieldsFunc w2 a (by have:=hsl.out;have:=HLL.out;omega) (HAS.out rfl))
     clear HR3 hR4
     go_wp2_with fail
     refine CF.out.mono ?_
     rintro e w3 ⟨fv,rfl,⟨hfs,fa,fc,rfl⟩,hb3⟩
     have B3:=B2.trans (hb3.mono B2.size)
     have HF:=Lib.hid hfs
     clear hfs
     have hff:=Lib.hid (show lineOf (k+1) a=if fieldsB a = []∨a.head?=some 42 then []else [⟨k+1,a.head? != some 32 && a.head? != some 9,fieldsB a⟩]from rfl)
     have hfn:Hid ((fieldsB a).length=0→fieldsB a = []):=fun h=>List.eq_nil_of_length_eq_zero h
     have hfa:Hid (fieldsB a≠[]→a≠[]):=fun h e=>h (by subst e;rfl)
     generalize fieldsB a=fs at *
     generalize lineOf (k+1) a=lo at *
     by_cases hf0:fs.length=0
     ·have HE:Hid (lo = []):=by
       show _=_
       rw[hff.out,if_pos (Or.inl (hfn.out hf0))]
      have hR5:=HR4.out
      rw[HE.out,List.append_nil]at hR5
      have HR5:=Lib.hid hR5
      have hfl:((fs.length:Int) == 0)=true:=by rw[beq_iff_eq];omega
      have hO:=Lib.hid (hown.out.keep ((hb1.trans (hb2.mono hb1.size)).trans (hb3.mono (Nat.le_trans hb1.size hb2.size))))
      clear hR5 HR4
      go_wp2_with fail
      go_roundw
      case rel=>exact ⟨b,k+1,lvs,vv,rfl,rfl,by go_num,by omega,by omega,by have:=HC2.out;have:=hsl.out;exact Lib.hid (by omega),HR5,hO,B3⟩
      case measure=>simp[strLen,ByteArray.size];have:=HC2.out;omega
     ·have hfl:((fs.length:Int) == 0)=false:=by rw[beq_eq_false_iff_ne];omega
      obtain ⟨c,a2,rfl⟩:∃ c a2,a=c :: a2:=by
       cases a with
       | nil=>exact absurd rfl (hfa.out fun e=>hf0 (by rw[e];rfl))
       | cons c a2=>exact ⟨c,a2,rfl⟩
      have hcx:=c.toNat_lt
      have hO:=Lib.hid (hown.out.keep ((hb1.trans (hb2.mono hb1.size)).trans (hb3.mono (Nat.le_trans hb1.size hb2.size))))
      have hne:=Lib.hid (show fs≠[]from fun e=>hf0 (by rw[e];rfl))
      clear hf0 hfa hfn HAS HLL hown
      by_cases h42:c=42
      ·subst h42
       have HE:Hid (lo = []):=by
        show _=_
        rw[hff.out];simp
       have hR5:=HR4.out
       rw[HE.out,List.append_nil]at hR5
       have HR5:=Lib.hid hR5
       clear hR5 HR4
       go_wp2_with fail
       go_roundw
       case rel=>exact ⟨b,k+1,lvs,vv,rfl,rfl,by go_num,by omega,by omega,by have:=HC2.out;have:=hsl.out;exact Lib.hid (by omega),HR5,hO,B3⟩
       case measure=>simp[strLen,ByteArray.size];have:=HC2.out;omega
      ·have h42':((c.toNat:Int) == 42)=false:=by
        rw[beq_eq_false_iff_ne]
        intro e
        exact h42 (UInt8.toNat_inj.1 (by have:(42:UInt8).toNat=42:=rfl;omega))
       have hix:∀ h,(⟨(c :: a2).toArray⟩:ByteArray)[0]'h=c:=fun _=>rfl
       have hk7:w.heap.size≤w3.heap.size:=B3.size
       have HE:∀ hd:Bool,(c != 32 && c != 9)=hd→Hid (lo = [⟨k+1,hd,fs⟩]):=fun hd e=>by
        show _=_
        rw[hff.out,if_neg (by simp[hne.out,h42]),← e]
        rfl
       have fin:Hid (∀ (hd:Bool) (v6:Value) (w6:World),(c != 32 && c != 9)=hd→Own w6 w.heap.size 90 3 v6 (lvs.length+1) (lvs.flatMap encLine ++ [.int .i64 ((k:Int)+1),.bool hd,.slice fa fs.length fc]) →
        (w3.alloc (.cells #[.int .i64 ((k:Int)+1),.bool hd,.slice fa fs.length fc] 90)).grownBy w6 vv.ownBlock →
        Hid (R=getFrom (k+1+1) (spl b) ((lvs ++ [((⟨k+1,hd,fs⟩:LineM),Value.slice fa fs.length fc)]).map (·.1)))∧Hid (LinesOwn w6 w.heap.size v6 (lvs ++ [((⟨k+1,hd,fs⟩:LineM),Value.slice fa fs.length fc)]))∧Below w.heap.size w w6):=
        Lib.hid fun hd v6 w6 he ho hg=>by
         have hal:Below w3.heap.size w3 (w3.alloc (.cells #[.int .i64 ((k:Int)+1),.bool hd,.slice fa fs.length fc] 90)):=(Below.refl _ _).alloc (Nat.le_refl _) _
         refine ⟨?_,?_,?_⟩
         ·show R=_
          rw[HR4.out,(HE hd he).out];simp
         ·exact (hO.out.keep hal).add _ (HF.out.keep StrTy.firm hal) ho hg
         ·refine (B3.trans (hal.mono B3.size)).grown hg (by simp;omega) fun j hj=>(hO.out.own.lt hj).1
       clear HE hff HR4
       have HIX:=Lib.hid hix
       by_cases h32:c=32
       ·subst h32
        go_wp2_with (at_builtin;refine wpList_append_ownK (Kd:=fun _=>True) rfl (.tmp 42) (.tmp 54) 73 rfl w.heap.size 90 i1 _ 3 Tryz.underlying73 hi1 hz1 hsz1 rfl (by omega) _ lvs.length _ rfl (hO.out.own.alloc _) ⟨w3.heap.size,0,none⟩ 1 1 [.int .i64 ((k:Int)+1),.bool false,.slice fa fs.length fc] rfl (by simp) (by intro j u hj;rcases j with _|_|_|j<;>simp at hj<;>subst hj<;>simp[Addr.add]) (by simp[Value.oneCell']) (by simp) (by simp) (by omega) (by unfold maxLen;omega) (by rw[hby1];omega) (by simp;omega) ?_;intro v6 w6 hown6 hgr6 hloc6;refine Hid.out ?_)
        obtain ⟨f1,f2,f3⟩:=fin.out false v6 w6 rfl hown6 hgr6
        refine Lib.hid ?_
        clear fin hO HF
        go_wp2_with fail
        go_roundw
        case rel=>exact ⟨b,k+1,_,v6,rfl,rfl,by go_num,by omega,by simp;omega,by have:=HC2.out;have:=hsl.out;exact Lib.hid (by omega),f1,f2,f3⟩
        case measure=>simp[strLen,ByteArray.size];have:=HC2.out;omega
       ·by_cases h9:c=9
        ·subst h9
         go_wp2_with (at_builtin;refine wpList_append_ownK (Kd:=fun _=>True) rfl (.tmp 42) (.tmp 54) 73 rfl w.heap.size 90 i1 _ 3 Tryz.underlying73 hi1 hz1 hsz1 rfl (by omega) _ lvs.length _ rfl (hO.out.own.alloc _) ⟨w3.heap.size,0,none⟩ 1 1 [.int .i64 ((k:Int)+1),.bool false,.slice fa fs.length fc] rfl (by simp) (by intro j u hj;rcases j with _|_|_|j<;>simp at hj<;>subst hj<;>simp[Addr.add]) (by simp[Value.oneCell']) (by simp) (by simp) (by omega) (by unfold maxLen;omega) (by rw[hby1];omega) (by simp;omega) ?_;intro v6 w6 hown6 hgr6 hloc6;refine Hid.out ?_)
         obtain ⟨f1,f2,f3⟩:=fin.out false v6 w6 rfl hown6 hgr6
         refine Lib.hid ?_
         clear fin hO HF
         go_wp2_with fail
         go_roundw
         case rel=>exact ⟨b,k+1,_,v6,rfl,rfl,by go_num,by omega,by simp;omega,by have:=HC2.out;have:=hsl.out;exact Lib.hid (by omega),f1,f2,f3⟩
         case measure=>simp[strLen,ByteArray.size];have:=HC2.out;omega
        ·have n32:((c.toNat:Int) != 32)=true:=by
          rw[bne_iff_ne]
          intro e
          exact h32 (UInt8.toNat_inj.1 (by have:(32:UInt8).toNat=32:=rfl;omega))
         have n9:((c.toNat:Int) != 9)=true:=by
          rw[bne_iff_ne]
          intro e
          exact h9 (UInt8.toNat_inj.1 (by have:(9:UInt8).toNat=9:=rfl;omega))
         have he:=Lib.hid (show (c != 32 && c != 9)=true by simp[h32,h9])
         go_wp2_with (at_builtin;refine wpList_append_ownK (Kd:=fun _=>True) rfl (.tmp 42) (.tmp 54) 73 rfl w.heap.size 90 i1 _ 3 Tryz.underlying73 hi1 hz1 hsz1 rfl (by omega) _ lvs.length _ rfl (hO.out.own.alloc _) ⟨w3.heap.size,0,none⟩ 1 1 [.int .i64 ((k:Int)+1),.bool true,.slice fa fs.length fc] rfl (by simp) (by intro j u hj;rcases j with _|_|_|j<;>simp at hj<;>subst hj<;>simp[Addr.add]) (by simp[Value.oneCell']) (by simp) (by simp) (by omega) (by unfold maxLen;omega) (by rw[hby1];omega) (by simp;omega) ?_;intro v6 w6 hown6 hgr6 hloc6;refine Hid.out ?_)
         obtain ⟨f1,f2,f3⟩:=fin.out true v6 w6 he.out hown6 hgr6
         refine Lib.hid ?_
         clear fin hO HF
         go_wp2_with fail
         go_roundw
         case rel=>exact ⟨b,k+1,_,v6,rfl,rfl,by go_num,by omega,by simp;omega,by have:=HC2.out;have:=hsl.out;exact Lib.hid (by omega),f1,f2,f3⟩
         case measure=>simp[strLen,ByteArray.size];have:=HC2.out;omega
    ·have HE:Hid (R=([],k+1,r)):=by
      have:=HR3.out
      rwa [if_pos hr]at this
     have hr1:(r != 0)=true:=by simpa using hr
     go_wp2_with fail
     go_ret3
     exact ⟨_,by rw[HE.out];rfl,by rw[HE.out];exact SlIn.nil_ _ _ _,B2⟩
end Go.Proofs.YtbdfhnelmojbpaaGreatDoor
end
section
namespace Vic
open Go Go.RowKit
abbrev RowV:=RowM × Value
def encRow (x:RowV):List Value:=[.string ⟨x.1.name.toArray⟩,.int .i64 x.1.kind,x.2,.string ⟨x.1.rhs.toArray⟩,.string ⟨x.1.range.toArray⟩]
def encCol (x:ColM):List Value:=[.string ⟨x.name.toArray⟩,.string ⟨x.low.toArray⟩,.string ⟨x.up.toArray⟩,.string ⟨x.cost.toArray⟩,.bool x.int]
def encCf (x:CoefM):List Value:=[.int .i64 x.1,.string ⟨x.2.toArray⟩]
def rvV (rvs:List RowV) (i:Nat):Value:=((rvs[i]?).map (·.2)).getD (.slice none 0 0)
def rvN (rvs:List RowV) (i:Nat):Nat:=((rvs[i]?).map (·.1.coef.length)).getD 0
def rvX (rvs:List RowV) (i:Nat):List Value:=((rvs[i]?).map (fun x=>x.1.coef.flatMap encCf)).getD []
structure RowsOwn (w:World) (B:Nat) (rv:Value) (rvs:List RowV):Prop where
 rows:Own w B 28 5 rv rvs.length (rvs.flatMap encRow)
 coefs:OwnF w B 24 2 (fun i=>i<rvs.length) (rvV rvs) (rvN rvs) (rvX rvs)
abbrev ColsOwn (w:World) (B:Nat) (cv:Value) (cols:List ColM):Prop:=Own w B 31 5 cv cols.length (cols.flatMap encCol)
def OkWord (s:Txt):Prop:=s.length≤200∧∀ c∈s,c.toNat<128
theorem OkWord.nil:OkWord []:=⟨Nat.zero_le _,fun c h=>by cases h⟩
def StrLow (B:Nat) (w:World) (g o:Nat) (s:Txt):Prop:=g<B∧StrR w g o s∧OkWord s
abbrev StrsLow (B:Nat) (w:World) (v:Value) (l:List Txt):Prop:=SlIn (StrLow B) 1 w v l
theorem StrsLow.keep {B:Nat}{w w':World}{v:Value}{l:List Txt}(h:StrsLow B w v l) (hb:Below B w w'):StrsLow B w' v l:=
 h.imp fun g o x _ hx=>⟨hx.1,(hb.cell (p:=⟨g,o,none⟩) hx.1).trans hx.2.1,hx.2.2⟩
def intOfT (l:List (Txt × Int)) (s:Txt):Option Value:=(atT l s).map (Value.int .i64)
structure RD (B:Nat) (w:World) (r:Nat) (st:CSt) (rv cv lv:Value) (mr mc ms:Nat) (rvs:List RowV):Prop where
 blk:Row w r 133 #[.string ⟨st.c.name.toArray⟩,.string ⟨st.c.obj.toArray⟩,rv,cv,.int .i64 st.at_,.map (some mr),.map (some mc),.map (some ms),.bool st.integer,lv,.int .i64 st.e]
 rB:B≤r
 mrB:B≤mr
 mcB:B≤mc
 msB:B≤ms
 mrc:mr≠mc
 mrs:mr≠ms
 mcs:mc≠ms
 mapR:StrMap w mr (intOfT st.rows)
 mapC:StrMap w mc (intOfT st.cols)
 mapS:StrMap w ms (inSet st.seen)
 rows:RowsOwn w B rv rvs
 rowsEq:rvs.map (·.1)=st.c.rows
 cols:ColsOwn w B cv st.c.cols
 words:StrsLow B w lv st.l
def CR (B:Nat) (w:World) (r:Nat) (st:CSt):Prop:=∃ rv cv lv mr mc ms rvs,RD B w r st rv cv lv mr mc ms rvs
def Fr (w w':World):Prop:=∀ (g:Nat) (cs:Array Value) (t:TypeId) (fr:Nat × Nat),w.heap[g]?=some (.cells cs t fr)→t≠133→t≠28→t≠24→t≠31→w'.heap[g]?=some (.cells cs t fr)
theorem Fr.refl (w:World):Fr w w:=fun _ _ _ _ h _ _ _ _=>h
theorem Fr.trans {u v w:World}(h:Fr u v) (k:Fr v w):Fr u w:=fun g cs t fr h0 a b c d=>k g cs t fr (h g cs t fr h0 a b c d) a b c d
theorem Fr.same {w w':World}{b:Nat}{cs:Array Value}{t:TypeId}{fr:Nat × Nat}(hb:w.heap[b]?=some (.cells cs t fr)) (ht:t=133∨t=28∨t=24∨t=31) (hs:∀ g,g<w.heap.size→g≠b→w'.heap[g]?=w.heap[g]?):Fr w w':=fun g ds u f h0 a1 a2 a3 a4=>by
 rw[hs g ?_ ?_]
 ·exact h0
 ·rcases Nat.lt_or_ge g w.heap.size with h1|h1
  ·exact h1
  ·rw[Array.getElem?_eq_none h1]at h0;cases h0
 ·rintro rfl
  rw[hb]at h0
  injection h0 with h0
  injection h0 with _ h2 _
  subst h2
  rcases ht with h|h|h|h
  ·exact a1 h
  ·exact a2 h
  ·exact a3 h
  ·exact a4 h
theorem RowsOwn.stay {w w':World}{B:Nat}{rv:Value}{rvs:List RowV}(h:RowsOwn w B rv rvs) (hs:∀ (g:Nat) (cur:Array Value),(w.heap[g]?=some (Obj.cells cur 28 (0,0))∨w.heap[g]?=some (Obj.cells cur 24 (0,0)))→w'.heap[g]?=w.heap[g]?):RowsOwn w' B rv rvs:=
 ⟨h.rows.stay fun g hg=>by obtain ⟨cur,hc⟩:=h.rows.typed hg;exact hs g cur (.inl hc),h.coefs.other fun g cur hc=>hs g cur (.inr hc)⟩
theorem RD.keep {B:Nat}{w w':World}{r:Nat}{st:CSt}{rv cv lv:Value}{mr mc ms:Nat}{rvs:List RowV}(h:RD B w r st rv cv lv mr mc ms rvs) (hb:Below w.heap.size w w'):RD B w' r st rv cv lv mr mc ms rvs:=
 ⟨h.blk.keep hb,h.rB,h.mrB,h.mcB,h.msB,h.mrc,h.mrs,h.mcs,h.mapR.keep hb,h.mapC.keep hb,h.mapS.keep hb,⟨h.rows.rows.keep hb,h.rows.coefs.keep hb⟩,h.rowsEq,h.cols.keep hb,
  h.words.imp fun g o x _ hx=>⟨hx.1,cell_keep hx.2.1 hb,hx.2.2⟩⟩
theorem CR.keep {B:Nat}{w w':World}{r:Nat}{st:CSt}(h:CR B w r st) (hb:Below w.heap.size w w'):CR B w' r st:=by
 obtain ⟨rv,cv,lv,mr,mc,ms,rvs,h⟩:=h
 exact ⟨rv,cv,lv,mr,mc,ms,rvs,h.keep hb⟩
theorem StrsLow.ok {B:Nat}{w:World}{v:Value}{l:List Txt}(h:StrsLow B w v l):∀ s∈l,OkWord s:=fun s hs=>by
 obtain ⟨A,c,_,_,h3⟩:=h
 obtain ⟨i,hi⟩:=List.getElem?_of_mem hs
 obtain ⟨_,_,_,h4⟩:=h3 i s hi
 exact h4.2.2
theorem CR.ok {B:Nat}{w:World}{r:Nat}{st:CSt}(h:CR B w r st):∀ s∈st.l,OkWord s:=by
 obtain ⟨rv,cv,lv,mr,mc,ms,rvs,h⟩:=h
 exact h.words.ok
theorem CR.word {B:Nat}{w:World}{r:Nat}{st:CSt}(h:CR B w r st):OkWord st.word.1:=by
 have:=h.ok
 unfold CSt.word
 have hl:(st.fails st.l.isEmpty 1).l=st.l:=by unfold CSt.fails;split<;>rfl
 dsimp only
 split
 ·simp only[hl]
  cases hs:st.l with
  | nil=>exact OkWord.nil
  | cons a b=>exact this a (by rw[hs];simp)
 ·exact OkWord.nil
theorem RD.frame {B:Nat}{w:World}{r:Nat}{st:CSt}{rv cv lv:Value}{mr mc ms:Nat}{rvs:List RowV}(h:RD B w r st rv cv lv mr mc ms rvs) {w':World}(hs:∀ g,g<w.heap.size→g≠r→w'.heap[g]?=w.heap[g]?):Fr w w':=Fr.same h.blk (.inl rfl) hs
theorem CR.frame {B:Nat}{w:World}{r:Nat}{st:CSt}(h:CR B w r st) {w':World}(hs:∀ g,g<w.heap.size→g≠r→w'.heap[g]?=w.heap[g]?):Fr w w':=by
 obtain ⟨rv,cv,lv,mr,mc,ms,rvs,h⟩:=h
 exact h.frame hs
end Vic
end
section
namespace Vic
open Go Go.RowKit
theorem RD.cells {B:Nat}{w:World}{r:Nat}{st:CSt}{rv cv lv:Value}{mr mc ms:Nat}{rvs:List RowV}(h:RD B w r st rv cv lv mr mc ms rvs) :
 w.cell? ⟨r,0,none⟩=some (.string ⟨st.c.name.toArray⟩)∧w.cell? ⟨r,1,none⟩=some (.string ⟨st.c.obj.toArray⟩)∧w.cell? ⟨r,2,none⟩=some rv∧w.cell? ⟨r,3,none⟩=some cv∧w.cell? ⟨r,4,none⟩=some (.int .i64 st.at_) ∧
 w.cell? ⟨r,5,none⟩=some (.map (some mr))∧w.cell? ⟨r,6,none⟩=some (.map (some mc))∧w.cell? ⟨r,7,none⟩=some (.map (some ms))∧w.cell? ⟨r,8,none⟩=some (.bool st.integer)∧w.cell? ⟨r,9,none⟩=some lv∧w.cell? ⟨r,10,none⟩=some (.int .i64 st.e):=
 ⟨h.blk.cell 0,h.blk.cell 1,h.blk.cell 2,h.blk.cell 3,h.blk.cell 4,h.blk.cell 5,h.blk.cell 6,h.blk.cell 7,h.blk.cell 8,h.blk.cell 9,h.blk.cell 10⟩
theorem RD.free {B:Nat}{w:World}{r:Nat}{st:CSt}{rv cv lv:Value}{mr mc ms:Nat}{rvs:List RowV}(h:RD B w r st rv cv lv mr mc ms rvs) (i:Nat):w.frozen? ⟨r,i,none⟩=false:=h.blk.free i
theorem set_other (w:World) (r i:Nat) (u:Value) (g:Nat) (h:g≠r):(w.setCell ⟨r,i,none⟩ u).heap[g]?=w.heap[g]?:=Below.heap_setCell w ⟨r,i,none⟩ u g h
end Vic
namespace Go.Proofs.YtbdfhnelmojbpaaGreatDoor
open Go.RowKit Vic
end Go.Proofs.YtbdfhnelmojbpaaGreatDoor
end
section
namespace Vic
open Go Go.RowKit
def Alien (w:World) (b:Nat):Prop:=
 (∀ o u,w.cell? ⟨b,o,none⟩=some u→(∀ x,u≠.bool x)∧(∀ x,u≠.int .u32 x)) ∧
 (∀ A l c b' o' x,w.cell? ⟨b,0,none⟩=some (.slice A l c)→0<l→A=some ⟨b',o',none⟩→w.cell? ⟨b',o',none⟩≠some (.int .u32 x))
theorem cell_same {w w':World}{b:Nat}(h:w'.heap[b]?=w.heap[b]?) (o:Nat):w'.cell? ⟨b,o,none⟩=w.cell? ⟨b,o,none⟩:=by simp[World.cell?,h]
theorem NatPtr.stay {w w':World}{v:Value}{n:Nat}(h:NatPtr w v n) (h0:n≠0) (hs:∀ b,b<w.heap.size→Alien w b∨w'.heap[b]?=w.heap[b]?):NatPtr w' v n:=by
 obtain ⟨b,s,h1,h2,⟨A,c,rfl,h3,h4⟩,hbk⟩:=h
 have hl:0<(digs 4294967296 n).length:=by
  rcases Nat.eq_zero_or_pos (digs 4294967296 n).length with h5|h5
  ·exact absurd ((digs_eq_nil (by omega)).1 (List.eq_nil_of_length_eq_zero h5)) h0
  ·exact h5
 obtain ⟨b0,o0,hA,hc0⟩:=h4 0 hl
 have e1:w'.heap[b]?=w.heap[b]?:=by
  rcases hs b (block_lt h2)with h5|h5
  ·exact absurd hc0 (h5.2 A _ c b0 o0 _ h2 hl hA)
  ·exact h5
 have e2:w'.heap[b0]?=w.heap[b0]?:=by
  rcases hs b0 (block_lt hc0)with h5|h5
  ·exact absurd rfl ((h5.1 _ _ hc0).2 _)
  ·exact h5
 refine ⟨b,_,h1,by rw[cell_same e1];exact h2,⟨A,c,rfl,h3,fun i hi=>?_⟩,hbk.same e1⟩
 obtain ⟨b',o',hA',hc⟩:=h4 i hi
 rw[hA]at hA'
 injection hA' with hA'
 injection hA' with hb ho
 subst hb;subst ho
 exact ⟨b0,o0,hA,by rw[cell_same e2];exact hc⟩
theorem FracPtr.stay {w w':World}{v:Value}{q:Rat}(h:FracPtr w v q) (h0:q≠0) (hs:∀ b,b<w.heap.size→Alien w b∨w'.heap[b]?=w.heap[b]?):FracPtr w' v q:=by
 obtain ⟨b,pn,pd,h1,h2,h3,h4,h5,h6⟩:=h
 have e1:w'.heap[b]?=w.heap[b]?:=by
  rcases hs b (block_lt h2)with h7|h7
  ·exact absurd rfl ((h7.1 _ _ h2).1 _)
  ·exact h7
 have hn:q.num.natAbs≠0:=fun h=>h0 (Rat.num_eq_zero.1 (by omega))
 exact ⟨b,pn,pd,h1,by rw[cell_same e1];exact h2,by rw[cell_same e1];exact h3,by rw[cell_same e1];exact h4,((h5.ptr hn).stay hn hs).at_,h6.stay q.den_nz hs⟩
end Vic
namespace Go.Proofs.YtbdfhnelmojbpaaGreatDoor
open Go.RowKit Vic
end Go.Proofs.YtbdfhnelmojbpaaGreatDoor
end
section
namespace Vic
open Go Go.RowKit
def ErrCell (w:World) (g:Nat):Prop:=∃ ev,w.cell? ⟨g,0,none⟩=some ev∧(ev=.nilIface∨∃ te pe,ev=.iface te pe)
theorem ErrCell.keep {w w':World}{g:Nat}(h:ErrCell w g) (hb:Below w.heap.size w w'):ErrCell w' g:=by
 obtain ⟨ev,h1,h2⟩:=h;exact ⟨ev,cell_keep h1 hb,h2⟩
end Vic
namespace Go.Proofs.YtbdfhnelmojbpaaGreatDoor
open Go.RowKit Vic
structure TabE (w:World):Prop where
 tab:Tab w
 es:ErrCell w 1
 er:ErrCell w 2
theorem TabE.keep {w w':World}(h:TabE w) (hb:Below w.heap.size w w'):TabE w':=⟨h.tab.keep hb,h.es.keep hb,h.er.keep hb⟩
end Go.Proofs.YtbdfhnelmojbpaaGreatDoor
end
section
namespace Vic
open Go Go.RowKit
theorem OwnK.low {Kd:Value→Prop}{w:World}{base base':Nat}{e:TypeId}{size:Nat}{v:Value}{n:Nat}{xs:List Value}(h:OwnK Kd w base e size v n xs) (hb:base'≤base):OwnK Kd w base' e size v n xs:=by
 obtain ⟨h1,h2|⟨g,cap,cur,rfl,a2,a3⟩⟩:=h
 ·exact ⟨h1,.inl h2⟩
 ·exact ⟨h1,.inr ⟨g,cap,cur,rfl,Nat.le_trans hb a2,a3⟩⟩
end Vic
namespace Go.Proofs.YtbdfhnelmojbpaaGreatDoor
open Go.RowKit Vic
end Go.Proofs.YtbdfhnelmojbpaaGreatDoor
end
section
namespace Vic
open Go Go.RowKit
theorem CR.lv {B:Nat}{w:World}{r:Nat}{st:CSt}(h:CR B w r st):∃ A c,w.cell? ⟨r,9,none⟩=some (.slice A st.l.length c)∧st.l.length≤c∧StrsLow B w (.slice A st.l.length c) st.l:=by
 obtain ⟨rv,cv,lv,mr,mc,ms,rvs,h⟩:=h
 have h1:=h.words
 obtain ⟨A,c,rfl,h2,_⟩:=id h1
 exact ⟨A,c,h.cells.2.2.2.2.2.2.2.2.2.1,h2,h1⟩
theorem CR.free {B:Nat}{w:World}{r:Nat}{st:CSt}(h:CR B w r st) (i:Nat):w.frozen? ⟨r,i,none⟩=false:=by
 obtain ⟨rv,cv,lv,mr,mc,ms,rvs,h⟩:=h;exact h.free i
theorem CR.base {B:Nat}{w:World}{r:Nat}{st:CSt}(h:CR B w r st):B≤r:=by
 obtain ⟨rv,cv,lv,mr,mc,ms,rvs,h⟩:=h;exact h.rB
end Vic
namespace Go.Proofs.YtbdfhnelmojbpaaGreatDoor
open Go.RowKit Vic
end Go.Proofs.YtbdfhnelmojbpaaGreatDoor
end
section
namespace Vic
open Go Go.RowKit
theorem RowsOwn.lt {w:World}{B:Nat}{rv:Value}{rvs:List RowV}(h:RowsOwn w B rv rvs) {g:Nat}(hg:rv.ownBlock=some g):B≤g∧g<w.heap.size:=h.rows.lt hg
theorem grown_other {w w':World}{B:Nat}{e:TypeId}{size:Nat}{v:Value}{n:Nat}{xs:List Value}(ho:Own w B e size v n xs) (hg:w.grownBy w' v.ownBlock) {g:Nat}{cs:Array Value}{t:TypeId}{fr:Nat × Nat}(h:w.heap[g]?=some (.cells cs t fr)) (ht:t≠e):w'.heap[g]?=w.heap[g]?:=
 hg.block g (by
  rcases Nat.lt_or_ge g w.heap.size with h1|h1
  ·exact h1
  ·rw[Array.getElem?_eq_none h1]at h;cases h) fun eq=>by
  obtain ⟨cur,hc⟩:=ho.typed eq.symm
  rw[hc]at h
  injection h with h
  injection h with _ h2 _
  exact ht h2.symm
theorem Fr.own {w w':World}{B:Nat}{e:TypeId}{size:Nat}{v:Value}{n:Nat}{xs:List Value}(ho:Own w B e size v n xs) (hg:w.grownBy w' v.ownBlock) (ht:e=133∨e=28∨e=24∨e=31):Fr w w':=fun g cs t fr h0 a1 a2 a3 a4=>by
 rw[grown_other ho hg h0 ?_]
 ·exact h0
 ·rintro rfl
  rcases ht with h|h|h|h
  ·exact a1 h
  ·exact a2 h
  ·exact a3 h
  ·exact a4 h
end Vic
namespace Go.Proofs.YtbdfhnelmojbpaaGreatDoor
open Go.RowKit Vic
end Go.Proofs.YtbdfhnelmojbpaaGreatDoor
end
section
namespace Vic
open Go Go.RowKit
def encPr (p:PerM):List Value:=[.string ⟨p.1.toArray⟩,.string ⟨p.2.1.toArray⟩,.string ⟨p.2.2.toArray⟩]
theorem encPr_len (p:PerM):(encPr p).length=3:=rfl
structure PRd (w:World) (B r:Nat) (st:PSt) (pv:Value):Prop where
 row:Row w r 127 #[.string ⟨st.name.toArray⟩,pv,.int .i64 (st.at_:Nat)]
 ps:Own w B 44 3 pv st.ps.length (st.ps.flatMap encPr)
 low:B≤r
theorem PRd.keep {w w':World}{B r:Nat}{st:PSt}{pv:Value}(h:PRd w B r st pv) (hb:Below w.heap.size w w'):PRd w' B r st pv:=⟨h.row.keep hb,h.ps.keep hb,h.low⟩
theorem PRd.set_ {w:World}{B r:Nat}{st:PSt}{pv:Value}(h:PRd w B r st pv) (i:Nat) (u:Value) {st':PSt}(hs:st'.ps=st.ps)
 (hr:(#[.string ⟨st.name.toArray⟩,pv,.int .i64 (st.at_:Nat)]:Array Value).setIfInBounds i u=#[.string ⟨st'.name.toArray⟩,pv,.int .i64 (st'.at_:Nat)]):PRd (w.setCell ⟨r,i,none⟩ u) B r st' pv:=
 ⟨by have:=h.row.set i u;rw[hr]at this;exact this,by
  rw[hs]
  exact h.ps.stay fun g hg=>by
   obtain ⟨cur,hc⟩:=h.ps.typed hg
   refine set_other w r i u g (fun e=>?_)
   subst e
   have:=h.row
   unfold Row at this
   rw[hc]at this
   injection this with this
   injection this with _ h2 _
   exact absurd h2 (by decide),h.low⟩
structure BL (B:Nat) (w w':World):Prop where
 bel:Below B w w'
 ln:∀ b cs,Row w b 90 cs→Row w' b 90 cs
theorem BL.of {B:Nat}{w w':World}(h:Below w.heap.size w w') (hB:B≤w.heap.size):BL B w w':=⟨h.mono hB,fun b cs hr=>hr.keep h⟩
theorem BL.drewN {B:Nat}{w w':World}(h:BL B w w') (n:Nat):BL B w (w'.drewN n):=⟨Below.drewN_ h.bel n,fun b cs hr=>(h.ln b cs hr).drewN n⟩
theorem BL.next {B:Nat}{w w1 w2:World}(h:BL B w w1) (h2:Below w1.heap.size w1 w2) (hB:B≤w1.heap.size):BL B w w2:=⟨h.bel.trans (h2.mono hB),fun b cs hr=>(h.ln b cs hr).keep h2⟩
theorem BL.set {B r:Nat}{w w':World}(h:BL B w w') {cs:Array Value}(hr:Row w' r 127 cs) (hB:B≤r) (i:Nat) (u:Value):BL B w (w'.setCell ⟨r,i,none⟩ u):=⟨h.bel.setCell (p:=⟨r,i,none⟩) hB u,fun b ds hb=>(set_other w' r i u b fun e=>by
 have h1:=h.ln b ds hb
 subst e
 unfold Row at h1 hr
 rw[h1]at hr
 injection hr with hr
 injection hr with _ h2 _
 exact absurd h2 (by decide)).trans (h.ln b ds hb)⟩
theorem BL.grown {B:Nat}{w w1 w2:World}(h:BL B w w1) {v:Value}{n:Nat}{xs:List Value}(ho:Own w1 B 44 3 v n xs) (hg:w1.grownBy w2 v.ownBlock) (hB:B≤w1.heap.size):BL B w w2:=
 ⟨h.bel.grown hg hB fun j hj=>(ho.lt hj).1,fun b cs hr=>(grown_other ho hg (h.ln b cs hr) (by decide)).trans (h.ln b cs hr)⟩
end Vic
namespace Go.Proofs.YtbdfhnelmojbpaaGreatDoor
open Go.RowKit Vic
set_option maxRecDepth 100000 in
set_option maxHeartbeats 8000000 in
theorem period_head {w:World}{B r:Nat}{st:PSt}{pv:Value}(h:PRd w B r st pv) (hB:B≤w.heap.size) (lv:Value) (l:List Txt) (hl:StrsIn w lv l) (h0:l≠[]) (hll:l.length≤1000000) (hok:∀ s∈l,s.length≤1000000) (hat:st.at_≤3) (hgr:∀ (o:Nat) s,w.cell? ⟨r,o,none⟩=some (.string s)→o≠0→False) :
 Calls Tryz.prog 50 #[.pointer (some ⟨r,0,none⟩),lv] w (fun e w'=>e=.returned (.int .i64 (st.head l).1)∧PRd w' B r (st.head l).2 pv∧BL B w w'):=by
 obtain ⟨s0,tl,rfl⟩:∃ a b,l=a :: b:=by
  cases l with
  | nil=>exact absurd rfl h0
  | cons a b=>exact ⟨a,b,rfl⟩
 obtain ⟨A,c,rfl,hc,hcell⟩:=hl
 obtain ⟨g,o,rfl,e0⟩:=hcell 0 s0 rfl
 have e1:∀ s1 t2,tl=s1 :: t2→w.cell? ⟨g,o+1,none⟩=some (.string ⟨s1.toArray⟩):=fun s1 t2 ht=>by
  subst ht
  obtain ⟨g',o',he,h1⟩:=hcell 1 s1 rfl
  injection he with he;injection he with h2 h3;subst h2 h3
  exact h1
 obtain ⟨name,ps,a⟩:=st
 dsimp only at hat
 obtain ⟨res,hres⟩:∃ X,X=(⟨name,ps,a⟩:PSt).head (s0 :: tl):=⟨_,rfl⟩
 rw[← hres]
 have HRES:=Lib.hid hres
 clear hres
 obtain ⟨w1,hw1⟩:∃ X,X=w.alloc (.cells #[.string ⟨#[84,73,77,69]⟩,.string ⟨#[80,69,82,73,79,68,83]⟩,.string ⟨#[69,78,68,65,84,65]⟩] 9):=⟨_,rfl⟩
 have hb1:Below w.heap.size w w1:=by rw[hw1];exact (Below.refl _ _).alloc (Nat.le_refl _) _
 have r1:Row w1 w.heap.size 9 #[.string ⟨#[84,73,77,69]⟩,.string ⟨#[80,69,82,73,79,68,83]⟩,.string ⟨#[69,78,68,65,84,65]⟩]:=by rw[hw1];exact Row.new _ _ _
 have t0:w1.cell? ⟨w.heap.size,0,none⟩=some (.string ⟨#[84,73,77,69]⟩):=r1.cell 0
 have t1:w1.cell? ⟨w.heap.size,1,none⟩=some (.string ⟨#[80,69,82,73,79,68,83]⟩):=r1.cell 1
 have t2:w1.cell? ⟨w.heap.size,2,none⟩=some (.string ⟨#[69,78,68,65,84,65]⟩):=r1.cell 2
 have d0:w1.cell? ⟨g,o,none⟩=some (.string ⟨s0.toArray⟩):=by have:=cell_keep e0 hb1;simpa using this
 have hP1:=h.keep hb1
 have q2:w1.cell? ⟨r,2,none⟩=some (.int .i64 (a:Nat)):=hP1.row.cell 2
 have HP:=Lib.hid hP1
 have HB1:=Lib.hid (BL.of hb1 hB)
 have hlen:1≤(s0 :: tl).length:=by simp
 obtain ⟨n,hn⟩:∃ n,n=(s0 :: tl).length:=⟨_,rfl⟩
 have HN:=Lib.hid hn
 rw[← hn]at hlen hll hc ⊢
 have hnr:w1.heap.size=w.heap.size+1:=by rw[hw1];simp
 have E1:Hid (∀ s1 t2,tl=s1 :: t2→w1.cell? ⟨g,o+1,none⟩=some (.string ⟨s1.toArray⟩)):=Lib.hid fun s1 t2 ht=>cell_keep (e1 s1 t2 ht) hb1
 have HOK:=Lib.hid hok
 have HGR:Hid (tl≠[]→g≠r):=Lib.hid (fun hne e=>by
  cases tl with
  | nil=>exact hne rfl
  | cons s1 t2=>
    have h3:=e1 s1 t2 rfl
    rw[e]at h3
    exact hgr _ _ h3 (by omega))
 have f2:w1.frozen? ⟨r,2,none⟩=false:=hP1.row.free 2
 clear hn r1 e0 e1 hcell hb1 h0 h hP1 hB hnr hok
 by_cases ha3:a=3
 ·subst ha3
  go_enter Tryz.func50,Tryz.ntmps50
  go_upto_region 2 with fail
  rw[← hw1]
  clear hw1
  go_quiet (fail)
  go_wp2_with fail
  go_ret
  have hm:(⟨name,ps,3⟩:PSt).head (s0 :: tl)=(5,⟨name,ps,3⟩):=by
   unfold PSt.head
   rw[if_pos (.inl (Nat.le_refl _))]
  rw[HRES.out,hm]
  exact ⟨rfl,HP.out.keep (Below.drewN_ (Below.refl _ _) _),HB1.out.drewN _⟩
 ·have ha:a=0∨a=1∨a=2:=by omega
  rcases ha with rfl|rfl|rfl
  ·by_cases hs:s0 = [84,73,77,69]
   ·have hb:(s0 != [84,73,77,69])=false:=by simp[hs]
    have hb2:(s0 == [84,73,77,69])=true:=by simp[hs]
    have HS:=Lib.hid hs
    clear hs
    go_enter Tryz.func50,Tryz.ntmps50
    go_upto_region 2 with fail
    rw[← hw1]
    clear hw1
    go_quiet (fail)
    go_upto_block 0 with fail
    obtain ⟨w5,hw5⟩:∃ X,X=(w1.drewN nq).setCell ⟨r,2,none⟩ (.int .i64 1):=⟨_,rfl⟩
    have HP5:Hid (PRd w5 B r ⟨name,ps,1⟩ pv):=Lib.hid (by rw[hw5];exact (HP.out.keep (Below.drewN_ (Below.refl _ _) nq)).set_ 2 _ rfl rfl)
    have HB5:Hid (BL B w w5):=Lib.hid (by rw[hw5];exact (HB1.out.drewN nq).set (Row.drewN HP.out.row nq) HP.out.low 2 _)
    have D5:Hid (∀ s1 t2,tl=s1 :: t2→g≠r→w5.cell? ⟨g,o+1,none⟩=some (.string ⟨s1.toArray⟩)):=Lib.hid fun s1 t2 ht hg=>by
     rw[hw5,World.cell?_setCell_other _ _ _ _ (by simp[hg])]
     exact E1.out s1 t2 ht
    rw[← hw5]
    clear hw5 q2 f2 t0 t1 t2 d0
    have x2:w5.cell? ⟨r,2,none⟩=some (.int .i64 1):=HP5.out.row.cell 2
    by_cases h2:n=2
    ·obtain ⟨s1,rfl⟩:∃ s1,tl = [s1]:=by
      rcases tl with _|⟨s1,_|⟨s2,t⟩⟩
      ·have:=HN.out;simp at this;omega
      ·exact ⟨s1,rfl⟩
      ·have:=HN.out;simp at this;omega
     subst h2
     have CN:=Lib.hid (fun W=>words_Name W s1 (by have:=HOK.out s1 (by simp);omega))
     have d5:=D5.out s1 [] rfl (HGR.out (by simp))
     obtain ⟨nb,hnb⟩:∃ x,x=nameB s1:=⟨_,rfl⟩
     rw[← hnb]at CN
     have HNB:=Lib.hid hnb
     clear hnb
     go_wp2_with fail
     refine (CN.out _).mono ?_
     rintro e w6 ⟨rfl,h6⟩
     have HP6:=Lib.hid (HP5.out.keep h6)
     have HB6:=Lib.hid (HB5.out.next h6 (Nat.le_of_lt (Nat.lt_of_le_of_lt HP5.out.low HP5.out.row.lt)))
     have y2:w6.cell? ⟨r,2,none⟩=some (.int .i64 1):=HP6.out.row.cell 2
     have y0:w6.cell? ⟨r,0,none⟩=some (.string ⟨name.toArray⟩):=HP6.out.row.cell 0
     have g0:w6.frozen? ⟨r,0,none⟩=false:=HP6.out.row.free 0
     have d6:=cell_keep d5 h6
     have hm:(⟨name,ps,0⟩:PSt).head [s0,s1]=if nb then (0,⟨s1,ps,1⟩)else (4,⟨name,ps,1⟩):=by
      rw[HNB.out,HS.out]
      unfold PSt.head
      rw[if_neg (by simp[timeHeads])]
      simp
     have HM:=Lib.hid hm
     clear h6 d5 x2 hm
     cases nb
     ·go_wp2_with fail
      go_ret
      rw[HRES.out,HM.out]
      exact ⟨rfl,HP6.out,HB6.out⟩
     ·have FF:Hid (PRd (w6.setCell ⟨r,0,none⟩ (.string ⟨s1.toArray⟩)) B r ⟨s1,ps,1⟩ pv):=Lib.hid (HP6.out.set_ 0 _ rfl rfl)
      have FB:=Lib.hid (HB6.out.set HP6.out.row HP6.out.low 0 (.string ⟨s1.toArray⟩))
      go_wp2_with fail
      go_ret
      rw[HRES.out,HM.out]
      exact ⟨rfl,FF.out,FB.out⟩
    ·have h2i:¬ ((n:Int)=2):=by omega
     have hnl:¬ (s0 :: tl).length=2:=by rw[← HN.out];exact h2
     have hm:(⟨name,ps,0⟩:PSt).head (s0 :: tl)=(1,⟨name,ps,1⟩):=by
      rw[HS.out]at hnl ⊢
      unfold PSt.head
      rw[if_neg (by simp[timeHeads])]
      dsimp only
      rw[if_pos (.inl ⟨rfl,hnl⟩)]
     have HM:=Lib.hid hm
     clear hm hnl h2
     have z:((n:Int) != 2)=true:=by simp[h2i]
     go_wp2_with fail
     go_ret
     rw[HRES.out,HM.out]
     exact ⟨rfl,HP5.out,HB5.out⟩
   ·have hb:(s0 != [84,73,77,69])=true:=by simp[hs]
    have hb2:(s0 == [84,73,77,69])=false:=by simp[hs]
    have HS:=Lib.hid hs
    clear hs
    go_enter Tryz.func50,Tryz.ntmps50
    go_upto_region 2 with fail
    rw[← hw1]
    clear hw1
    go_quiet (fail)
    go_wp2_with fail
    go_ret
    have hm:(⟨name,ps,0⟩:PSt).head (s0 :: tl)=(5,⟨name,ps,0⟩):=by
     unfold PSt.head
     rw[if_pos (.inr (by simp[timeHeads];exact fun h=>HS.out h.symm))]
    rw[HRES.out,hm]
    exact ⟨rfl,HP.out.keep (Below.drewN_ (Below.refl _ _) _),HB1.out.drewN _⟩
  ·by_cases hs:s0 = [80,69,82,73,79,68,83]
   ·have hb:(s0 != [80,69,82,73,79,68,83])=false:=by simp[hs]
    have hb2:(s0 == [80,69,82,73,79,68,83])=true:=by simp[hs]
    have HS:=Lib.hid hs
    clear hs
    go_enter Tryz.func50,Tryz.ntmps50
    go_upto_region 2 with fail
    rw[← hw1]
    clear hw1
    go_quiet (fail)
    go_upto_block 0 with fail
    obtain ⟨w5,hw5⟩:∃ X,X=(w1.drewN nq).setCell ⟨r,2,none⟩ (.int .i64 2):=⟨_,rfl⟩
    have HP5:Hid (PRd w5 B r ⟨name,ps,2⟩ pv):=Lib.hid (by rw[hw5];exact (HP.out.keep (Below.drewN_ (Below.refl _ _) nq)).set_ 2 _ rfl rfl)
    have HB5:Hid (BL B w w5):=Lib.hid (by rw[hw5];exact (HB1.out.drewN nq).set (Row.drewN HP.out.row nq) HP.out.low 2 _)
    have D5:Hid (∀ s1 t2,tl=s1 :: t2→g≠r→w5.cell? ⟨g,o+1,none⟩=some (.string ⟨s1.toArray⟩)):=Lib.hid fun s1 t2 ht hg=>by
     rw[hw5,World.cell?_setCell_other _ _ _ _ (by simp[hg])]
     exact E1.out s1 t2 ht
    rw[← hw5]
    clear hw5 q2 f2 t0 t1 t2 d0
    have x2:w5.cell? ⟨r,2,none⟩=some (.int .i64 2):=HP5.out.row.cell 2
    by_cases h2:2<n
    ·have h2i:(2:Int)<(n:Int):=by omega
     have hnl:2<(s0 :: tl).length:=by rw[← HN.out];exact h2
     have hm:(⟨name,ps,1⟩:PSt).head (s0 :: tl)=(1,⟨name,ps,2⟩):=by
      rw[HS.out]at hnl ⊢
      unfold PSt.head
      rw[if_neg (by simp[timeHeads])]
      dsimp only
      rw[if_pos (by omega)]
     have HM:=Lib.hid hm
     clear hm hnl h2
     go_wp2_with fail
     go_ret
     rw[HRES.out,HM.out]
     exact ⟨rfl,HP5.out,HB5.out⟩
    ·have h2i:¬ (2:Int)<(n:Int):=by omega
     have hnl:¬ 2<(s0 :: tl).length:=by rw[← HN.out];exact h2
     have hm:(⟨name,ps,1⟩:PSt).head (s0 :: tl)=(0,⟨name,ps,2⟩):=by
      rw[HS.out]at hnl ⊢
      unfold PSt.head
      rw[if_neg (by simp[timeHeads])]
      dsimp only
      rw[if_neg (by omega),if_neg (by omega)]
     have HM:=Lib.hid hm
     clear hm hnl h2
     go_wp2_with fail
     go_ret
     rw[HRES.out,HM.out]
     exact ⟨rfl,HP5.out,HB5.out⟩
   ·have hb:(s0 != [80,69,82,73,79,68,83])=true:=by simp[hs]
    have hb2:(s0 == [80,69,82,73,79,68,83])=false:=by simp[hs]
    have HS:=Lib.hid hs
    clear hs
    go_enter Tryz.func50,Tryz.ntmps50
    go_upto_region 2 with fail
    rw[← hw1]
    clear hw1
    go_quiet (fail)
    go_wp2_with fail
    go_ret
    have hm:(⟨name,ps,1⟩:PSt).head (s0 :: tl)=(5,⟨name,ps,1⟩):=by
     unfold PSt.head
     rw[if_pos (.inr (by simp[timeHeads];exact fun h=>HS.out h.symm))]
    rw[HRES.out,hm]
    exact ⟨rfl,HP.out.keep (Below.drewN_ (Below.refl _ _) _),HB1.out.drewN _⟩
  ·by_cases hs:s0 = [69,78,68,65,84,65]
   ·have hb:(s0 != [69,78,68,65,84,65])=false:=by simp[hs]
    have hb2:(s0 == [69,78,68,65,84,65])=true:=by simp[hs]
    have HS:=Lib.hid hs
    clear hs
    go_enter Tryz.func50,Tryz.ntmps50
    go_upto_region 2 with fail
    rw[← hw1]
    clear hw1
    go_quiet (fail)
    go_upto_block 0 with fail
    obtain ⟨w5,hw5⟩:∃ X,X=(w1.drewN nq).setCell ⟨r,2,none⟩ (.int .i64 3):=⟨_,rfl⟩
    have HP5:Hid (PRd w5 B r ⟨name,ps,3⟩ pv):=Lib.hid (by rw[hw5];exact (HP.out.keep (Below.drewN_ (Below.refl _ _) nq)).set_ 2 _ rfl rfl)
    have HB5:Hid (BL B w w5):=Lib.hid (by rw[hw5];exact (HB1.out.drewN nq).set (Row.drewN HP.out.row nq) HP.out.low 2 _)
    have D5:Hid (∀ s1 t2,tl=s1 :: t2→g≠r→w5.cell? ⟨g,o+1,none⟩=some (.string ⟨s1.toArray⟩)):=Lib.hid fun s1 t2 ht hg=>by
     rw[hw5,World.cell?_setCell_other _ _ _ _ (by simp[hg])]
     exact E1.out s1 t2 ht
    rw[← hw5]
    clear hw5 q2 f2 t0 t1 t2 d0
    have x2:w5.cell? ⟨r,2,none⟩=some (.int .i64 3):=HP5.out.row.cell 2
    by_cases h2:1<n
    ·have h2i:(1:Int)<(n:Int):=by omega
     have hnl:1<(s0 :: tl).length:=by rw[← HN.out];exact h2
     have hm:(⟨name,ps,2⟩:PSt).head (s0 :: tl)=(1,⟨name,ps,3⟩):=by
      rw[HS.out]at hnl ⊢
      unfold PSt.head
      rw[if_neg (by simp[timeHeads])]
      dsimp only
      rw[if_pos (by omega)]
     have HM:=Lib.hid hm
     clear hm hnl h2
     go_wp2_with fail
     go_ret
     rw[HRES.out,HM.out]
     exact ⟨rfl,HP5.out,HB5.out⟩
    ·have h2i:¬ (1:Int)<(n:Int):=by omega
     have hnl:¬ 1<(s0 :: tl).length:=by rw[← HN.out];exact h2
     have hm:(⟨name,ps,2⟩:PSt).head (s0 :: tl)=(0,⟨name,ps,3⟩):=by
      rw[HS.out]at hnl ⊢
      unfold PSt.head
      rw[if_neg (by simp[timeHeads])]
      dsimp only
      rw[if_neg (by omega),if_neg (by omega)]
     have HM:=Lib.hid hm
     clear hm hnl h2
     go_wp2_with fail
     go_ret
     rw[HRES.out,HM.out]
     exact ⟨rfl,HP5.out,HB5.out⟩
   ·have hb:(s0 != [69,78,68,65,84,65])=true:=by simp[hs]
    have hb2:(s0 == [69,78,68,65,84,65])=false:=by simp[hs]
    have HS:=Lib.hid hs
    clear hs
    go_enter Tryz.func50,Tryz.ntmps50
    go_upto_region 2 with fail
    rw[← hw1]
    clear hw1
    go_quiet (fail)
    go_wp2_with fail
    go_ret
    have hm:(⟨name,ps,2⟩:PSt).head (s0 :: tl)=(5,⟨name,ps,2⟩):=by
     unfold PSt.head
     rw[if_pos (.inr (by simp[timeHeads];exact fun h=>HS.out h.symm))]
    rw[HRES.out,hm]
    exact ⟨rfl,HP.out.keep (Below.drewN_ (Below.refl _ _) _),HB1.out.drewN _⟩
end Go.Proofs.YtbdfhnelmojbpaaGreatDoor
end
