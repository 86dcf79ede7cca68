/- Package mat: a column is cleared. -/
import Derived.Test.YtehbhghbagaliaaGreatDoorJWalkF
import Derived.Deep.QuietTactic
import Derived.BigQuiet
import Derived.Deep.DeepCutAuto
import Derived.Deep.CutBlock
set_option linter.unusedVariables false
set_option linter.unusedSimpArgs false
namespace Vic
open Go Go.RowKit
def FitsM (L rows cols:Nat) (M:Nat→Nat→Rat):Prop:=∀ i k,i<rows→k<cols→Fits L (M i k)
def divTo (M:Nat→Nat→Rat) (at_ col k:Nat):Nat→Nat→Rat:=fun i' k'=>if i'=at_∧k'<k then M at_ k' / M at_ col else M i' k'
theorem divTo_zero (M:Nat→Nat→Rat) (at_ col:Nat):divTo M at_ col 0=M:=by
 funext i k;unfold divTo;rw[if_neg (by omega)]
theorem divTo_here (M:Nat→Nat→Rat) (at_ col k:Nat):divTo M at_ col k at_ k=M at_ k:=by unfold divTo;rw[if_neg (by omega)]
theorem divTo_step (M:Nat→Nat→Rat) (at_ col k:Nat):upd2 (divTo M at_ col k) at_ k (M at_ k / M at_ col)=divTo M at_ col (k+1):=by
 funext i' k'
 unfold upd2 divTo
 by_cases h1:i'=at_∧k'=k
 ·obtain ⟨rfl,rfl⟩:=h1
  rw[if_pos ⟨rfl,rfl⟩,if_pos ⟨rfl,by omega⟩]
 ·rw[if_neg h1]
  by_cases h2:i'=at_∧k'<k
  ·rw[if_pos h2,if_pos ⟨h2.1,by omega⟩]
  ·rw[if_neg h2,if_neg (fun h3=>by
    by_cases h4:k'=k
    ·exact h1 ⟨h3.1,h4⟩
    ·exact h2 ⟨h3.1,by omega⟩)]
def subTo (N:Nat→Nat→Rat) (at_ col i:Nat):Nat→Nat→Rat:=fun i' k'=>if i'≠at_∧i'<i then N i' k' - N i' col*N at_ k' else N i' k'
def subRow (N:Nat→Nat→Rat) (at_ col i k:Nat):Nat→Nat→Rat:=fun i' k'=>if (i'≠at_∧i'<i)∨(i'=i∧k'<k)then N i' k' - N i' col*N at_ k' else N i' k'
theorem subTo_zero (N:Nat→Nat→Rat) (at_ col:Nat):subTo N at_ col 0=N:=by
 funext i k;unfold subTo;rw[if_neg (by omega)]
theorem subTo_here (N:Nat→Nat→Rat) (at_ col i k:Nat):subTo N at_ col i i k=N i k:=by unfold subTo;rw[if_neg (by omega)]
theorem subTo_skip (N:Nat→Nat→Rat) (at_ col i:Nat) (h:i=at_∨N i col=0):subTo N at_ col i=subTo N at_ col (i+1):=by
 funext i' k'
 unfold subTo
 by_cases h1:i'≠at_∧i'<i
 ·rw[if_pos h1,if_pos ⟨h1.1,by omega⟩]
 ·rw[if_neg h1]
  by_cases h2:i'≠at_∧i'<i+1
  ·have hi:i'=i:=by omega
   subst hi
   rw[if_pos h2]
   rcases h with h|h
   ·exact absurd h h2.1
   ·rw[h,Rat.zero_mul,Rat.sub_eq_add_neg,Rat.neg_zero,Rat.add_zero]
  ·rw[if_neg h2]
theorem subRow_zero (N:Nat→Nat→Rat) (at_ col i:Nat):subRow N at_ col i 0=subTo N at_ col i:=by
 funext i' k'
 unfold subRow subTo
 by_cases h1:i'≠at_∧i'<i
 ·rw[if_pos h1,if_pos (.inl h1)]
 ·rw[if_neg h1,if_neg (by omega)]
theorem subRow_at (N:Nat→Nat→Rat) (at_ col i k k':Nat) (h:i≠at_):subRow N at_ col i k at_ k'=N at_ k':=by
 unfold subRow;rw[if_neg (by omega)]
theorem subRow_here (N:Nat→Nat→Rat) (at_ col i k:Nat):subRow N at_ col i k i k=N i k:=by
 unfold subRow;rw[if_neg (by omega)]
theorem subRow_step (N:Nat→Nat→Rat) (at_ col i k:Nat) (h:i≠at_):upd2 (subRow N at_ col i k) i k (N i k - N i col*N at_ k)=subRow N at_ col i (k+1):=by
 funext i' k'
 unfold upd2 subRow
 by_cases h1:i'=i∧k'=k
 ·obtain ⟨rfl,rfl⟩:=h1
  rw[if_pos ⟨rfl,rfl⟩,if_pos (.inr ⟨rfl,by omega⟩)]
 ·rw[if_neg h1]
  by_cases h2:(i'≠at_∧i'<i)∨(i'=i∧k'<k)
  ·rw[if_pos h2,if_pos (by omega)]
  ·rw[if_neg h2,if_neg (by omega)]
theorem subRow_skip (N:Nat→Nat→Rat) (at_ col i k:Nat) (h:N at_ k=0):subRow N at_ col i k=subRow N at_ col i (k+1):=by
 funext i' k'
 unfold subRow
 by_cases h2:(i'≠at_∧i'<i)∨(i'=i∧k'<k)
 ·rw[if_pos h2,if_pos (by omega)]
 ·rw[if_neg h2]
  by_cases h3:(i'≠at_∧i'<i)∨(i'=i∧k'<k+1)
  ·have hk:k'=k:=by omega
   subst hk
   rw[if_pos h3,h,Rat.mul_zero,Rat.sub_eq_add_neg,Rat.neg_zero,Rat.add_zero]
  ·rw[if_neg h3]
theorem subRow_done (N:Nat→Nat→Rat) (at_ col i cols:Nat) (h:i≠at_) (i' k':Nat) (hk:k'<cols):subRow N at_ col i cols i' k'=subTo N at_ col (i+1) i' k':=by
 unfold subRow subTo
 by_cases h2:(i'≠at_∧i'<i)∨(i'=i∧k'<cols)
 ·rw[if_pos h2,if_pos (by omega)]
 ·rw[if_neg h2,if_neg (by omega)]
def clr (M:Nat→Nat→Rat) (at_ col:Nat):Nat→Nat→Rat:=fun i k=>if i=at_ then M at_ k / M at_ col else M i k - M i col*(M at_ k / M at_ col)
theorem clr_done (M:Nat→Nat→Rat) (at_ col rows cols:Nat) (hc:col<cols) (i k:Nat) (hi:i<rows) (hk:k<cols):subTo (divTo M at_ col cols) at_ col rows i k=clr M at_ col i k:=by
 unfold subTo clr
 by_cases h:i=at_
 ·subst h
  rw[if_neg (by omega),if_pos rfl]
  unfold divTo
  rw[if_pos ⟨rfl,hk⟩]
 ·rw[if_pos ⟨h,hi⟩,if_neg h]
  unfold divTo
  rw[if_neg (by omega),if_neg (by omega),if_pos ⟨rfl,hk⟩]
theorem fits_divTo {L rows cols:Nat}{M:Nat→Nat→Rat}(h:FitsM L rows cols M) {at_ col:Nat}(ha:at_<rows) (hc:col<cols) (h0:M at_ col≠0) (k:Nat):FitsM (L+L) rows cols (divTo M at_ col k):=fun i' k' hi hk=>by
 unfold divTo
 by_cases h1:i'=at_∧k'<k
 ·rw[if_pos h1];exact fits_div (h at_ k' ha hk) (h at_ col ha hc) h0
 ·rw[if_neg h1];exact (h i' k' hi hk).mono (by omega)
end Vic
namespace Go.Proofs.YtehbhghbagaliaaGreatDoor
open Go.RowKit Vic
set_option maxRecDepth 100000 in
set_option maxHeartbeats 8000000 in
theorem mat_cleared (w:World) (G GO B rows cols c:Nat) (g cap:Nat→Nat) (cur:Nat→Array Value) (M:Nat→Nat→Rat) (L:Nat) (h:Grid 30 w G GO B rows cols g cap cur M) (hB:B≤w.heap.size) (hf:FitsM L rows cols M) (hL:L≤200000000) (at_ col:Nat) (ha:at_<rows) (hcl:col<cols) (h0:M at_ col≠0) (hc:rows≤c) (hr:rows≤1000000) (hcc:cols≤1000000) :
 Calls Tryz.prog 115 #[.slice (some ⟨G,GO,none⟩) rows c,.int .i64 at_,.int .i64 col] w fun e w'=>e=.returned (.tuple #[])∧∃ cur',Grid 30 w' G GO B rows cols g cap cur' (clr M at_ col)∧Below B w w'∧∀ j,j<w.heap.size→(∀ i,i<rows→j≠g i)→w'.heap[j]?=w.heap[j]?:=by
 obtain ⟨aby,hca,_,hfby⟩:=h.cell ha hcl
 have hout:=h.outer at_ ha
 have hcaps:=h.caps at_ ha
 have HG:=Lib.hid h
 have HF:=Lib.hid hf
 have HFB:=Lib.hid hfby
 have H0:=Lib.hid h0
 clear h hf hfby h0
 go_enter Tryz.func115,Tryz.ntmps115
 go_wp2_with fail
 go_loopw [23] (fun t wr=>∃ (k:Nat) (cur:Nat→Array Value),t=.int .i64 k∧k≤cols∧Hid (Grid 30 wr G GO B rows cols g cap cur (divTo M at_ col k))∧Below B w wr∧Hid (FracPtr wr (.pointer aby) (M at_ col))∧Hid (∀ j,j<w.heap.size→(∀ i,i<rows→j≠g i)→wr.heap[j]?=w.heap[j]?)) (fun t _=>cols - (intOf t).toNat)
 case atStart=>exact ⟨0,cur,rfl,Nat.zero_le _,by rw[divTo_zero];exact HG.out,Below.refl _ _,HFB.out,fun _ _ _=>rfl⟩
 case round=>
  obtain ⟨k,cur,rfl,hk,hgr,hbr,hby,hGG⟩:=hrel
  by_cases hlt:k<cols
  ·obtain ⟨ak,hck,hfk,hvk⟩:=hgr.out.cell ha hlt
   rw[divTo_here]at hvk
   have hor:=hgr.out.outer at_ ha
   have CD:Hid (∀ w',Below wr.heap.size wr w'→Calls Tryz.prog 154 #[.pointer ak,.pointer aby] w' (GivesOk (fun z w'=>FracPtr w' z (M at_ k / M at_ col)) w')):=fun w' hw=>frac_Div w' _ _ _ _ (hvk.keep hw).at_ (hby.out.keep hw).at_ ((HF.out at_ k ha hlt).mono (by omega)) ((HF.out at_ col ha hcl).mono (by omega)) H0.out
   have B0:Below wr.heap.size wr wr:=Below.refl _ _
   have B1:Below wr.heap.size wr wr.drew:=⟨rfl,rfl,rfl,Nat.le_refl _,fun _ _=>rfl⟩
   have HB0:=Lib.hid B0;have HB1:=Lib.hid B1
   clear B0 B1 hvk
   have hfree:∀ w5,Below wr.heap.size wr w5→w5.frozen? ⟨g at_,k,none⟩=false:=fun w5 h5=>(hgr.out.keep h5 |>.cell ha hlt).choose_spec.2.1
   have HFRE:=Lib.hid hfree
   clear hfree
   go_wp2_with fail
   go_region_law (first
    | (go_simp;go_at_call 154;refine (CD.out _ (by first|exact HB0.out|exact HB1.out)).mono ?_;rintro e w5 ⟨x5,rfl,hx5,hb5⟩;obtain ⟨a5,rfl⟩:=hx5.ptr;have hb05:=HB1.out.trans (hb5.mono HB1.out.size);have hor5:=cell_keep hor hb05;have hck5:=cell_keep hck hb05;have hfr5:=HFRE.out w5 hb05))
   all_goals
    go_wp2_with fail
    go_roundw
    case rel=>
     have hg5:=(hgr.out.keep hb05).set ha hlt hx5
     rw[divTo_step]at hg5
     exact ⟨k+1,_,rfl,by omega,hg5,(hbr.trans (hb05.mono (Nat.le_trans hB hbr.size))).setCell (hgr.out.base at_ ha) _,(hby.out.keep hb05).stayP (setCell_stayP ((hgr.out.keep hb05).palien ha)),fun j hj hn=>(Below.heap_setCell w5 ⟨g at_,k,none⟩ _ j (hn at_ ha)).trans ((hb05.block j (Nat.lt_of_lt_of_le hj hbr.size)).trans (hGG.out j hj hn))⟩
    case measure=>simp[intOf];omega
  ·obtain rfl:k=cols:=by omega
   obtain ⟨N,hN⟩:∃ N,N=divTo M at_ col k:=⟨_,rfl⟩
   have HNE:=Lib.hid hN
   have hfn:=fits_divTo HF.out ha hcl H0.out k
   rw[← hN]at hgr hfn
   have HFN:=Lib.hid hfn
   have hgr0:Hid (Grid 30 wr G GO B rows k g cap cur (subTo N at_ col 0)):=by rw[subTo_zero];exact hgr
   obtain ⟨w1,hw1⟩:∃ w1,w1=wr:=⟨_,rfl⟩
   have HB1:=Lib.hid hbr
   clear hN hfn
   go_wp2_with fail
   go_loopw [47] (fun t wr=>∃ (i:Nat) (cur:Nat→Array Value),t=.int .i64 i∧i≤rows∧Hid (Grid 30 wr G GO B rows k g cap cur (subTo N at_ col i))∧Below B w wr∧Hid (∀ j,j<w.heap.size→(∀ i,i<rows→j≠g i)→wr.heap[j]?=w.heap[j]?)) (fun t _=>rows - (intOf t).toNat)
   case atStart=>exact ⟨0,cur,rfl,Nat.zero_le _,hgr0,hbr,hGG⟩
   case round=>
    obtain ⟨i,cur,rfl,hi,hgi,hbi,hGI⟩:=hrel
    by_cases hilt:i<rows
    ·obtain ⟨at2,hct,_,hvt⟩:=hgi.out.cell hilt hcl
     rw[subTo_here]at hvt
     have hoi:=hgi.out.outer i hilt
     have hocap:=hgi.out.caps i hilt
     have CS0:=frac_Sign wr _ _ hvt.at_ ((HFN.out i col hilt hcl).mono (by omega))
     by_cases hia:i=at_
     ·subst hia
      have hnx:=hgi.out
      rw[subTo_skip N i col i (.inl rfl)]at hnx
      have HNX:=Lib.hid hnx
      clear hnx CS0 hvt
      go_wp2_with fail
      go_roundw
      case rel=>exact ⟨i+1,cur,rfl,by omega,HNX,hbi,hGI⟩
      case measure=>simp[intOf];omega
     ·by_cases ht0:N i col=0
      ·rw[signI_zero.2 ht0]at CS0
       have CS:=Lib.hid CS0
       have hnx:=hgi.out
       rw[subTo_skip N at_ col i (.inr ht0)]at hnx
       have HNX:=Lib.hid hnx
       clear hnx CS0 hvt ht0
       go_wp2_with fail
       refine CS.out.mono ?_
       rintro e w5 ⟨rfl,hb5⟩
       go_wp2_with fail
       go_roundw
       case rel=>exact ⟨i+1,cur,rfl,by omega,HNX.out.keep hb5,hbi.trans (hb5.mono (Nat.le_trans hB hbi.size)),fun j hj hn=>(hb5.block j (Nat.lt_of_lt_of_le hj hbi.size)).trans (hGI.out j hj hn)⟩
       case measure=>simp[intOf];omega
      ·have hib:(((i:Nat):Int) == ((at_:Nat):Int))=false:=beq_eq_false_iff_ne.2 (by omega)
       have hs0:(signI (N i col) == 0)=false:=beq_eq_false_iff_ne.2 fun e=>ht0 (signI_zero.1 e)
       have HVT:=Lib.hid hvt
       have CS:=Lib.hid CS0
       generalize signI (N i col)=sg at *
       clear CS0 hvt ht0
       go_wp2_with fail
       refine CS.out.mono ?_
       rintro e w5 ⟨rfl,hb5⟩
       have hoi5:=cell_keep hoi hb5
       go_wp2_with fail
       have hg5:=hgi.out.keep hb5
       rw[← subRow_zero]at hg5
       have HG5:=Lib.hid hg5
       have hGI5:Hid (∀ j,j<w.heap.size→(∀ i,i<rows→j≠g i)→w5.heap[j]?=w.heap[j]?):=fun j hj hn=>(hb5.block j (Nat.lt_of_lt_of_le hj hbi.size)).trans (hGI.out j hj hn)
       have HVT5:=Lib.hid (HVT.out.keep hb5)
       have hb5':Below B w w5:=hbi.trans (hb5.mono (Nat.le_trans hB hbi.size))
       clear hg5
       go_loopw [70] (fun t wr=>∃ (k2:Nat) (cur:Nat→Array Value),t=.int .i64 k2∧k2≤k∧Hid (Grid 30 wr G GO B rows k g cap cur (subRow N at_ col i k2))∧Below B w wr∧Hid (FracPtr wr (.pointer at2) (N i col))∧Hid (∀ j,j<w.heap.size→(∀ i,i<rows→j≠g i)→wr.heap[j]?=w.heap[j]?)) (fun t _=>k - (intOf t).toNat)
       case atStart=>exact ⟨0,cur,rfl,Nat.zero_le _,HG5,hb5',HVT5,hGI5⟩
       case round=>
        obtain ⟨k2,cur,rfl,hk2,hgk,hbk,hvt,hGK⟩:=hrel
        by_cases hklt:k2<k
        ·obtain ⟨ap,hcp,hfp,hvp⟩:=hgk.out.cell ha hklt
         rw[subRow_at N at_ col i k2 k2 hia]at hvp
         obtain ⟨ip,hci,hfi,hvi⟩:=hgk.out.cell hilt hklt
         rw[subRow_here]at hvi
         have hop:=hgk.out.outer at_ ha
         have hoi2:=hgk.out.outer i hilt
         have CS0:=frac_Sign wr _ _ hvp.at_ ((HFN.out at_ k2 ha hklt).mono (by omega))
         by_cases hp0:N at_ k2=0
         ·rw[signI_zero.2 hp0]at CS0
          have CS:=Lib.hid CS0
          have hnx:=hgk.out
          rw[subRow_skip N at_ col i k2 hp0]at hnx
          have HNX:=Lib.hid hnx
          clear hnx CS0 hvp hp0 hvi
          go_wp2_with fail
          refine CS.out.mono ?_
          rintro e w6 ⟨rfl,hb6⟩
          go_wp2_with fail
          go_roundw
          case rel=>exact ⟨k2+1,cur,rfl,by omega,HNX.out.keep hb6,hbk.trans (hb6.mono (Nat.le_trans hB hbk.size)),hvt.out.keep hb6,fun j hj hn=>(hb6.block j (Nat.lt_of_lt_of_le hj hbk.size)).trans (hGK.out j hj hn)⟩
          case measure=>simp[intOf];omega
         ·have hs1:(signI (N at_ k2) != 0)=true:=by rw[bne_iff_ne];exact fun e=>hp0 (signI_zero.1 e)
          have CS:=Lib.hid CS0
          generalize signI (N at_ k2)=sg2 at *
          have HVP:=Lib.hid hvp;have HVI:=Lib.hid hvi
          clear CS0 hvp hvi hp0
          go_wp2_with fail
          refine CS.out.mono ?_
          rintro e w6 ⟨rfl,hb6⟩
          have B0:Below wr.heap.size wr w6:=hb6
          have B1:Below wr.heap.size wr w6.drew:=⟨hb6.os,hb6.tape,hb6.output,hb6.size,hb6.block⟩
          have hop6:=cell_keep hop hb6
          have hoi6:=cell_keep hoi2 hb6
          have hcp6:=cell_keep hcp hb6
          have hci6:=cell_keep hci hb6
          have CM:Hid (∀ w',Below wr.heap.size wr w'→Calls Tryz.prog 46 #[.pointer at2,.pointer ap] w' (Gives (fun z w'=>FracPtr w' z (N i col*N at_ k2)) w')):=fun w' hw=>frac_Mul w' _ _ _ _ (hvt.out.keep hw).at_ (HVP.out.keep hw).at_ ((HFN.out i col hilt hcl).mono (by omega)) ((HFN.out at_ k2 ha hklt).mono (by omega))
          have CB:Hid (∀ w' z,Below wr.heap.size wr w'→FracPtr w' z (N i col*N at_ k2)→Calls Tryz.prog 155 #[.pointer ip,z] w' (Gives (fun z w'=>FracPtr w' z (N i k2 - N i col*N at_ k2)) w')):=fun w' z hw hz=>frac_Sub w' _ _ _ _ (HVI.out.keep hw).at_ hz.at_ ((HFN.out i k2 hilt hklt).mono (by omega)) ((fits_mul (HFN.out i col hilt hcl) (HFN.out at_ k2 ha hklt)).mono (by omega))
          have HFRE:Hid (∀ w5,Below wr.heap.size wr w5→w5.frozen? ⟨g i,k2,none⟩=false):=fun w5 h5=>(hgk.out.keep h5 |>.cell hilt hklt).choose_spec.2.1
          have HALL:Hid (∀ w',Below wr.heap.size wr w'→w'.cell? ⟨G,GO+at_,none⟩=some (.slice (some ⟨g at_,0,none⟩) k (cap at_))∧w'.cell? ⟨G,GO+i,none⟩=some (.slice (some ⟨g i,0,none⟩) k (cap i))∧w'.cell? ⟨g at_,k2,none⟩=some (.pointer ap)∧w'.cell? ⟨g i,k2,none⟩=some (.pointer ip)):=fun w' hw=>⟨cell_keep hop hw,cell_keep hoi2 hw,cell_keep hcp hw,cell_keep hci hw⟩
          have HFIN:Hid (∀ w8 a8,Below wr.heap.size wr w8→FracPtr w8 (.pointer a8) (N i k2 - N i col*N at_ k2)→(∃ (k2_1:Nat) (cur:Nat→Array Value),Value.int .i64 ((k2:Int)+1)=.int .i64 k2_1∧k2_1≤k∧Hid (Grid 30 (w8.setCell ⟨g i,k2,none⟩ (.pointer a8)) G GO B rows k g cap cur (subRow N at_ col i k2_1))∧Below B w (w8.setCell ⟨g i,k2,none⟩ (.pointer a8))∧Hid (FracPtr (w8.setCell ⟨g i,k2,none⟩ (.pointer a8)) (.pointer at2) (N i col))∧Hid (∀ j,j<w.heap.size→(∀ i,i<rows→j≠g i)→(w8.setCell ⟨g i,k2,none⟩ (.pointer a8)).heap[j]?=w.heap[j]?))∧k - (intOf (Value.int .i64 ((k2:Int)+1))).toNat<k - (intOf (Value.int .i64 (k2:Int))).toNat):=fun w8 a8 hb08 hx8=>by
           have hg8:=(hgk.out.keep hb08).set hilt hklt hx8
           rw[subRow_step N at_ col i k2 hia]at hg8
           exact ⟨⟨k2+1,_,rfl,by omega,hg8,(hbk.trans (hb08.mono (Nat.le_trans hB hbk.size))).setCell (hgk.out.base i hilt) _,(hvt.out.keep hb08).stayP (setCell_stayP ((hgk.out.keep hb08).palien hilt)),fun j hj hn=>(Below.heap_setCell w8 ⟨g i,k2,none⟩ _ j (hn i hilt)).trans ((hb08.block j (Nat.lt_of_lt_of_le hj hbk.size)).trans (hGK.out j hj hn))⟩,by simp[intOf];omega⟩
          have HB0:=Lib.hid B0;have HB1:=Lib.hid B1
          clear B0 B1 CS hcp hci hfp hfi hop hoi2
          go_wp2_with fail
          go_region_law (first
           | (go_simp;go_at_call 46;refine (CM.out _ (by first|exact HB0.out|exact HB1.out)).mono ?_;rintro e w7 ⟨x7,rfl,hx7,hb7⟩;obtain ⟨a7,rfl⟩:=hx7.ptr;have hb07:Below wr.heap.size wr w7:=(by first|exact HB1.out.trans (hb7.mono HB1.out.size)|exact HB0.out.trans (hb7.mono HB0.out.size));obtain ⟨hop7,hoi7,hcp7,hci7⟩:=HALL.out w7 hb07)
           | (go_simp;go_at_call 155;refine (CB.out _ _ hb07 hx7).mono ?_;rintro e w8 ⟨x8,rfl,hx8,hb8⟩;obtain ⟨a8,rfl⟩:=hx8.ptr;have hb08:=hb07.trans (hb8.mono hb07.size);obtain ⟨hop8,hoi8,hcp8,hci8⟩:=HALL.out w8 hb08;have hfr8:=HFRE.out w8 hb08))
          all_goals
           go_wp2_with fail
           exact HFIN.out w8 a8 hb08 hx8
        ·obtain rfl:k2=k:=by omega
         have hgd:Hid (Grid 30 wr G GO B rows k2 g cap cur (subTo N at_ col (i+1))):=hgk.out.congr fun i' k' _ hk'=>subRow_done N at_ col i k2 hia i' k' hk'
         go_wp2_with fail
         go_roundw
         case rel=>exact ⟨i+1,cur,rfl,by omega,hgd,hbk,hGK⟩
         case measure=>simp[intOf];omega
    ·obtain rfl:i=rows:=by omega
     have hgd:Hid (Grid 30 wr G GO B i k g cap cur (clr M at_ col)):=hgi.out.congr fun i' k' hi' hk'=>by
      rw[HNE.out]
      exact clr_done M at_ col i k hcl i' k' hi' hk'
     go_wp2_with fail
     go_end0
     exact ⟨rfl,cur,hgd.out,hbi,hGI.out⟩
end Go.Proofs.YtehbhghbagaliaaGreatDoor
