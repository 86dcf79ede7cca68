/- Package mat: how many rows and columns; a matrix in memory. And: Package mat: the first row with an entry that is not 0. Package mat: rows brought to steps. Plain: begun's matrices brought to steps. Package mat: rows copied. Package mat: what is laid behind the rows. Package mat: rows that a call makes, one behind the other. No walk here. Package mat: rows copied, each with more behind it: what lies in memory. No walk here. Package mat: rows copied, each with more behind it: the walk. Package mat: Rank. Package mat: Solve. -/
import Derived.Test.YtehbhghbagaliaaGreatDoorJWalkF
import Derived.Deep.QuietTactic
import Derived.BigQuiet
import Derived.Test.YtehbhghbagaliaaGreatDoorJMatB
import Derived.BigRegion
import Derived.Lib.SliceRun
set_option linter.unusedVariables false
set_option linter.unusedSimpArgs false
namespace Go.Proofs.YtehbhghbagaliaaGreatDoor
open Go.RowKit Vic
set_option maxRecDepth 100000 in
theorem mat_Size (w:World) (b G GO rows cols c:Nat) (h1:w.cell? ⟨b,0,none⟩=some (.slice (some ⟨G,GO,none⟩) rows c)) (h2:w.cell? ⟨b,1,none⟩=some (.int .i64 cols)) :
 Calls Tryz.prog 74 #[.pointer (some ⟨b,0,none⟩)] w (fun e w'=>e=.returned (.tuple #[.int .i64 rows,.int .i64 cols])∧∃ n,w'=w.drewN n):=by
 go_enter Tryz.func74,Tryz.ntmps74
 go_wp2_with fail
 go_quiet (fail)
 go_wp2_with fail
 go_ret2
 exact ⟨rfl,nq,rfl⟩
theorem mat_Size_nil (w:World):Calls Tryz.prog 74 #[.pointer none] w (Rets (.tuple #[.int .i64 0,.int .i64 0]) w):=by
 go_enter Tryz.func74,Tryz.ntmps74
 go_wp2_with fail
 go_ret2
 exact ⟨rfl,rfl⟩
end Go.Proofs.YtehbhghbagaliaaGreatDoor
set_option linter.unusedVariables false
set_option linter.unusedSimpArgs false
namespace Go.Proofs.YtehbhghbagaliaaGreatDoor
open Go.RowKit Vic
theorem mat_reduced_c1 (w:World) (G GO B rows cols:Nat) (g cap:Nat→Nat) (cur:Nat→Array Value) (M:Nat→Nat→Rat) (h:Grid 30 w G GO B rows cols g cap cur M) (hf:∀ i k,i<rows→k<cols→Fits 1000000000 (M i k)) (cv i col:Nat) (hcv:w.cell? ⟨cv,0,none⟩=some (.int .i64 col)) (hi:i<rows) (hk:col<cols) (hcols:cols≤1000000) :
 Calls Tryz.prog 114 #[.slice (some ⟨g i,0,none⟩) cols (cap i),.pointer (some ⟨cv,0,none⟩)] w (Keeps (.bool (signI (M i col) != 0)) w):=by
 obtain ⟨a,hc,_,hv⟩:=h.cell hi hk
 have hcap:=h.caps i hi
 have CS:=Lib.hid (frac_Sign w _ _ hv.at_ (hf i col hi hk))
 generalize signI (M i col)=s at *
 clear hv h hf
 go_enter Tryz.func114,Tryz.ntmps114
 go_wp2_with fail
 refine CS.out.mono ?_
 rintro e w1 ⟨rfl,hb1⟩
 go_wp2_with fail
 go_ret
 exact ⟨rfl,hb1⟩
def FirstRow (M:Nat→Nat→Rat) (rows col at_:Nat) (w:World) (e:Ending) (w':World):Prop:=
 Below w.heap.size w w'∧((∃ i,at_+i<rows∧M (at_+i) col≠0∧(∀ j,j<i→M (at_+j) col=0)∧e=.returned (.int .i64 (i:Nat)))∨((∀ i,at_+i<rows→M (at_+i) col=0)∧e=.returned (.int .i64 (-1))))
set_option maxRecDepth 100000 in
set_option maxHeartbeats 2000000 in
theorem mat_IndexFunc (w:World) (G GO B rows cols:Nat) (g cap:Nat→Nat) (cur:Nat→Array Value) (M:Nat→Nat→Rat) (h:Grid 30 w G GO B rows cols g cap cur M) (hf:∀ i k,i<rows→k<cols→Fits 1000000000 (M i k)) (cv col at_ c:Nat) (hcv:w.cell? ⟨cv,0,none⟩=some (.int .i64 col)) (ha:at_≤rows) (hk:col<cols) (hcols:cols≤1000000) (hr:rows≤1000000) (hc:rows - at_≤c) :
 Calls Tryz.prog 113 #[.slice (some ⟨G,GO+at_,none⟩) (rows - at_) c,.func (.func 114) #[] #[.pointer (some ⟨cv,0,none⟩)]] w (FirstRow M rows col at_ w):=by
 obtain ⟨n,hn⟩:∃ n,n=rows - at_:=⟨_,rfl⟩
 rw[← hn]
 have HN:=Lib.hid hn
 have HG:=Lib.hid h
 have HF:=Lib.hid hf
 have hnb:n≤1000000:=by omega
 rw[← hn]at hc
 clear h hf hn
 go_enter Tryz.func113,Tryz.ntmps113
 go_wp2_with fail
 go_loopw [8] (fun t wr=>∃ k:Nat,t=.int .i64 k∧k≤n∧Hid (∀ j,j<k→M (at_+j) col=0)∧Below w.heap.size w wr) (fun t _=>n - (intOf t).toNat)
 case atStart=>exact ⟨0,rfl,Nat.zero_le _,fun j hj=>by omega,Below.refl _ _⟩
 case round=>
  obtain ⟨k,rfl,hk2,hz,hbr⟩:=hrel
  by_cases hlt:k<n
  ·have hro:at_+k<rows:=by have:=HN.out;omega
   have hcell:=cell_keep (HG.out.outer (at_+k) hro) hbr
   rw[← Nat.add_assoc]at hcell
   have CC:=Lib.hid (mat_reduced_c1 wr G GO B rows cols g cap cur M (HG.out.keep hbr) HF.out cv (at_+k) col (cell_keep hcv hbr) hro hk hcols)
   by_cases h0:M (at_+k) col=0
   ·rw[show (signI (M (at_+k) col) != 0)=false by rw[signI_zero.2 h0];rfl]at CC
    have hz2:Hid (∀ j,j<k+1→M (at_+j) col=0):=fun j hj=>by
     rcases Nat.lt_or_eq_of_le (Nat.le_of_lt_succ hj)with h1|h1
     ·exact hz.out j h1
     ·rw[h1];exact h0
    clear h0
    go_wp2_with fail
    refine CC.out.mono ?_
    rintro e w1 ⟨rfl,hb1⟩
    go_wp2_with fail
    go_roundw
    case rel=>exact ⟨k+1,rfl,by omega,hz2,hbr.trans (hb1.mono hbr.size)⟩
    case measure=>simp[intOf];omega
   ·rw[show (signI (M (at_+k) col) != 0)=true by rw[bne_iff_ne];exact fun e=>h0 (signI_zero.1 e)]at CC
    have H0:=Lib.hid h0
    clear h0
    go_wp2_with fail
    refine CC.out.mono ?_
    rintro e w1 ⟨rfl,hb1⟩
    go_wp2_with fail
    go_ret
    exact ⟨hbr.trans (hb1.mono hbr.size),.inl ⟨k,hro,H0.out,hz.out,rfl⟩⟩
  ·obtain rfl:k=n:=by omega
   go_wp2_with fail
   go_ret
   exact ⟨hbr,.inr ⟨fun i hi=>hz.out i (by have:=HN.out;omega),rfl⟩⟩
end Go.Proofs.YtehbhghbagaliaaGreatDoor
set_option linter.unusedVariables false
set_option linter.unusedSimpArgs false
namespace Vic
open Go Go.RowKit
def swapI (i j:Nat) (k:Nat):Nat:=if k=i then j else if k=j then i else k
theorem swapI_lt {i j k n:Nat}(hi:i<n) (hj:j<n) (hk:k<n):swapI i j k<n:=by
 unfold swapI
 split
 ·exact hj
 ·split
  ·exact hi
  ·exact hk
theorem swapI_snd (i j:Nat):swapI i j j=i:=by
 unfold swapI
 by_cases h:j=i
 ·rw[if_pos h];exact h
 ·rw[if_neg h,if_pos rfl]
theorem swapI_inj {i j a b:Nat}(h:swapI i j a=swapI i j b):a=b:=by
 unfold swapI at h
 split at h<;>split at h<;>(try split at h)<;>(try split at h)<;>omega
def YAlien (w:World) (b:Nat):Prop:=∀ o u,w.cell? ⟨b,o,none⟩=some u→(∃ n,u=.int .i64 n)∨(∃ A l c g o',u=.slice A l c∧A=some ⟨g,o',none⟩∧0<l∧∃ a,w.cell? ⟨g,o',none⟩=some (.pointer a))∨(∃ A l c,u=.slice A l c)∧o≠0
theorem NatPtr.stayY {w w':World}{v:Value}{n:Nat}(h:NatPtr w v n) (hs:∀ b,b<w.heap.size→YAlien w b∨w'.heap[b]?=w.heap[b]?):NatPtr w' v n:=by
 obtain ⟨b,s,h1,h2,⟨A,c,rfl,h3,h4⟩,hbk⟩:=h
 have e1:w'.heap[b]?=w.heap[b]?:=by
  rcases hs b (block_lt h2)with h5|h5
  ·rcases h5 _ _ h2 with ⟨n,e⟩|⟨A',l',c',g,o',e,hA,hl,a,hc⟩|⟨_,e⟩
   ·cases e
   ·injection e with e1 e2 e3
    subst e1;subst e2
    obtain ⟨b',o'',hA',hc'⟩:=h4 0 hl
    rw[hA]at hA'
    injection hA' with hA'
    injection hA' with hb ho
    subst hb;subst ho
    rw[Nat.add_zero,hc]at hc'
    cases hc'
   ·exact absurd rfl e
  ·exact h5
 refine ⟨b,_,h1,by rw[cell_same e1];exact h2,⟨A,c,rfl,h3,fun i hi=>?_⟩,hbk.same e1⟩
 obtain ⟨b',o',hA',hc⟩:=h4 i hi
 have e2:w'.heap[b']?=w.heap[b']?:=by
  rcases hs b' (block_lt hc)with h5|h5
  ·rcases h5 _ _ hc with ⟨n,e⟩|⟨_,_,_,_,_,e,_⟩|⟨e,_⟩
   ·cases e
   ·cases e
   ·obtain ⟨_,_,_,e⟩:=e
    cases e
  ·exact h5
 exact ⟨b',o',hA',by rw[cell_same e2];exact hc⟩
theorem FracPtr.stayY {w w':World}{v:Value}{q:Rat}(h:FracPtr w v q) (hs:∀ b,b<w.heap.size→YAlien w b∨w'.heap[b]?=w.heap[b]?):FracPtr w' v q:=by
 obtain ⟨b,pn,pd,h1,h2,h3,h4,h5,h6⟩:=h
 have e1:w'.heap[b]?=w.heap[b]?:=by
  rcases hs b (block_lt h2)with h7|h7
  ·rcases h7 _ _ h2 with ⟨n,e⟩|⟨_,_,_,_,_,e,_⟩|⟨⟨_,_,_,e⟩,_⟩<;>cases e
  ·exact h7
 refine ⟨b,pn,pd,h1,by rw[cell_same e1];exact h2,by rw[cell_same e1];exact h3,by rw[cell_same e1];exact h4,?_,h6.stayY hs⟩
 rcases h5 with h5|h5
 ·exact .inl h5
 ·exact (NatPtr.stayY h5 hs).at_
theorem Grid.swap {T:TypeId}{w w':World}{G B rows cols:Nat}{g cap:Nat→Nat}{cur:Nat→Array Value}{M:Nat→Nat→Rat}(h:Grid T w G 0 B rows cols g cap cur M) {i j:Nat}(hi:i<rows) (hj:j<rows)
 (hG:YAlien w G) (hs:∀ b,b≠G→w'.heap[b]?=w.heap[b]?) (ho:∀ k,k<rows→w'.cell? ⟨G,0+k,none⟩=some (.slice (some ⟨g (swapI i j k),0,none⟩) cols (cap (swapI i j k)))) :
 Grid T w' G 0 B rows cols (fun k=>g (swapI i j k)) (fun k=>cap (swapI i j k)) (fun k=>cur (swapI i j k)) (fun k=>M (swapI i j k)):=by
 have hst:∀ b,b<w.heap.size→YAlien w b∨w'.heap[b]?=w.heap[b]?:=fun b _=>by
  by_cases hb:b=G
  ·subst hb;exact .inl hG
  ·exact .inr (hs b hb)
 refine ⟨ho,fun k hk=>?_,fun k hk=>h.ptr _ (swapI_lt hi hj hk),fun k hk=>h.base _ (swapI_lt hi hj hk),fun a b ha hb e=>swapI_inj (h.inj _ _ (swapI_lt hi hj ha) (swapI_lt hi hj hb) e),fun k hk=>h.caps _ (swapI_lt hi hj hk),fun k l hk hl=>?_⟩
 ·exact (hs _ (Ne.symm (h.outerNe (swapI_lt hi hj hk)))).trans (h.row _ (swapI_lt hi hj hk))
 ·obtain ⟨p,h1,h2⟩:=h.val _ l (swapI_lt hi hj hk) hl
  exact ⟨p,h1,h2.stayY hst⟩
theorem Grid.var {T:TypeId}{w w':World}{G B rows cols cv:Nat}{g cap:Nat→Nat}{cur:Nat→Array Value}{M:Nat→Nat→Rat}{n:Int}{Tv:TypeId}(h:Grid T w G 0 B rows cols g cap cur M) (hv:Row w cv Tv #[.int .i64 n]) (hs:∀ b,b≠cv→w'.heap[b]?=w.heap[b]?) :
 Grid T w' G 0 B rows cols g cap cur M:=by
 have hva:∀ o u,w.cell? ⟨cv,o,none⟩=some u→u=.int .i64 n:=fun o u hu=>by
  rw[hv.cell]at hu
  rcases o with _|o
  ·simpa using hu.symm
  ·simp at hu
 have hst:∀ b,b<w.heap.size→YAlien w b∨w'.heap[b]?=w.heap[b]?:=fun b _=>by
  by_cases hb:b=cv
  ·subst hb;exact .inl fun o u hu=>.inl ⟨n,hva o u hu⟩
  ·exact .inr (hs b hb)
 refine ⟨fun k hk=>?_,fun k hk=>?_,h.ptr,h.base,h.inj,h.caps,fun k l hk hl=>?_⟩
 ·rw[cell_same (hs G (fun e=>by have:=hva _ _ (e▸h.outer k hk);cases this))];exact h.outer k hk
 ·exact (hs _ (fun e=>by
   have h0:=h.row k hk
   rw[e]at h0
   have:=hv.symm.trans h0
   injection this with this
   injection this with this
   obtain ⟨a,ha⟩:=h.ptr k hk (.int .i64 n) (by rw[← this];simp)
   cases ha)).trans (h.row k hk)
 ·obtain ⟨p,h1,h2⟩:=h.val k l hk hl
  exact ⟨p,h1,h2.stayY hst⟩
def firstRow (M:Nat→Nat→Rat) (rows col at_:Nat):Option Nat:=(List.range (rows - at_)).find? fun i=>M (at_+i) col != 0
theorem firstRow_some {M:Nat→Nat→Rat}{rows col at_ i:Nat}(hi:at_+i<rows) (h:M (at_+i) col≠0) (hz:∀ j,j<i→M (at_+j) col=0):firstRow M rows col at_=some i:=by
 unfold firstRow
 rw[List.find?_range_eq_some]
 exact ⟨by simpa using h,by simp;omega,fun j hj=>by simpa using hz j hj⟩
theorem firstRow_none {M:Nat→Nat→Rat}{rows col at_:Nat}(hz:∀ i,at_+i<rows→M (at_+i) col=0):firstRow M rows col at_=none:=by
 unfold firstRow
 rw[List.find?_eq_none]
 intro i hi
 simpa using hz i (by have:=List.mem_range.1 hi;omega)
def redGo (rows ncols:Nat):Nat→Nat→(Nat→Nat→Rat)→Nat × (Nat→Nat→Rat)
 | 0,at_,M=>(at_,M)
 | r+1,at_,M=>if at_<rows then
    match firstRow M rows (ncols - (r+1)) at_ with
    | none=>redGo rows ncols r at_ M
    | some i=>redGo rows ncols r (at_+1) (clr (fun k=>M (swapI at_ (at_+i) k)) at_ (ncols - (r+1)))
  else (at_,M)
theorem redGo_full {rows ncols r at_:Nat}{M:Nat→Nat→Rat}(h:¬ at_<rows):redGo rows ncols r at_ M=(at_,M):=by
 cases r with
 | zero=>rfl
 | succ r=>unfold redGo;rw[if_neg h]
def colOf (w:World):Value→Nat
 | .pointer (some p)=>match w.cell? p with
   | some (.int _ n)=>n.toNat
   | _=>0
 | _=>0
theorem colOf_eq {w:World}{cv n:Nat}(h:w.cell? ⟨cv,0,none⟩=some (.int .i64 (n:Int))):colOf w (.pointer (some ⟨cv,0,none⟩))=n:=by
 unfold colOf;simp[h]
theorem fits_clr {L rows cols:Nat}{M:Nat→Nat→Rat}(h:FitsM L rows cols M) {at_ col:Nat}(ha:at_<rows) (hc:col<cols) (h0:M at_ col≠0) (hL:1≤L):FitsM (L*5) rows cols (clr M at_ col):=fun i k hi hk=>by
 unfold clr
 have hd:=fits_div (h at_ k ha hk) (h at_ col ha hc) h0
 by_cases hia:i=at_
 ·rw[if_pos hia];exact hd.mono (by omega)
 ·rw[if_neg hia,Rat.sub_eq_add_neg]
  exact (fits_add (h i k hi hk) (fits_neg (fits_mul (h i col hi hc) hd))).mono (by omega)
theorem fits_swap {L rows cols:Nat}{M:Nat→Nat→Rat}(h:FitsM L rows cols M) {i j:Nat}(hi:i<rows) (hj:j<rows):FitsM L rows cols (fun k=>M (swapI i j k)):=fun a b ha hb=>h _ b (swapI_lt hi hj ha) hb
end Vic
namespace Go.Proofs.YtehbhghbagaliaaGreatDoor
open Go.RowKit Vic
set_option maxRecDepth 100000 in
set_option maxHeartbeats 8000000 in
theorem mat_reduced (w:World) (G B rows cols ncols c:Nat) (g cap:Nat→Nat) (cur:Nat→Array Value) (cg:Array Value) (M:Nat→Nat→Rat) (L:Nat) (h:Grid 30 w G 0 B rows cols g cap cur M) (hG:Row w G 64 cg) (hgk:∀ u∈cg,∃ A l c,u=.slice A l c) (hB:B≤w.heap.size) (hBG:B≤G)
 (hf:FitsM L rows cols M) (hL1:1≤L) (hL:L*5 ^ ncols≤1000000000) (hnc:ncols≤cols) (hc:rows≤c) (hr:rows≤1000000) (hcc:cols≤1000000) :
 Calls Tryz.prog 77 #[.slice (some ⟨G,0,none⟩) rows c,.int .i64 ncols] w fun e w'=>∃ g cap cur,e=.returned (.int .i64 ((redGo rows ncols ncols 0 M).1:Nat))∧Grid 30 w' G 0 B rows cols g cap cur (redGo rows ncols ncols 0 M).2∧Below B w w':=by
 have HG:=Lib.hid h
 have HGG:=Lib.hid hG
 have HF:=Lib.hid hf
 have HGK:=Lib.hid hgk
 obtain ⟨R,hR⟩:∃ R,R=redGo rows ncols ncols 0 M:=⟨_,rfl⟩
 rw[← hR]
 have HR:=Lib.hid hR
 clear h hG hf hgk hR
 go_enter Tryz.func77,Tryz.ntmps77
 go_wp2_with fail
 go_loopw [5,6] (fun s t wr=>∃ (at_ rem cv:Nat) (M1:Nat→Nat→Rat) (g cap:Nat→Nat) (cur:Nat→Array Value) (cg:Array Value),s=.int .i64 at_∧t=.pointer (some ⟨cv,0,none⟩)∧rem≤ncols∧at_≤rows∧w.heap.size≤cv∧Hid (Row wr cv 3 #[.int .i64 ((ncols - rem:Nat):Int)])∧Hid (Grid 30 wr G 0 B rows cols g cap cur M1)∧Hid (Row wr G 64 cg)∧Hid (∀ u∈cg,∃ A l c,u=.slice A l c)∧Hid (R=redGo rows ncols rem at_ M1)∧Hid (FitsM (L*5 ^ (ncols - rem)) rows cols M1)∧Below B w wr) (fun _ t wr=>ncols - colOf wr t)
 case atStart=>
  refine ⟨0,ncols,w.heap.size,M,g,cap,cur,cg,rfl,rfl,Nat.le_refl _,Nat.zero_le _,Nat.le_refl _,?_,HG.out.keep ((Below.refl _ _).alloc (Nat.le_refl _) _),HGG.out.alloc _,HGK.out,HR.out,?_,(Below.refl _ _).alloc hB _⟩
  ·rw[Nat.sub_self];exact Row.new _ _ _
  ·rw[Nat.sub_self,Nat.pow_zero,Nat.mul_one];exact HF.out
 case round=>
  obtain ⟨at_,rem,cv,M1,g,cap,cur,cg,rfl,rfl,hrem,hat,hcv,hrow,hgr,hGr,hgk,hred,hfm,hbr⟩:=hrel
  have hcell:wr.cell? ⟨cv,0,none⟩=some (.int .i64 ((ncols - rem:Nat):Int)):=hrow.out.cell 0
  obtain ⟨col,hcol⟩:∃ col,col=ncols - rem:=⟨_,rfl⟩
  rw[← hcol]at hcell hfm hrow
  by_cases h1:at_<rows
  ·rcases rem with _|rem
   ·obtain rfl:col=ncols:=by omega
    have hre:Hid (R=(at_,M1)):=hred.out
    clear hcol hred
    go_wp2_with fail
    go_ret
    exact ⟨g,cap,cur,by rw[hre.out];rfl,by rw[hre.out];exact hgr.out,hbr⟩
   ·have hcn:col<ncols:=by omega
    have hred2:=hred.out
    have hcol2:ncols - (rem+1)=col:=by omega
    unfold redGo at hred2
    rw[if_pos h1,hcol2]at hred2
    have HRED:=Lib.hid hred2
    have hLL:L*5 ^ col≤200000000:=by
     have h7:L*5 ^ (col+1)≤1000000000:=Nat.le_trans (Nat.mul_le_mul_left _ (Nat.pow_le_pow_right (by omega) (by omega))) hL
     rw[Nat.pow_succ,← Nat.mul_assoc]at h7
     generalize L*5 ^ col=z at h7 ⊢
     omega
    have HLL:=Lib.hid hLL
    have CI0:=mat_IndexFunc wr G 0 B rows cols g cap cur M1 hgr.out (fun i k hi hk=>(hfm.out i k hi hk).mono (by omega)) cv col at_ (c - at_) hcell hat (by omega) hcc hr (by omega)
    rw[Nat.zero_add]at CI0
    have CI:=Lib.hid CI0
    unfold FirstRow at CI
    have HCOL:=Lib.hid hcol
    have HM1:=Lib.hid (colOf_eq hcell)
    have hcnn:((col:Nat):Int)<((ncols:Nat):Int):=by omega
    clear CI0 hred2 hLL hcol2 hcol hred
    go_wp2_with fail
    refine CI.out.mono ?_
    rintro e w1 ⟨hb1,⟨i,hi,h0,hz,rfl⟩|⟨hz,rfl⟩⟩
    ·have hc1:=cell_keep hcell hb1
     have hB1:Below B w w1:=hbr.trans (hb1.mono (Nat.le_trans hB hbr.size))
     have hfs:=Lib.hid (firstRow_some hi h0 hz)
     have hg1:=Lib.hid (hgr.out.keep hb1)
     have hG1:=Lib.hid (hGr.out.keep hb1)
     have ho1:=hg1.out.outer at_ h1
     have ho2:=hg1.out.outer (at_+i) hi
     rw[Nat.zero_add]at ho1 ho2
     have hfr1:=hG1.out.free at_
     have hfr2:=hG1.out.free (at_+i)
     have H0:=Lib.hid h0
     have hin:(i:Int)<1000000:=by omega
     clear hz hcell h0
     have hnn:¬ (i:Int)<0:=by omega
     have hsz:∀ (k:Nat) v,w1.cell? ⟨G,k,none⟩=some v→k<cg.size:=fun k v hv=>by
      rw[hG1.out.cell]at hv
      exact (Array.getElem?_eq_some_iff.1 hv).1
     have s1:=hsz _ _ ho1
     have s2:=hsz _ _ ho2
     have hz1:∃ z,(w1.setCell ⟨G,at_,none⟩ (.slice (some ⟨g (at_+i),0,none⟩) cols (cap (at_+i)))).cell? ⟨G,at_+i,none⟩=some z:=⟨_,by rw[(hG1.out.set _ _).cell];exact Array.getElem?_eq_getElem (by simpa using s2)⟩
     have hz2:∃ z,(w1.setCell ⟨G,at_+i,none⟩ (.slice (some ⟨g at_,0,none⟩) cols (cap at_))).cell? ⟨G,at_,none⟩=some z:=⟨_,by rw[(hG1.out.set _ _).cell];exact Array.getElem?_eq_getElem (by simpa using s1)⟩
     obtain ⟨z1,hz1⟩:=hz1
     obtain ⟨z2,hz2⟩:=hz2
     have hf1:(w1.setCell ⟨G,at_,none⟩ (.slice (some ⟨g (at_+i),0,none⟩) cols (cap (at_+i)))).frozen? ⟨G,at_+i,none⟩=false:=(hG1.out.set _ _).free _
     have hf2:(w1.setCell ⟨G,at_+i,none⟩ (.slice (some ⟨g at_,0,none⟩) cols (cap at_))).frozen? ⟨G,at_,none⟩=false:=(hG1.out.set _ _).free _
     have hwr:IntKind.i64.wrap ((at_:Int)+(i:Int))=(at_:Int)+(i:Int):=by rw[IntKind.wrap_i64];omega
     have S1:=Lib.hid s1;have S2:=Lib.hid s2
     clear hin hsz s1 s2
     go_wp2_with fail
     go_region
     obtain ⟨wS,hwS⟩:∃ wS,wS=((w1.setCell ⟨G,at_,none⟩ (.slice (some ⟨g (at_+i),0,none⟩) cols (cap (at_+i)))).setCell ⟨G,at_+i,none⟩ (.slice (some ⟨g at_,0,none⟩) cols (cap at_))).drew:=⟨_,rfl⟩
     have hrS:Row wS G 64 ((cg.setIfInBounds at_ (.slice (some ⟨g (at_+i),0,none⟩) cols (cap (at_+i)))).setIfInBounds (at_+i) (.slice (some ⟨g at_,0,none⟩) cols (cap at_))):=by rw[hwS];exact (hG1.out.set _ _).set _ _
     have hsS:∀ b,b≠G→wS.heap[b]?=w1.heap[b]?:=fun b hb=>by
      rw[hwS]
      exact (Below.heap_setCell _ ⟨G,at_+i,none⟩ _ b hb).trans (Below.heap_setCell w1 ⟨G,at_,none⟩ _ b hb)
     have hszS:wS.heap.size=w1.heap.size:=by rw[hwS];simp[World.setCell,World.drew]
     have hbS:Below B w1 wS:=by
      have hx:=(((Below.refl B w1).setCell (p:=⟨G,at_,none⟩) hBG (.slice (some ⟨g (at_+i),0,none⟩) cols (cap (at_+i)))).setCell (p:=⟨G,at_+i,none⟩) hBG (.slice (some ⟨g at_,0,none⟩) cols (cap at_)))
      rw[hwS]
      exact ⟨hx.os,hx.tape,hx.output,hx.size,hx.block⟩
     have HBS:=Lib.hid hbS
     rw[← hwS]
     have HRS:=Lib.hid hrS;have HSS:=Lib.hid hsS;have HSZ:=Lib.hid hszS
     have hYG:YAlien w1 G:=fun o u hu=>by
      rcases o with _|o
      ·have hr0:0<rows:=by omega
       have h5:=hg1.out.outer 0 hr0
       rw[Nat.zero_add]at h5
       rw[h5]at hu
       cases hu
       obtain ⟨a,ha,_⟩:=hg1.out.cell hr0 (show 0<cols by omega)
       exact .inr (.inl ⟨_,_,_,_,_,rfl,rfl,by omega,a,ha⟩)
      ·rw[hG1.out.cell]at hu
       exact .inr (.inr ⟨hgk.out u (Array.mem_of_getElem? hu),by omega⟩)
     have hoS:∀ k,k<rows→wS.cell? ⟨G,0+k,none⟩=some (.slice (some ⟨g (swapI at_ (at_+i) k),0,none⟩) cols (cap (swapI at_ (at_+i) k))):=fun k hk=>by
      rw[Nat.zero_add,HRS.out.cell]
      by_cases hk1:k=at_+i
      ·subst hk1
       have e:swapI at_ (at_+i) (at_+i)=at_:=swapI_snd _ _
       rw[e]
       simp[S2.out]
      ·by_cases hk2:k=at_
       ·subst hk2
        have e:swapI k (k+i) k=k+i:=by unfold swapI;rw[if_pos rfl]
        rw[e,Array.getElem?_setIfInBounds_ne (by omega)]
        simp[S1.out]
       ·have e:swapI at_ (at_+i) k=k:=by unfold swapI;rw[if_neg hk2,if_neg hk1]
        rw[e,Array.getElem?_setIfInBounds_ne (by omega),Array.getElem?_setIfInBounds_ne (by omega),← hG1.out.cell]
        have:=hg1.out.outer k hk
        rwa [Nat.zero_add]at this
     have hgS:=hg1.out.swap h1 hi hYG hsS hoS
     have h0S:(fun k=>M1 (swapI at_ (at_+i) k)) at_ col≠0:=by
      show M1 (swapI at_ (at_+i) at_) col≠0
      unfold swapI;rw[if_pos rfl];exact H0.out
     have hfS:=fits_swap hfm.out h1 hi
     have CC:=Lib.hid (mat_cleared wS G 0 B rows cols c _ _ _ _ (L*5 ^ col) hgS (by rw[hszS];exact Nat.le_trans hB hB1.size) hfS HLL.out at_ col h1 (by omega) h0S hc hr hcc)
     have hcS:wS.cell? ⟨cv,0,none⟩=some (.int .i64 (col:Int)):=by
      rw[cell_same (hsS cv (fun e=>by
       obtain ⟨A,l,c',h5⟩:=hgk.out _ (Array.mem_of_getElem? (by have:=hc1;rw[e,hG1.out.cell]at this;exact this))
       cases h5))]
      exact hc1
     have HFC:=Lib.hid (fits_clr hfS h1 (show col<cols by omega) h0S (show 1≤L*5 ^ col from Nat.le_trans hL1 (Nat.le_mul_of_pos_right _ (Nat.pow_pos (by omega)))))
     have HGS:=Lib.hid hgS
     clear hwS hbS hrS hsS hszS hYG hoS hgS h0S hfS hz1 hz2 hf1 hf2 hwr
     go_wp2_with fail
     refine CC.out.mono ?_
     rintro e w5 ⟨rfl,cur5,hg5,hb5,hsm⟩
     have hc5:w5.cell? ⟨cv,0,none⟩=some (.int .i64 (col:Int)):=by
      rw[cell_same (hsm cv (block_lt hcS) (fun k hk e=>by
       obtain ⟨a,ha⟩:=HGS.out.palien hk _ _ (e▸hcS)
       cases ha))]
      exact hcS
     have hr5:Row w5 G 64 ((cg.setIfInBounds at_ (.slice (some ⟨g (at_+i),0,none⟩) cols (cap (at_+i)))).setIfInBounds (at_+i) (.slice (some ⟨g at_,0,none⟩) cols (cap at_))):=
      (hsm G HRS.out.lt (fun k hk=>HGS.out.outerNe hk)).trans HRS.out
     have hB5:Below B w w5:=(hB1.trans HBS.out).trans hb5
     have HG5:=Lib.hid hg5;have HR5:=Lib.hid hr5
     clear hg5 hr5 hsm
     go_wp2_with fail
     go_roundw
     case rel=>
      have hr6:=Row.new w5 3 #[.int .i64 ((col:Int)+1)]
      have hal:Below w5.heap.size w5 (w5.alloc (.cells #[.int .i64 ((col:Int)+1)] 3)):=(Below.refl _ _).alloc (Nat.le_refl _) _
      have e2:=HCOL.out
      have e3:L*5 ^ (ncols - rem)=L*5 ^ col*5:=by rw[show ncols - rem=col+1 by omega,Nat.pow_succ,Nat.mul_assoc]
      refine ⟨at_+1,rem,w5.heap.size,_,_,_,cur5,_,rfl,rfl,by omega,by omega,hB5.size,?_,HG5.out.keep hal,HR5.out.alloc _,?_,?_,?_,hB5.alloc (Nat.le_trans hB hB5.size) _⟩
      ·rw[show ((ncols - rem:Nat):Int)=(col:Int)+1 by omega]
       exact hr6
      ·intro u hu
       rcases Array.mem_or_eq_of_mem_setIfInBounds hu with hu|rfl
       ·rcases Array.mem_or_eq_of_mem_setIfInBounds hu with hu|rfl
        ·exact hgk.out u hu
        ·exact ⟨_,_,_,rfl⟩
       ·exact ⟨_,_,_,rfl⟩
      ·have:=HRED.out
       rw[hfs.out]at this
       exact this
      ·rw[e3];exact HFC.out
     case measure=>
      rw[HM1.out,colOf_eq (n:=col+1) (by exact (Row.new w5 3 #[.int .i64 ((col:Int)+1)]).cell 0)]
      omega
    ·have hc1:=cell_keep hcell hb1
     have hB1:Below B w w1:=hbr.trans (hb1.mono (Nat.le_trans hB hbr.size))
     have hfn:=Lib.hid (firstRow_none hz)
     have hg1:=Lib.hid (hgr.out.keep hb1)
     have hG1:=Lib.hid (hGr.out.keep hb1)
     clear hz hcell
     go_wp2_with fail
     go_roundw
     case rel=>
      have hr1:=Row.new w1 3 #[.int .i64 ((col:Int)+1)]
      have hal:Below w1.heap.size w1 (w1.alloc (.cells #[.int .i64 ((col:Int)+1)] 3)):=(Below.refl _ _).alloc (Nat.le_refl _) _
      have e2:=HCOL.out
      refine ⟨at_,rem,w1.heap.size,M1,g,cap,cur,cg,rfl,rfl,by omega,hat,Nat.le_trans hbr.size hb1.size,?_,hg1.out.keep hal,hG1.out.alloc _,hgk,?_,?_,hB1.alloc (Nat.le_trans hB hB1.size) _⟩
      ·rw[show ((ncols - rem:Nat):Int)=(col:Int)+1 by omega]
       exact hr1
      ·rw[show redGo rows ncols rem at_ M1=R by rw[HRED.out,hfn.out]];exact rfl
      ·intro a b ha hb
       exact (hfm.out a b ha hb).mono (Nat.mul_le_mul_left _ (Nat.pow_le_pow_right (by omega) (by omega)))
     case measure=>
      rw[HM1.out,colOf_eq (n:=col+1) (by exact (Row.new w1 3 #[.int .i64 ((col:Int)+1)]).cell 0)]
      omega
  ·have hre:Hid (R=(at_,M1)):=by
    have:=hred.out
    rwa [redGo_full h1]at this
   have har:at_=rows:=by omega
   subst har
   clear hred hcol
   go_wp2_with fail
   all_goals
    go_ret
    exact ⟨g,cap,cur,by rw[hre.out];rfl,by rw[hre.out];exact hgr.out,hbr⟩
end Go.Proofs.YtehbhghbagaliaaGreatDoor
set_option linter.unusedVariables false
namespace Vic
def mS:Nat→Nat→Rat
 | 0,0=>2|0,1=>1|0,2=>3
 | 1,0=>1|1,1=>1|1,2=>2
 | _,_=>0
set_option maxRecDepth 100000 in
theorem mS_red:(redGo 2 2 2 0 mS).1=2∧(redGo 2 2 2 0 mS).2 0 2=1∧(redGo 2 2 2 0 mS).2 1 2=1:=by decide +kernel
end Vic
set_option linter.unusedVariables false
set_option linter.unusedSimpArgs false
namespace Vic
open Go Go.RowKit
def ptrKind (u:Value):Prop:=∃ a,u=.pointer a
theorem OwnK.empty {Kd:Value→Prop}{w:World}{B g:Nat}{e:TypeId}{size:Nat}(h:Row w g e #[]) (hB:B≤g):OwnK Kd w B e size (.slice (some ⟨g,0,none⟩) 0 0) 0 []:=
 ⟨by simp,.inr ⟨g,0,#[],rfl,hB,h,Nat.le_refl _,Nat.zero_le _,by simp,by simp,fun u hu=>by simp at hu⟩⟩
end Vic
namespace Go.Proofs.YtehbhghbagaliaaGreatDoor
open Go.RowKit Vic
theorem info_pf0:(Tryz.prog.info? 30).map (fun i=>(i.zero,i.size,i.bytes))=some (some (.pointer none),1,8):=by kernel_rfl
theorem info_pf:∃ i:TypeInfo,Tryz.prog.info? 30=some i∧i.zero=some (.pointer none)∧i.size=1∧i.bytes=8:=by
 have h:=info_pf0
 cases hi:Tryz.prog.info? 30 with
 | none=>rw[hi]at h;simp at h
 | some i=>rw[hi]at h;simp at h;exact ⟨i,rfl,h.1,h.2.1,h.2.2⟩
def Cloned (ps:List (Option Addr)) (w:World) (e:Ending) (w':World):Prop:=∃ v,e=.returned v∧OwnK ptrKind w' w.heap.size 30 1 v ps.length (ps.map Value.pointer)∧Below w.heap.size w w'
set_option maxRecDepth 100000 in
theorem mat_Clone (w:World) (g o c:Nat) (ps:List (Option Addr)) (h:∀ (j:Nat) p,ps[j]?=some p→w.cell? ⟨g,o+j,none⟩=some (.pointer p)) (hn:0<ps.length) (hl:ps.length≤1000000) :
 Calls Tryz.prog 112 #[.slice (some ⟨g,o,none⟩) ps.length c] w (Cloned ps w):=by
 obtain ⟨i1,hi1,hz1,hsz1,hby1⟩:=info_pf
 have hnews:∀ (j:Nat) u,(ps.map Value.pointer)[j]?=some u→(w.alloc (.cells #[] 30)).cell? ((⟨g,o,none⟩:Addr).add j)=some u:=fun j u hj=>by
  rw[List.getElem?_map]at hj
  cases hp:ps[j]? with
  | none=>rw[hp]at hj;cases hj
  | some p=>
    rw[hp]at hj
    cases hj
    rw[show (⟨g,o,none⟩:Addr).add j=⟨g,o+j,none⟩ by simp[Addr.add]]
    exact cell_keep (w:=w) (b:=g) (o:=o+j) (h j p hp) ((Below.refl _ _).alloc (Nat.le_refl _) (.cells #[] 30))
 have hem:OwnK ptrKind (w.alloc (.cells #[] 30)) w.heap.size 30 1 (.slice (some ⟨w.heap.size,0,none⟩) 0 0) 0 []:=OwnK.empty (Row.new _ _ _) (Nat.le_refl _)
 have heq:∀ W,(binOp .eql 64 (.slice (some ⟨g,o,none⟩) ps.length c) (.slice none 0 0)).run Tryz.prog W=.ok (.bool false) W:=fun W=>Lib.run_eql_slice_nil W _ _ _ _ _ _ _ Tryz.underlying64
 have HN:=Lib.hid hnews;have HE:=Lib.hid hem
 clear hnews hem h
 go_enter Tryz.func112,Tryz.ntmps112
 go_wp2_with (at_builtin;refine wpList_append_ownK (Kd:=ptrKind) rfl (.tmp 5) (.tmp 6) 64 rfl w.heap.size 30 i1 _ 1 Tryz.underlying64 hi1 hz1 hsz1 rfl (by omega) _ 0 [] rfl HE.out ⟨g,o,none⟩ ps.length c (ps.map Value.pointer) rfl (by simp) HN.out (by simp[Value.oneCell']) (by simp[ptrKind]) (by simp[ptrKind,Value.cells]) hn (by unfold maxLen;omega) (by rw[hby1];omega) (by simp) ?_;intro v6 w6 hown6 hgr6 hloc6)
 obtain ⟨g6,cap6,rfl⟩:=hown6.shape (by omega)
 go_wp2_with fail
 go_ret
 refine ⟨_,rfl,?_,?_⟩
 ·simpa using hown6
 ·have h1:Below w.heap.size w (w.alloc (.cells #[] 30)):=(Below.refl _ _).alloc (Nat.le_refl _) _
  exact ⟨hgr6.os.trans h1.os,hgr6.tape.trans h1.tape,hgr6.output.trans h1.output,Nat.le_trans h1.size hgr6.size,fun j hj=>(hgr6.block j (Nat.lt_of_lt_of_le hj h1.size) (fun e=>by
   have:=Option.some.inj e
   simp only at this
   omega)).trans (h1.block j hj)⟩
end Go.Proofs.YtehbhghbagaliaaGreatDoor
set_option linter.unusedVariables false
set_option linter.unusedSimpArgs false
namespace Go.Proofs.YtehbhghbagaliaaGreatDoor
open Go.RowKit Vic
theorem mat_Solve_c1 (w:World) (bx gb ob n c i:Nat) (h:w.cell? ⟨bx,0,none⟩=some (.slice (some ⟨gb,ob,none⟩) n c)) (hi:i<n) (hn:n≤c) (hc:n≤1000000) :
 Calls Tryz.prog 76 #[.int .i64 i,.pointer (some ⟨bx,0,none⟩)] w (Rets (.slice (some ⟨gb,ob+i,none⟩) 1 (c - i)) w):=by
 have e1:IntKind.i64.wrap ((i:Int)+1)=(i:Int)+1:=by rw[IntKind.wrap_i64];omega
 have hci:c≠i:=by omega
 go_enter Tryz.func76,Tryz.ntmps76
 go_wp2_with fail
 go_ret
 exact ⟨rfl,rfl⟩
theorem mat_Rank_c1 (w:World) (i:Int):Calls Tryz.prog 85 #[.int .i64 i] w (Rets (.slice none 0 0) w):=by
 go_enter Tryz.func85,Tryz.ntmps85
 go_wp2_with fail
 go_ret
 exact ⟨rfl,rfl⟩
end Go.Proofs.YtehbhghbagaliaaGreatDoor
set_option linter.unusedVariables false
set_option linter.unusedSimpArgs false
namespace Vic
open Go Go.RowKit
structure RowsK (T:TypeId) (w:World) (B rows cols:Nat) (g cap:Nat→Nat) (cur:Nat→Array Value) (M:Nat→Nat→Rat):Prop where
 row:∀ i,i<rows→Row w (g i) T (cur i)
 ptr:∀ i,i<rows→∀ u∈cur i,∃ a,u=.pointer a
 base:∀ i,i<rows→B≤g i
 inj:∀ i j,i<rows→j<rows→g i=g j→i=j
 caps:∀ i,i<rows→cols≤cap i
 val:∀ i k,i<rows→k<cols→∃ p,(cur i)[k]?=some p∧FracPtr w p (M i k)
theorem RowsK.none_ (T:TypeId) (w:World) (B cols:Nat) (g cap:Nat→Nat) (cur:Nat→Array Value) (M:Nat→Nat→Rat):RowsK T w B 0 cols g cap cur M:=
 ⟨fun i h=>by omega,fun i h=>by omega,fun i h=>by omega,fun i j h=>by omega,fun i h=>by omega,fun i k h=>by omega⟩
theorem RowsK.grid {T:TypeId}{w:World}{B rows cols G GO:Nat}{g cap:Nat→Nat}{cur:Nat→Array Value}{M:Nat→Nat→Rat}(h:RowsK T w B rows cols g cap cur M)
 (ho:∀ i,i<rows→w.cell? ⟨G,GO+i,none⟩=some (.slice (some ⟨g i,0,none⟩) cols (cap i))):Grid T w G GO B rows cols g cap cur M:=
 ⟨ho,h.row,h.ptr,h.base,h.inj,h.caps,h.val⟩
theorem RowsK.keep {T:TypeId}{w w':World}{B rows cols:Nat}{g cap:Nat→Nat}{cur:Nat→Array Value}{M:Nat→Nat→Rat}(h:RowsK T w B rows cols g cap cur M) (hb:Below w.heap.size w w'):RowsK T w' B rows cols g cap cur M:=
 ⟨fun i hi=>(h.row i hi).keep hb,h.ptr,h.base,h.inj,h.caps,fun i k hi hk=>by
  obtain ⟨p,h1,h2⟩:=h.val i k hi hk
  exact ⟨p,h1,h2.keep hb⟩⟩
theorem RowsK.stay {T:TypeId}{w w':World}{B rows cols:Nat}{g cap:Nat→Nat}{cur:Nat→Array Value}{M:Nat→Nat→Rat}(h:RowsK T w B rows cols g cap cur M) {b:Nat}(hb:YAlien w b∨PAlien w b) (hn:∀ i,i<rows→g i≠b) (hs:∀ j,j<w.heap.size→j≠b→w'.heap[j]?=w.heap[j]?):RowsK T w' B rows cols g cap cur M:=
 ⟨fun i hi=>(hs _ (h.row i hi).lt (hn i hi)).trans (h.row i hi),h.ptr,h.base,h.inj,h.caps,fun i k hi hk=>by
  obtain ⟨p,h1,h2⟩:=h.val i k hi hk
  refine ⟨p,h1,?_⟩
  rcases hb with hb|hb
  ·exact h2.stayY fun j hj=>by
    by_cases e:j=b
    ·subst e;exact .inl hb
    ·exact .inr (hs j hj e)
  ·exact h2.stayP fun j hj=>by
    by_cases e:j=b
    ·subst e;exact .inl hb
    ·exact .inr (hs j hj e)⟩
theorem RowsK.push {T:TypeId}{w:World}{B k cols:Nat}{g cap:Nat→Nat}{cur:Nat→Array Value}{M:Nat→Nat→Rat}(h:RowsK T w B k cols g cap cur M) {g' cap':Nat}{cur':Array Value}{q:Nat→Rat}
 (hr:Row w g' T cur') (hp:∀ u∈cur',∃ a,u=.pointer a) (hB:B≤g') (hn:∀ i,i<k→g i≠g') (hc:cols≤cap') (hv:∀ j,j<cols→∃ p,cur'[j]?=some p∧FracPtr w p (q j)) :
 RowsK T w B (k+1) cols (fun i=>if i=k then g' else g i) (fun i=>if i=k then cap' else cap i) (fun i=>if i=k then cur' else cur i) (fun i=>if i=k then q else M i):=by
 refine ⟨fun i hi=>?_,fun i hi=>?_,fun i hi=>?_,fun i j hi hj e=>?_,fun i hi=>?_,fun i j hi hj=>?_⟩
 ·by_cases e:i=k
  ·simp only[if_pos e];exact hr
  ·simp only[if_neg e];exact h.row i (by omega)
 ·by_cases e:i=k
  ·simp only[if_pos e];exact hp
  ·simp only[if_neg e];exact h.ptr i (by omega)
 ·by_cases e:i=k
  ·simp only[if_pos e];exact hB
  ·simp only[if_neg e];exact h.base i (by omega)
 ·by_cases e1:i=k
  ·by_cases e2:j=k
   ·omega
   ·simp only[if_pos e1,if_neg e2]at e
    exact absurd e.symm (hn j (by omega))
  ·by_cases e2:j=k
   ·simp only[if_neg e1,if_pos e2]at e
    exact absurd e (hn i (by omega))
   ·simp only[if_neg e1,if_neg e2]at e
    exact h.inj i j (by omega) (by omega) e
 ·by_cases e:i=k
  ·simp only[if_pos e];exact hc
  ·simp only[if_neg e];exact h.caps i (by omega)
 ·by_cases e:i=k
  ·simp only[if_pos e];exact hv j hj
  ·simp only[if_neg e];exact h.val i j (by omega) hj
end Vic
namespace Vic
open Go Go.RowKit
theorem Grid.ptrs {T:TypeId}{w:World}{G GO B rows cols:Nat}{g cap:Nat→Nat}{cur:Nat→Array Value}{M:Nat→Nat→Rat}(h:Grid T w G GO B rows cols g cap cur M) {i:Nat}(hi:i<rows) :
 ∀ n,n≤cols→∃ ps:List (Option Addr),ps.length=n∧∀ (j:Nat) p,ps[j]?=some p→w.cell? ⟨g i,0+j,none⟩=some (.pointer p)∧FracPtr w (.pointer p) (M i j):=by
 intro n
 induction n with
 | zero=>exact fun _=>⟨[],rfl,fun j p hp=>by simp at hp⟩
 | succ n ih=>
   intro hn
   obtain ⟨ps,hl,hp⟩:=ih (by omega)
   obtain ⟨a,h1,_,h3⟩:=h.cell hi (show n<cols by omega)
   refine ⟨ps ++ [a],by simp[hl],fun j p hj=>?_⟩
   rcases Nat.lt_or_ge j n with h4|h4
   ·rw[List.getElem?_append_left (by omega)]at hj
    exact hp j p hj
   ·rw[List.getElem?_append_right (by omega)]at hj
    rcases hjn:j - ps.length with _|m
    ·rw[hjn]at hj
     simp only[List.getElem?_cons_zero,Option.some.injEq]at hj
     subst hj
     obtain rfl:j=n:=by omega
     rw[Nat.zero_add]
     exact ⟨h1,h3⟩
    ·rw[hjn]at hj;simp at hj
def FrIn (w:World) (v:Value) (n:Nat) (q:Nat→Rat):Prop:=∃ g o c,v=.slice (some ⟨g,o,none⟩) n c∧n≤c∧∀ k,k<n→∃ p,w.cell? ⟨g,o+k,none⟩=some (.pointer p)∧FracPtr w (.pointer p) (q k)
theorem FrIn.keep {w w':World}{v:Value}{n:Nat}{q:Nat→Rat}(h:FrIn w v n q) (hb:Below w.heap.size w w'):FrIn w' v n q:=by
 obtain ⟨g,o,c,h1,h2,h3⟩:=h
 exact ⟨g,o,c,h1,h2,fun k hk=>by obtain ⟨p,h4,h5⟩:=h3 k hk;exact ⟨p,cell_keep h4 hb,h5.keep hb⟩⟩
theorem frs_ptrs {w:World}{g o n:Nat}{q:Nat→Rat}(h:∀ k,k<n→∃ p,w.cell? ⟨g,o+k,none⟩=some (.pointer p)∧FracPtr w (.pointer p) (q k)) :
 ∀ m,m≤n→∃ ps:List (Option Addr),ps.length=m∧∀ (j:Nat) p,ps[j]?=some p→w.cell? ⟨g,o+j,none⟩=some (.pointer p)∧FracPtr w (.pointer p) (q j):=by
 intro m
 induction m with
 | zero=>exact fun _=>⟨[],rfl,fun j p hp=>by simp at hp⟩
 | succ n ih=>
   intro hn
   obtain ⟨ps,hl,hp⟩:=ih (by omega)
   obtain ⟨a,h1,h3⟩:=h n (by omega)
   refine ⟨ps ++ [a],by simp[hl],fun j p hj=>?_⟩
   rcases Nat.lt_or_ge j n with h4|h4
   ·rw[List.getElem?_append_left (by omega)]at hj
    exact hp j p hj
   ·rw[List.getElem?_append_right (by omega)]at hj
    rcases hjn:j - ps.length with _|m
    ·rw[hjn]at hj
     simp only[List.getElem?_cons_zero,Option.some.injEq]at hj
     subst hj
     obtain rfl:j=n:=by omega
     exact ⟨h1,h3⟩
    ·rw[hjn]at hj;simp at hj
def RGrid (w:World) (G GO rows cols:Nat) (M:Nat→Nat→Rat):Prop:=∀ i,i<rows→∃ sv,w.cell? ⟨G,GO+i,none⟩=some sv∧FrIn w sv cols (M i)
theorem RGrid.keep {w w':World}{G GO rows cols:Nat}{M:Nat→Nat→Rat}(h:RGrid w G GO rows cols M) (hb:Below w.heap.size w w'):RGrid w' G GO rows cols M:=fun i hi=>by
 obtain ⟨sv,h1,h2⟩:=h i hi
 exact ⟨sv,cell_keep h1 hb,h2.keep hb⟩
theorem Grid.rgrid {T:TypeId}{w:World}{G GO B rows cols:Nat}{g cap:Nat→Nat}{cur:Nat→Array Value}{M:Nat→Nat→Rat}(h:Grid T w G GO B rows cols g cap cur M):RGrid w G GO rows cols M:=fun i hi=>
 ⟨_,h.outer i hi,g i,0,cap i,rfl,h.caps i hi,fun k hk=>by
  obtain ⟨a,h1,_,h3⟩:=h.cell hi hk
  exact ⟨a,by rw[Nat.zero_add];exact h1,h3⟩⟩
theorem OwnK.rowOf {w:World}{B:Nat}{T:TypeId}{v:Value}{n:Nat}{ps:List (Option Addr)}(h:OwnK ptrKind w B T 1 v n (ps.map Value.pointer)) (hn:0<n) (hl:ps.length=n) :
 ∃ g cap cur,v=.slice (some ⟨g,0,none⟩) n cap∧B≤g∧Row w g T cur∧n≤cap∧(∀ u∈cur,∃ a,u=.pointer a)∧∀ (j:Nat) p,ps[j]?=some p→cur[j]?=some (.pointer p):=by
 obtain ⟨_,⟨_,h1⟩|⟨g,cap,cur,h1,h2,h3,h4,_,h6,h7,h8⟩⟩:=h
 ·omega
 ·refine ⟨g,cap,cur,h1,h2,h3,h4,h8,fun j p hj=>?_⟩
  have hjn:j<n:=by have:=(List.getElem?_eq_some_iff.1 hj).1;omega
  have e:=congrArg (fun l=>l[j]?) h7
  simp only[Nat.mul_one,List.getElem?_take,if_pos hjn,List.getElem?_map,hj,Option.map_some]at e
  rw[← Array.getElem?_toList]
  exact e
end Vic
set_option linter.unusedVariables false
set_option linter.unusedSimpArgs false
namespace Vic
open Go Go.RowKit
def sliceKind (u:Value):Prop:=∃ A l c,u=.slice A l c
def rowVals (n cols:Nat) (g cap:Nat→Nat):List Value:=(List.range n).map fun i=>.slice (some ⟨g i,0,none⟩) cols (cap i)
theorem rowVals_push (n cols:Nat) (g cap:Nat→Nat) (g' cap':Nat) :
 rowVals n cols g cap ++ [.slice (some ⟨g',0,none⟩) cols cap']=rowVals (n+1) cols (fun i=>if i=n then g' else g i) (fun i=>if i=n then cap' else cap i):=by
 unfold rowVals
 rw[List.range_succ,List.map_append]
 congr 1
 ·refine List.map_congr_left fun i hi=>?_
  have:=List.mem_range.1 hi
  simp only[show i≠n by omega,if_false]
 ·simp
def aug (M:Nat→Nat→Rat) (E:Nat→Nat→Rat) (cols:Nat):Nat→Nat→Rat:=fun i k=>if k<cols then M i k else E i (k - cols)
theorem run_append_nothing {P:Program}{w:World}{t ty e:TypeId}{i:TypeInfo}(ht:P.underlying t=some (.slice e)) (hi:P.info? e=some i) (hs:i.size=1) (b:Addr) (n cap:Nat) (h:n≤cap) :
 (Builtin.append_ #[t,t] ty #[.slice (some b) n cap,.slice none 0 0]).run P w=.ok (.slice (some b) n cap) w:=by
 simp[Builtin.append_,run_underlying ht,Go.sizeOf,typeInfo,hi,Builtin.lenOf,h,run_firstCells_none,hs,storeCells]
theorem grownBy_refl (w:World) (r:Option Nat):w.grownBy w r:=⟨rfl,rfl,rfl,Nat.le_refl _,fun _ _ _=>rfl⟩
def Tail (w:World) (X:Value) (x:Nat) (pb:List (Option Addr)):Prop:=
 pb.length=x∧((x=0∧X=.slice none 0 0)∨0<x∧∃ gb ob ce,X=.slice (some ⟨gb,ob,none⟩) x ce∧∀ (j:Nat) p,pb[j]?=some p→w.cell? ⟨gb,ob+j,none⟩=some (.pointer p))
theorem OwnK.appendTail {P:Program}{w:World}{base:Nat}{t ty e:TypeId}{i:TypeInfo}(ht:P.underlying t=some (.slice e)) (hi:P.info? e=some i) (hz:i.zero=some (.pointer none)) (hsize:i.size=1) (hby:i.bytes=8)
 {v:Value}{n:Nat}{ps:List (Option Addr)}(hown:OwnK ptrKind w base e 1 v n (ps.map Value.pointer)) (h0:0<n) {X:Value}{x:Nat}{pb:List (Option Addr)}(hX:Tail w X x pb) (hnx:n+x≤1000000) (hbase:base≤w.heap.size) :
 ∃ v' w',(Builtin.append_ #[t,t] ty #[v,X]).run P w=.ok v' w'∧OwnK ptrKind w' base e 1 v' (n+x) ((ps ++ pb).map Value.pointer)∧w.grownBy w' v.ownBlock:=by
 obtain ⟨hl,⟨rfl,rfl⟩|⟨hx,gb,ob,ce,rfl,hc⟩⟩:=hX
 ·obtain rfl:pb = []:=List.eq_nil_of_length_eq_zero hl
  obtain ⟨_,⟨_,h1⟩|⟨g,cap,cur,rfl,_,_,h2,_⟩⟩:=id hown
  ·omega
  ·refine ⟨_,_,run_append_nothing ht hi hsize _ _ _ h2,?_,grownBy_refl _ _⟩
   simpa using hown
 ·have hnews:∀ (j:Nat) u,(pb.map Value.pointer)[j]?=some u→w.cell? ((⟨gb,ob,none⟩:Addr).add j)=some u:=fun j u hj=>by
   rw[List.getElem?_map]at hj
   cases hp:pb[j]? with
   | none=>rw[hp]at hj;cases hj
   | some p=>
     rw[hp]at hj
     cases hj
     rw[show (⟨gb,ob,none⟩:Addr).add j=⟨gb,ob+j,none⟩ by simp[Addr.add]]
     exact hc j p hp
  obtain ⟨v',w',h1,h2,h3,_⟩:=OwnK.append (P:=P) (ty:=ty) ht hi hz hsize rfl (by omega) hown ⟨gb,ob,none⟩ x ce (pb.map Value.pointer) (by simp[hl]) hnews (by simp[Value.oneCell']) (by simp[ptrKind]) (by simp[ptrKind,Value.cells]) hx (by unfold maxLen;omega) (by rw[hby];omega) hbase
  exact ⟨v',w',h1,by rw[List.map_append];exact h2,h3⟩
theorem wpList_append_tail {P:Program}{ops:Array Oper}{rest:List Oper}{o:Oper}{a:Act}{w:World}{Q:Exit→Act→World→Prop}(hgd:o.guard=none) (s x:Operand) (t:TypeId)
 (ho:o.op=.call { callee:=.builtin .append,args:=#[s,x],argTypes:=#[t,t] }) (base:Nat) (e:TypeId) (i:TypeInfo) (ht:P.underlying t=some (.slice e)) (hi:P.info? e=some i) (hz:i.zero=some (.pointer none)) (hsize:i.size=1) (hby:i.bytes=8)
 (v:Value) (n:Nat) (ps:List (Option Addr)) (hs:a.eval s=v) (hown:OwnK ptrKind w base e 1 v n (ps.map Value.pointer)) (h0:0<n) (X:Value) (m:Nat) (pb:List (Option Addr)) (hx:a.eval x=X) (hX:Tail w X m pb) (hnx:n+m≤1000000) (hbase:base≤w.heap.size)
 (h:∀ v' w',OwnK ptrKind w' base e 1 v' (n+m) ((ps ++ pb).map Value.pointer)→w.grownBy w' v.ownBlock→wpList P ops Q rest (a.put o.dst v') w'):wpList P ops Q (o :: rest) a w:=by
 refine wpList_plain hgd fun K hK=>?_
 obtain ⟨v',w',hrun,h2,h3⟩:=OwnK.appendTail (P:=P) (ty:=o.type) ht hi hz hsize hby hown h0 hX hnx hbase
 unfold Oper.wp execOp
 simp only[ho,resolve,invoke,builtin,Sem.run_bind,Sem.run_pure,Result.andThen_ok,List.map_toArray,List.map_cons,List.map_nil,hs,hx,hrun]
 exact hK _ _ (h v' w' h2 h3)
theorem rows_round {T T2:TypeId}{B k n:Nat}{gn cn:Nat→Nat}{cr:Nat→Array Value}{N:Nat→Nat→Rat}{wr w4 w5:World}{s v5:Value}(hown:OwnK sliceKind wr B T2 1 s k (rowVals k n gn cn)) (hrows:RowsK T wr B k n gn cn cr N)
 (hdis:∀ G',s.ownBlock=some G'→0<k∧∀ i,i<k→gn i≠G') (hB:B≤wr.heap.size) (h04:Below wr.heap.size wr w4) {g' cap':Nat}{cur':Array Value}(hn:0<n)
 (hr:Row w4 g' T cur') (hp:∀ u∈cur',∃ a,u=.pointer a) (hg':wr.heap.size≤g') (hc':n≤cap') (hv:∀ j,j<n→∃ p,cur'[j]?=some p∧FracPtr w4 p (N k j))
 (hw5:OwnK sliceKind w5 B T2 1 v5 (k+1) (rowVals k n gn cn ++ [.slice (some ⟨g',0,none⟩) n cap'])) (hgr:w4.grownBy w5 s.ownBlock) (hloc:v5.ownBlock=s.ownBlock∨v5.ownBlock=some w4.heap.size) :
 ∃ gn' cn' cr',OwnK sliceKind w5 B T2 1 v5 (k+1) (rowVals (k+1) n gn' cn')∧RowsK T w5 B (k+1) n gn' cn' cr' N∧(∀ G',v5.ownBlock=some G'→0<k+1∧∀ i,i<k+1→gn' i≠G')∧Below B wr w5:=by
 have hR4:=(hrows.keep h04).push (q:=N k) hr hp (Nat.le_trans hB hg') (fun i hi e=>by have:=(hrows.row i hi).lt;omega) hc' hv
 have eN:(fun i=>if i=k then N k else N i)=N:=by
  funext i
  by_cases e:i=k
  ·rw[if_pos e,e]
  ·rw[if_neg e]
 rw[eN]at hR4
 have hlow:Below B wr w5:=by
  have h1:=h04.mono hB
  refine ⟨hgr.os.trans h1.os,hgr.tape.trans h1.tape,hgr.output.trans h1.output,Nat.le_trans h1.size hgr.size,fun j hj=>(hgr.block j (by have:=h04.size;omega) (fun e=>?_)).trans (h1.block j hj)⟩
  have:=(hown.lt e.symm).1
  omega
 have hlt:∀ i,i<k+1→(if i=k then g' else gn i)<w4.heap.size:=fun i hi=>(hR4.row i hi).lt
 refine ⟨_,_,fun i=>if i=k then cur' else cr i,by rw[← rowVals_push];exact hw5,?_,fun G' hG=>⟨by omega,fun i hi e=>?_⟩,hlow⟩
 ·rcases hs:s.ownBlock with _|b
  ·rw[hs]at hgr
   exact hR4.keep ⟨hgr.os,hgr.tape,hgr.output,hgr.size,fun j hj=>hgr.block j hj (by simp)⟩
  ·obtain ⟨hk0,hdi⟩:=hdis b hs
   rw[hs]at hgr
   have hbl:=hown.lt hs
   have hblock4:w4.heap[b]?=wr.heap[b]?:=h04.block b hbl.2
   obtain ⟨p0,hp0,hf0⟩:=hrows.val 0 0 hk0 hn
   obtain ⟨a0,rfl⟩:=hf0.ptr
   refine hR4.stay (b:=b) (.inl fun o u hu=>?_) (fun i hi e=>?_) (fun j hj hjb=>hgr.block j hj (fun e=>hjb (Option.some.inj e)))
   ·have hu':wr.cell? ⟨b,o,none⟩=some u:=by rw[← cell_same hblock4];exact hu
    have hK:=hown.kind hs hu'
    rcases o with _|o
    ·have hcell:wr.cell? ((⟨b,0,none⟩:Addr).add 0)=some (.slice (some ⟨gn 0,0,none⟩) n (cn 0)):=hown.own.cells hs 0 _ (by
      unfold rowVals
      rw[List.getElem?_map,List.getElem?_range hk0]
      rfl)
     rw[show (⟨b,0,none⟩:Addr).add 0=⟨b,0,none⟩ by simp[Addr.add]]at hcell
     rw[hcell]at hu'
     injection hu' with hu'
     refine .inr (.inl ⟨_,_,_,gn 0,0,hu'.symm,rfl,hn,a0,?_⟩)
     have:w4.cell? ⟨gn 0,0,none⟩=wr.cell? ⟨gn 0,0,none⟩:=cell_same (h04.block _ (hrows.row 0 hk0).lt) 0
     rw[this,(hrows.row 0 hk0).cell,hp0]
    ·exact .inr (.inr ⟨hK,by omega⟩)
   ·by_cases e1:i=k
    ·rw[if_pos e1]at e
     omega
    ·rw[if_neg e1]at e
     exact hdi i (by omega) e
 ·rcases hloc with hl|hl
  ·rw[hl]at hG
   have hbl:=hown.lt hG
   by_cases e1:i=k
   ·rw[if_pos e1]at e
    omega
   ·rw[if_neg e1]at e
    exact (hdis G' hG).2 i (by omega) e
  ·rw[hl]at hG
   injection hG with hG
   have:=hlt i hi
   omega
end Vic
set_option linter.unusedVariables false
set_option linter.unusedSimpArgs false
namespace Go.Proofs.YtehbhghbagaliaaGreatDoor
open Go.RowKit Vic
theorem info_lpf0:(Tryz.prog.info? 64).map (fun i=>(i.zero,i.size,i.bytes))=some (some (.slice none 0 0),1,24):=by kernel_rfl
theorem info_lpf:∃ i:TypeInfo,Tryz.prog.info? 64=some i∧i.zero=some (.slice none 0 0)∧i.size=1∧i.bytes=24:=by
 have h:=info_lpf0
 cases hi:Tryz.prog.info? 64 with
 | none=>rw[hi]at h;simp at h
 | some i=>rw[hi]at h;simp at h;exact ⟨i,rfl,h.1,h.2.1,h.2.2⟩
def TailMade (x:Nat) (q:Nat→Rat) (w:World) (e:Ending) (w':World):Prop:=∃ X pb,e=.returned X∧Tail w' X x pb∧(∀ (j:Nat) p,pb[j]?=some p→FracPtr w' (.pointer p) (q j))∧Below w.heap.size w w'
def CopiedTo (B rows cols:Nat) (N:Nat→Nat→Rat) (w:World) (e:Ending) (w':World):Prop:=∃ v,e=.returned v∧∃ g cap cur,OwnK sliceKind w' B 64 1 v rows (rowVals rows cols g cap)∧RowsK 30 w' B rows cols g cap cur N∧(∀ G',v.ownBlock=some G'→0<rows∧∀ i,i<rows→g i≠G')∧Below B w w'
set_option maxRecDepth 100000 in
set_option maxHeartbeats 8000000 in
theorem mat_copied (w:World) (mb G GO rows cols c f x:Nat) (lb:Array Value) (M:Nat→Nat→Rat) (E:Nat→Nat→Rat) (hm0:w.cell? ⟨mb,0,none⟩=some (.slice (some ⟨G,GO,none⟩) rows c)) (hm1:w.cell? ⟨mb,1,none⟩=some (.int .i64 cols)) (h:RGrid w G GO rows cols M)
 (hcl:∀ i,i<rows→∀ w',Below w.heap.size w w'→Calls Tryz.prog f (#[.int .i64 (i:Nat)] ++ lb) w' (TailMade x (E i) w'))
 (hen:∀ args w,(callFunc f args).run Tryz.prog w=.ok (.enter f args) w) (hc:rows≤c) (hr:rows≤100000) (hcc:cols≤100000) (hc0:0<cols) (hxx:x≤100000) :
 Calls Tryz.prog 75 #[.pointer (some ⟨mb,0,none⟩),.func (.func f) #[] lb] w (CopiedTo w.heap.size rows (cols+x) (aug M E cols) w):=by
 have CS:=Lib.hid (mat_Size w mb G GO rows cols c hm0 hm1)
 have HG:=Lib.hid h
 have HCL:=Lib.hid hcl
 obtain ⟨i1,hi1,hz1,hsz1,hby1⟩:=info_pf
 obtain ⟨i2,hi2,hz2,hsz2,hby2⟩:=info_lpf
 clear h hcl
 go_enter Tryz.func75,Tryz.ntmps75
 go_wp2_with fail
 refine CS.out.mono ?_
 rintro e w0 ⟨rfl,n0,rfl⟩
 have hb0:Below w.heap.size w (w.drewN n0):=Vic.Below.drewN_ (Below.refl _ _) _
 go_wp2_with fail
 go_loopw [15,5] (fun t s wr=>∃ (k:Nat) (gn cn:Nat→Nat) (cr:Nat→Array Value),t=.int .i64 k∧k≤rows∧Hid (OwnK sliceKind wr w.heap.size 64 1 s k (rowVals k (cols+x) gn cn))∧Hid (RowsK 30 wr w.heap.size k (cols+x) gn cn cr (aug M E cols))∧Hid (∀ G',s.ownBlock=some G'→0<k∧∀ i,i<k→gn i≠G')∧Below w.heap.size w wr) (fun t _ _=>rows - (intOf t).toNat)
 case atStart=>exact ⟨0,fun _=>0,fun _=>0,fun _=>#[],rfl,Nat.zero_le _,OwnK.nil_ _ _ _ _ _,RowsK.none_ _ _ _ _ _ _ _ _,(fun G' hG=>by cases hG),hb0⟩
 case round=>
  obtain ⟨k,gn,cn,cr,rfl,hk,hown,hrows,hdis,hbr⟩:=hrel
  by_cases hkr:k<rows
  ·have hm0':=cell_keep hm0 hbr
   obtain ⟨sv0,ho',gk,ok,capk,hsv0,hcap,hpk⟩:=(HG.out.keep hbr) k hkr
   subst hsv0
   obtain ⟨ps,hpl,hps⟩:=frs_ptrs hpk cols (Nat.le_refl _)
   have C0:=mat_Clone wr gk ok capk ps (fun j p hj=>(hps j p hj).1) (by omega) (by omega)
   rw[hpl]at C0
   have C:=Lib.hid C0
   have HPS:=Lib.hid hps
   clear C0 hps
   go_wp2_with fail
   refine C.out.mono ?_
   rintro e w1 ⟨v1,rfl,hv1,hb1⟩
   rw[hpl]at hv1
   have hB1:Below w.heap.size w w1:=hbr.trans (hb1.mono hbr.size)
   have HC1:=Lib.hid (HCL.out k hkr w1 hB1)
   have HV1:=Lib.hid hv1
   clear hv1
   go_wp2_with fail
   refine HC1.out.mono ?_
   rintro e w2 ⟨X,pb,rfl,hX,hpb,hb2⟩
   obtain ⟨g1,cap1,rfl⟩:=HV1.out.shape hc0
   have hv2:=Lib.hid (HV1.out.keep hb2)
   have HX:=Lib.hid hX
   have hB2:wr.heap.size≤w2.heap.size:=Nat.le_trans hb1.size hb2.size
   clear hX
   go_wp2_with (at_builtin;refine wpList_append_tail rfl (.tmp 26) (.tmp 29) 64 rfl wr.heap.size 30 i1 Tryz.underlying64 hi1 hz1 hsz1 hby1 _ cols ps rfl hv2.out hc0 X x pb rfl HX.out (by omega) hB2 ?_;intro v3 w3 hown3 hgr3;refine Hid.out ?_)
   have hlen3:(ps ++ pb).length=cols+x:=by rw[List.length_append,hpl,HX.out.1]
   obtain ⟨g3,cap3,cur3,rfl,hg3,hrow3,hc3,hk3,hval3⟩:=hown3.rowOf (by omega) hlen3
   have hb23:∀ j,j<w2.heap.size→PAlien w2 j∨w3.heap[j]?=w2.heap[j]?:=fun j hj=>by
    by_cases e:j=g1
    ·subst e;exact .inl fun o u hu=>hv2.out.kind rfl hu
    ·exact .inr (hgr3.block j hj (fun h=>e (Option.some.inj h)))
   have hbw3:Below wr.heap.size wr w3:=by
    have h1:=hb1.trans (hb2.mono hb1.size)
    refine ⟨hgr3.os.trans h1.os,hgr3.tape.trans h1.tape,hgr3.output.trans h1.output,Nat.le_trans h1.size hgr3.size,fun j hj=>(hgr3.block j (Nat.lt_of_lt_of_le hj h1.size) (fun e=>?_)).trans (h1.block j hj)⟩
    have:=(hv2.out.lt e.symm).1
    omega
   have hbw4:Below wr.heap.size wr (w3.alloc (.cells #[.slice (some ⟨g3,0,none⟩) (cols+x) cap3] 64)):=hbw3.alloc hbw3.size _
   have hal:Below w3.heap.size w3 (w3.alloc (.cells #[.slice (some ⟨g3,0,none⟩) (cols+x) cap3] 64)):=(Below.refl _ _).alloc (Nat.le_refl _) _
   have hfr3:∀ j,j<cols+x→∃ p,cur3[j]?=some p∧FracPtr w3 p (aug M E cols k j):=fun j hj=>by
    have hj':j<(ps ++ pb).length:=by omega
    refine ⟨_,hval3 j _ (List.getElem?_eq_getElem hj'),?_⟩
    unfold aug
    by_cases hjc:j<cols
    ·rw[if_pos hjc]
     have e1:(ps ++ pb)[j]'hj'=ps[j]'(by omega):=List.getElem_append_left (by omega)
     rw[e1]
     exact (((HPS.out j _ (List.getElem?_eq_getElem (by omega))).2.keep hb1).keep hb2).stayP hb23
    ·rw[if_neg hjc]
     have hlt:j - ps.length<pb.length:=by have:=HX.out.1;omega
     have e1:(ps ++ pb)[j]'hj'=pb[j - ps.length]'hlt:=List.getElem_append_right (by omega)
     rw[e1,← hpl]
     exact (hpb _ _ (List.getElem?_eq_getElem hlt)).stayP hb23
   have HF3:=Lib.hid hfr3
   have hown4:=Lib.hid (hown.out.stay (w':=w3.alloc (.cells #[.slice (some ⟨g3,0,none⟩) (cols+x) cap3] 64)) (fun b hb=>hbw4.block b (hown.out.lt hb).2))
   have hnew4:Hid (∀ (j:Nat) u,[Value.slice (some ⟨g3,0,none⟩) (cols+x) cap3][j]?=some u→(w3.alloc (.cells #[.slice (some ⟨g3,0,none⟩) (cols+x) cap3] 64)).cell? ((⟨w3.heap.size,0,none⟩:Addr).add j)=some u):=Lib.hid fun j u hj=>by
    rcases j with _|j
    ·cases hj
     exact (Row.new _ _ _).cell 0
    ·simp at hj
   have hk4:w.heap.size≤(w3.alloc (.cells #[.slice (some ⟨g3,0,none⟩) (cols+x) cap3] 64)).heap.size:=Nat.le_trans hbr.size hbw4.size
   have HV3:=Lib.hid hval3
   have HD3:=Lib.hid hk3
   clear hfr3 hval3 hb23 hk3
   refine Lib.hid ?_
   go_wp2_with (at_builtin;refine wpList_append_ownK (Kd:=sliceKind) rfl (.tmp 18) (.tmp 31) 112 rfl w.heap.size 64 i2 _ 1 Tryz.underlying112 hi2 hz2 hsz2 rfl (by omega) _ k _ rfl hown4.out ⟨w3.heap.size,0,none⟩ 1 1 [Value.slice (some ⟨g3,0,none⟩) (cols+x) cap3] rfl (by simp) hnew4.out (by simp[Value.oneCell']) (by simp[sliceKind]) (by simp[sliceKind,Value.cells]) (by omega) (by unfold maxLen;omega) (by rw[hby2];omega) hk4 ?_;intro v5 w5 hown5 hgr5 hloc5)
   obtain ⟨gn5,cn5,cr5,ho5,hr5,hd5,hb5⟩:=rows_round hown.out hrows.out hdis.out hbr.size hbw4 (by omega) (hrow3.keep hal) HD3.out hg3 hc3 (fun j hj=>by
    obtain ⟨p,hp1,hp2⟩:=HF3.out j hj
    exact ⟨p,hp1,hp2.keep hal⟩) hown5 hgr5 hloc5
   have hw1:IntKind.i64.wrap ((k:Int)+1)=((k+1:Nat):Int):=by rw[IntKind.wrap_i64];omega
   have HO5:=Lib.hid ho5;have HR5:=Lib.hid hr5;have HDD5:=Lib.hid hd5
   clear ho5 hr5 hd5 hown5
   go_wp2_with fail
   go_roundw
   case rel=>
    refine ⟨k+1,gn5,cn5,cr5,by first|rfl|simp,by omega,HO5,HR5,HDD5,hbr.trans hb5⟩
   case measure=>simp[intOf];omega
  ·have:k=rows:=by omega
   subst this
   go_wp2_with fail
   go_ret
   exact ⟨_,rfl,gn,cn,cr,hown.out,hrows.out,hdis.out,hbr⟩
end Go.Proofs.YtehbhghbagaliaaGreatDoor
set_option linter.unusedVariables false
set_option linter.unusedSimpArgs false
namespace Vic
open Go Go.RowKit
theorem redGo_fits {rows cols ncols:Nat}:∀ (r at_ L:Nat) (M:Nat→Nat→Rat),FitsM L rows cols M→1≤L→r≤ncols→ncols≤cols→FitsM (L*5 ^ r) rows cols (redGo rows ncols r at_ M).2:=by
 intro r
 induction r with
 | zero=>intro at_ L M h _ _ _;unfold redGo;simpa using h
 | succ r ih=>
   intro at_ L M h hL hr hn
   have hmono:L*5 ^ r≤L*5 ^ (r+1):=Nat.mul_le_mul_left _ (Nat.pow_le_pow_right (by omega) (by omega))
   unfold redGo
   by_cases h1:at_<rows
   ·rw[if_pos h1]
    cases hf:firstRow M rows (ncols - (r+1)) at_ with
    | none=>exact fun i k hi hk=>(ih at_ L M h hL (by omega) hn i k hi hk).mono hmono
    | some i=>
      unfold firstRow at hf
      rw[List.find?_range_eq_some]at hf
      obtain ⟨h2,h3,_⟩:=hf
      have hi:at_+i<rows:=by have:=List.mem_range.1 h3;omega
      have h0:(fun k=>M (swapI at_ (at_+i) k)) at_ (ncols - (r+1))≠0:=by
       show M (swapI at_ (at_+i) at_) _≠0
       unfold swapI;rw[if_pos rfl];simpa using h2
      have h4:=fits_clr (fits_swap h h1 hi) h1 (show ncols - (r+1)<cols by omega) h0 hL
      have h5:=ih (at_+1) (L*5) _ h4 (by omega) (by omega) hn
      rw[show L*5 ^ (r+1)=L*5*5 ^ r by rw[Nat.pow_succ,Nat.mul_comm (5 ^ r) 5,Nat.mul_assoc]]
      exact h5
   ·rw[if_neg h1]
    exact fun i k hi hk=>(h i k hi hk).mono (Nat.le_mul_of_pos_right _ (Nat.pow_pos (by omega)))
theorem fits_aug {L rows cols x:Nat}{M E:Nat→Nat→Rat}(h:FitsM L rows cols M) (he:FitsM L rows x E):FitsM L rows (cols+x) (aug M E cols):=fun i k hi hk=>by
 unfold aug
 by_cases h1:k<cols
 ·rw[if_pos h1];exact h i k hi h1
 ·rw[if_neg h1];exact he i _ hi (by omega)
theorem rows_open {T T2:TypeId}{w:World}{B rows n:Nat}{g cap:Nat→Nat}{cur:Nat→Array Value}{N:Nat→Nat→Rat}{v:Value}(ho:OwnK sliceKind w B T2 1 v rows (rowVals rows n g cap)) (hr:RowsK T w B rows n g cap cur N) (h0:0<rows) :
 ∃ G cg c,v=.slice (some ⟨G,0,none⟩) rows c∧rows≤c∧Row w G T2 cg∧(∀ u∈cg,∃ A l c,u=.slice A l c)∧Grid T w G 0 B rows n g cap cur N∧B≤G:=by
 have hown:=ho.own
 obtain ⟨_,⟨_,h1⟩|⟨G,c,cg,rfl,h2,h3,h4,_,_,_,h8⟩⟩:=ho
 ·omega
 ·refine ⟨G,cg,c,rfl,h4,h3,h8,hr.grid fun i hi=>?_,h2⟩
  have:=hown.cells (g:=G) rfl i (.slice (some ⟨g i,0,none⟩) n (cap i)) (by
   unfold rowVals
   rw[List.getElem?_map,List.getElem?_range hi]
   rfl)
  rwa [show (⟨G,0,none⟩:Addr).add i=⟨G,0+i,none⟩ by simp[Addr.add];omega]at this
end Vic
namespace Go.Proofs.YtehbhghbagaliaaGreatDoor
open Go.RowKit Vic
theorem enters_Rank_c1:∀ args w,(callFunc 85 args).run Tryz.prog w=.ok (.enter 85 args) w:=enters_of Tryz.func85 (by kernel_rfl) rfl
set_option maxRecDepth 100000 in
set_option maxHeartbeats 8000000 in
theorem mat_Rank (w:World) (mb G GO rows cols c L:Nat) (M:Nat→Nat→Rat) (hm0:w.cell? ⟨mb,0,none⟩=some (.slice (some ⟨G,GO,none⟩) rows c)) (hm1:w.cell? ⟨mb,1,none⟩=some (.int .i64 cols)) (h:RGrid w G GO rows cols M)
 (hf:FitsM L rows cols M) (hL1:1≤L) (hL:L*5 ^ cols≤1000000000) (hc:rows≤c) (hr:rows≤100000) (hr0:0<rows) (hcc:cols≤100000) (hc0:0<cols) :
 Calls Tryz.prog 34 #[.pointer (some ⟨mb,0,none⟩)] w (Keeps (.int .i64 ((redGo rows cols cols 0 M).1:Nat)) w):=by
 have CS:=Lib.hid (mat_Size w mb G GO rows cols c hm0 hm1)
 have HF:=Lib.hid hf
 have CC:Hid (∀ w',Below w.heap.size w w'→Calls Tryz.prog 75 #[.pointer (some ⟨mb,0,none⟩),.func (.func 85) #[] #[]] w' (CopiedTo w'.heap.size rows (cols+0) (aug M (fun _ _=>0) cols) w')):=fun w' hb=>
  mat_copied w' mb G GO rows cols c 85 0 #[] M (fun _ _=>0) (cell_keep hm0 hb) (cell_keep hm1 hb) (h.keep hb) (fun i hi w2 hb2=>(mat_Rank_c1 w2 i).mono fun e w3 h3=>by
   obtain ⟨rfl,rfl⟩:=h3
   exact ⟨_,[],rfl,⟨rfl,.inl ⟨rfl,rfl⟩⟩,by simp,Below.refl _ _⟩) enters_Rank_c1 hc hr hcc hc0 (by omega)
 have HLL:=Lib.hid hL
 clear h hf hL
 go_enter Tryz.func34,Tryz.ntmps34
 go_wp2_with fail
 refine CS.out.mono ?_
 rintro e w0 ⟨rfl,n0,rfl⟩
 have hb0:Below w.heap.size w (w.drewN n0):=Vic.Below.drewN_ (Below.refl _ _) _
 have C1:=Lib.hid (CC.out _ hb0)
 unfold CopiedTo at C1
 go_wp2_with fail
 refine C1.out.mono ?_
 rintro e w1 ⟨v,rfl,g1,cap1,cur1,ho1,hr1,_,hb1⟩
 obtain ⟨G1,cg1,c1,rfl,hc1,hrow1,hk1,hg1,hBG⟩:=rows_open ho1 hr1 hr0
 have hg2:Grid 30 w1 G1 0 (w.drewN n0).heap.size rows cols g1 cap1 cur1 M:=by
  refine Grid.congr (M:=aug M (fun _ _=>0) cols) hg1 fun i k hi hk=>?_
  unfold aug
  rw[if_pos hk]
 have CR:=Lib.hid (mat_reduced w1 G1 (w.drewN n0).heap.size rows cols cols c1 g1 cap1 cur1 cg1 M L hg2 hrow1 hk1 hb1.size hBG HF.out hL1 HLL.out (Nat.le_refl _) hc1 (by omega) (by omega))
 have hB1:Below w.heap.size w w1:=hb0.trans (hb1.mono hb0.size)
 clear ho1 hr1 hg1 hrow1 hk1 hg2
 go_wp2_with fail
 refine CR.out.mono ?_
 rintro e w2 ⟨g2,cap2,cur2,rfl,hg2,hb2⟩
 go_wp2_with fail
 go_ret
 exact ⟨rfl,hB1.trans (hb2.mono hb0.size)⟩
end Go.Proofs.YtehbhghbagaliaaGreatDoor
set_option linter.unusedVariables false
set_option linter.unusedSimpArgs false
namespace Vic
open Go Go.RowKit
theorem OwnK.low {Kd:Value→Prop}{w:World}{base base':Nat}{e:TypeId}{size:Nat}{v:Value}{n:Nat}{xs:List Value}(h:OwnK Kd w base e size v n xs) (hb:base'≤base):OwnK Kd w base' e size v n xs:=by
 obtain ⟨h1,h2|⟨g,cap,cur,rfl,a2,a3⟩⟩:=h
 ·exact ⟨h1,.inl h2⟩
 ·exact ⟨h1,.inr ⟨g,cap,cur,rfl,Nat.le_trans hb a2,a3⟩⟩
theorem fits_nought:Fits 1000000000 0:=(fits_of (n:=0) (by omega) (by omega)).mono (by omega)
theorem frs_grown {w w':World}{base:Nat}{e:TypeId}{v:Value}{n:Nat}{xs:List Value}(h:OwnK ptrKind w base e 1 v n xs) (hg:w.grownBy w' v.ownBlock) {u:Value}{q:Rat}(hu:FracPtr w u q):FracPtr w' u q:=
 hu.stayP fun j hj=>by
  by_cases e:v.ownBlock=some j
  ·exact .inl fun o u' hu'=>h.kind e hu'
  ·exact .inr (hg.block j hj (fun h=>e h.symm))
def Solved (T:TypeId) (rows cols:Nat) (R:Nat × (Nat→Nat→Rat)) (w:World) (e:Ending) (w':World):Prop:=
 Below w.heap.size w w' ∧
 (((R.1<cols∨∃ i,cols≤i∧i<rows∧R.2 i cols≠0)∧e=.returned (.tuple #[.slice none 0 0,.bool false])) ∨
  (¬ R.1<cols∧(∀ i,cols≤i→i<rows→R.2 i cols=0)∧∃ (v:Value) (ps:List (Option Addr)),e=.returned (.tuple #[v,.bool true])∧ps.length=min rows cols∧OwnK ptrKind w' w.heap.size T 1 v (min rows cols) (ps.map Value.pointer)∧∀ (j:Nat) p,ps[j]?=some p→FracPtr w' (.pointer p) (R.2 j cols)))
end Vic
namespace Go.Proofs.YtehbhghbagaliaaGreatDoor
open Go.RowKit Vic
theorem enters_Solve_c1:∀ args w,(callFunc 76 args).run Tryz.prog w=.ok (.enter 76 args) w:=enters_of Tryz.func76 (by kernel_rfl) rfl
set_option maxRecDepth 100000 in
set_option maxHeartbeats 8000000 in
theorem mat_Solve (w:World) (mb G GO rows cols c L gb ob cb:Nat) (M:Nat→Nat→Rat) (bp:Nat→Option Addr) (bq:Nat→Rat) (hm0:w.cell? ⟨mb,0,none⟩=some (.slice (some ⟨G,GO,none⟩) rows c)) (hm1:w.cell? ⟨mb,1,none⟩=some (.int .i64 cols)) (h:RGrid w G GO rows cols M)
 (hb:∀ i,i<rows→w.cell? ⟨gb,ob+i,none⟩=some (.pointer (bp i))∧FracPtr w (.pointer (bp i)) (bq i)) (hcb:rows≤cb)
 (hf:FitsM L rows cols M) (hfb:∀ i,i<rows→Fits L (bq i)) (hL1:1≤L) (hL:L*5 ^ cols≤1000000000) (hc:rows≤c) (hr:rows≤100000) (hr0:0<rows) (hcc:cols≤10000) (hc0:0<cols) :
 Calls Tryz.prog 28 #[.pointer (some ⟨mb,0,none⟩),.slice (some ⟨gb,ob,none⟩) rows cb] w (Solved 30 rows cols (redGo rows cols cols 0 (aug M (fun i _=>bq i) cols)) w):=by
 have CS:Hid (∀ w',Below w.heap.size w w'→Calls Tryz.prog 74 #[.pointer (some ⟨mb,0,none⟩)] w' (fun e w''=>e=.returned (.tuple #[.int .i64 rows,.int .i64 cols])∧∃ n,w''=w'.drewN n)):=fun w' hb'=>mat_Size w' mb G GO rows cols c (cell_keep hm0 hb') (cell_keep hm1 hb')
 have HF:Hid (FitsM L rows (cols+1) (aug M (fun i _=>bq i) cols)):=fits_aug hf fun i k hi _=>hfb i hi
 obtain ⟨i1,hi1,hz1,hsz1,hby1⟩:=info_pf
 have CC:Hid (∀ w' bx,Below w.heap.size w w'→w'.cell? ⟨bx,0,none⟩=some (.slice (some ⟨gb,ob,none⟩) rows cb)→Calls Tryz.prog 75 #[.pointer (some ⟨mb,0,none⟩),.func (.func 76) #[] #[.pointer (some ⟨bx,0,none⟩)]] w' (CopiedTo w'.heap.size rows (cols+1) (aug M (fun i _=>bq i) cols) w')):=fun w' bx hb' hbx=>
  mat_copied w' mb G GO rows cols c 76 1 #[.pointer (some ⟨bx,0,none⟩)] M (fun i _=>bq i) (cell_keep hm0 hb') (cell_keep hm1 hb') (h.keep hb') (fun i hi w2 hb2=>(mat_Solve_c1 w2 bx gb ob rows cb i (cell_keep hbx hb2) hi hcb (by omega)).mono fun e w3 h3=>by
   obtain ⟨rfl,rfl⟩:=h3
   have hbw2:Below w.heap.size w w2:=hb'.trans (hb2.mono hb'.size)
   refine ⟨_,[bp i],rfl,⟨rfl,.inr ⟨by omega,_,_,_,rfl,fun j p hj=>?_⟩⟩,fun j p hj=>?_,Below.refl _ _⟩
   ·rcases j with _|j
    ·cases hj;exact cell_keep (hb i hi).1 hbw2
    ·simp at hj
   ·rcases j with _|j
    ·cases hj;exact (hb i hi).2.keep hbw2
    ·simp at hj) enters_Solve_c1 hc hr (by omega) hc0 (by omega)
 have HLL:=Lib.hid hL
 obtain ⟨R,hR⟩:∃ R,R=redGo rows cols cols 0 (aug M (fun i _=>bq i) cols):=⟨_,rfl⟩
 have HFR:Hid (FitsM (L*5 ^ cols) rows (cols+1) R.2):=by rw[hR];exact redGo_fits cols 0 L _ HF.out hL1 (Nat.le_refl _) (by omega)
 rw[← hR]
 have HR:=Lib.hid hR
 clear h hf hL hb hfb hR hm0 hm1
 go_enter Tryz.func28,Tryz.ntmps28
 go_wp2_with fail
 have hb0:Below w.heap.size w (w.alloc (.cells #[.slice (some ⟨gb,ob,none⟩) rows cb] 64)):=(Below.refl _ _).alloc (Nat.le_refl _) _
 have hx0:(w.alloc (.cells #[.slice (some ⟨gb,ob,none⟩) rows cb] 64)).cell? ⟨w.heap.size,0,none⟩=some (.slice (some ⟨gb,ob,none⟩) rows cb):=(Row.new _ _ _).cell 0
 refine (CS.out _ hb0).mono ?_
 rintro e w0 ⟨rfl,n0,rfl⟩
 obtain ⟨wa,hwa⟩:∃ wa,wa=(w.alloc (.cells #[.slice (some ⟨gb,ob,none⟩) rows cb] 64)).drewN n0:=⟨_,rfl⟩
 have hba:Below w.heap.size w wa:=by rw[hwa];exact Vic.Below.drewN_ hb0 _
 have hxa:wa.cell? ⟨w.heap.size,0,none⟩=some (.slice (some ⟨gb,ob,none⟩) rows cb):=by rw[hwa];exact hx0
 rw[← hwa]
 clear hwa hx0 hb0
 have C1:=Lib.hid (CC.out _ _ hba hxa)
 unfold CopiedTo at C1
 go_wp2_with fail
 refine C1.out.mono ?_
 rintro e w1 ⟨v,rfl,g1,cap1,cur1,ho1,hr1,_,hb1⟩
 obtain ⟨G1,cg1,c1,rfl,hc1,hrow1,hk1,hg1,hBG⟩:=rows_open ho1 hr1 hr0
 have CR0:=mat_reduced w1 G1 wa.heap.size rows (cols+1) cols c1 g1 cap1 cur1 cg1 _ L hg1 hrow1 hk1 hb1.size hBG HF.out hL1 HLL.out (by omega) hc1 (by omega) (by omega)
 rw[← HR.out]at CR0
 have CR:=Lib.hid CR0
 have hB1:Below w.heap.size w w1:=hba.trans (hb1.mono hba.size)
 clear ho1 hr1 hg1 hrow1 hk1 CR0
 go_wp2_with fail
 refine CR.out.mono ?_
 rintro e w2 ⟨g2,cap2,cur2,rfl,hg2,hb2⟩
 have hB2:Below w.heap.size w w2:=hB1.trans (hb2.mono hba.size)
 have HG2:=Lib.hid hg2
 clear hg2
 by_cases hR1:R.1<cols
 ·have hlt:((R.1:Nat):Int)<((cols:Nat):Int):=by omega
  go_wp2_with fail
  go_ret2
  exact ⟨hB2,.inl ⟨.inl hR1,rfl⟩⟩
 ·have hlt':¬ R.1<cols:=hR1
  have hlt:¬ ((R.1:Nat):Int)<((cols:Nat):Int):=by omega
  go_wp2_with fail
  go_loopw [32,9] (fun t s wr=>∃ (k:Nat) (ps:List (Option Addr)),t=.int .i64 k∧k≤rows∧ps.length=min k cols∧Hid (OwnK ptrKind wr w2.heap.size 30 1 s (min k cols) (ps.map Value.pointer))∧Hid (∀ (j:Nat) p,ps[j]?=some p→FracPtr wr (.pointer p) (R.2 j cols))∧Hid (∀ i,cols≤i→i<k→R.2 i cols=0)∧Below w2.heap.size w2 wr) (fun t _ _=>rows - (intOf t).toNat)
  case atStart=>
   refine ⟨0,[],rfl,Nat.zero_le _,by simp,?_,?_,?_,(Below.refl _ _).alloc (Nat.le_refl _) _⟩
   ·rw[Nat.zero_min];exact OwnK.empty (Row.new _ _ _) (Nat.le_refl _)
   ·exact fun j p hj=>by simp at hj
   ·exact fun i _ hi=>by omega
  case round=>
   obtain ⟨k,ps,rfl,hk,hpl,hown,hps,hz,hbr⟩:=hrel
   have hBr:Below w.heap.size w wr:=hB2.trans (hbr.mono hB2.size)
   by_cases hkr:k<rows
   ·have hgr:=Lib.hid (HG2.out.keep hbr)
    have ho:=hgr.out.outer k hkr
    rw[Nat.zero_add]at ho
    obtain ⟨a,ha,_,hfa⟩:=hgr.out.cell hkr (show cols<cols+1 by omega)
    have hca:=hgr.out.caps k hkr
    have hfit:Fits 1000000000 (R.2 k cols):=(HFR.out k cols hkr (by omega)).mono HLL.out
    have HFA:=Lib.hid hfa
    have hw1:IntKind.i64.wrap ((k:Int)+1)=((k+1:Nat):Int):=by rw[IntKind.wrap_i64];omega
    by_cases hkc:k<cols
    ·have hmk:min k cols=k:=by omega
     rw[hmk]at hpl hown
     have CA:=Lib.hid (frac_Add wr (.pointer a) (.pointer none) (R.2 k cols) 0 hfa.at_ (.inl ⟨rfl,rfl⟩) (hfit.mono (by omega)) fits_nought)
     have HFIT:=Lib.hid hfit
     clear hfa hfit hmk
     have hkc':((k:Nat):Int)<((cols:Nat):Int):=by omega
     go_wp2_with fail
     refine CA.out.mono ?_
     rintro e w4 ⟨z,rfl,hz4,hb4⟩
     obtain ⟨z0,rfl⟩:=hz4.ptr
     rw[Rat.add_zero]at hz4
     have hal:Below w4.heap.size w4 (w4.alloc (.cells #[.pointer z0] 30)):=(Below.refl _ _).alloc (Nat.le_refl _) _
     have hB5:Below wr.heap.size wr (w4.alloc (.cells #[.pointer z0] 30)):=hb4.alloc hb4.size _
     have hown5:=Lib.hid (hown.out.keep hB5)
     have hnew5:Hid (∀ (j:Nat) u,[Value.pointer z0][j]?=some u→(w4.alloc (.cells #[.pointer z0] 30)).cell? ((⟨w4.heap.size,0,none⟩:Addr).add j)=some u):=Lib.hid fun j u hj=>by
      rcases j with _|j
      ·cases hj
       exact (Row.new _ _ _).cell 0
      ·simp at hj
     have hk5:w2.heap.size≤(w4.alloc (.cells #[.pointer z0] 30)).heap.size:=Nat.le_trans hbr.size hB5.size
     have HZ4:=Lib.hid (hz4.keep hal)
     clear hz4
     go_wp2_with (at_builtin;refine wpList_append_ownK (Kd:=ptrKind) rfl (.tmp 41) (.tmp 47) 64 rfl w2.heap.size 30 i1 _ 1 Tryz.underlying64 hi1 hz1 hsz1 rfl (by omega) _ k _ rfl hown5.out ⟨w4.heap.size,0,none⟩ 1 1 [Value.pointer z0] rfl (by simp) hnew5.out (by simp[Value.oneCell']) (by simp[ptrKind]) (by simp[ptrKind,Value.cells]) (by omega) (by unfold maxLen;omega) (by rw[hby1];omega) hk5 ?_;intro v6 w6 hown6 hgr6 hloc6)
     have hps6:Hid (∀ (j:Nat) p,(ps ++ [z0])[j]?=some p→FracPtr w6 (.pointer p) (R.2 j cols)):=Lib.hid fun j p hj=>by
      refine frs_grown hown5.out hgr6 ?_
      rcases Nat.lt_or_ge j k with h4|h4
      ·rw[List.getElem?_append_left (by omega)]at hj
       exact (hps.out j p hj).keep hB5
      ·rw[List.getElem?_append_right (by omega)]at hj
       rcases hjn:j - ps.length with _|m
       ·rw[hjn]at hj
        simp only[List.getElem?_cons_zero,Option.some.injEq]at hj
        subst hj
        obtain rfl:j=k:=by omega
        exact HZ4.out
       ·rw[hjn]at hj;simp at hj
     have hB6:Below w2.heap.size w2 w6:=by
      have h1:=hbr.trans (hB5.mono hbr.size)
      refine ⟨hgr6.os.trans h1.os,hgr6.tape.trans h1.tape,hgr6.output.trans h1.output,Nat.le_trans h1.size hgr6.size,fun j hj=>(hgr6.block j (Nat.lt_of_lt_of_le hj h1.size) (fun e=>?_)).trans (h1.block j hj)⟩
      have:=(hown.out.lt e.symm).1
      omega
     have HO6:Hid (OwnK ptrKind w6 w2.heap.size 30 1 v6 (min (k+1) cols) ((ps ++ [z0]).map Value.pointer)):=by
      rw[show min (k+1) cols=k+1 by omega,List.map_append]
      exact hown6
     have HZZ:Hid (∀ i,cols≤i→i<k+1→R.2 i cols=0):=Lib.hid fun i h1 h2=>by omega
     have HPL:(ps ++ [z0]).length=min (k+1) cols:=by rw[List.length_append,hpl];show k+1=_;omega
     clear hown6
     go_wp2_with fail
     go_roundw
     case rel=>exact ⟨k+1,ps ++ [z0],rfl,by omega,HPL,HO6,hps6,HZZ,hB6⟩
     case measure=>simp[intOf];omega
    ·have hkc':¬ ((k:Nat):Int)<((cols:Nat):Int):=by omega
     have CG0:=frac_Sign wr (.pointer a) (R.2 k cols) hfa.at_ (hfit.mono (by omega))
     by_cases h0:R.2 k cols=0
     ·rw[signI_zero.2 h0]at CG0
      have CG:=Lib.hid CG0
      have H0:=Lib.hid h0
      clear hfa hfit CG0 h0
      go_wp2_with fail
      refine CG.out.mono ?_
      rintro e w4 ⟨rfl,hb4⟩
      have hB6:Below w2.heap.size w2 w4:=hbr.trans (hb4.mono hbr.size)
      have HO6:Hid (OwnK ptrKind w4 w2.heap.size 30 1 u9 (min (k+1) cols) (ps.map Value.pointer)):=by
       rw[show min (k+1) cols=min k cols by omega]
       exact hown.out.keep hb4
      have HZZ:Hid (∀ i,cols≤i→i<k+1→R.2 i cols=0):=Lib.hid fun i h1 h2=>by
       rcases Nat.lt_or_ge i k with h3|h3
       ·exact hz.out i h1 h3
       ·rw[show i=k by omega];exact H0.out
      have HPL:ps.length=min (k+1) cols:=by omega
      have hps6:Hid (∀ (j:Nat) p,ps[j]?=some p→FracPtr w4 (.pointer p) (R.2 j cols)):=Lib.hid fun j p hj=>(hps.out j p hj).keep hb4
      go_wp2_with fail
      go_roundw
      case rel=>exact ⟨k+1,ps,rfl,by omega,HPL,HO6,hps6,HZZ,hB6⟩
      case measure=>simp[intOf];omega
     ·obtain ⟨sg,hsg⟩:∃ sg,sg=signI (R.2 k cols):=⟨_,rfl⟩
      have hne:¬ sg=0:=fun e=>h0 (signI_zero.1 (hsg▸e))
      rw[← hsg]at CG0
      have CG:=Lib.hid CG0
      have H0:=Lib.hid h0
      clear hfa hfit CG0 h0 hsg
      go_wp2_with fail
      refine CG.out.mono ?_
      rintro e w4 ⟨rfl,hb4⟩
      go_wp2_with fail
      go_ret2
      exact ⟨hBr.trans (hb4.mono hBr.size),.inl ⟨.inr ⟨k,by omega,hkr,H0.out⟩,rfl⟩⟩
   ·have:k=rows:=by omega
    subst this
    go_wp2_with fail
    go_ret2
    exact ⟨hBr,.inr ⟨hlt',fun i h1 h2=>hz.out i h1 h2,_,ps,rfl,hpl,hown.out.low hB2.size,hps.out⟩⟩
end Go.Proofs.YtehbhghbagaliaaGreatDoor
