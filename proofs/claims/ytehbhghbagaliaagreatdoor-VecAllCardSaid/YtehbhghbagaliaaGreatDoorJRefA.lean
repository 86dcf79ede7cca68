/- Package victuallerref1: numbers by digits of ten thousand: trimmed, of a word, their order. -/
import Derived.Test.YtehbhghbagaliaaGreatDoorJPlainB
import Derived.Test.YtehbhghbagaliaaGreatDoorProg
import Derived.Test.YtehbhghbagaliaaGreatDoorJOwnK
import Derived.Deep.QuietTactic
import Derived.BigQuiet
set_option linter.unusedVariables false
set_option linter.unusedSimpArgs false
namespace Vic
open Go Go.RowKit
def Above (B:Nat) (v:Value):Prop:=∀ A l c,v=.slice A l c→∀ b o,A=some ⟨b,o,none⟩→B≤b
theorem Above.mono {B C:Nat}{v:Value}(h:Above B v) (hc:C≤B):Above C v:=fun A l c h1 b o h2=>Nat.le_trans hc (h A l c h1 b o h2)
theorem above_slice {B g o l c:Nat}(h:B≤g):Above B (.slice (some ⟨g,o,none⟩) l c):=fun A l' c' h1 b o' h2=>by
 injection h1 with h3 h4 h5
 rw[← h3]at h2
 injection h2 with h2
 injection h2 with h6 h7
 omega
theorem above_nil {B l c:Nat}:Above B (.slice none l c):=fun A l' c' h1 b o' h2=>by
 injection h1 with h3 h4 h5
 rw[← h3]at h2
 cases h2
abbrev tdg (n:Nat):List Nat:=digs 10000 n
def RefN (w:World) (v:Value) (n:Nat):Prop:=Ints .i64 w v (tdg n)
theorem Ints.aside {k:IntKind}{w w':World}{v:Value}{l:List Nat}{B:Nat}(h:Ints k w v l) (ha:Above B v) (hs:∀ b,B≤b→b<w.heap.size→w'.heap[b]?=w.heap[b]?):Ints k w' v l:=by
 obtain ⟨A,c,h1,h2,h3⟩:=h
 refine ⟨A,c,h1,h2,fun i hi=>?_⟩
 obtain ⟨b,o,hA,hc⟩:=h3 i hi
 exact ⟨b,o,hA,by rw[World.cell?_of_block (w:=w) (hs b (ha A _ c h1 b o hA) (block_lt hc))];exact hc⟩
theorem RefN.keep {w w':World}{v:Value}{n:Nat}(h:RefN w v n) (hb:Below w.heap.size w w'):RefN w' v n:=Ints.keep h hb
theorem Ints.at_ {k:IntKind}{w:World}{A:Option Addr}{c:Nat}{l:List Nat}(h:Ints k w (.slice A l.length c) l) (i:Nat) (hi:i<l.length) :
 ∃ b o,A=some ⟨b,o,none⟩∧w.cell? ⟨b,o+i,none⟩=some (.int k ((l.getD i 0:Nat):Int)):=by
 obtain ⟨A',c',hv,_,hcell⟩:=h
 injection hv with h1 h2 h3
 subst h1
 exact hcell i hi
theorem RefN.open_ {w:World}{v:Value}{n:Nat}(h:RefN w v n):∃ A c,v=.slice A (tdg n).length c∧Ints .i64 w (.slice A (tdg n).length c) (tdg n):=by
 obtain ⟨A,c,rfl,h1,h2⟩:=h
 exact ⟨A,c,rfl,A,c,rfl,h1,h2⟩
theorem Ints.front {k:IntKind}{w:World}{A:Option Addr}{c:Nat}{l:List Nat}(h:Ints k w (.slice A l.length c) l) (n:Nat) (hn:n≤l.length):Ints k w (.slice A n c) (l.take n):=by
 obtain ⟨A',c',hv,hlc,hcell⟩:=h
 injection hv with h1 h2 h3
 subst h1;subst h3
 have hlen:(l.take n).length=n:=by simp;omega
 refine ⟨A,c,by rw[hlen],by rw[hlen];omega,fun i hi=>?_⟩
 rw[hlen]at hi
 obtain ⟨b,o,hA,hc⟩:=hcell i (by omega)
 exact ⟨b,o,hA,by rw[getD_take l n i hi];exact hc⟩
theorem tdg_len {n k:Nat}(h:n<10000 ^ k):(tdg n).length≤k:=digs_length_le (by omega) h
theorem tdg_small {n:Nat}(h0:0<n) (h:n<10000):tdg n = [n]:=by
 rw[tdg,digs_pos (by omega) (by omega),Nat.mod_eq_of_lt h,Nat.div_eq_of_lt h,digs_zero]
def intKind (u:Value):Prop:=∃ n:Int,u=.int .i64 n
theorem OwnK.ints {w:World}{base:Nat}{e:TypeId}{v:Value}{l:List Nat}(h:OwnK intKind w base e 1 v l.length (l.map fun (d:Nat)=>Value.int .i64 (d:Int))):Ints .i64 w v l:=by
 have h2:=h
 obtain ⟨h1,⟨rfl,h0⟩|⟨g,cap,cur,rfl,a2,a3,a4,a5,a6,a7,a8⟩⟩:=h
 ·obtain rfl:l = []:=List.eq_nil_of_length_eq_zero h0
  exact Ints.nil_ _ _
 ·refine ⟨_,cap,rfl,a4,fun i hi=>⟨g,0,rfl,?_⟩⟩
  have:=h2.own.cells (g:=g) rfl i (.int .i64 ((l.getD i 0:Nat):Int)) (by
   rw[List.getElem?_map,List.getElem?_eq_getElem hi,List.getD_eq_getElem?_getD,List.getElem?_eq_getElem hi];rfl)
  rwa [show (⟨g,0,none⟩:Addr).add i=⟨g,0+i,none⟩ by simp[Addr.add];omega]at this
theorem OwnK.below {Kd:Value→Prop}{B:Nat}{w0 wr w1 w5:World}{e:TypeId}{size:Nat}{v:Value}{n:Nat}{xs:List Value}(h:OwnK Kd wr B e size v n xs) (hbr:Below B w0 wr) (h01:Below wr.heap.size wr w1) (hgr:w1.grownBy w5 v.ownBlock) (hB:B≤wr.heap.size):Below B w0 w5:=by
 have h1:=hbr.trans (h01.mono hB)
 refine ⟨hgr.os.trans h1.os,hgr.tape.trans h1.tape,hgr.output.trans h1.output,Nat.le_trans h1.size hgr.size,fun j hj=>(hgr.block j (by have:=h01.size;omega) (fun e=>?_)).trans (h1.block j hj)⟩
 have:=(h.lt e.symm).1
 omega
end Vic
namespace Go.Proofs.YtehbhghbagaliaaGreatDoor
open Go.RowKit Vic
set_option maxHeartbeats 400000 in
theorem ref_trimA (w:World) (A:Option Addr) (c:Nat) (l:List Nat) (h:Ints .i64 w (.slice A l.length c) l) (hd:dig 10000 l) (hl:l.length≤10000000) :
 Calls Tryz.prog 89 #[.slice A l.length c] w (fun e w'=>∃ k,e=.returned (.slice A k c)∧RefN w' (.slice A k c) (val 10000 l)∧Below w.heap.size w w'):=by
 have h':=h
 have fin:∀ k,k≤l.length→(∀ i,k≤i→i<l.length→l.getD i 0=0)→(k=0∨l.getD (k - 1) 0≠0)→RefN w (.slice A k c) (val 10000 l):=fun k hk h0 hk0=>by
  have e:=trimd_take l k hk h0 hk0
  rw[trimd_eq_digs (by omega) hd]at e
  show Ints .i64 w _ (digs 10000 (val 10000 l))
  rw[e]
  exact h.front k hk
 have FIN:=Lib.hid fin
 obtain ⟨A',c',hv,hlc,hcell⟩:=h
 injection hv with h1 h2 h3
 subst h1;subst h3
 clear fin h2
 go_enter Tryz.func89,Tryz.ntmps89
 go_wp2
 go_loop [3] (fun t=>∃ k:Nat,k≤l.length∧t=.int .i64 k∧Hid (∀ i,k≤i→i<l.length→l.getD i 0=0)) (fun t=>(intOf t).toNat)
 case atStart=>exact ⟨l.length,Nat.le_refl _,rfl,fun i h1 h2=>by omega⟩
 case round=>
  obtain ⟨k,hk,rfl,hz⟩:=hrel
  rcases Nat.eq_zero_or_pos k with hk0|hk0
  ·subst hk0
   go_wp2
   go_ret
   exact ⟨_,rfl,FIN.out 0 (Nat.zero_le _) hz.out (.inl rfl),Below.refl _ _⟩
  ·obtain ⟨j,rfl⟩:∃ j,k=j+1:=⟨k - 1,by omega⟩
   obtain ⟨b,o,rfl,hcl⟩:=hcell j (by omega)
   obtain ⟨d,hdj⟩:∃ d,d=l.getD j 0:=⟨_,rfl⟩
   rw[← hdj]at hcl
   have HD:=Lib.hid hdj;clear hdj
   clear hcell
   go_wp2
   ·have h0:((d:Int) == 0)=true:=by assumption
    go_round
    case rel=>
     refine ⟨j,by omega,rfl,fun i h1 h2=>?_⟩
     by_cases e:i=j
     ·subst e;rw[← HD.out];simpa using h0
     ·exact hz.out i (by omega) h2
    case measure=>simp[intOf]
   ·have h0:((d:Int) == 0)=false:=by assumption
    go_ret
    refine ⟨_,rfl,FIN.out (j+1) hk hz.out (.inr ?_),Below.refl _ _⟩
    simp only[Nat.add_sub_cancel]
    rw[← HD.out];simpa using h0
theorem ref_trim (w:World) (A:Option Addr) (c:Nat) (l:List Nat) (h:Ints .i64 w (.slice A l.length c) l) (hd:dig 10000 l) (hl:l.length≤10000000) :
 Calls Tryz.prog 89 #[.slice A l.length c] w (Gives (fun x w'=>RefN w' x (val 10000 l)) w):=
 (ref_trimA w A c l h hd hl).mono fun e w' ⟨k,h1,h2,h3⟩=>⟨_,h1,h2,h3⟩
theorem info_int0:(Tryz.prog.info? 3).map (fun i=>(i.zero,i.size,i.bytes))=some (some (.int .i64 0),1,8):=by kernel_rfl
theorem info_int:∃ i:TypeInfo,Tryz.prog.info? 3=some i∧i.zero=some (.int .i64 0)∧i.size=1∧i.bytes=8:=by
 have h:=info_int0
 cases hi:Tryz.prog.info? 3 with
 | none=>rw[hi]at h;simp at h
 | some i=>rw[hi]at h;simp at h;exact ⟨i,rfl,h.1,h.2.1,h.2.2⟩
set_option maxHeartbeats 2000000 in
theorem ref_Cmp (w:World) (u v:Value) (a b:Nat) (ha:RefN w u a) (hb:RefN w v b) (hal:(tdg a).length≤10000000) (hbl:(tdg b).length≤10000000) :
 Calls Tryz.prog 42 #[u,v] w (Rets (.int .i64 (cmpI a b)) w):=by
 obtain ⟨A,c,rfl,hA⟩:=ha.open_
 obtain ⟨A',c',rfl,hB⟩:=hb.open_
 clear ha hb
 obtain ⟨r,hr⟩:∃ r,r=cmpI a b:=⟨_,rfl⟩
 rw[← hr]
 have HR:=Lib.hid hr;clear hr
 have VA:Hid (val 10000 (tdg a)=a):=val_digs (by omega) a
 have VB:Hid (val 10000 (tdg b)=b):=val_digs (by omega) b
 have da:dig 10000 (tdg a):=digs_dig (by omega) a
 have db:dig 10000 (tdg b):=digs_dig (by omega) b
 generalize tdg a=la at *
 generalize tdg b=lb at *
 go_enter Tryz.func42,Tryz.ntmps42
 go_wp2_with fail
 all_goals
  go_loop [5] (fun t=>∃ j:Nat,t=.int .i64 ((j:Int) - 1)∧j≤10000000∧Hid (val 10000 (la.drop j)=val 10000 (lb.drop j))) (fun t=>(intOf t+1).toNat)
  case atStart=>first
   | exact ⟨lb.length,rfl,hbl,by rw[List.drop_of_length_le (by omega),List.drop_of_length_le (Nat.le_refl _)];rfl⟩
   | exact ⟨la.length,rfl,hal,by rw[List.drop_of_length_le (Nat.le_refl _),List.drop_of_length_le (by omega)];rfl⟩
  case round=>
   obtain ⟨j,rfl,hj,hd⟩:=hrel
   rcases Nat.eq_zero_or_pos j with h0|h0
   ·subst h0
    go_wp2
    go_ret
    refine ⟨ret_int ?_,rfl⟩
    rw[HR.out]
    have e:=hd.out
    simp only[List.drop_zero]at e
    rw[VA.out,VB.out]at e
    exact (cmpI_eq e).symm
   ·obtain ⟨k,rfl⟩:∃ k,j=k+1:=⟨j - 1,by omega⟩
    have hs1:Hid (val 10000 (la.drop k)=la.getD k 0+10000*val 10000 (la.drop (k+1))):=val_drop_step _ la k
    have hs2:Hid (val 10000 (lb.drop k)=lb.getD k 0+10000*val 10000 (lb.drop (k+1))):=val_drop_step _ lb k
    have hl1:Hid (la.getD k 0<lb.getD k 0→a<b):=fun h=>by
     have:=lt_of_digit (by omega) da k hd.out h
     rwa [VA.out,VB.out]at this
    have hl2:Hid (lb.getD k 0<la.getD k 0→b<a):=fun h=>by
     have:=lt_of_digit (by omega) db k hd.out.symm h
     rwa [VA.out,VB.out]at this
    have hca:Hid (k<la.length→∃ b o,A=some ⟨b,o,none⟩∧w.cell? ⟨b,o+k,none⟩=some (.int .i64 ((la.getD k 0:Nat):Int))):=hA.at_ k
    have hcb:Hid (k<lb.length→∃ b o,A'=some ⟨b,o,none⟩∧w.cell? ⟨b,o+k,none⟩=some (.int .i64 ((lb.getD k 0:Nat):Int))):=hB.at_ k
    have hna:Hid (la.length≤k→la.getD k 0=0):=getD_big la k
    have hnb:Hid (lb.length≤k→lb.getD k 0=0):=getD_big lb k
    clear hA hB
    generalize la.getD k 0=x at *
    generalize lb.getD k 0=y at *
    have hx:(k<la.length∧∃ b o,A=some ⟨b,o,none⟩∧w.cell? ⟨b,o+k,none⟩=some (.int .i64 ((x:Nat):Int)))∨(¬ k<la.length∧x=0):=by
     by_cases h:k<la.length
     ·exact .inl ⟨h,hca.out h⟩
     ·exact .inr ⟨h,hna.out (by omega)⟩
    have hy:(k<lb.length∧∃ b o,A'=some ⟨b,o,none⟩∧w.cell? ⟨b,o+k,none⟩=some (.int .i64 ((y:Nat):Int)))∨(¬ k<lb.length∧y=0):=by
     by_cases h:k<lb.length
     ·exact .inl ⟨h,hcb.out h⟩
     ·exact .inr ⟨h,hnb.out (by omega)⟩
    have HX:=Lib.hid hx;have HY:=Lib.hid hy
    clear hca hcb hna hnb hx hy
    rcases Nat.lt_trichotomy x y with hxy|hxy|hxy
    ·rcases HX.out with ⟨ka,b1,o1,rfl,hc1⟩|⟨ka,rfl⟩<;>rcases HY.out with ⟨kb,b2,o2,rfl,hc2⟩|⟨kb,rfl⟩<;>clear HX HY
     all_goals first
      | (exfalso;omega)
      | (go_wp2
         go_ret
         exact ⟨ret_int (by rw[HR.out,cmpI_lt (hl1.out hxy)]),rfl⟩)
    ·subst hxy
     rcases HX.out with ⟨ka,b1,o1,rfl,hc1⟩|⟨ka,rfl⟩<;>rcases HY.out with ⟨kb,b2,o2,rfl,hc2⟩|⟨kb,hz⟩<;>clear HX HY
     case' inl.inr=>subst hz
     all_goals
      go_wp2
      go_round
      case rel=>exact ⟨k,by go_num,by omega,by rw[hs1.out,hs2.out,hd.out];exact rfl⟩
      case measure=>simp[intOf]
    ·rcases HX.out with ⟨ka,b1,o1,rfl,hc1⟩|⟨ka,rfl⟩<;>rcases HY.out with ⟨kb,b2,o2,rfl,hc2⟩|⟨kb,rfl⟩<;>clear HX HY
     all_goals first
      | (exfalso;omega)
      | (go_wp2
         go_ret
         exact ⟨ret_int (by rw[HR.out,cmpI_gt (hl2.out hxy)]),rfl⟩)
end Go.Proofs.YtehbhghbagaliaaGreatDoor
