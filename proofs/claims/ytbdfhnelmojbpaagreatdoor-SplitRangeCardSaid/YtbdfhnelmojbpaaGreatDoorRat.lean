/- Package nat: any quotient; the greatest common divisor by shifts. -/
import Derived.Test.YtbdfhnelmojbpaaGreatDoorRas
import Derived.Test.YtbdfhnelmojbpaaGreatDoorRaq
import Derived.Test.YtbdfhnelmojbpaaGreatDoorRap
import Derived.Maps.AppendAt
import Derived.Deep.RegionLaw
import Derived.MapKept
set_option linter.unusedVariables false
set_option linter.unusedSimpArgs false
section
namespace Vic
open Go Go.RowKit
def natOf (w:World):Value→Nat
 | .pointer (some p)=>match w.cell? p with
   | some (.slice (some q) l _)=>val 4294967296 ((List.range l).map fun i=>match w.cell? ⟨q.block,q.off+i,none⟩with|some (.int _ d)=>d.toNat|_=>0)
   | _=>0
 | _=>0
theorem natOf_eq {w:World}{v:Value}{n:Nat}(h:NatAt w v n):natOf w v=n:=by
 rcases h with ⟨rfl,rfl⟩|⟨b,s,rfl,hc,⟨A,c,rfl,hlc,hcell⟩,hblk⟩
 ·rfl
 ·have hv:val 4294967296 (digs 4294967296 n)=n:=val_digs (by omega) n
  unfold natOf
  simp only[hc]
  rcases A with _|q
  ·rcases Nat.eq_zero_or_pos (digs 4294967296 n).length with h0|h0
   ·have:digs 4294967296 n = []:=List.eq_nil_of_length_eq_zero h0
    rw[this]at hv
    simpa [val]using hv
   ·obtain ⟨_,_,h1,_⟩:=hcell 0 h0
    cases h1
  ·have e:((List.range (digs 4294967296 n).length).map fun i=>match w.cell? ⟨q.block,q.off+i,none⟩with|some (.int _ d)=>d.toNat|_=>0)=digs 4294967296 n:=by
    apply List.ext_getElem
    ·simp
    ·intro i h1 h2
     obtain ⟨b',o',hq,hi⟩:=hcell i h2
     injection hq with hq
     subst hq
     simp[hi,h2]
   simp only[e]
   exact hv
theorem tz_le_len (a L:Nat) (h:(dgs a).length≤L):tz a≤32*L:=by
 rcases Nat.eq_zero_or_pos a with h0|h0
 ·subst h0;rw[tz_zero];omega
 ·have h1:=lt_pow_digs_length (B:=4294967296) (by omega) a
  have e:(4294967296:Nat) ^ (dgs a).length=2 ^ (32*(dgs a).length):=by rw[Nat.pow_mul]
  have h2:a<2 ^ (32*(dgs a).length):=by rw[← e];exact h1
  have:=tz_lt (by omega) h2
  omega
end Vic
namespace Go.Proofs.YtbdfhnelmojbpaaGreatDoor
open Go.RowKit Vic
theorem nat_Div (w:World) (u v:Value) (a b:Nat) (ha:NatAt w u a) (hb:NatAt w v b) (hal:(dgs a).length≤100000000000) (hbl:(dgs b).length≤100000000000) (h0:b≠0) :
 Calls Tryz.prog 224 #[u,v] w (Parted a b w):=by
 rcases Nat.lt_or_ge a b with h|h
 ·exact nat_Div_small w u v a b ha hb (by omega) (by omega) h
 ·have h1:=digs_len_pos h0
  rcases Nat.lt_or_ge (dgs b).length 2 with h2|h2
  ·exact nat_Div_one w u v a b ha hb (by omega) (by omega) h
  ·exact nat_Div_long w u v a b ((dgs b).length - 2) ha hb (by omega) (by omega) h
set_option maxRecDepth 100000 in
set_option maxHeartbeats 4000000 in
theorem nat_shifts (w:World) (u v:Value) (a b:Nat) (ha:NatAt w u a) (hb:NatAt w v b) (hal:(dgs a).length≤10000000000) (hbl:(dgs b).length≤10000000000) (ha0:a≠0) (hb0:b≠0) :
 Calls Tryz.prog 295 #[u,v] w (Gives (fun x w'=>NatAt w' x (Nat.gcd a b)) w):=by
 have CA:=Lib.hid (nat_Twos w u a ha (by omega))
 have CB:=Lib.hid (nat_Twos w v b hb (by omega))
 have CA2:Hid (∀ wr,Below w.heap.size w wr→Calls Tryz.prog 148 #[u] wr (Rets (.int .i64 ((tz a:Nat):Int)) wr)):=fun wr hw=>nat_Twos wr u a (ha.keep hw) (by omega)
 have CB2:Hid (∀ wr,Below w.heap.size w wr→Calls Tryz.prog 148 #[v] wr (Rets (.int .i64 ((tz b:Nat):Int)) wr)):=fun wr hw=>nat_Twos wr v b (hb.keep hw) (by omega)
 have ta:=tz_le_len a _ hal
 have tb:=tz_le_len b _ hbl
 have CD:Hid (∀ wr,Below w.heap.size w wr→Calls Tryz.prog 274 #[u,.int .i64 (tz a:Nat)] wr (Gives (fun x w'=>NatAt w' x (odd a)) wr)):=fun wr hw=>nat_down wr u a (tz a) (ha.keep hw) (by omega) (by omega)
 have CE:Hid (∀ wr,Below w.heap.size w wr→Calls Tryz.prog 274 #[v,.int .i64 (tz b:Nat)] wr (Gives (fun x w'=>NatAt w' x (odd b)) wr)):=fun wr hw=>nat_down wr v b (tz b) (hb.keep hw) (by omega) (by omega)
 have HG:=Lib.hid (gcd_odd_odd ha0 hb0)
 obtain ⟨L,hL⟩:∃ L,L=max (dgs a).length (dgs b).length:=⟨_,rfl⟩
 have hl1:Hid ((dgs (odd a)).length≤L):=Nat.le_trans (digs_length_mono (by omega) (odd_le a)) (by rw[hL];exact Nat.le_max_left _ _)
 have hl2:Hid ((dgs (odd b)).length≤L):=Nat.le_trans (digs_length_mono (by omega) (odd_le b)) (by rw[hL];exact Nat.le_max_right _ _)
 have o1:=Lib.hid (odd_odd ha0)
 have o2:=Lib.hid (odd_odd hb0)
 have hLL:L≤10000000000:=by omega
 obtain ⟨by_,hby⟩:∃ by_,by_=min (tz a) (tz b):=⟨_,rfl⟩
 have hby2:by_≤320000000000:=by omega
 have HBY:=Lib.hid hby
 generalize tz a=p at *
 generalize tz b=q at *
 have HL:=Lib.hid hL
 clear hL
 have hbpq:(by_=p∧p≤q)∨(by_=q∧q<p):=by omega
 clear hby
 go_enter Tryz.func295,Tryz.ntmps295
 go_wp2_with fail
 refine CA.out.mono ?_
 rintro e w' ⟨rfl,rfl⟩
 go_wp2_with fail
 refine CB.out.mono ?_
 rintro e w' ⟨rfl,rfl⟩
 rcases hbpq with ⟨rfl,hpq⟩|⟨rfl,hpq⟩
 all_goals
  go_wp2_with fail
  refine (CA2.out _ (Below.refl _ _)).mono ?_
  rintro e w' ⟨rfl,rfl⟩
  go_wp2_with fail
  refine (CD.out _ (Below.refl _ _)).mono ?_
  rintro e w1 ⟨x1,rfl,hx1,hb1⟩
  go_wp2_with fail
  refine (CB2.out _ hb1).mono ?_
  rintro e w' ⟨rfl,rfl⟩
  go_wp2_with fail
  refine (CE.out _ hb1).mono ?_
  rintro e w2 ⟨x2,rfl,hx2,hb2⟩
  have hx1':=hx1.keep hb2
  have hb3:=below_seq hb1 hb2
  obtain ⟨G,hG⟩:∃ G,G=Nat.gcd (odd a) (odd b):=⟨_,rfl⟩
  have HGG:=Lib.hid hG
  clear hG CA2 CD CB2 CE hx1 CA CB
  go_wp2_with fail
  go_loopw [0,1] (fun s t wr=>∃ x y,NatAt wr s x∧NatAt wr t y∧Hid (x % 2=1)∧Hid (y % 2=1)∧Hid (Nat.gcd x y=G)∧(dgs x).length≤L∧(dgs y).length≤L∧Below w.heap.size w wr) (fun s t wr=>natOf wr s+natOf wr t)
  case atStart=>exact ⟨_,_,hx1',hx2,o1,o2,HGG.out.symm,hl1.out,hl2.out,hb3⟩
  case round=>
   obtain ⟨x,y,hx,hy,ox,oy,hg,hlx,hly,hbr⟩:=hrel
   have CC:=nat_Cmp wr _ _ x y hx hy (by omega) (by omega)
   rcases Nat.lt_trichotomy x y with h|h|h
   ·rw[cmpI_lt h]at CC
    have HC:=Lib.hid CC
    clear CC
    have CL:=Lib.hid (nat_Less_yes wr _ _ y x hy hx (by omega) (by omega) (by omega))
    have hne:y - x≠0:=by omega
    have hld:(dgs (y - x)).length≤L:=Nat.le_trans (digs_length_mono (by omega) (Nat.sub_le _ _)) hly
    have hlo:(dgs (odd (y - x))).length≤L:=Nat.le_trans (digs_length_mono (by omega) (odd_le _)) hld
    have hGR:Hid (Nat.gcd (odd (y - x)) x=G):=(gcd_round (by omega) ox.out).trans ((Nat.gcd_comm _ _).trans hg.out)
    have hS0:x≠0:=by have:=ox.out;omega
    have hdec:Hid (odd (y - x)+x<x+y):=by
     have:=odd_le (y - x)
     show _<_
     omega
    have hodd:Hid (odd (y - x) % 2=1):=odd_odd hne
    have hO0:odd (y - x)≠0:=by have:=hodd.out;omega
    generalize y - x=D at *
    go_wp2_with fail
    refine HC.out.mono ?_
    rintro e w' ⟨rfl,rfl⟩
    go_wp2_with fail
    refine CL.out.mono ?_
    rintro e w3 ⟨x3,rfl,hx3,hb4⟩
    have CT:=Lib.hid (nat_Twos w3 x3 D hx3 (by omega))
    have ht:=tz_le_len D L hld
    have CDn:Hid (Calls Tryz.prog 274 #[x3,.int .i64 (tz D:Nat)] w3 (Gives (fun x w'=>NatAt w' x (odd D)) w3)):=nat_down w3 x3 D (tz D) hx3 (by omega) (by omega)
    generalize tz D=td at *
    generalize odd D=O at *
    go_wp2_with fail
    refine CT.out.mono ?_
    rintro e w' ⟨rfl,rfl⟩
    go_wp2_with fail
    refine CDn.out.mono ?_
    rintro e w4 ⟨x4,rfl,hx4,hb5⟩
    have hb6:Below w.heap.size w w4:=hbr.trans ((below_seq hb4 hb5).mono hbr.size)
    have hS4:=(hx).keep (below_seq hb4 hb5)
    have hM1:=Lib.hid (natOf_eq hx)
    have hM2:=Lib.hid (natOf_eq hy)
    obtain ⟨p4,A4,c4,rfl,hc4,hl4⟩:=hx4.open_ hO0
    obtain ⟨p5,A5,c5,rfl,hc5,hl5⟩:=hS4.open_ hS0
    have hM3:=Lib.hid (natOf_eq hx4)
    have hM4:=Lib.hid (natOf_eq hS4)
    have HL4:=Lib.hid hlo
    have HL5:=Lib.hid hlx
    by_cases h4:(dgs O).length≤2
    ·by_cases h5:(dgs x).length≤2
     ·have v4:=word_small h4
      have v5:=word_small h5
      have CW:=nat_Word w4 _ O hx4 (by omega)
      have CV:=nat_Word w4 _ x hS4 (by omega)
      rw[if_pos v4,decide_eq_true v4]at CW
      rw[if_pos v5,decide_eq_true v5]at CV
      have hW:=Lib.hid CW
      have hV:=Lib.hid CV
      have CC:=nat_common w4 O x v4 v5
      rw[hGR.out]at CC
      have hCC:=Lib.hid CC
      have hGl:G<18446744073709551616:=by rw[← hGR.out];exact Nat.lt_of_le_of_lt (Nat.gcd_le_left _ (by omega)) v4
      have hGL:=Lib.hid hGl
      clear CW CV CC v4 v5 hGl
      generalize (dgs O).length=n4 at *
      generalize (dgs x).length=n5 at *
      go_wp2_with fail
      refine hW.out.mono ?_
      rintro e w' ⟨rfl,rfl⟩
      go_wp2_with fail
      refine hV.out.mono ?_
      rintro e w' ⟨rfl,rfl⟩
      go_wp2_with fail
      refine hCC.out.mono ?_
      rintro e w5 ⟨rfl,hb7⟩
      have CO:=Lib.hid (nat_Of w5 G hGL.out)
      go_wp2_with fail
      refine CO.out.mono ?_
      rintro e w6 ⟨x6,rfl,hx6,hb8⟩
      have CU:=Lib.hid (nat_up w6 x6 G by_ hx6 (Nat.le_trans (digs_length_le (k:=2) (by omega) (by exact hGL.out)) (by omega)) (by omega))
      go_wp2_with fail
      refine CU.out.mono ?_
      rintro e w7 ⟨x7,rfl,hx7,hb9⟩
      go_wp2_with fail
      go_ret
      refine ⟨x7,rfl,?_,hb6.trans ((below_seq hb7 (below_seq hb8 hb9)).mono hb6.size)⟩
      rw[HG.out,← HBY.out,← HGG.out]
      exact hx7
     ·generalize hn4:(dgs O).length=n4 at *
      generalize hn5:(dgs x).length=n5 at *
      have HN4:=Lib.hid hn4;have HN5:=Lib.hid hn5;clear hn4 hn5
      go_wp2_with fail
      go_roundw
      case rel=>exact ⟨O,x,hx4,hS4,hodd,ox,hGR,Nat.le_trans (Nat.le_of_eq HN4.out) HL4.out,Nat.le_trans (Nat.le_of_eq HN5.out) HL5.out,hb6⟩
      case measure=>rw[hM1.out,hM2.out,hM3.out,hM4.out];exact hdec.out
    ·generalize hn4:(dgs O).length=n4 at *
     generalize hn5:(dgs x).length=n5 at *
     have HN4:=Lib.hid hn4;have HN5:=Lib.hid hn5;clear hn4 hn5
     go_wp2_with fail
     go_roundw
     case rel=>exact ⟨O,x,hx4,hS4,hodd,ox,hGR,Nat.le_trans (Nat.le_of_eq HN4.out) HL4.out,Nat.le_trans (Nat.le_of_eq HN5.out) HL5.out,hb6⟩
     case measure=>rw[hM1.out,hM2.out,hM3.out,hM4.out];exact hdec.out
   ·subst h
    rw[cmpI_eq rfl]at CC
    have HC:=Lib.hid CC
    have CU:=Lib.hid (nat_up wr _ x _ hx (by omega) (show by_≤1000000000000 by omega))
    clear CC
    go_wp2_with fail
    refine HC.out.mono ?_
    rintro e w' ⟨rfl,rfl⟩
    go_wp2_with fail
    refine CU.out.mono ?_
    rintro e w3 ⟨x3,rfl,hx3,hb4⟩
    go_wp2_with fail
    go_ret
    refine ⟨x3,rfl,?_,hbr.trans (hb4.mono hbr.size)⟩
    rw[HG.out,← HBY.out,← HGG.out,← hg.out,Nat.gcd_self]
    exact hx3
   ·rw[cmpI_gt h]at CC
    have HC:=Lib.hid CC
    clear CC
    have CL:=Lib.hid (nat_Less_yes wr _ _ x y hx hy (by omega) (by omega) (by omega))
    have hne:x - y≠0:=by omega
    have hld:(dgs (x - y)).length≤L:=Nat.le_trans (digs_length_mono (by omega) (Nat.sub_le _ _)) hlx
    have hlo:(dgs (odd (x - y))).length≤L:=Nat.le_trans (digs_length_mono (by omega) (odd_le _)) hld
    have hGR:Hid (Nat.gcd (odd (x - y)) y=G):=(gcd_round (by omega) oy.out).trans (hg.out)
    have hS0:y≠0:=by have:=oy.out;omega
    have hdec:Hid (odd (x - y)+y<x+y):=by
     have:=odd_le (x - y)
     show _<_
     omega
    have hodd:Hid (odd (x - y) % 2=1):=odd_odd hne
    have hO0:odd (x - y)≠0:=by have:=hodd.out;omega
    generalize x - y=D at *
    go_wp2_with fail
    refine HC.out.mono ?_
    rintro e w' ⟨rfl,rfl⟩
    go_wp2_with fail
    refine CL.out.mono ?_
    rintro e w3 ⟨x3,rfl,hx3,hb4⟩
    have CT:=Lib.hid (nat_Twos w3 x3 D hx3 (by omega))
    have ht:=tz_le_len D L hld
    have CDn:Hid (Calls Tryz.prog 274 #[x3,.int .i64 (tz D:Nat)] w3 (Gives (fun x w'=>NatAt w' x (odd D)) w3)):=nat_down w3 x3 D (tz D) hx3 (by omega) (by omega)
    generalize tz D=td at *
    generalize odd D=O at *
    go_wp2_with fail
    refine CT.out.mono ?_
    rintro e w' ⟨rfl,rfl⟩
    go_wp2_with fail
    refine CDn.out.mono ?_
    rintro e w4 ⟨x4,rfl,hx4,hb5⟩
    have hb6:Below w.heap.size w w4:=hbr.trans ((below_seq hb4 hb5).mono hbr.size)
    have hS4:=(hy).keep (below_seq hb4 hb5)
    have hM1:=Lib.hid (natOf_eq hx)
    have hM2:=Lib.hid (natOf_eq hy)
    obtain ⟨p4,A4,c4,rfl,hc4,hl4⟩:=hx4.open_ hO0
    obtain ⟨p5,A5,c5,rfl,hc5,hl5⟩:=hS4.open_ hS0
    have hM3:=Lib.hid (natOf_eq hx4)
    have hM4:=Lib.hid (natOf_eq hS4)
    have HL4:=Lib.hid hlo
    have HL5:=Lib.hid hly
    by_cases h4:(dgs O).length≤2
    ·by_cases h5:(dgs y).length≤2
     ·have v4:=word_small h4
      have v5:=word_small h5
      have CW:=nat_Word w4 _ O hx4 (by omega)
      have CV:=nat_Word w4 _ y hS4 (by omega)
      rw[if_pos v4,decide_eq_true v4]at CW
      rw[if_pos v5,decide_eq_true v5]at CV
      have hW:=Lib.hid CW
      have hV:=Lib.hid CV
      have CC:=nat_common w4 O y v4 v5
      rw[hGR.out]at CC
      have hCC:=Lib.hid CC
      have hGl:G<18446744073709551616:=by rw[← hGR.out];exact Nat.lt_of_le_of_lt (Nat.gcd_le_left _ (by omega)) v4
      have hGL:=Lib.hid hGl
      clear CW CV CC v4 v5 hGl
      generalize (dgs O).length=n4 at *
      generalize (dgs y).length=n5 at *
      go_wp2_with fail
      refine hW.out.mono ?_
      rintro e w' ⟨rfl,rfl⟩
      go_wp2_with fail
      refine hV.out.mono ?_
      rintro e w' ⟨rfl,rfl⟩
      go_wp2_with fail
      refine hCC.out.mono ?_
      rintro e w5 ⟨rfl,hb7⟩
      have CO:=Lib.hid (nat_Of w5 G hGL.out)
      go_wp2_with fail
      refine CO.out.mono ?_
      rintro e w6 ⟨x6,rfl,hx6,hb8⟩
      have CU:=Lib.hid (nat_up w6 x6 G by_ hx6 (Nat.le_trans (digs_length_le (k:=2) (by omega) (by exact hGL.out)) (by omega)) (by omega))
      go_wp2_with fail
      refine CU.out.mono ?_
      rintro e w7 ⟨x7,rfl,hx7,hb9⟩
      go_wp2_with fail
      go_ret
      refine ⟨x7,rfl,?_,hb6.trans ((below_seq hb7 (below_seq hb8 hb9)).mono hb6.size)⟩
      rw[HG.out,← HBY.out,← HGG.out]
      exact hx7
     ·generalize hn4:(dgs O).length=n4 at *
      generalize hn5:(dgs y).length=n5 at *
      have HN4:=Lib.hid hn4;have HN5:=Lib.hid hn5;clear hn4 hn5
      go_wp2_with fail
      go_roundw
      case rel=>exact ⟨O,y,hx4,hS4,hodd,oy,hGR,Nat.le_trans (Nat.le_of_eq HN4.out) HL4.out,Nat.le_trans (Nat.le_of_eq HN5.out) HL5.out,hb6⟩
      case measure=>rw[hM1.out,hM2.out,hM3.out,hM4.out];exact hdec.out
    ·generalize hn4:(dgs O).length=n4 at *
     generalize hn5:(dgs y).length=n5 at *
     have HN4:=Lib.hid hn4;have HN5:=Lib.hid hn5;clear hn4 hn5
     go_wp2_with fail
     go_roundw
     case rel=>exact ⟨O,y,hx4,hS4,hodd,oy,hGR,Nat.le_trans (Nat.le_of_eq HN4.out) HL4.out,Nat.le_trans (Nat.le_of_eq HN5.out) HL5.out,hb6⟩
     case measure=>rw[hM1.out,hM2.out,hM3.out,hM4.out];exact hdec.out
end Go.Proofs.YtbdfhnelmojbpaaGreatDoor
end
section
namespace Go.Proofs.YtbdfhnelmojbpaaGreatDoor
open Go.RowKit Vic
set_option maxRecDepth 100000 in
set_option maxHeartbeats 4000000 in
theorem nat_Gcd (w:World) (u v:Value) (a b:Nat) (ha:NatAt w u a) (hb:NatAt w v b) (hal:(dgs a).length≤10000000000) (hbl:(dgs b).length≤10000000000) :
 Calls Tryz.prog 261 #[u,v] w (Gives (fun x w'=>NatAt w' x (Nat.gcd a b)) w):=by
 obtain ⟨L,hL⟩:∃ L,L=max (dgs a).length (dgs b).length:=⟨_,rfl⟩
 have hl1:(dgs a).length≤L:=by omega
 have hl2:(dgs b).length≤L:=by omega
 have hLL:L≤10000000000:=by omega
 obtain ⟨G,hG⟩:∃ G,G=Nat.gcd a b:=⟨_,rfl⟩
 rw[← hG]
 have HG:=Lib.hid hG
 clear hL hG
 go_enter Tryz.func261,Tryz.ntmps261
 go_wp2_with fail
 go_loopw [5,6] (fun s t wr=>∃ x y,NatAt wr s x∧NatAt wr t y∧Hid (Nat.gcd x y=G)∧(dgs x).length≤L∧(dgs y).length≤L∧Below w.heap.size w wr) (fun _ t wr=>natOf wr t)
 case atStart=>exact ⟨a,b,ha,hb,HG.out.symm,hl1,hl2,Below.refl _ _⟩
 case round=>
  obtain ⟨x,y,hx,hy,hg,hlx,hly,hbr⟩:=hrel
  have CX:=nat_Word wr _ x hx (by omega)
  have CY:=nat_Word wr _ y hy (by omega)
  have hM1:=Lib.hid (natOf_eq hy)
  have CDX:=Lib.hid (nat_digits wr _ x hx)
  have CDY:=Lib.hid (nat_digits wr _ y hy)
  by_cases hw:x<18446744073709551616∧y<18446744073709551616
  ·obtain ⟨v4,v5⟩:=hw
   rw[if_pos v4,decide_eq_true v4]at CX
   rw[if_pos v5,decide_eq_true v5]at CY
   have hX:=Lib.hid CX
   have hY:=Lib.hid CY
   have CC:=nat_common wr x y v4 v5
   rw[hg.out]at CC
   have hCC:=Lib.hid CC
   have hGl:G<18446744073709551616:=by
    rw[← hg.out]
    rcases Nat.eq_zero_or_pos x with h0|h0
    ·subst h0;rw[Nat.gcd_zero_left];exact v5
    ·exact Nat.lt_of_le_of_lt (Nat.gcd_le_left _ h0) v4
   have hGL:=Lib.hid hGl
   clear CX CY CC v4 v5 hGl
   go_wp2_with fail
   refine hX.out.mono ?_
   rintro e w' ⟨rfl,rfl⟩
   go_wp2_with fail
   refine hY.out.mono ?_
   rintro e w' ⟨rfl,rfl⟩
   go_wp2_with fail
   refine hCC.out.mono ?_
   rintro e w5 ⟨rfl,hb7⟩
   have CO:=Lib.hid (nat_Of w5 G hGL.out)
   go_wp2_with fail
   refine CO.out.mono ?_
   rintro e w6 ⟨x6,rfl,hx6,hb8⟩
   go_wp2_with fail
   go_ret
   exact ⟨x6,rfl,hx6,hbr.trans ((below_seq hb7 hb8).mono hbr.size)⟩
  ·obtain ⟨p,hp⟩:∃ p:Nat,p=if x<18446744073709551616 then x else 0:=⟨_,rfl⟩
   obtain ⟨q,hq⟩:∃ q:Nat,q=if y<18446744073709551616 then y else 0:=⟨_,rfl⟩
   rw[← hp]at CX
   rw[← hq]at CY
   have hb2:(decide (x<18446744073709551616)=false)∨(decide (x<18446744073709551616)=true∧decide (y<18446744073709551616)=false):=by
    by_cases h1:x<18446744073709551616
    ·exact .inr ⟨decide_eq_true h1,decide_eq_false fun h2=>hw ⟨h1,h2⟩⟩
    ·exact .inl (decide_eq_false h1)
   clear hp hq hw
   generalize decide (x<18446744073709551616)=bx at *
   generalize decide (y<18446744073709551616)=by_ at *
   have hX:=Lib.hid CX
   have hY:=Lib.hid CY
   clear CX CY
   rcases Nat.eq_zero_or_pos y with h0|h0
   ·subst h0
    have hgx:x=G:=by have:=hg.out;rwa [Nat.gcd_zero_right]at this
    subst hgx
    have CO:Hid (∀ v,U32s wr v (dgs x)→Calls Tryz.prog 199 #[v] wr (Gives (fun z w'=>NatAt w' z x) wr)):=fun v hv=>by
     have:=nat_of wr v (dgs x) hv (digs_dig (by omega) _) (by omega)
     rwa [show val 4294967296 (dgs x)=x from val_digs (by omega) x]at this
    rw[show dgs 0 = []from digs_zero _]at CDY
    rcases hb2 with rfl|⟨rfl,rfl⟩
    all_goals
     go_wp2_with fail
     refine hX.out.mono ?_
     rintro e w' ⟨rfl,rfl⟩
     go_wp2_with fail
     refine hY.out.mono ?_
     rintro e w' ⟨rfl,rfl⟩
     go_wp2_with fail
     refine CDY.out.mono ?_
     rintro e w' ⟨A,c,rfl,hA,rfl⟩
     go_wp2_with fail
     refine CDX.out.mono ?_
     rintro e w' ⟨A2,c2,rfl,hA2,rfl⟩
     go_wp2_with fail
     refine (CO.out _ hA2).mono ?_
     rintro e w3 ⟨x3,rfl,hx3,hb3⟩
     go_wp2_with fail
     go_ret
     exact ⟨x3,rfl,hx3,hbr.trans (hb3.mono hbr.size)⟩
   ·have hlp:=digs_len_pos (n:=y) (by omega)
    by_cases hne:(dgs x).length=(dgs y).length
    ·have hx0:x≠0:=by
      rintro rfl
      rw[show dgs 0 = []from digs_zero _]at hne;simp at hne;omega
     have CS0:=nat_shifts wr _ _ x y hx hy (by omega) (by omega) hx0 (by omega)
     rw[hg.out]at CS0
     have CS:=Lib.hid CS0
     clear CS0
     have hbne:(((dgs x).length:Int) != ((dgs y).length:Int))=false:=by rw[hne];simp
     have HNE:=Lib.hid hne
     clear hne
     generalize dgs x=lx at *
     generalize dgs y=ly at *
     rcases hb2 with rfl|⟨rfl,rfl⟩
     all_goals
      go_wp2_with fail
      refine hX.out.mono ?_
      rintro e w' ⟨rfl,rfl⟩
      go_wp2_with fail
      refine hY.out.mono ?_
      rintro e w' ⟨rfl,rfl⟩
      go_wp2_with fail
      refine CDY.out.mono ?_
      rintro e w' ⟨A,c,rfl,hA,rfl⟩
      go_wp2_with fail
      refine CDX.out.mono ?_
      rintro e w' ⟨A2,c2,rfl,hA2,rfl⟩
      go_wp2_with fail
      refine CDY.out.mono ?_
      rintro e w' ⟨A3,c3,rfl,hA3,rfl⟩
      go_wp2_with fail
      refine CS.out.mono ?_
      rintro e w3 ⟨x3,rfl,hx3,hb3⟩
      go_wp2_with fail
      go_ret
      exact ⟨x3,rfl,hx3,hbr.trans (hb3.mono hbr.size)⟩
    ·have CV:=Lib.hid (nat_Div wr _ _ x y hx hy (by omega) (by omega) (by omega))
     have hbne:(((dgs x).length:Int) != ((dgs y).length:Int))=true:=by rw[bne_iff_ne];omega
     have hlm:Hid ((dgs (x % y)).length≤L):=Nat.le_trans (digs_length_mono (by omega) (Nat.le_of_lt (Nat.mod_lt _ h0))) hly
     have hlt:Hid (x % y<y):=Nat.mod_lt _ h0
     have hg2:Hid (Nat.gcd y (x % y)=G):=(gcd_step x y).trans hg.out
     have HLY:=Lib.hid hly
     clear hne
     unfold Parted at CV
     generalize x % y=r at *
     generalize dgs x=lx at *
     generalize hd:dgs y=ly at *
     have HD:=Lib.hid hd
     clear hd
     rcases hb2 with rfl|⟨rfl,rfl⟩
     all_goals
      go_wp2_with fail
      refine hX.out.mono ?_
      rintro e w' ⟨rfl,rfl⟩
      go_wp2_with fail
      refine hY.out.mono ?_
      rintro e w' ⟨rfl,rfl⟩
      go_wp2_with fail
      refine CDY.out.mono ?_
      rintro e w' ⟨A,c,rfl,hA,rfl⟩
      go_wp2_with fail
      refine CDX.out.mono ?_
      rintro e w' ⟨A2,c2,rfl,hA2,rfl⟩
      go_wp2_with fail
      refine CDY.out.mono ?_
      rintro e w' ⟨A3,c3,rfl,hA3,rfl⟩
      go_wp2_with fail
      refine CV.out.mono ?_
      rintro e w3 ⟨x3,x4,rfl,_,hx4,hb3⟩
      go_wp2_with fail
      have hy3:=hy.keep hb3
      go_roundw
      case rel=>exact ⟨y,r,hy3,hx4,hg2,by rw[HD.out];exact HLY.out,hlm.out,hbr.trans (hb3.mono hbr.size)⟩
      case measure=>rw[hM1.out,natOf_eq hx4];exact hlt.out
end Go.Proofs.YtbdfhnelmojbpaaGreatDoor
end
section
namespace Vic
def sgn (neg:Bool) (n:Nat):Int:=if neg then -(n:Int)else n
theorem sgn_natAbs (neg:Bool) (n:Nat):(sgn neg n).natAbs=n:=by cases neg<;>simp[sgn]
def quo (neg:Bool) (n d:Nat):Rat:=mkRat (sgn neg n) d
theorem quo_den {neg:Bool}{n d:Nat}(hd:d≠0):(quo neg n d).den=d / Nat.gcd n d:=by
 rw[quo,Rat.den_mkRat,if_neg hd,sgn_natAbs,Nat.gcd_comm]
theorem sgn_div (neg:Bool) (n g:Nat) (h:g∣n):sgn neg n / (g:Int)=sgn neg (n / g):=by
 obtain ⟨k,rfl⟩:=h
 rcases Nat.eq_zero_or_pos g with h0|h0
 ·subst h0;cases neg<;>simp[sgn]
 ·rw[Nat.mul_div_cancel_left _ h0]
  have e:sgn neg (g*k)=(g:Int)*sgn neg k:=by
   cases neg<;>simp[sgn,Int.mul_neg]
  rw[e,Int.mul_ediv_cancel_left _ (by omega)]
theorem quo_num {neg:Bool}{n d:Nat}(hd:d≠0):(quo neg n d).num=sgn neg (n / Nat.gcd n d):=by
 rw[quo,Rat.num_mkRat,if_neg hd,sgn_natAbs,Nat.gcd_comm,sgn_div _ _ _ (Nat.gcd_dvd_left n d)]
theorem quo_natAbs {neg:Bool}{n d:Nat}(hd:d≠0):(quo neg n d).num.natAbs=n / Nat.gcd n d:=by
 rw[quo_num hd,sgn_natAbs]
theorem quo_neg {neg:Bool}{n d:Nat}(hd:d≠0):decide ((quo neg n d).num<0)=(neg && decide (n / Nat.gcd n d≠0)):=by
 rw[quo_num hd]
 generalize n / Nat.gcd n d=m
 cases neg
 ·simp[sgn]
 ·simp only[sgn,if_true,Bool.true_and]
  by_cases h:m=0
  ·subst h;rfl
  ·rw[decide_eq_true (by omega),decide_eq_true h]
theorem quo_self (q:Rat):quo (decide (q.num<0)) q.num.natAbs q.den=q:=by
 have e:sgn (decide (q.num<0)) q.num.natAbs=q.num:=by
  unfold sgn
  by_cases h:q.num<0
  ·simp[h];omega
  ·simp[h];omega
 rw[quo,e]
 exact Rat.mkRat_self q
theorem sgn_self (q:Rat):sgn (decide (q.num<0)) q.num.natAbs=q.num:=by
 unfold sgn
 by_cases h:q.num<0
 ·simp[h];omega
 ·simp[h];omega
abbrev sz (n:Nat):Nat:=(dgs n).length
theorem sz_mono {a b:Nat}(h:a≤b):sz a≤sz b:=digs_length_mono (by omega) h
theorem sz_mul (a b:Nat):sz (a*b)≤sz a+sz b:=by
 have h1:a<4294967296 ^ sz a:=lt_pow_digs_length (B:=4294967296) (by omega) a
 have h2:b<4294967296 ^ sz b:=lt_pow_digs_length (B:=4294967296) (by omega) b
 apply digs_length_le (by omega)
 rw[Nat.pow_add]
 exact Nat.mul_lt_mul'' h1 h2
theorem sz_add (a b:Nat):sz (a+b)≤max (sz a) (sz b)+1:=by
 have h1:a<4294967296 ^ sz a:=lt_pow_digs_length (B:=4294967296) (by omega) a
 have h2:b<4294967296 ^ sz b:=lt_pow_digs_length (B:=4294967296) (by omega) b
 apply digs_length_le (by omega)
 have h3:4294967296 ^ sz a≤4294967296 ^ max (sz a) (sz b):=Nat.pow_le_pow_right (by omega) (Nat.le_max_left _ _)
 have h4:4294967296 ^ sz b≤4294967296 ^ max (sz a) (sz b):=Nat.pow_le_pow_right (by omega) (Nat.le_max_right _ _)
 rw[Nat.pow_succ]
 omega
theorem sz_div (a b:Nat):sz (a / b)≤sz a:=sz_mono (Nat.div_le_self a b)
theorem sz_word {a:Nat}(h:a<18446744073709551616):sz a≤2:=digs_length_le (B:=4294967296) (k:=2) (by omega) h
def Fits (L:Nat) (q:Rat):Prop:=sz q.num.natAbs≤L∧sz q.den≤L
theorem fits_quo {neg:Bool}{n d L:Nat}(hd:d≠0) (hn:sz n≤L) (hl:sz d≤L):Fits L (quo neg n d):=
 ⟨by rw[quo_natAbs hd];exact Nat.le_trans (sz_div _ _) hn,by rw[quo_den hd];exact Nat.le_trans (sz_div _ _) hl⟩
theorem Fits.mono {L M:Nat}{q:Rat}(h:Fits L q) (hm:L≤M):Fits M q:=⟨Nat.le_trans h.1 hm,Nat.le_trans h.2 hm⟩
theorem quo_add {d e:Nat}(x y:Rat) (hd:x.den=d) (he:y.den=e) (neg:Bool) (s:Nat) (h:sgn neg s=x.num*e+y.num*d):quo neg s (d*e)=x+y:=by
 rw[quo,h,Rat.add_def',hd,he]
theorem quo_add_same {d:Nat}(x y:Rat) (hd:x.den=d) (he:y.den=d) (neg:Bool) (s:Nat) (h:sgn neg s=x.num+y.num):quo neg s d=x+y:=by
 have h0:d≠0:=by rw[← hd];exact x.den_nz
 rw[quo,h,Rat.add_def',hd,he]
 rw[show x.num*(d:Int)+y.num*(d:Int)=(x.num+y.num)*(d:Int) by rw[Int.add_mul]]
 exact (Rat.mkRat_mul_right h0).symm
end Vic
end
section
namespace Vic
open Go Go.RowKit
def OwnK (Kd:Value→Prop) (w:World) (base:Nat) (e:TypeId) (size:Nat) (v:Value) (n:Nat) (xs:List Value):Prop:=
 xs.length=n*size ∧
 ((v=.slice none 0 0∧n=0) ∨
  ∃ g cap cur,v=.slice (some ⟨g,0,none⟩) n cap∧base≤g∧w.heap[g]?=some (.cells cur e (0,0))∧n≤cap∧cap≤maxLen∧cur.size=cap*size∧cur.toList.take (n*size)=xs∧∀ u∈cur,Kd u)
theorem OwnK.own {Kd:Value→Prop}{w:World}{base:Nat}{e:TypeId}{size:Nat}{v:Value}{n:Nat}{xs:List Value}(h:OwnK Kd w base e size v n xs):w.ownsRow base e size v n xs:=by
 obtain ⟨h1,h2|⟨g,cap,cur,a1,a2,a3,a4,a5,a6,a7,_⟩⟩:=h
 ·exact ⟨h1,.inl h2⟩
 ·exact ⟨h1,.inr ⟨g,cap,cur,a1,a2,a3,a4,a5,a6,a7⟩⟩
theorem OwnK.nil_ (Kd:Value→Prop) (w:World) (base:Nat) (e:TypeId) (size:Nat):OwnK Kd w base e size (.slice none 0 0) 0 []:=⟨by simp,.inl ⟨rfl,rfl⟩⟩
theorem OwnK.stay {Kd:Value→Prop}{w w':World}{base:Nat}{e:TypeId}{size:Nat}{v:Value}{n:Nat}{xs:List Value}(h:OwnK Kd w base e size v n xs) (hs:∀ g,v.ownBlock=some g→w'.heap[g]?=w.heap[g]?):OwnK Kd w' base e size v n xs:=by
 obtain ⟨h1,h2|⟨g,cap,cur,rfl,a2,a3,a4⟩⟩:=h
 ·exact ⟨h1,.inl h2⟩
 ·exact ⟨h1,.inr ⟨g,cap,cur,rfl,a2,by rw[hs g rfl];exact a3,a4⟩⟩
theorem OwnK.lt {Kd:Value→Prop}{w:World}{base:Nat}{e:TypeId}{size:Nat}{v:Value}{n:Nat}{xs:List Value}(h:OwnK Kd w base e size v n xs) {g:Nat}(hg:v.ownBlock=some g):base≤g∧g<w.heap.size:=by
 obtain ⟨h1,⟨rfl,_⟩|⟨g',cap,cur,rfl,a2,a3,a4⟩⟩:=h
 ·cases hg
 ·injection hg with hg
  subst hg
  refine ⟨a2,?_⟩
  rcases Nat.lt_or_ge g' w.heap.size with h|h
  ·exact h
  ·rw[Array.getElem?_eq_none h]at a3;cases a3
theorem OwnK.keep {Kd:Value→Prop}{w w':World}{base:Nat}{e:TypeId}{size:Nat}{v:Value}{n:Nat}{xs:List Value}(h:OwnK Kd w base e size v n xs) (hb:Below w.heap.size w w'):OwnK Kd w' base e size v n xs:=
 h.stay fun g hg=>hb.block g (h.lt hg).2
theorem OwnK.shape {Kd:Value→Prop}{w:World}{base:Nat}{e:TypeId}{size:Nat}{v:Value}{n:Nat}{xs:List Value}(h:OwnK Kd w base e size v n xs) (h0:0<n):∃ g cap,v=.slice (some ⟨g,0,none⟩) n cap:=by
 obtain ⟨_,⟨_,h1⟩|⟨g,cap,cur,rfl,_⟩⟩:=h
 ·omega
 ·exact ⟨g,cap,rfl⟩
theorem mem_zeroCells {z:Array Value}{n:Nat}{u:Value}(h:u∈Builtin.zeroCells z n):u∈z:=by
 unfold Builtin.zeroCells at h
 obtain ⟨i,hi,rfl⟩:=Array.mem_map.1 h
 have hz:0<z.size:=by
  rcases Nat.eq_zero_or_pos z.size with h0|h0
  ·rw[h0]at hi;simp at hi
  ·exact h0
 have hlt:i % z.size<z.size:=Nat.mod_lt _ hz
 rw[getElem!_pos z (i % z.size) hlt]
 exact Array.getElem_mem hlt
theorem OwnK.append {P:Program}{Kd:Value→Prop}{w:World}{base:Nat}{t ty e:TypeId}{i:TypeInfo}{z:Value}{size:Nat}(ht:P.underlying t=some (.slice e)) (hi:P.info? e=some i) (hz:i.zero=some z)
 (hsize:i.size=size) (hzs:z.cells.size=size) (hsz:0<size)
 {v:Value}{n:Nat}{xs:List Value}(hown:OwnK Kd w base e size v n xs)
 (a:Addr) (m c:Nat) (news:List Value) (hl:news.length=m*size) (hnews:∀ j u,news[j]?=some u→w.cell? (a.add j)=some u) (h1:∀ u∈news,u.oneCell'=true)
 (hk:∀ u∈news,Kd u) (hkz:∀ u∈z.cells,Kd u) (h0:0<m)
 (h63:n+m≤maxLen) (hbytes:(n+m)*i.bytes≤140737488355328) (hbase:base≤w.heap.size) :
 ∃ v' w',(Builtin.append_ #[t,t] ty #[v,.slice (some a) m c]).run P w=.ok v' w'∧OwnK Kd w' base e size v' (n+m) (xs ++ news)∧w.grownBy w' v.ownBlock∧(v'.ownBlock=v.ownBlock∨v'.ownBlock=some w.heap.size):=by
 subst hsize
 have hsmall:n+m≤9223372036854775807:=by simp only[maxLen]at h63;omega
 have hlen:(xs ++ news).length=(n+m)*i.size:=by rw[List.length_append,hown.1,hl,Nat.add_mul]
 have grown:∀ (old:Nat),(∀ u∈xs,Kd u)→∀ (row:Option Nat),
  OwnK Kd (w.drew.alloc (.cells (xs.toArray ++ news.toArray ++ Builtin.zeroCells z.cells (grownCap w (n+m) old e - (n+m))) e)) base e i.size
   (.slice (some ⟨w.heap.size,0,none⟩) (n+m) (grownCap w (n+m) old e)) (n+m) (xs ++ news) ∧
  w.grownBy (w.drew.alloc (.cells (xs.toArray ++ news.toArray ++ Builtin.zeroCells z.cells (grownCap w (n+m) old e - (n+m))) e)) row:=by
  intro old hxs row
  have hge:=grownCap_ge w (n+m) old e
  have hcm:grownCap w (n+m) old e≤maxLen:=grownCap_le_maxLen w (n+m) old e h63
  refine ⟨⟨hlen,.inr ⟨w.heap.size,_,_,rfl,hbase,heap_alloc_new w.drew _,hge,hcm,?_,?_,?_⟩⟩,⟨rfl,rfl,rfl,by simp,fun k hk _=>Below.heap_alloc w.drew _ k hk⟩⟩
  ·simp only[Array.size_append,List.size_toArray,size_zeroCells,hzs,hown.1,hl,← Nat.add_mul]
   congr 1
   omega
  ·simp only[Array.toList_append,List.append_assoc]
   rw[← List.append_assoc,← hlen]
   exact List.take_left
  ·intro u hu
   rcases Array.mem_append.1 hu with hu|hu
   ·rcases Array.mem_append.1 hu with hu|hu
    ·exact hxs u (by simpa using hu)
    ·exact hk u (by simpa using hu)
   ·exact hkz u (mem_zeroCells hu)
 rcases hown.2 with ⟨rfl,rfl⟩|⟨g,cap,cur,rfl,hbg,hg,hnc,hcm,hcs,htake,hkd⟩
 ·have hx:xs = []:=List.eq_nil_of_length_eq_zero (by simpa using hown.1)
  subst hx
  have hr:=run_append_nil (P:=P) w t ty e i z ht hi hz a m c news hl hnews (by omega) (by omega) (by have hb:=hbytes;simp only[Nat.zero_add]at hb;omega)
  have hgr:=grown 0 (by simp) (Value.ownBlock (.slice none 0 0))
  simp only[Nat.zero_add,List.nil_append,Array.empty_append]at hgr ⊢
  exact ⟨_,_,hr,hgr.1,hgr.2,Or.inr rfl⟩
 ·have hxk:∀ u∈xs,Kd u:=fun u hu=>hkd u (by
   rw[← htake]at hu
   have:=List.mem_of_mem_take hu
   simpa using this)
  by_cases hroom:n+m≤cap
  ·have hfit:n*i.size+news.length≤cur.size:=by rw[hl,hcs,← Nat.add_mul];exact Nat.mul_le_mul_right _ hroom
   have hr:=run_append_room (P:=P) w t ty e i ht hi g n cap cur hg a m c news hl hnews h1 hroom hfit
   refine ⟨_,_,hr,⟨hlen,.inr ⟨g,cap,_,rfl,hbg,setRow_heap w g cur _ e _ hg,hroom,hcm,?_,?_,?_⟩⟩,⟨rfl,rfl,rfl,by simp,fun k _ hk=>setRow_other w g k _ (fun e=>hk (by simp[Value.ownBlock,e]))⟩,Or.inl rfl⟩
   ·simp only[List.size_toArray,List.length_append,List.length_take,List.length_drop,Array.length_toList]
    omega
   ·rw[htake,← hlen]
    show List.take (xs ++ news).length (xs ++ news ++ _)=_
    exact List.take_left
   ·intro u hu
    have hu':u∈cur.toList.take (n*i.size) ++ news ++ cur.toList.drop (n*i.size+news.length):=by simpa using hu
    rcases List.mem_append.1 hu' with hu|hu
    ·rcases List.mem_append.1 hu with hu|hu
     ·exact hkd u (by have:=List.mem_of_mem_take hu;simpa using this)
     ·exact hk u hu
    ·exact hkd u (by have:=List.mem_of_mem_drop hu;simpa using this)
  ·have holds:∀ j u,xs[j]?=some u→w.cell? ((⟨g,0,none⟩:Addr).add j)=some u:=hown.own.cells (g:=g) rfl
   have hr:=run_append_grow (P:=P) w t ty e i z ht hi hz ⟨g,0,none⟩ n cap xs hown.1 holds a m c news hl hnews (by omega) (by omega) (growslice_fits (by omega) hbytes)
   have hgr:=grown cap hxk (Value.ownBlock (.slice (some ⟨g,0,none⟩) n cap))
   exact ⟨_,_,hr,hgr.1,hgr.2,Or.inr rfl⟩
theorem wpList_append_ownK {P:Program}{Kd:Value→Prop}{ops:Array Oper}{rest:List Oper}{o:Oper}{a:Act}{w:World}{Q:Exit→Act→World→Prop}(hgd:o.guard=none) (s x:Operand) (t:TypeId)
 (ho:o.op=.call { callee:=.builtin .append,args:=#[s,x],argTypes:=#[t,t] }) (base:Nat) (e:TypeId) (i:TypeInfo) (z:Value) (size:Nat) (ht:P.underlying t=some (.slice e)) (hi:P.info? e=some i) (hz:i.zero=some z)
 (hsize:i.size=size) (hzs:z.cells.size=size) (hsz:0<size) (v:Value) (n:Nat) (xs:List Value) (hs:a.eval s=v) (hown:OwnK Kd w base e size v n xs)
 (ad:Addr) (m c:Nat) (news:List Value) (hx:a.eval x=.slice (some ad) m c) (hl:news.length=m*size) (hnews:∀ j u,news[j]?=some u→w.cell? (ad.add j)=some u) (h1:∀ u∈news,u.oneCell'=true)
 (hk:∀ u∈news,Kd u) (hkz:∀ u∈z.cells,Kd u) (h0:0<m) (h63:n+m≤maxLen) (hbytes:(n+m)*i.bytes≤140737488355328) (hbase:base≤w.heap.size)
 (h:∀ v' w',OwnK Kd w' base e size v' (n+m) (xs ++ news)→w.grownBy w' v.ownBlock→(v'.ownBlock=v.ownBlock∨v'.ownBlock=some w.heap.size)→wpList P ops Q rest (a.put o.dst v') w'):wpList P ops Q (o :: rest) a w:=by
 refine wpList_plain hgd fun K hK=>?_
 obtain ⟨v',w',hrun,h2,h3,h4⟩:=OwnK.append (P:=P) (ty:=o.type) ht hi hz hsize hzs hsz hown ad m c news hl hnews h1 hk hkz h0 h63 hbytes hbase
 unfold Oper.wp execOp
 simp only[ho,resolve,invoke,builtin,Sem.run_bind,Sem.run_pure,Result.andThen_ok,List.map_toArray,List.map_cons,List.map_nil,hs,hx,hrun]
 exact hK _ _ (h v' w' h2 h3 h4)
theorem step_append_ownK {P:Program}{Kd:Value→Prop}{ops:Array Oper}{o:Oper}{a:Act}{w:World}{K:Act→World→Prop}{Q:Exit→Act→World→Prop}{E:Prop}(hgd:o.guard=none) (s x:Operand) (t:TypeId)
 (ho:o.op=.call { callee:=.builtin .append,args:=#[s,x],argTypes:=#[t,t] }) (base:Nat) (e:TypeId) (i:TypeInfo) (z:Value) (size:Nat) (ht:P.underlying t=some (.slice e)) (hi:P.info? e=some i) (hz:i.zero=some z)
 (hsize:i.size=size) (hzs:z.cells.size=size) (hsz:0<size) (v:Value) (n:Nat) (xs:List Value) (hs:a.eval s=v) (hown:OwnK Kd w base e size v n xs)
 (ad:Addr) (m c:Nat) (news:List Value) (hx:a.eval x=.slice (some ad) m c) (hl:news.length=m*size) (hnews:∀ j u,news[j]?=some u→w.cell? (ad.add j)=some u) (h1:∀ u∈news,u.oneCell'=true)
 (hk:∀ u∈news,Kd u) (hkz:∀ u∈z.cells,Kd u) (h0:0<m) (h63:n+m≤maxLen) (hbytes:(n+m)*i.bytes≤140737488355328) (hbase:base≤w.heap.size)
 (h:∀ v' w',OwnK Kd w' base e size v' (n+m) (xs ++ news)→w.grownBy w' v.ownBlock→(v'.ownBlock=v.ownBlock∨v'.ownBlock=some w.heap.size)→K (a.put o.dst v') w') :
 if Region.wanted o (yielded ops a.tmps)=true then Oper.wp P o a w K Q else E:=by
 have hw:Region.wanted o (yielded ops a.tmps)=true:=by simp[Region.wanted,hgd]
 rw[if_pos hw]
 obtain ⟨v',w',hrun,h2,h3,h4⟩:=OwnK.append (P:=P) (ty:=o.type) ht hi hz hsize hzs hsz hown ad m c news hl hnews h1 hk hkz h0 h63 hbytes hbase
 unfold Oper.wp execOp
 simp only[ho,resolve,invoke,builtin,Sem.run_bind,Sem.run_pure,Result.andThen_ok,List.map_toArray,List.map_cons,List.map_nil,hs,hx,hrun]
 exact h v' w' h2 h3 h4
end Vic
end
section
namespace Vic
open Go Go.RowKit
abbrev Own (w:World) (B:Nat) (e:TypeId) (size:Nat) (v:Value) (n:Nat) (xs:List Value):Prop:=OwnK (fun _=>True) w B e size v n xs
theorem OwnK.typed {Kd:Value→Prop}{w:World}{B:Nat}{e:TypeId}{size:Nat}{v:Value}{n:Nat}{xs:List Value}(h:OwnK Kd w B e size v n xs) {g:Nat}(hg:v.ownBlock=some g):∃ cur,w.heap[g]?=some (.cells cur e (0,0)):=by
 obtain ⟨_,⟨rfl,_⟩|⟨g',cap,cur,rfl,a2,a3,_⟩⟩:=h
 ·cases hg
 ·cases hg;exact ⟨cur,a3⟩
theorem OwnK.sl {Kd:Value→Prop}{w:World}{B:Nat}{e:TypeId}{size:Nat}{v:Value}{n:Nat}{xs:List Value}(h:OwnK Kd w B e size v n xs):∃ A c,v=.slice A n c∧n≤c∧∀ j u,xs[j]?=some u→∃ g,A=some ⟨g,0,none⟩∧w.cell? ⟨g,j,none⟩=some u:=by
 obtain ⟨hl,⟨rfl,rfl⟩|⟨g,cap,cur,rfl,a2,a3,a4,a5,a6,a7,_⟩⟩:=h
 ·refine ⟨none,0,rfl,Nat.le_refl _,fun j u hj=>?_⟩
  have:xs = []:=List.eq_nil_of_length_eq_zero (by simpa using hl)
  subst this;simp at hj
 ·refine ⟨_,_,rfl,a4,fun j u hj=>⟨g,rfl,?_⟩⟩
  rw[← a7]at hj
  have hj':=(List.getElem?_eq_some_iff.1 hj).1
  rw[List.length_take]at hj'
  rw[List.getElem?_take]at hj
  split at hj
  ·simpa [World.cell?,a3]using hj
  ·cases hj
theorem OwnK.alloc {Kd:Value→Prop}{w:World}{B:Nat}{e:TypeId}{size:Nat}{v:Value}{n:Nat}{xs:List Value}(h:OwnK Kd w B e size v n xs) (o:Obj):OwnK Kd (w.alloc o) B e size v n xs:=
 h.keep ((Below.refl _ _).alloc (Nat.le_refl _) _)
variable {ι:Type}
structure OwnF (w:World) (B:Nat) (e:TypeId) (size:Nat) (dom:ι→Prop) (v:ι→Value) (n:ι→Nat) (xs:ι→List Value):Prop where
 own:∀ i,dom i→Own w B e size (v i) (n i) (xs i)
 apart:∀ i j g,dom i→dom j→(v i).ownBlock=some g→(v j).ownBlock=some g→i=j
theorem OwnF.stay {w w':World}{B:Nat}{e:TypeId}{size:Nat}{dom:ι→Prop}{v:ι→Value}{n:ι→Nat}{xs:ι→List Value}(h:OwnF w B e size dom v n xs) (hs:∀ i g,dom i→(v i).ownBlock=some g→w'.heap[g]?=w.heap[g]?):OwnF w' B e size dom v n xs:=
 ⟨fun i hi=>(h.own i hi).stay fun g hg=>hs i g hi hg,h.apart⟩
theorem OwnF.keep {w w':World}{B:Nat}{e:TypeId}{size:Nat}{dom:ι→Prop}{v:ι→Value}{n:ι→Nat}{xs:ι→List Value}(h:OwnF w B e size dom v n xs) (hb:Below w.heap.size w w'):OwnF w' B e size dom v n xs:=
 h.stay fun i g hi hg=>hb.block g ((h.own i hi).lt hg).2
theorem OwnF.app [DecidableEq ι] {w w':World}{B:Nat}{e:TypeId}{size:Nat}{dom:ι→Prop}{v:ι→Value}{n:ι→Nat}{xs:ι→List Value}(h:OwnF w B e size dom v n xs) (i:ι) (hi:dom i) {v':Value}{n':Nat}{ys:List Value}
 (ho:Own w' B e size v' n' ys) (hg:w.grownBy w' (v i).ownBlock) (hl:v'.ownBlock=(v i).ownBlock∨v'.ownBlock=some w.heap.size) :
 OwnF w' B e size dom (fun j=>if j=i then v' else v j) (fun j=>if j=i then n' else n j) (fun j=>if j=i then ys else xs j):=by
 constructor
 ·intro j hj
  by_cases e:j=i
  ·simp only[e,if_true];exact ho
  ·simp only[e,if_false]
   refine (h.own j hj).stay fun g hgj=>hg.block g ((h.own j hj).lt hgj).2 (fun e2=>e ?_)
   exact h.apart j i g hj hi hgj e2.symm
 ·intro a b g ha hb h1 h2
  by_cases ea:a=i
  ·by_cases eb:b=i
   ·rw[ea,eb]
   ·simp only[ea,eb,if_true,if_false]at h1 h2
    rcases hl with hl|hl
    ·exact absurd (h.apart b i g hb hi h2 (hl▸h1)) eb
    ·have:=((h.own b hb).lt h2).2
     rw[hl]at h1;injection h1;omega
  ·by_cases eb:b=i
   ·simp only[ea,eb,if_true,if_false]at h1 h2
    rcases hl with hl|hl
    ·exact absurd (h.apart a i g ha hi h1 (hl▸h2)) ea
    ·have:=((h.own a ha).lt h1).2
     rw[hl]at h2;injection h2;omega
   ·simp only[ea,eb,if_false]at h1 h2
    exact h.apart a b g ha hb h1 h2
theorem OwnF.sub {w:World}{B:Nat}{e:TypeId}{size:Nat}{dom dom':ι→Prop}{v v':ι→Value}{n n':ι→Nat}{xs xs':ι→List Value}(h:OwnF w B e size dom v n xs) (hd:∀ i,dom' i→dom i∧v' i=v i∧n' i=n i∧xs' i=xs i):OwnF w B e size dom' v' n' xs':=
 ⟨fun i hi=>by obtain ⟨a,b,c,d⟩:=hd i hi;rw[b,c,d];exact h.own i a,fun i j g hi hj h1 h2=>h.apart i j g (hd i hi).1 (hd j hj).1 ((hd i hi).2.1▸h1) ((hd j hj).2.1▸h2)⟩
end Vic
end
section
namespace Vic
open Go Go.RowKit
def SlIn {α:Type}(R:World→Nat→Nat→α→Prop) (size:Nat) (w:World) (v:Value) (l:List α):Prop:=
 ∃ A c,v=.slice A l.length c∧l.length≤c∧∀ (i:Nat) (x:α),l[i]?=some x→∃ g o,A=some ⟨g,o,none⟩∧R w g (o+i*size) x
def Firm {α:Type}(R:World→Nat→Nat→α→Prop):Prop:=∀ w w' g o x,R w g o x→Below w.heap.size w w'→R w' g o x
theorem SlIn.keep {α:Type}{R:World→Nat→Nat→α→Prop}(hR:Firm R) {size:Nat}{w w':World}{v:Value}{l:List α}(h:SlIn R size w v l) (hb:Below w.heap.size w w'):SlIn R size w' v l:=by
 obtain ⟨A,c,h1,h2,h3⟩:=h
 refine ⟨A,c,h1,h2,fun i x hx=>?_⟩
 obtain ⟨g,o,h4,h5⟩:=h3 i x hx
 exact ⟨g,o,h4,hR _ _ _ _ _ h5 hb⟩
theorem SlIn.nil_ {α:Type}(R:World→Nat→Nat→α→Prop) (size:Nat) (w:World):SlIn R size w (.slice none 0 0) []:=⟨none,0,rfl,Nat.le_refl _,fun i x hx=>by simp at hx⟩
theorem SlIn.imp {α:Type}{R S:World→Nat→Nat→α→Prop}{size:Nat}{w w':World}{v:Value}{l:List α}(h:SlIn R size w v l) (k:∀ g o x,x∈l→R w g o x→S w' g o x):SlIn S size w' v l:=by
 obtain ⟨A,c,h1,h2,h3⟩:=h
 refine ⟨A,c,h1,h2,fun i x hx=>?_⟩
 obtain ⟨g,o,h4,h5⟩:=h3 i x hx
 exact ⟨g,o,h4,k _ _ _ (List.mem_of_getElem? hx) h5⟩
def StrR (w:World) (g o:Nat) (s:Txt):Prop:=w.cell? ⟨g,o,none⟩=some (.string ⟨s.toArray⟩)
theorem fl_get {α:Type}{enc:α→List Value}{size:Nat}(he:∀ x,(enc x).length=size):∀ {l:List α}{i:Nat}{x:α}{k:Nat},l[i]?=some x→k<size→(l.flatMap enc)[i*size+k]?=(enc x)[k]?
 | [],i,x,k,h,_=>by simp at h
 | y :: l,0,x,k,h,hk=>by
   simp only[List.getElem?_cons_zero,Option.some.injEq]at h
   subst h
   rw[List.flatMap_cons,Nat.zero_mul,Nat.zero_add,List.getElem?_append_left (by rw[he];exact hk)]
 | y :: l,i+1,x,k,h,hk=>by
   have ih:=fl_get he (l:=l) (i:=i) (x:=x) (k:=k) (by simpa using h) hk
   rw[List.flatMap_cons,List.getElem?_append_right (by rw[he,Nat.add_mul];omega),he,← ih]
   congr 1
   rw[Nat.add_mul];omega
theorem fl_len {α:Type}{enc:α→List Value}{size:Nat}(he:∀ x,(enc x).length=size):∀ (l:List α),(l.flatMap enc).length=l.length*size
 | []=>by simp
 | y :: l=>by rw[List.flatMap_cons,List.length_append,he,fl_len he l,List.length_cons,Nat.add_mul];omega
theorem OwnK.slIn {α:Type}{Kd:Value→Prop}{enc:α→List Value}{size:Nat}(he:∀ x,(enc x).length=size) {R:World→Nat→Nat→α→Prop}{w:World}{B:Nat}{e:TypeId}{v:Value}{l:List α}(h:OwnK Kd w B e size v l.length (l.flatMap enc))
 (hR:∀ g i x,l[i]?=some x→(∀ k u,(enc x)[k]?=some u→w.cell? ⟨g,i*size+k,none⟩=some u)→R w g (i*size) x):SlIn R size w v l:=by
 obtain ⟨A,c,h1,h2,h3⟩:=h.sl
 refine ⟨A,c,h1,h2,fun i x hx=>?_⟩
 have hcell:∀ k u,(enc x)[k]?=some u→∃ g,A=some ⟨g,0,none⟩∧w.cell? ⟨g,i*size+k,none⟩=some u:=fun k u hu=>by
  have hk:k<size:=by rw[← he x];exact (List.getElem?_eq_some_iff.1 hu).1
  exact h3 _ u (by rw[fl_get he hx hk];exact hu)
 obtain ⟨_,⟨hv,h0⟩|⟨g,cap,cur,hv,_⟩⟩:=h
 ·have:l = []:=List.eq_nil_of_length_eq_zero h0
  subst this;simp at hx
 ·rw[h1]at hv
  injection hv with hA _ _
  refine ⟨g,0,hA,?_⟩
  rw[Nat.zero_add]
  refine hR g i x hx fun k u hu=>?_
  obtain ⟨g',hg',hc⟩:=hcell k u hu
  rw[hA]at hg'
  injection hg' with hg'
  injection hg' with hg'
  rw[hg'];exact hc
end Vic
end
section
namespace Vic
open Go Go.RowKit
def mget (kv:List (List UInt8 × Value)) (s:List UInt8):Option Value:=(kv.find? fun p=>p.1 == s).map (·.2)
theorem mget_cons (p:List UInt8 × Value) (kv:List (List UInt8 × Value)) (s:List UInt8):mget (p :: kv) s=if p.1=s then some p.2 else mget kv s:=by
 unfold mget
 by_cases h:p.1=s
 ·simp[h]
 ·have h':(p.1 == s)=false:=beq_eq_false_iff_ne.2 h
  rw[List.find?_cons,h',if_neg h]
theorem mget_set {c:List UInt8}{v u:Value}:∀ {kv:List (List UInt8 × Value)}{j:Nat},kv[j]?=some (c,u)→(∀ (i:Nat) (p:List UInt8 × Value),i<j→kv[i]?=some p→p.1≠c)→∀ s,mget (kv.set j (c,v)) s=if s=c then some v else mget kv s
 | [],j,h,_,s=>by simp at h
 | p :: kv,0,h,_,s=>by
   simp only[List.getElem?_cons_zero,Option.some.injEq]at h
   subst h
   rw[List.set_cons_zero,mget_cons,mget_cons]
   by_cases hs:c=s
   ·subst hs;simp
   ·rw[if_neg hs,if_neg (fun e=>hs e.symm)];simp[hs]
 | p :: kv,j+1,h,hn,s=>by
   have hp:=hn 0 p (by omega) (by simp)
   rw[List.set_cons_succ,mget_cons,mget_cons,mget_set (kv:=kv) (j:=j) (by simpa using h) (fun i q hi hq=>hn (i+1) q (by omega) (by simpa using hq)) s]
   by_cases hs:p.1=s
   ·subst hs;simp[hp]
   ·simp[hs]
theorem mget_push {c:List UInt8}{v:Value}:∀ {kv:List (List UInt8 × Value)},mget kv c=none→∀ s,mget (kv ++ [(c,v)]) s=if s=c then some v else mget kv s
 | [],h,s=>by
   rw[List.nil_append,mget_cons]
   by_cases hs:c=s
   ·subst hs;simp
   ·rw[if_neg hs,if_neg (fun e=>hs e.symm)]
 | p :: kv,h,s=>by
   rw[mget_cons]at h
   have hp:p.1≠c:=fun e=>by rw[if_pos e]at h;cases h
   rw[if_neg hp]at h
   rw[List.cons_append,mget_cons,mget_cons,mget_push h s]
   by_cases hs:p.1=s
   ·subst hs;simp[hp]
   ·simp[hs]
def Stp (es:Array MapEntry) (clock:Nat):Prop:=(∀ x∈es.toList,x.born<clock)∧(es.toList.map (·.born)).Nodup
theorem Stp.push {es:Array MapEntry}{clock:Nat}(h:Stp es clock) (k v:Value):Stp (es.push { key:=k,val:=v,born:=clock }) (clock+1):=by
 refine ⟨fun x hx=>?_,?_⟩
 ·rw[Array.toList_push]at hx
  rcases List.mem_append.1 hx with hx|hx
  ·have:=h.1 x hx;omega
  ·simp at hx;subst hx;simp
 ·rw[Array.toList_push,List.map_append,List.nodup_append]
  refine ⟨h.2,by simp,fun a ha b hb=>?_⟩
  simp at hb;subst hb
  obtain ⟨x,hx,rfl⟩:=List.mem_map.1 ha
  have:=h.1 x hx;omega
theorem born_modify (es:Array MapEntry) (j:Nat) (f:MapEntry→MapEntry) (hf:∀ e,(f e).born=e.born):(es.modify j f).toList.map (·.born)=es.toList.map (·.born):=by
 apply List.ext_getElem?
 intro i
 rw[Array.toList_modify]
 simp only[List.getElem?_map,List.getElem?_modify]
 cases es.toList[i]? with
 | none=>simp
 | some e=>
   split
   ·simp[hf e]
   ·simp
theorem Stp.modify {es:Array MapEntry}{clock:Nat}(h:Stp es clock) (j:Nat) (f:MapEntry→MapEntry) (hf:∀ e,(f e).born=e.born):Stp (es.modify j f) clock:=by
 refine ⟨fun x hx=>?_,by rw[born_modify es j f hf];exact h.2⟩
 have hm:x.born∈es.toList.map (·.born):=by rw[← born_modify es j f hf];exact List.mem_map_of_mem hx
 obtain ⟨y,hy,e⟩:=List.mem_map.1 hm
 rw[← e];exact h.1 y hy
def StrMap (w:World) (m:Nat) (f:List UInt8→Option Value):Prop:=
 ∃ es clock kv,w.heap[m]?=some (.map es clock)∧es.toList.map (fun e:MapEntry=>(e.key,e.val))=kv.map (fun p:List UInt8 × Value=>(Value.string ⟨p.1.toArray⟩,p.2))∧(∀ s,mget kv s=f s)∧Stp es clock
theorem StrMap.lt {w:World}{m:Nat}{f:List UInt8→Option Value}(h:StrMap w m f):m<w.heap.size:=by
 obtain ⟨es,c,kv,h1,_⟩:=h
 rcases Nat.lt_or_ge m w.heap.size with h2|h2
 ·exact h2
 ·rw[Array.getElem?_eq_none h2]at h1;cases h1
theorem StrMap.stay {w w':World}{m:Nat}{f:List UInt8→Option Value}(h:StrMap w m f) (hb:w'.heap[m]?=w.heap[m]?):StrMap w' m f:=by
 obtain ⟨es,c,kv,h1,h2⟩:=h
 exact ⟨es,c,kv,hb.trans h1,h2⟩
theorem StrMap.keep {w w':World}{m:Nat}{f:List UInt8→Option Value}(h:StrMap w m f) (hb:Below w.heap.size w w'):StrMap w' m f:=h.stay (hb.block _ h.lt)
theorem StrMap.congr {w:World}{m:Nat}{f g:List UInt8→Option Value}(h:StrMap w m f) (e:∀ s,f s=g s):StrMap w m g:=by
 obtain ⟨es,c,kv,h1,h2,h3,h4⟩:=h
 exact ⟨es,c,kv,h1,h2,fun s=>(h3 s).trans (e s),h4⟩
theorem StrMap.made (w:World):StrMap (w.alloc (.map #[] 0)) w.heap.size (fun _=>none):=⟨#[],0,[],by show (w.heap.push _)[w.heap.size]?=_;simp,rfl,fun s=>rfl,by simp[Stp]⟩
theorem StrMap.ne {w:World}{m b:Nat}{f:List UInt8→Option Value}(h:StrMap w m f) {cs:Array Value}{t:TypeId}{fr:Nat × Nat}(hb:w.heap[b]?=some (.cells cs t fr)):b≠m:=by
 rintro rfl
 obtain ⟨es,c,kv,h1,_⟩:=h
 rw[h1]at hb;cases hb
theorem bytes_ne {a b:List UInt8}:((⟨a.toArray⟩:ByteArray) == ⟨b.toArray⟩)=(a == b):=by
 rw[Bool.eq_iff_iff,MapKept.bytes_beq,beq_iff_eq]
 constructor
 ·intro h;injection h with h;simpa using h
 ·rintro rfl;rfl
theorem findNow_txt (c:List UInt8):∀ (es:List MapEntry) (kv:List (List UInt8 × Value)) (i:Nat),es.map (fun e:MapEntry=>(e.key,e.val))=kv.map (fun p:List UInt8 × Value=>(Value.string ⟨p.1.toArray⟩,p.2)) →
 (mget kv c=none∧Instr.findNow .string (.string ⟨c.toArray⟩) es i=some none) ∨
 ∃ j v,mget kv c=some v∧Instr.findNow .string (.string ⟨c.toArray⟩) es i=some (some (i+j,v))∧kv[j]?=some (c,v)∧∀ (k:Nat) (p:List UInt8 × Value),k<j→kv[k]?=some p→p.1≠c
 | [],kv,i,h=>by
   have h0:kv = []:=by cases kv with|nil=>rfl|cons a r=>simp at h
   subst h0
   exact .inl ⟨rfl,rfl⟩
 | e :: es,[],i,h=>by simp at h
 | e :: es,p :: kv,i,h=>by
   simp only[List.map_cons,List.cons.injEq,Prod.mk.injEq]at h
   obtain ⟨⟨h1,h2⟩,h3⟩:=h
   have hs:Instr.sameNow .string (.string ⟨c.toArray⟩) e.key=some (c == p.1):=by
    rw[h1]
    show some ((⟨c.toArray⟩:ByteArray) == ⟨p.1.toArray⟩)=_
    rw[bytes_ne]
   unfold Instr.findNow
   rw[hs,mget_cons]
   by_cases hc:c=p.1
   ·subst hc
    rw[if_pos rfl,beq_self_eq_true]
    exact .inr ⟨0,p.2,rfl,by simp[h2],rfl,fun k q hk=>by omega⟩
   ·rw[if_neg (fun e=>hc e.symm),beq_eq_false_iff_ne.2 hc]
    rcases findNow_txt c es kv (i+1) h3 with ⟨a,b⟩|⟨j,v,a,b,d,n⟩
    ·exact .inl ⟨a,b⟩
    ·refine .inr ⟨j+1,v,a,by rw[show i+(j+1)=i+1+j by omega];exact b,by simpa using d,fun k q hk hq=>?_⟩
     rcases k with _|k
     ·simp only[List.getElem?_cons_zero,Option.some.injEq]at hq
      subst hq;exact fun e=>hc e.symm
     ·exact n k q (by omega) (by simpa using hq)
variable {P:Program}
theorem checkKey_txt {kt:TypeId}(hk:P.underlying kt=some .string) (b:Bool) (v:ByteArray) (w:World):(Instr.checkKey b 10000 kt (.string v)).run P w=.ok () w:=by
 unfold Instr.checkKey
 simp[run_underlying hk]
theorem StrMap.lookup {t kt et:TypeId}{z:Value}(ht:P.underlying t=some (.map kt et)) (hk:P.underlying kt=some .string) (hz:∀ w,(zeroValue et).run P w=.ok z w) {w:World}{m:Nat}{f:List UInt8→Option Value}(h:StrMap w m f) (c:List UInt8) :
 (Instr.lookup t (.map (some m)) (.string ⟨c.toArray⟩) false).run P w=.ok ((f c).getD z) w∧(Instr.lookup t (.map (some m)) (.string ⟨c.toArray⟩) true).run P w=.ok (.tuple #[(f c).getD z,.bool (f c).isSome]) w:=by
 obtain ⟨es,cl,kv,h1,h2,h3,h9⟩:=h
 rw[← h3 c]
 rcases findNow_txt c es.toList kv 0 h2 with ⟨a,b⟩|⟨j,v,a,b,_⟩
 ·rw[a]
  constructor<;>simp[Instr.lookup,run_underlying ht,MapKept.run_getObj_map h1,checkKey_txt hk,Instr.findKey,run_underlying hk,b,hz]
 ·rw[a]
  constructor<;>simp[Instr.lookup,run_underlying ht,MapKept.run_getObj_map h1,checkKey_txt hk,Instr.findKey,run_underlying hk,b]
theorem StrMap.update {t kt et:TypeId}(ht:P.underlying t=some (.map kt et)) (hk:P.underlying kt=some .string) {w:World}{m:Nat}{f:List UInt8→Option Value}(h:StrMap w m f) (c:List UInt8) (v:Value) :
 ∃ w',(Instr.mapUpdate t (.map (some m)) (.string ⟨c.toArray⟩) v).run P w=.ok () w'∧StrMap w' m (fun s=>if s=c then some v else f s)∧w.grownBy w' (some m)∧w'.heap.size=w.heap.size:=by
 have hlt:=h.lt
 obtain ⟨es,cl,kv,h1,h2,h3,h9⟩:=h
 have hgr:∀ o:Obj,w.grownBy { w with heap:=w.heap.setIfInBounds m o } (some m):=fun o=>by
  refine ⟨rfl,rfl,rfl,by simp,fun j hj hne=>?_⟩
  show (w.heap.setIfInBounds m _)[j]?=_
  rw[Array.getElem?_setIfInBounds_ne]
  intro e;exact hne (by rw[e])
 rcases findNow_txt c es.toList kv 0 h2 with ⟨a,b⟩|⟨j,u,a,b,d,n⟩
 ·refine ⟨{ w with heap:=w.heap.setIfInBounds m (.map (es.push { key:=.string ⟨c.toArray⟩,val:=v,born:=cl }) (cl+1)) },?_,?_,hgr _,by simp⟩
  ·simp[Instr.mapUpdate,run_underlying ht,MapKept.run_getObj_map h1,checkKey_txt hk,Instr.findKey,run_underlying hk,b,MapKept.run_setObj_map _ h1]
  ·refine ⟨_,_,kv ++ [(c,v)],by show (w.heap.setIfInBounds m _)[m]?=_;rw[Array.getElem?_setIfInBounds_self];rw[if_pos hlt],by simp[h2],fun s=>by rw[mget_push a s,h3 s],h9.push _ _⟩
 ·have hkey:(((es[0+j]?).map (·.key)).getD (.string ⟨c.toArray⟩))=.string ⟨c.toArray⟩:=by
   have h4:=congrArg (fun l=>l[j]?) h2
   simp only[List.getElem?_map,Array.getElem?_toList,d,Option.map_some]at h4
   rw[Nat.zero_add]
   cases he:es[j]? with
   | none=>rfl
   | some e=>
     rw[he]at h4
     simp only[Option.map_some,Option.some.injEq,Prod.mk.injEq]at h4
     exact h4.1
  refine ⟨{ w with heap:=w.heap.setIfInBounds m (.map (es.modify (0+j) fun e=>{ e with key:=.string ⟨c.toArray⟩,val:=v }) cl) },?_,?_,hgr _,by simp⟩
  ·rw[Nat.zero_add]at hkey
   have hst:(Instr.keyThatStays (.string ⟨c.toArray⟩) (.string ⟨c.toArray⟩)).run P w=.ok (.string ⟨c.toArray⟩) w:=MapKept.run_keyThatStays (d:=.string) (by trivial)
   simp[Instr.mapUpdate,run_underlying ht,MapKept.run_getObj_map h1,checkKey_txt hk,Instr.findKey,run_underlying hk,b,-Array.getElem?_toList,-Option.getD_map,hkey,hst,MapKept.run_setObj_map _ h1]
  ·refine ⟨_,_,kv.set j (c,v),by show (w.heap.setIfInBounds m _)[m]?=_;rw[Array.getElem?_setIfInBounds_self];rw[if_pos hlt],?_,fun s=>by rw[mget_set d n s,h3 s],h9.modify (0+j) (fun e=>{ e with key:=.string ⟨c.toArray⟩,val:=v }) fun _=>rfl⟩
   rw[Nat.zero_add,Array.toList_modify,List.map_set,← h2]
   apply List.ext_getElem?
   intro i
   by_cases hij:i=j
   ·subst hij
    simp only[List.getElem?_map,List.getElem?_modify,List.getElem?_set]
    have h4:=congrArg (fun l=>l[i]?) h2
    simp only[List.getElem?_map,d,Option.map_some]at h4
    cases he:es.toList[i]? with
    | none=>rw[he]at h4;simp at h4
    | some e=>
      have hl:i<es.size:=by
       have:=(List.getElem?_eq_some_iff.1 he).1
       simpa using this
      simp[hl]
   ·simp only[List.getElem?_map,List.getElem?_modify,List.getElem?_set]
    have hji:¬ j=i:=fun e=>hij e.symm
    simp[hji]
theorem StrMap.clear {t kt et ty:TypeId}(ht:P.underlying t=some (.map kt et)) {w:World}{m:Nat}{f:List UInt8→Option Value}(h:StrMap w m f) :
 ∃ w',(Builtin.clear_ #[t] ty #[.map (some m)]).run P w=.ok (.tuple #[]) w'∧StrMap w' m (fun _=>none)∧w.grownBy w' (some m)∧w'.heap.size=w.heap.size:=by
 have hlt:=h.lt
 obtain ⟨es,cl,kv,h1,h2,h3,h9⟩:=h
 refine ⟨{ w with heap:=w.heap.setIfInBounds m (.map #[] cl) },?_,?_,?_,by simp⟩
 ·simp[Builtin.clear_,run_underlying ht,MapKept.run_getObj_map h1,MapKept.run_setObj_map _ h1,Result.andThen]
 ·exact ⟨#[],cl,[],by show (w.heap.setIfInBounds m _)[m]?=_;rw[Array.getElem?_setIfInBounds_self];rw[if_pos hlt],rfl,fun s=>rfl,by simp[Stp]⟩
 ·refine ⟨rfl,rfl,rfl,by simp,fun j hj hne=>?_⟩
  show (w.heap.setIfInBounds m _)[j]?=_
  rw[Array.getElem?_setIfInBounds_ne]
  intro e;exact hne (by rw[e])
def inSet (ks:List (List UInt8)) (s:List UInt8):Option Value:=if s∈ks then some (.bool true)else none
theorem inSet_nil (s:List UInt8):none=inSet [] s:=by simp[inSet]
theorem inSet_add (ks:List (List UInt8)) (c s:List UInt8):(if s=c then some (Value.bool true)else inSet ks s)=inSet (c :: ks) s:=by
 unfold inSet
 by_cases h:s=c
 ·simp[h]
 ·simp[h]
theorem inSet_get (ks:List (List UInt8)) (s:List UInt8):(inSet ks s).getD (.bool false)=.bool (decide (s∈ks)):=by
 unfold inSet
 by_cases h:s∈ks<;>simp[h]
end Vic
end
