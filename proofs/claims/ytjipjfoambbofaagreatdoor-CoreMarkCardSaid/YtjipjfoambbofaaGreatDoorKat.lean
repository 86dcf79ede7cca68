/- Package nat: long quotients. -/
import Derived.Test.YtjipjfoambbofaaGreatDoorKas
import Derived.Test.YtjipjfoambbofaaGreatDoorKar
import Derived.Deep.CutBlock
import Derived.Test.YtjipjfoambbofaaGreatDoorKaq
import Derived.Test.YtjipjfoambbofaaGreatDoorKap
import Derived.MapKept
set_option linter.unusedVariables false
set_option linter.unusedSimpArgs false
section
namespace Go.Proofs.YtjipjfoambbofaaGreatDoor
open Go.RowKit Vic
theorem info1_u32:∃ i,Tryz.prog.info? 283=some i∧i.size=1:=by
 have h:=info_u32
 cases hi:Tryz.prog.info? 283 with
 | none=>rw[hi]at h;simp at h
 | some i=>rw[hi]at h;simp at h;exact ⟨i,rfl,h.2.1⟩
theorem mk_room (n:Nat) (N:Int) (hN:N=n) (hn:n≤10000000000000) (w:World) :
 (Instr.makeSlice 281 (.int .i64 0) (.int .i64 N)).run Tryz.prog w=.ok (.slice (some ⟨w.heap.size,0,none⟩) 0 n) (w.alloc (.cells (vals .u32 (List.replicate n 0)) 283)):=by
 subst hN
 have h:=info_u32
 obtain ⟨i,hi,hzz⟩:=Option.map_eq_some_iff.1 h
 simp only[Prod.mk.injEq]at hzz
 obtain ⟨hz,hs,hb⟩:=hzz
 have hr:=run_make (P:=Tryz.prog) w 281 283 i _ Tryz.underlying281 hi hz .i64 .i64 0 n (Int.le_refl _) (by omega) (by rw[hb];omega) (by omega)
 simp only[Int.toNat_zero,Int.toNat_natCast,hs,Nat.mul_one]at hr
 rw[hr,show (Value.int .u32 0).cells=#[.int .u32 0]from rfl,made_u32]
theorem _root_.Vic.NatAt.open_ {w:World}{v:Value}{n:Nat}(h:NatAt w v n) (h0:n≠0) :
 ∃ b A c,v=.pointer (some ⟨b,0,none⟩)∧w.cell? ⟨b,0,none⟩=some (.slice A (dgs n).length c)∧U32s w (.slice A (dgs n).length c) (dgs n):=by
 rcases h with ⟨_,h⟩|⟨b,s,h1,h2,h3,h4⟩
 ·exact absurd h h0
 ·obtain ⟨A,c,rfl,h4,h5⟩:=h3
  exact ⟨b,A,c,h1,h2,⟨A,c,rfl,h4,h5⟩⟩
theorem up_len {a s na:Nat}(hs:s<32) (hna:na=(dgs a).length):(dgs (a*2 ^ s)).length≤na+1:=by
 refine digs_length_le (by omega) ?_
 have h1:=lt_pow_digs_length (B:=4294967296) (by omega) a
 rw[show (digs 4294967296 a).length=na from hna.symm]at h1
 have h2:2 ^ s≤2 ^ 32:=Nat.pow_le_pow_right (by omega) (by omega)
 rw[Nat.pow_succ]
 exact Nat.lt_of_le_of_lt (Nat.mul_le_mul_left _ h2) (Nat.mul_lt_mul_of_pos_right h1 (by omega))
theorem digs_len_pos {n:Nat}(h:n≠0):0<(dgs n).length:=by
 rcases Nat.eq_zero_or_pos (dgs n).length with h0|h0
 ·exact absurd ((digs_eq_nil (B:=4294967296) (by omega)).1 (List.eq_nil_of_length_eq_zero h0)) h
 ·exact h0
theorem long_top {a s na k:Nat}(hs:s<32) (hna:na=(dgs a).length) (hk:k=na):a*2 ^ s<4294967296 ^ k*2147483648:=by
 have h1:=lt_pow_digs_length (B:=4294967296) (by omega) a
 rw[show (digs 4294967296 a).length=na from hna.symm]at h1
 have h2:2 ^ s≤2 ^ 31:=Nat.pow_le_pow_right (by omega) (by omega)
 subst hk
 exact Nat.lt_of_le_of_lt (Nat.mul_le_mul_left _ h2) (Nat.mul_lt_mul_of_pos_right h1 (by omega))
theorem rest_small {a b s m n:Nat}(hb:b≠0) (h:b*2 ^ s<4294967296 ^ m) (hn:m≤n):a % b*2 ^ s<4294967296 ^ n:=by
 have h1:a % b*2 ^ s≤b*2 ^ s:=Nat.mul_le_mul_right _ (Nat.le_of_lt (Nat.mod_lt _ (Nat.pos_of_ne_zero hb)))
 have h2:=Nat.pow_le_pow_right (show 0<4294967296 by omega) hn
 omega
theorem padded (n k:Nat) (hk:(dgs n).length≤k):∃ z,z=dgs n ++ List.replicate (k - (dgs n).length) 0∧z.length=k∧dig 4294967296 z∧val 4294967296 z=n∧∀ j,(dgs n).length≤j→z.getD j 0=0:=by
 refine ⟨_,rfl,by simp;omega,dig_append.2 ⟨digs_dig (by omega) _,dig_replicate (by omega) _⟩,?_,fun j hj=>?_⟩
 ·rw[val_append,val_zeros,Nat.mul_zero,Nat.add_zero];exact val_digs (by omega) n
 ·rw[getD_app_right _ _ _ hj,getD_zeros]
theorem put_zero (z:List Nat) (r:Nat) (h:r<z.length) (h0:z.getD r 0=0):z.take r ++ [0] ++ z.drop (r+([0]:List Nat).length)=z:=by
 apply List.ext_getElem?
 intro j
 have ht:(z.take r).length=r:=by simp;omega
 rcases Nat.lt_trichotomy j r with h1|h1|h1
 ·rw[List.append_assoc,List.getElem?_append_left (by omega),List.getElem?_take_of_lt h1]
 ·subst h1
  rw[List.append_assoc,List.getElem?_append_right (by omega),ht]
  simp[List.getD_eq_getElem?_getD,h]at h0
  simp[h,h0]
 ·rw[List.append_assoc,List.getElem?_append_right (by omega),ht,List.getElem?_append_right (by simp;omega),List.getElem?_drop]
  congr 1
  simp;omega
set_option maxRecDepth 100000 in
set_option maxHeartbeats 4000000 in
theorem nat_Div_long (w:World) (u v:Value) (a b m:Nat) (ha:NatAt w u a) (hb:NatAt w v b) (hal:(dgs a).length≤100000000000) (hb1:(dgs b).length=m+2) (h:b≤a) :
 Calls Tryz.prog 215 #[u,v] w (Parted a b w):=by
 have hb0:b≠0:=by
  rintro rfl
  rw[show dgs 0 = []from digs_zero _]at hb1;simp at hb1
 have CB:=Lib.hid (nat_digits w v b hb)
 have hlen:(dgs b).length≤(dgs a).length:=digs_length_mono (by omega) h
 have CC0:=nat_Cmp w u v a b ha hb (by omega) (by omega)
 obtain ⟨s0,hs0,hcs⟩:=cmpI_ge h
 rw[hcs]at CC0
 have CC:=Lib.hid CC0
 clear CC0
 have db:(dgs b).getD (m+1) 0<4294967296:=dig_getD (digs_dig (B:=4294967296) (by omega) b) (by omega) (m+1)
 obtain ⟨s,hs⟩:∃ s,s=32 - blen ((dgs b).getD (m+1) 0):=⟨_,rfl⟩
 obtain ⟨t1,t2,t3,t4,t5⟩:=top_shift (n:=m+1) hb0 hb1 hs
 obtain ⟨bl,hbl⟩:∃ bl,bl=32 - s:=⟨_,rfl⟩
 have CL:Hid (∀ wr,Calls Tryz.prog 133 #[.int .u64 ((dgs b).getD (m+1) 0:Nat)] wr (Rets (.int .i64 (bl:Nat)) wr)):=fun wr=>by
  have:=bits_Len ((dgs b).getD (m+1) 0) wr (by omega)
  rwa [show blen ((dgs b).getD (m+1) 0)=bl by have:=blen_le (n:=(dgs b).getD (m+1) 0) (k:=32) (by omega);omega]at this
 have ebl:(32:Int) - (bl:Int)=(s:Int):=by omega
 have CU:Hid (∀ wr,Below w.heap.size w wr→Calls Tryz.prog 264 #[v,.int .i64 s] wr (Gives (fun x w'=>NatAt w' x (b*2 ^ s)) wr)):=fun wr hw=>nat_up wr v b s (hb.keep hw) (by omega) (by omega)
 have CA:Hid (∀ wr,Below w.heap.size w wr→Calls Tryz.prog 264 #[u,.int .i64 s] wr (Gives (fun x w'=>NatAt w' x (a*2 ^ s)) wr)):=fun wr hw=>nat_up wr u a s (ha.keep hw) (by omega) (by omega)
 obtain ⟨lb,hlb⟩:∃ lb,lb=dgs b:=⟨_,rfl⟩
 rw[← hlb]at CB CL db hb1 hlen
 generalize hd:lb.getD (m+1) 0=d at *
 have ew:=wrap64_small d db
 have hss:s<32:=t1
 have T2:=Lib.hid t2;have T3:=Lib.hid t3;have T4:=Lib.hid t4;have T5:=Lib.hid t5;have H:=Lib.hid h;have HB0:=Lib.hid hb0;have DB:=Lib.hid db
 clear t1 t2 t3 t4 t5 h hs hcs hb0 db hlb hbl
 go_enter Tryz.func215,Tryz.ntmps215
 go_wp2_with fail
 refine CB.out.mono ?_
 rintro e w' ⟨A,c,rfl,hA,rfl⟩
 obtain ⟨bb,ob,rfl,hcell⟩:=hA.at_ (m+1) (by omega)
 rw[hd]at hcell
 rw[hb1]at hA ⊢
 go_wp2_with fail
 refine CC.out.mono ?_
 rintro e w' ⟨rfl,rfl⟩
 go_wp2_with fail
 refine (CL.out _).mono ?_
 rintro e w' ⟨rfl,rfl⟩
 go_wp2_with fail
 refine (CU.out _ (Below.refl _ _)).mono ?_
 rintro e w1 ⟨x1,rfl,hx1,hb1'⟩
 obtain ⟨px,A2,c2,rfl,hcx,hl2⟩:=hx1.open_ (Nat.mul_ne_zero HB0.out (Nat.ne_of_gt (Nat.two_pow_pos _)))
 rw[show (dgs (b*2 ^ s)).length=m+2 from T2.out]at hcx hl2
 obtain ⟨pa,A3,c3,rfl,hca,hl3⟩:=(ha.keep hb1').open_ (by have:=H.out;have:=HB0.out;omega)
 obtain ⟨na,hna⟩:∃ na,na=(dgs a).length:=⟨_,rfl⟩
 rw[← hna]at hca hl3 hal hlen
 have HNA:=Lib.hid hna
 clear hna
 have hmk:∀ w,(Instr.makeSlice 281 (.int .i64 0) (.int .i64 (na+2))).run Tryz.prog w=.ok (.slice (some ⟨w.heap.size,0,none⟩) 0 (na+2)) (w.alloc (.cells (vals .u32 (List.replicate (na+2) 0)) 283)):=fun w=>mk_room (na+2) _ (by omega) (by omega) w
 obtain ⟨i1,hi1,hsz1⟩:=info1_u32
 have ewn:IntKind.i64.wrap ((na:Int)+2)=(na:Int)+2:=by rw[IntKind.wrap_i64];omega
 go_upto_region 11 with fail
 have B0:Below w1.heap.size w1 w1.drew:=⟨rfl,rfl,rfl,Nat.le_refl _,fun _ _=>rfl⟩
 obtain ⟨ob0,hob0⟩:∃ o:Obj,o=.cells (vals .u32 (List.replicate (na+2) 0)) 283:=⟨_,rfl⟩
 have B1:Below w1.heap.size w1 (w1.drew.alloc ob0):=B0.alloc (Nat.le_refl _) _
 have E0:=Lib.hid (show a*2 ^ s≠0 from Nat.mul_ne_zero (by have:=H.out;have:=HB0.out;omega) (Nat.ne_of_gt (Nat.two_pow_pos _)))
 have LE:=Lib.hid (show (dgs (a*2 ^ s)).length≤na+1 from up_len hss HNA.out)
 have LP:=Lib.hid (show 0<(dgs (a*2 ^ s)).length from digs_len_pos E0.out)
 have HBW:=Lib.hid hb1';have HB0':=Lib.hid B0;have HB1':=Lib.hid B1;have HHL:=Lib.hid hlen;have HHA:=Lib.hid hal
 clear hb1' B0 B1
 go_cut [11] (fun x wc=>∃ g,x=.slice (some ⟨g,0,none⟩) (dgs (a*2 ^ s)).length (na+2)∧w1.heap.size≤g∧Below w1.heap.size w1 wc∧Row wc g 283 (vals .u32 (dgs (a*2 ^ s) ++ List.replicate (na+2 - (dgs (a*2 ^ s)).length) 0)))
 case rest=>
  obtain ⟨g,rfl,hg,hbc,hrow⟩:=hcut
  obtain ⟨z,hz,lz,dz,vz,zz⟩:=padded (a*2 ^ s) (na+2) (by have:=LE.out;omega)
  rw[← hz]at hrow
  have hn2:=LE.out
  generalize (dgs (a*2 ^ s)).length=n2 at *
  have ZZ:=Lib.hid zz;have VZ:=Lib.hid vz;have DZ:=Lib.hid dz;have HCA:=Lib.hid hca;have HHZ:=Lib.hid hz
  clear zz vz dz hz hmk
  go_wp2_with fail
  go_loopw [11] (fun x wr=>∃ r,x=.slice (some ⟨g,0,none⟩) r (na+2)∧n2≤r∧r≤na+1∧Below w1.heap.size w1 wr∧Row wr g 283 (vals .u32 z)) (fun x _=>match x with | .slice _ l _=>na+1 - l|_=>0)
  case atStart=>exact ⟨n2,rfl,Nat.le_refl _,hn2,hbc,hrow⟩
  case round=>
   obtain ⟨r,rfl,hr1,hr2,hbr,hrr⟩:=hrel
   have hcr:=cell_keep HCA.out hbr
   by_cases hlt:r≤na
   ·have hz0:=Lib.hid (ZZ.out r hr1)
    have hone:Ints .u32 (wr.alloc (.cells #[.int .u32 0] 283)) (.slice (some ⟨wr.heap.size,0,none⟩) ([0]:List Nat).length 1) [0]:=Row.ints (l:=[0]) (Row.new wr 283 (vals .u32 [0])) 1 (by simp)
    go_wp2_with (at_builtin;refine wpList_append_row rfl (.tmp 84) (.tmp 85) 281 rfl 283 i1 Tryz.underlying281 hi1 hsz1 .u32 g r (na+2) 1 z [0] _ 1 rfl rfl rfl (hrr.alloc _) hone (by simp) (by simp;omega) (by simp;omega) ?_;intro w6 hr6 ho6)
    rw[put_zero z r (by omega) hz0.out]at hr6
    go_wp2_with fail
    go_roundw
    case rel=>exact ⟨r+1,rfl,by omega,by omega,(hbr.alloc hbr.size _).trans (ho6.below hg),hr6⟩
    case measure=>show na+1 - (r+1)<na+1 - r;omega
   ·obtain rfl:r=na+1:=by omega
    obtain ⟨K,hK⟩:∃ K,na+1=K+(m+2):=⟨na+1 - (m+2),by omega⟩
    have hmk2:∀ w,(Instr.makeSlice 281 (.int .i64 (K:Int)) (.int .i64 (K:Int))).run Tryz.prog w=.ok (.slice (some ⟨w.heap.size,0,none⟩) K K) (w.alloc (.cells (vals .u32 (List.replicate K 0)) 283)):=fun w=>mk_u32 K _ rfl (by omega) w
    obtain ⟨b2,o2,rfl,hc0⟩:=(show U32s w1 (.slice A2 (dgs (b*2 ^ s)).length c2) (dgs (b*2 ^ s))from by rw[show (dgs (b*2 ^ s)).length=m+2 from T2.out];exact hl2).at_ 0 (by rw[show (dgs (b*2 ^ s)).length=m+2 from T2.out];omega)
    have hb2:b2<w1.heap.size:=block_lt hc0
    have hglt:=hrr.lt
    have L0:Hid (LongInv 4294967296 (a*2 ^ s) (b*2 ^ s) z (List.replicate K 0) (na+2) K K):=by
     have:=LongInv.start (B:=4294967296) (A:=a*2 ^ s) (b:=b*2 ^ s) (H:=2147483648) (K:=K) (n:=m+1) (by omega) DZ.out VZ.out (long_top hss HNA.out (by omega)) T4.out
     rwa [lz]at this
    clear hc0
    go_wp2_with fail
    obtain ⟨gt,hgt⟩:∃ gt,gt=wr.heap.size:=⟨_,rfl⟩
    obtain ⟨w4,hw4⟩:∃ w4,w4=wr.alloc (.cells (vals .u32 (List.replicate K 0)) 283):=⟨_,rfl⟩
    have R0:Row w4 gt 283 (vals .u32 (List.replicate K 0)):=by rw[hw4,hgt];exact Row.new _ _ _
    have R1:Row w4 g 283 (vals .u32 z):=by rw[hw4];exact hrr.alloc _
    have B4:Below w1.heap.size w1 w4:=by rw[hw4];exact hbr.alloc hbr.size _
    rw[← hw4,← hgt]
    have hgg:g<gt:=by rw[hgt];exact hglt
    clear hw4 hgt hglt hrr hbr hcr hmk2
    go_loopw [13] (fun t wq=>∃ (j:Nat) (z o:List Nat),t=.int .i64 ((j:Int) - 1)∧j≤K∧Below w1.heap.size w1 wq∧Row wq g 283 (vals .u32 z)∧Row wq gt 283 (vals .u32 o)∧Hid (LongInv 4294967296 (a*2 ^ s) (b*2 ^ s) z o (na+2) K j)) (fun t _=>(intOf t+1).toNat)
    case atStart=>exact ⟨K,z,_,rfl,Nat.le_refl _,B4,R1,R0,L0⟩
    case round=>
     obtain ⟨j,z,o,rfl,hj,hbq,hrz,hro,hi⟩:=hrel
     rcases Nat.eq_zero_or_pos j with h0|h0
     ·subst h0
      obtain ⟨vo,vz⟩:=hi.out.done (Nat.pos_of_ne_zero (Nat.mul_ne_zero HB0.out (Nat.ne_of_gt (Nat.two_pow_pos _))))
      obtain ⟨q1,q2⟩:=scale_div (N:=a) (y:=b) (s:=2 ^ s) (Nat.two_pow_pos _)
      rw[q1]at vo;rw[q2]at vz
      have lo:=hi.out.lo
      have lz':=hi.out.lz
      have do':=hi.out.do_
      have dz':=hi.out.dz
      have ho:U32s wr (.slice (some ⟨gt,0,none⟩) K K) o:=by
       have:=hro.ints (l:=o) K (by omega)
       rwa [lo]at this
      have hzz:U32s wr (.slice (some ⟨g,0,none⟩) (na+1) (na+2)) (z.take (na+1)):=hrz.front (na+1) (na+2) (by omega) (by omega)
      have hvz:val 4294967296 (z.take (na+1))=a % b*2 ^ s:=by
       rw[val_take_small (by omega),vz]
       rw[vz]
       exact rest_small HB0.out T5.out (by omega)
      have CO:=Lib.hid (nat_of wr _ o ho do' (by omega))
      have CZ:Hid (∀ wq,Below wr.heap.size wr wq→Calls Tryz.prog 190 #[.slice (some ⟨g,0,none⟩) (na+1) (na+2)] wq (Gives (fun x w'=>NatAt w' x (a % b*2 ^ s)) wq)):=fun wq hq=>by
       have:=nat_of wq _ (z.take (na+1)) (hzz.keep hq) (dig_take dz' _) (by simp;omega)
       rwa [hvz]at this
      rw[vo]at CO
      have hdl6:(dgs (a % b*2 ^ s)).length≤1000000000000:=by
       have h1:=digs_length_le (B:=4294967296) (show 1<4294967296 by omega) (rest_small (a:=a) HB0.out T5.out (Nat.le_refl (m+1+1)))
       have h2:=HHL.out
       have h3:=HHA.out
       exact Nat.le_trans h1 (by omega)
      clear vo vz q1 q2 hvz ho hzz hK
      go_wp2_with fail
      refine CO.out.mono ?_
      rintro e w5 ⟨x5,rfl,hx5,hb5⟩
      go_wp2_with fail
      refine (CZ.out _ hb5).mono ?_
      rintro e w6 ⟨x6,rfl,hx6,hb6⟩
      have CD:=Lib.hid (nat_down w6 x6 _ s hx6 hdl6 (by omega))
      rw[Nat.mul_div_cancel _ (Nat.two_pow_pos s)]at CD
      go_wp2_with fail
      refine CD.out.mono ?_
      rintro e w7 ⟨x7,rfl,hx7,hb7⟩
      go_wp2_with fail
      go_ret3
      have hB5:=below_seq hb5 (below_seq hb6 hb7)
      exact ⟨x5,x7,rfl,hx5.keep (below_seq hb6 hb7),hx7,HBW.out.trans ((hbq.trans (hB5.mono hbq.size)).mono HBW.out.size)⟩
     ·obtain ⟨k,rfl⟩:∃ k,j=k+1:=⟨j - 1,by omega⟩
      have lz':=hi.out.lz
      have lo:=hi.out.lo
      have dz':=hi.out.dz
      obtain ⟨v1,v2⟩:=hi.out.window (by omega) T5.out
      have hwl:((z.drop k).take (m+3)).length=m+3:=by simp;omega
      have hl2':U32s wr (.slice (some ⟨b2,o2,none⟩) (dgs (b*2 ^ s)).length c2) (dgs (b*2 ^ s)):=by
       rw[show (dgs (b*2 ^ s)).length=m+2 from T2.out];exact hl2.keep hbq
      have CS:=Lib.hid (nat_step wr g k (na+2 - k) b2 o2 c2 m (vals .u32 z) ((z.drop k).take (m+3)) (dgs (b*2 ^ s)) (by rw[upd_window _ _ _ (by omega)];exact hrz) (by rw[hwl,vals_size];omega)
       (fun i hi=>by
        obtain ⟨b3,o3,e3,h3⟩:=hl2'.at_ i hi
        injection e3 with e3
        injection e3 with e3 e4
        subst e3;subst e4
        exact h3) (by omega) hwl T2.out (by omega) (by omega) (by have:=hl2'.cap;rw[show (dgs (b*2 ^ s)).length=m+2 from T2.out]at this;exact this) (dig_take (dig_drop dz' _) _) (digs_dig (by omega) _) T3.out
       (by rw[v1,show val 4294967296 (dgs (b*2 ^ s))=b*2 ^ s from val_digs (by omega) _];exact v2))
      clear v1 v2 hl2'
      have hK2:K+(m+2)=na+1:=hK.symm
      clear hK
      go_wp2_with fail
      rw[show k+(m+2)+1 - k=m+3 by omega]
      refine CS.out.mono ?_
      rintro e w5 ⟨he,l,hrl,hll,hdl,hvl,hol⟩
      rw[show val 4294967296 (dgs (b*2 ^ s))=b*2 ^ s from val_digs (by omega) _]at he hvl
      obtain ⟨q,hq⟩:∃ q,q=val 4294967296 ((z.drop k).take (m+3)) / (b*2 ^ s):=⟨_,rfl⟩
      rw[← hq]at he
      subst he
      have hgn:gt≠g:=by omega
      have hro5:Row w5 gt 283 (vals .u32 o):=(hol.block gt hgn).trans hro
      have hcell5:=hro5.cell k
      rw[vals_get .u32 o k (by omega)]at hcell5
      have hfree5:=hro5.free k
      rw[upd_vals z l k (by omega),hll,hwl]at hrl
      have HST:=Lib.hid (hi.out.step (by omega) T5.out (Nat.pos_of_ne_zero (Nat.mul_ne_zero HB0.out (Nat.ne_of_gt (Nat.two_pow_pos _)))) (by omega) (by omega) (hll.trans hwl) hdl hvl)
      rw[← hq]at HST
      clear hq hvl
      go_wp2_with fail
      go_roundw
      case rel=>
       refine ⟨k,_,_,rfl,by omega,(hbq.trans (hol.below hg)).setCell (Nat.le_trans hg (Nat.le_of_lt hgg)) _,hrl.far (Nat.ne_of_lt hgg) _,?_,HST⟩
       rw[← vals_set]
       exact hro5.set _ _
      case measure=>simp[intOf]
 go_region_law (first
  | (go_simp;go_at_call 264;refine (CA.out _ (by first|exact HBW.out.trans (HB0'.out.mono HBW.out.size)|(rw[← hob0];exact HBW.out.trans (HB1'.out.mono HBW.out.size)))).mono ?_;rintro e w5 ⟨x5,rfl,hx5,hb5⟩;obtain ⟨p5,A5,c5,rfl,hc5,hl5⟩:=hx5.open_ E0.out;have k5:(w5.alloc (.cells (vals .u32 (List.replicate (na+2) 0)) 283)).cell? ⟨p5,0,none⟩=some (.slice A5 (dgs (a*2 ^ s)).length c5):=cell_keep hc5 ((Below.refl _ _).alloc (Nat.le_refl _) _);(try have hrow5:Row w5 w1.heap.size 283 (vals .u32 (List.replicate (na+2) 0)):=Row.keep (Row.new w1.drew 283 (vals .u32 (List.replicate (na+2) 0))) hb5);(try have kpa:w5.cell? ⟨pa,0,none⟩=some (.slice A3 na c3):=cell_keep (w:=w1.drew) hca hb5))
  | ((refine step_append_row rfl (.tmp 68) (.tmp 74) 281 rfl 283 i1 Tryz.underlying281 hi1 hsz1 .u32 _ _ _ _ (List.replicate (na+2) 0) (dgs (a*2 ^ s)) _ _ rfl rfl rfl (by first|exact hrow5|exact Row.new _ _ _) (by first|exact hl5|exact Ints.keep hl5 ((Below.refl _ _).alloc (Nat.le_refl _) _)) LP.out (by have:=LE.out;simp;omega) (by have:=LE.out;omega) ?_;intro w6 hr6 ho6)))
 all_goals (go_wp2_with fail;go_meet)
 all_goals subst hob0
 all_goals refine ⟨_,rfl,?_,?_,by simpa using hr6⟩
 all_goals first
  | exact Nat.le_refl _
  | exact hb5.size
  | exact (HB1'.out.trans (hb5.mono HB1'.out.size)).trans (ho6.below (Nat.le_refl _))
  | exact ((HB0'.out.trans (hb5.mono HB0'.out.size)).alloc hb5.size _).trans (ho6.below hb5.size)
end Go.Proofs.YtjipjfoambbofaaGreatDoor
end
section
namespace Vic
open Go Go.RowKit
def natOf (w:World):Value→Nat
 | .pointer (some p)=>match w.cell? p with
   | some (.slice (some q) l _)=>val 4294967296 ((List.range l).map fun i=>match w.cell? ⟨q.block,q.off+i,none⟩with|some (.int _ d)=>d.toNat|_=>0)
   | _=>0
 | _=>0
theorem natOf_eq {w:World}{v:Value}{n:Nat}(h:NatAt w v n):natOf w v=n:=by
 rcases h with ⟨rfl,rfl⟩|⟨b,s,rfl,hc,⟨A,c,rfl,hlc,hcell⟩,hblk⟩
 ·rfl
 ·have hv:val 4294967296 (digs 4294967296 n)=n:=val_digs (by omega) n
  unfold natOf
  simp only[hc]
  rcases A with _|q
  ·rcases Nat.eq_zero_or_pos (digs 4294967296 n).length with h0|h0
   ·have:digs 4294967296 n = []:=List.eq_nil_of_length_eq_zero h0
    rw[this]at hv
    simpa [val]using hv
   ·obtain ⟨_,_,h1,_⟩:=hcell 0 h0
    cases h1
  ·have e:((List.range (digs 4294967296 n).length).map fun i=>match w.cell? ⟨q.block,q.off+i,none⟩with|some (.int _ d)=>d.toNat|_=>0)=digs 4294967296 n:=by
    apply List.ext_getElem
    ·simp
    ·intro i h1 h2
     obtain ⟨b',o',hq,hi⟩:=hcell i h2
     injection hq with hq
     subst hq
     simp[hi,h2]
   simp only[e]
   exact hv
theorem tz_le_len (a L:Nat) (h:(dgs a).length≤L):tz a≤32*L:=by
 rcases Nat.eq_zero_or_pos a with h0|h0
 ·subst h0;rw[tz_zero];omega
 ·have h1:=lt_pow_digs_length (B:=4294967296) (by omega) a
  have e:(4294967296:Nat) ^ (dgs a).length=2 ^ (32*(dgs a).length):=by rw[Nat.pow_mul]
  have h2:a<2 ^ (32*(dgs a).length):=by rw[← e];exact h1
  have:=tz_lt (by omega) h2
  omega
end Vic
namespace Go.Proofs.YtjipjfoambbofaaGreatDoor
open Go.RowKit Vic
theorem nat_Div (w:World) (u v:Value) (a b:Nat) (ha:NatAt w u a) (hb:NatAt w v b) (hal:(dgs a).length≤100000000000) (hbl:(dgs b).length≤100000000000) (h0:b≠0) :
 Calls Tryz.prog 215 #[u,v] w (Parted a b w):=by
 rcases Nat.lt_or_ge a b with h|h
 ·exact nat_Div_small w u v a b ha hb (by omega) (by omega) h
 ·have h1:=digs_len_pos h0
  rcases Nat.lt_or_ge (dgs b).length 2 with h2|h2
  ·exact nat_Div_one w u v a b ha hb (by omega) (by omega) h
  ·exact nat_Div_long w u v a b ((dgs b).length - 2) ha hb (by omega) (by omega) h
set_option maxRecDepth 100000 in
set_option maxHeartbeats 4000000 in
theorem nat_shifts (w:World) (u v:Value) (a b:Nat) (ha:NatAt w u a) (hb:NatAt w v b) (hal:(dgs a).length≤10000000000) (hbl:(dgs b).length≤10000000000) (ha0:a≠0) (hb0:b≠0) :
 Calls Tryz.prog 287 #[u,v] w (Gives (fun x w'=>NatAt w' x (Nat.gcd a b)) w):=by
 have CA:=Lib.hid (nat_Twos w u a ha (by omega))
 have CB:=Lib.hid (nat_Twos w v b hb (by omega))
 have CA2:Hid (∀ wr,Below w.heap.size w wr→Calls Tryz.prog 127 #[u] wr (Rets (.int .i64 ((tz a:Nat):Int)) wr)):=fun wr hw=>nat_Twos wr u a (ha.keep hw) (by omega)
 have CB2:Hid (∀ wr,Below w.heap.size w wr→Calls Tryz.prog 127 #[v] wr (Rets (.int .i64 ((tz b:Nat):Int)) wr)):=fun wr hw=>nat_Twos wr v b (hb.keep hw) (by omega)
 have ta:=tz_le_len a _ hal
 have tb:=tz_le_len b _ hbl
 have CD:Hid (∀ wr,Below w.heap.size w wr→Calls Tryz.prog 266 #[u,.int .i64 (tz a:Nat)] wr (Gives (fun x w'=>NatAt w' x (odd a)) wr)):=fun wr hw=>nat_down wr u a (tz a) (ha.keep hw) (by omega) (by omega)
 have CE:Hid (∀ wr,Below w.heap.size w wr→Calls Tryz.prog 266 #[v,.int .i64 (tz b:Nat)] wr (Gives (fun x w'=>NatAt w' x (odd b)) wr)):=fun wr hw=>nat_down wr v b (tz b) (hb.keep hw) (by omega) (by omega)
 have HG:=Lib.hid (gcd_odd_odd ha0 hb0)
 obtain ⟨L,hL⟩:∃ L,L=max (dgs a).length (dgs b).length:=⟨_,rfl⟩
 have hl1:Hid ((dgs (odd a)).length≤L):=Nat.le_trans (digs_length_mono (by omega) (odd_le a)) (by rw[hL];exact Nat.le_max_left _ _)
 have hl2:Hid ((dgs (odd b)).length≤L):=Nat.le_trans (digs_length_mono (by omega) (odd_le b)) (by rw[hL];exact Nat.le_max_right _ _)
 have o1:=Lib.hid (odd_odd ha0)
 have o2:=Lib.hid (odd_odd hb0)
 have hLL:L≤10000000000:=by omega
 obtain ⟨by_,hby⟩:∃ by_,by_=min (tz a) (tz b):=⟨_,rfl⟩
 have hby2:by_≤320000000000:=by omega
 have HBY:=Lib.hid hby
 generalize tz a=p at *
 generalize tz b=q at *
 have HL:=Lib.hid hL
 clear hL
 have hbpq:(by_=p∧p≤q)∨(by_=q∧q<p):=by omega
 clear hby
 go_enter Tryz.func287,Tryz.ntmps287
 go_wp2_with fail
 refine CA.out.mono ?_
 rintro e w' ⟨rfl,rfl⟩
 go_wp2_with fail
 refine CB.out.mono ?_
 rintro e w' ⟨rfl,rfl⟩
 rcases hbpq with ⟨rfl,hpq⟩|⟨rfl,hpq⟩
 all_goals
  go_wp2_with fail
  refine (CA2.out _ (Below.refl _ _)).mono ?_
  rintro e w' ⟨rfl,rfl⟩
  go_wp2_with fail
  refine (CD.out _ (Below.refl _ _)).mono ?_
  rintro e w1 ⟨x1,rfl,hx1,hb1⟩
  go_wp2_with fail
  refine (CB2.out _ hb1).mono ?_
  rintro e w' ⟨rfl,rfl⟩
  go_wp2_with fail
  refine (CE.out _ hb1).mono ?_
  rintro e w2 ⟨x2,rfl,hx2,hb2⟩
  have hx1':=hx1.keep hb2
  have hb3:=below_seq hb1 hb2
  obtain ⟨G,hG⟩:∃ G,G=Nat.gcd (odd a) (odd b):=⟨_,rfl⟩
  have HGG:=Lib.hid hG
  clear hG CA2 CD CB2 CE hx1 CA CB
  go_wp2_with fail
  go_loopw [0,1] (fun s t wr=>∃ x y,NatAt wr s x∧NatAt wr t y∧Hid (x % 2=1)∧Hid (y % 2=1)∧Hid (Nat.gcd x y=G)∧(dgs x).length≤L∧(dgs y).length≤L∧Below w.heap.size w wr) (fun s t wr=>natOf wr s+natOf wr t)
  case atStart=>exact ⟨_,_,hx1',hx2,o1,o2,HGG.out.symm,hl1.out,hl2.out,hb3⟩
  case round=>
   obtain ⟨x,y,hx,hy,ox,oy,hg,hlx,hly,hbr⟩:=hrel
   have CC:=nat_Cmp wr _ _ x y hx hy (by omega) (by omega)
   rcases Nat.lt_trichotomy x y with h|h|h
   ·rw[cmpI_lt h]at CC
    have HC:=Lib.hid CC
    clear CC
    have CL:=Lib.hid (nat_Less_yes wr _ _ y x hy hx (by omega) (by omega) (by omega))
    have hne:y - x≠0:=by omega
    have hld:(dgs (y - x)).length≤L:=Nat.le_trans (digs_length_mono (by omega) (Nat.sub_le _ _)) hly
    have hlo:(dgs (odd (y - x))).length≤L:=Nat.le_trans (digs_length_mono (by omega) (odd_le _)) hld
    have hGR:Hid (Nat.gcd (odd (y - x)) x=G):=(gcd_round (by omega) ox.out).trans ((Nat.gcd_comm _ _).trans hg.out)
    have hS0:x≠0:=by have:=ox.out;omega
    have hdec:Hid (odd (y - x)+x<x+y):=by
     have:=odd_le (y - x)
     show _<_
     omega
    have hodd:Hid (odd (y - x) % 2=1):=odd_odd hne
    have hO0:odd (y - x)≠0:=by have:=hodd.out;omega
    generalize y - x=D at *
    go_wp2_with fail
    refine HC.out.mono ?_
    rintro e w' ⟨rfl,rfl⟩
    go_wp2_with fail
    refine CL.out.mono ?_
    rintro e w3 ⟨x3,rfl,hx3,hb4⟩
    have CT:=Lib.hid (nat_Twos w3 x3 D hx3 (by omega))
    have ht:=tz_le_len D L hld
    have CDn:Hid (Calls Tryz.prog 266 #[x3,.int .i64 (tz D:Nat)] w3 (Gives (fun x w'=>NatAt w' x (odd D)) w3)):=nat_down w3 x3 D (tz D) hx3 (by omega) (by omega)
    generalize tz D=td at *
    generalize odd D=O at *
    go_wp2_with fail
    refine CT.out.mono ?_
    rintro e w' ⟨rfl,rfl⟩
    go_wp2_with fail
    refine CDn.out.mono ?_
    rintro e w4 ⟨x4,rfl,hx4,hb5⟩
    have hb6:Below w.heap.size w w4:=hbr.trans ((below_seq hb4 hb5).mono hbr.size)
    have hS4:=(hx).keep (below_seq hb4 hb5)
    have hM1:=Lib.hid (natOf_eq hx)
    have hM2:=Lib.hid (natOf_eq hy)
    obtain ⟨p4,A4,c4,rfl,hc4,hl4⟩:=hx4.open_ hO0
    obtain ⟨p5,A5,c5,rfl,hc5,hl5⟩:=hS4.open_ hS0
    have hM3:=Lib.hid (natOf_eq hx4)
    have hM4:=Lib.hid (natOf_eq hS4)
    have HL4:=Lib.hid hlo
    have HL5:=Lib.hid hlx
    by_cases h4:(dgs O).length≤2
    ·by_cases h5:(dgs x).length≤2
     ·have v4:=word_small h4
      have v5:=word_small h5
      have CW:=nat_Word w4 _ O hx4 (by omega)
      have CV:=nat_Word w4 _ x hS4 (by omega)
      rw[if_pos v4,decide_eq_true v4]at CW
      rw[if_pos v5,decide_eq_true v5]at CV
      have hW:=Lib.hid CW
      have hV:=Lib.hid CV
      have CC:=nat_common w4 O x v4 v5
      rw[hGR.out]at CC
      have hCC:=Lib.hid CC
      have hGl:G<18446744073709551616:=by rw[← hGR.out];exact Nat.lt_of_le_of_lt (Nat.gcd_le_left _ (by omega)) v4
      have hGL:=Lib.hid hGl
      clear CW CV CC v4 v5 hGl
      generalize (dgs O).length=n4 at *
      generalize (dgs x).length=n5 at *
      go_wp2_with fail
      refine hW.out.mono ?_
      rintro e w' ⟨rfl,rfl⟩
      go_wp2_with fail
      refine hV.out.mono ?_
      rintro e w' ⟨rfl,rfl⟩
      go_wp2_with fail
      refine hCC.out.mono ?_
      rintro e w5 ⟨rfl,hb7⟩
      have CO:=Lib.hid (nat_Of w5 G hGL.out)
      go_wp2_with fail
      refine CO.out.mono ?_
      rintro e w6 ⟨x6,rfl,hx6,hb8⟩
      have CU:=Lib.hid (nat_up w6 x6 G by_ hx6 (Nat.le_trans (digs_length_le (k:=2) (by omega) (by exact hGL.out)) (by omega)) (by omega))
      go_wp2_with fail
      refine CU.out.mono ?_
      rintro e w7 ⟨x7,rfl,hx7,hb9⟩
      go_wp2_with fail
      go_ret
      refine ⟨x7,rfl,?_,hb6.trans ((below_seq hb7 (below_seq hb8 hb9)).mono hb6.size)⟩
      rw[HG.out,← HBY.out,← HGG.out]
      exact hx7
     ·generalize hn4:(dgs O).length=n4 at *
      generalize hn5:(dgs x).length=n5 at *
      have HN4:=Lib.hid hn4;have HN5:=Lib.hid hn5;clear hn4 hn5
      go_wp2_with fail
      go_roundw
      case rel=>exact ⟨O,x,hx4,hS4,hodd,ox,hGR,Nat.le_trans (Nat.le_of_eq HN4.out) HL4.out,Nat.le_trans (Nat.le_of_eq HN5.out) HL5.out,hb6⟩
      case measure=>rw[hM1.out,hM2.out,hM3.out,hM4.out];exact hdec.out
    ·generalize hn4:(dgs O).length=n4 at *
     generalize hn5:(dgs x).length=n5 at *
     have HN4:=Lib.hid hn4;have HN5:=Lib.hid hn5;clear hn4 hn5
     go_wp2_with fail
     go_roundw
     case rel=>exact ⟨O,x,hx4,hS4,hodd,ox,hGR,Nat.le_trans (Nat.le_of_eq HN4.out) HL4.out,Nat.le_trans (Nat.le_of_eq HN5.out) HL5.out,hb6⟩
     case measure=>rw[hM1.out,hM2.out,hM3.out,hM4.out];exact hdec.out
   ·subst h
    rw[cmpI_eq rfl]at CC
    have HC:=Lib.hid CC
    have CU:=Lib.hid (nat_up wr _ x _ hx (by omega) (show by_≤1000000000000 by omega))
    clear CC
    go_wp2_with fail
    refine HC.out.mono ?_
    rintro e w' ⟨rfl,rfl⟩
    go_wp2_with fail
    refine CU.out.mono ?_
    rintro e w3 ⟨x3,rfl,hx3,hb4⟩
    go_wp2_with fail
    go_ret
    refine ⟨x3,rfl,?_,hbr.trans (hb4.mono hbr.size)⟩
    rw[HG.out,← HBY.out,← HGG.out,← hg.out,Nat.gcd_self]
    exact hx3
   ·rw[cmpI_gt h]at CC
    have HC:=Lib.hid CC
    clear CC
    have CL:=Lib.hid (nat_Less_yes wr _ _ x y hx hy (by omega) (by omega) (by omega))
    have hne:x - y≠0:=by omega
    have hld:(dgs (x - y)).length≤L:=Nat.le_trans (digs_length_mono (by omega) (Nat.sub_le _ _)) hlx
    have hlo:(dgs (odd (x - y))).length≤L:=Nat.le_trans (digs_length_mono (by omega) (odd_le _)) hld
    have hGR:Hid (Nat.gcd (odd (x - y)) y=G):=(gcd_round (by omega) oy.out).trans (hg.out)
    have hS0:y≠0:=by have:=oy.out;omega
    have hdec:Hid (odd (x - y)+y<x+y):=by
     have:=odd_le (x - y)
     show _<_
     omega
    have hodd:Hid (odd (x - y) % 2=1):=odd_odd hne
    have hO0:odd (x - y)≠0:=by have:=hodd.out;omega
    generalize x - y=D at *
    go_wp2_with fail
    refine HC.out.mono ?_
    rintro e w' ⟨rfl,rfl⟩
    go_wp2_with fail
    refine CL.out.mono ?_
    rintro e w3 ⟨x3,rfl,hx3,hb4⟩
    have CT:=Lib.hid (nat_Twos w3 x3 D hx3 (by omega))
    have ht:=tz_le_len D L hld
    have CDn:Hid (Calls Tryz.prog 266 #[x3,.int .i64 (tz D:Nat)] w3 (Gives (fun x w'=>NatAt w' x (odd D)) w3)):=nat_down w3 x3 D (tz D) hx3 (by omega) (by omega)
    generalize tz D=td at *
    generalize odd D=O at *
    go_wp2_with fail
    refine CT.out.mono ?_
    rintro e w' ⟨rfl,rfl⟩
    go_wp2_with fail
    refine CDn.out.mono ?_
    rintro e w4 ⟨x4,rfl,hx4,hb5⟩
    have hb6:Below w.heap.size w w4:=hbr.trans ((below_seq hb4 hb5).mono hbr.size)
    have hS4:=(hy).keep (below_seq hb4 hb5)
    have hM1:=Lib.hid (natOf_eq hx)
    have hM2:=Lib.hid (natOf_eq hy)
    obtain ⟨p4,A4,c4,rfl,hc4,hl4⟩:=hx4.open_ hO0
    obtain ⟨p5,A5,c5,rfl,hc5,hl5⟩:=hS4.open_ hS0
    have hM3:=Lib.hid (natOf_eq hx4)
    have hM4:=Lib.hid (natOf_eq hS4)
    have HL4:=Lib.hid hlo
    have HL5:=Lib.hid hly
    by_cases h4:(dgs O).length≤2
    ·by_cases h5:(dgs y).length≤2
     ·have v4:=word_small h4
      have v5:=word_small h5
      have CW:=nat_Word w4 _ O hx4 (by omega)
      have CV:=nat_Word w4 _ y hS4 (by omega)
      rw[if_pos v4,decide_eq_true v4]at CW
      rw[if_pos v5,decide_eq_true v5]at CV
      have hW:=Lib.hid CW
      have hV:=Lib.hid CV
      have CC:=nat_common w4 O y v4 v5
      rw[hGR.out]at CC
      have hCC:=Lib.hid CC
      have hGl:G<18446744073709551616:=by rw[← hGR.out];exact Nat.lt_of_le_of_lt (Nat.gcd_le_left _ (by omega)) v4
      have hGL:=Lib.hid hGl
      clear CW CV CC v4 v5 hGl
      generalize (dgs O).length=n4 at *
      generalize (dgs y).length=n5 at *
      go_wp2_with fail
      refine hW.out.mono ?_
      rintro e w' ⟨rfl,rfl⟩
      go_wp2_with fail
      refine hV.out.mono ?_
      rintro e w' ⟨rfl,rfl⟩
      go_wp2_with fail
      refine hCC.out.mono ?_
      rintro e w5 ⟨rfl,hb7⟩
      have CO:=Lib.hid (nat_Of w5 G hGL.out)
      go_wp2_with fail
      refine CO.out.mono ?_
      rintro e w6 ⟨x6,rfl,hx6,hb8⟩
      have CU:=Lib.hid (nat_up w6 x6 G by_ hx6 (Nat.le_trans (digs_length_le (k:=2) (by omega) (by exact hGL.out)) (by omega)) (by omega))
      go_wp2_with fail
      refine CU.out.mono ?_
      rintro e w7 ⟨x7,rfl,hx7,hb9⟩
      go_wp2_with fail
      go_ret
      refine ⟨x7,rfl,?_,hb6.trans ((below_seq hb7 (below_seq hb8 hb9)).mono hb6.size)⟩
      rw[HG.out,← HBY.out,← HGG.out]
      exact hx7
     ·generalize hn4:(dgs O).length=n4 at *
      generalize hn5:(dgs y).length=n5 at *
      have HN4:=Lib.hid hn4;have HN5:=Lib.hid hn5;clear hn4 hn5
      go_wp2_with fail
      go_roundw
      case rel=>exact ⟨O,y,hx4,hS4,hodd,oy,hGR,Nat.le_trans (Nat.le_of_eq HN4.out) HL4.out,Nat.le_trans (Nat.le_of_eq HN5.out) HL5.out,hb6⟩
      case measure=>rw[hM1.out,hM2.out,hM3.out,hM4.out];exact hdec.out
    ·generalize hn4:(dgs O).length=n4 at *
     generalize hn5:(dgs y).length=n5 at *
     have HN4:=Lib.hid hn4;have HN5:=Lib.hid hn5;clear hn4 hn5
     go_wp2_with fail
     go_roundw
     case rel=>exact ⟨O,y,hx4,hS4,hodd,oy,hGR,Nat.le_trans (Nat.le_of_eq HN4.out) HL4.out,Nat.le_trans (Nat.le_of_eq HN5.out) HL5.out,hb6⟩
     case measure=>rw[hM1.out,hM2.out,hM3.out,hM4.out];exact hdec.out
end Go.Proofs.YtjipjfoambbofaaGreatDoor
end
section
namespace Go.Proofs.YtjipjfoambbofaaGreatDoor
open Go.RowKit Vic
set_option maxRecDepth 100000 in
set_option maxHeartbeats 4000000 in
theorem nat_Gcd (w:World) (u v:Value) (a b:Nat) (ha:NatAt w u a) (hb:NatAt w v b) (hal:(dgs a).length≤10000000000) (hbl:(dgs b).length≤10000000000) :
 Calls Tryz.prog 253 #[u,v] w (Gives (fun x w'=>NatAt w' x (Nat.gcd a b)) w):=by
 obtain ⟨L,hL⟩:∃ L,L=max (dgs a).length (dgs b).length:=⟨_,rfl⟩
 have hl1:(dgs a).length≤L:=by omega
 have hl2:(dgs b).length≤L:=by omega
 have hLL:L≤10000000000:=by omega
 obtain ⟨G,hG⟩:∃ G,G=Nat.gcd a b:=⟨_,rfl⟩
 rw[← hG]
 have HG:=Lib.hid hG
 clear hL hG
 go_enter Tryz.func253,Tryz.ntmps253
 go_wp2_with fail
 go_loopw [5,6] (fun s t wr=>∃ x y,NatAt wr s x∧NatAt wr t y∧Hid (Nat.gcd x y=G)∧(dgs x).length≤L∧(dgs y).length≤L∧Below w.heap.size w wr) (fun _ t wr=>natOf wr t)
 case atStart=>exact ⟨a,b,ha,hb,HG.out.symm,hl1,hl2,Below.refl _ _⟩
 case round=>
  obtain ⟨x,y,hx,hy,hg,hlx,hly,hbr⟩:=hrel
  have CX:=nat_Word wr _ x hx (by omega)
  have CY:=nat_Word wr _ y hy (by omega)
  have hM1:=Lib.hid (natOf_eq hy)
  have CDX:=Lib.hid (nat_digits wr _ x hx)
  have CDY:=Lib.hid (nat_digits wr _ y hy)
  by_cases hw:x<18446744073709551616∧y<18446744073709551616
  ·obtain ⟨v4,v5⟩:=hw
   rw[if_pos v4,decide_eq_true v4]at CX
   rw[if_pos v5,decide_eq_true v5]at CY
   have hX:=Lib.hid CX
   have hY:=Lib.hid CY
   have CC:=nat_common wr x y v4 v5
   rw[hg.out]at CC
   have hCC:=Lib.hid CC
   have hGl:G<18446744073709551616:=by
    rw[← hg.out]
    rcases Nat.eq_zero_or_pos x with h0|h0
    ·subst h0;rw[Nat.gcd_zero_left];exact v5
    ·exact Nat.lt_of_le_of_lt (Nat.gcd_le_left _ h0) v4
   have hGL:=Lib.hid hGl
   clear CX CY CC v4 v5 hGl
   go_wp2_with fail
   refine hX.out.mono ?_
   rintro e w' ⟨rfl,rfl⟩
   go_wp2_with fail
   refine hY.out.mono ?_
   rintro e w' ⟨rfl,rfl⟩
   go_wp2_with fail
   refine hCC.out.mono ?_
   rintro e w5 ⟨rfl,hb7⟩
   have CO:=Lib.hid (nat_Of w5 G hGL.out)
   go_wp2_with fail
   refine CO.out.mono ?_
   rintro e w6 ⟨x6,rfl,hx6,hb8⟩
   go_wp2_with fail
   go_ret
   exact ⟨x6,rfl,hx6,hbr.trans ((below_seq hb7 hb8).mono hbr.size)⟩
  ·obtain ⟨p,hp⟩:∃ p:Nat,p=if x<18446744073709551616 then x else 0:=⟨_,rfl⟩
   obtain ⟨q,hq⟩:∃ q:Nat,q=if y<18446744073709551616 then y else 0:=⟨_,rfl⟩
   rw[← hp]at CX
   rw[← hq]at CY
   have hb2:(decide (x<18446744073709551616)=false)∨(decide (x<18446744073709551616)=true∧decide (y<18446744073709551616)=false):=by
    by_cases h1:x<18446744073709551616
    ·exact .inr ⟨decide_eq_true h1,decide_eq_false fun h2=>hw ⟨h1,h2⟩⟩
    ·exact .inl (decide_eq_false h1)
   clear hp hq hw
   generalize decide (x<18446744073709551616)=bx at *
   generalize decide (y<18446744073709551616)=by_ at *
   have hX:=Lib.hid CX
   have hY:=Lib.hid CY
   clear CX CY
   rcases Nat.eq_zero_or_pos y with h0|h0
   ·subst h0
    have hgx:x=G:=by have:=hg.out;rwa [Nat.gcd_zero_right]at this
    subst hgx
    have CO:Hid (∀ v,U32s wr v (dgs x)→Calls Tryz.prog 190 #[v] wr (Gives (fun z w'=>NatAt w' z x) wr)):=fun v hv=>by
     have:=nat_of wr v (dgs x) hv (digs_dig (by omega) _) (by omega)
     rwa [show val 4294967296 (dgs x)=x from val_digs (by omega) x]at this
    rw[show dgs 0 = []from digs_zero _]at CDY
    rcases hb2 with rfl|⟨rfl,rfl⟩
    all_goals
     go_wp2_with fail
     refine hX.out.mono ?_
     rintro e w' ⟨rfl,rfl⟩
     go_wp2_with fail
     refine hY.out.mono ?_
     rintro e w' ⟨rfl,rfl⟩
     go_wp2_with fail
     refine CDY.out.mono ?_
     rintro e w' ⟨A,c,rfl,hA,rfl⟩
     go_wp2_with fail
     refine CDX.out.mono ?_
     rintro e w' ⟨A2,c2,rfl,hA2,rfl⟩
     go_wp2_with fail
     refine (CO.out _ hA2).mono ?_
     rintro e w3 ⟨x3,rfl,hx3,hb3⟩
     go_wp2_with fail
     go_ret
     exact ⟨x3,rfl,hx3,hbr.trans (hb3.mono hbr.size)⟩
   ·have hlp:=digs_len_pos (n:=y) (by omega)
    by_cases hne:(dgs x).length=(dgs y).length
    ·have hx0:x≠0:=by
      rintro rfl
      rw[show dgs 0 = []from digs_zero _]at hne;simp at hne;omega
     have CS0:=nat_shifts wr _ _ x y hx hy (by omega) (by omega) hx0 (by omega)
     rw[hg.out]at CS0
     have CS:=Lib.hid CS0
     clear CS0
     have hbne:(((dgs x).length:Int) != ((dgs y).length:Int))=false:=by rw[hne];simp
     have HNE:=Lib.hid hne
     clear hne
     generalize dgs x=lx at *
     generalize dgs y=ly at *
     rcases hb2 with rfl|⟨rfl,rfl⟩
     all_goals
      go_wp2_with fail
      refine hX.out.mono ?_
      rintro e w' ⟨rfl,rfl⟩
      go_wp2_with fail
      refine hY.out.mono ?_
      rintro e w' ⟨rfl,rfl⟩
      go_wp2_with fail
      refine CDY.out.mono ?_
      rintro e w' ⟨A,c,rfl,hA,rfl⟩
      go_wp2_with fail
      refine CDX.out.mono ?_
      rintro e w' ⟨A2,c2,rfl,hA2,rfl⟩
      go_wp2_with fail
      refine CDY.out.mono ?_
      rintro e w' ⟨A3,c3,rfl,hA3,rfl⟩
      go_wp2_with fail
      refine CS.out.mono ?_
      rintro e w3 ⟨x3,rfl,hx3,hb3⟩
      go_wp2_with fail
      go_ret
      exact ⟨x3,rfl,hx3,hbr.trans (hb3.mono hbr.size)⟩
    ·have CV:=Lib.hid (nat_Div wr _ _ x y hx hy (by omega) (by omega) (by omega))
     have hbne:(((dgs x).length:Int) != ((dgs y).length:Int))=true:=by rw[bne_iff_ne];omega
     have hlm:Hid ((dgs (x % y)).length≤L):=Nat.le_trans (digs_length_mono (by omega) (Nat.le_of_lt (Nat.mod_lt _ h0))) hly
     have hlt:Hid (x % y<y):=Nat.mod_lt _ h0
     have hg2:Hid (Nat.gcd y (x % y)=G):=(gcd_step x y).trans hg.out
     have HLY:=Lib.hid hly
     clear hne
     unfold Parted at CV
     generalize x % y=r at *
     generalize dgs x=lx at *
     generalize hd:dgs y=ly at *
     have HD:=Lib.hid hd
     clear hd
     rcases hb2 with rfl|⟨rfl,rfl⟩
     all_goals
      go_wp2_with fail
      refine hX.out.mono ?_
      rintro e w' ⟨rfl,rfl⟩
      go_wp2_with fail
      refine hY.out.mono ?_
      rintro e w' ⟨rfl,rfl⟩
      go_wp2_with fail
      refine CDY.out.mono ?_
      rintro e w' ⟨A,c,rfl,hA,rfl⟩
      go_wp2_with fail
      refine CDX.out.mono ?_
      rintro e w' ⟨A2,c2,rfl,hA2,rfl⟩
      go_wp2_with fail
      refine CDY.out.mono ?_
      rintro e w' ⟨A3,c3,rfl,hA3,rfl⟩
      go_wp2_with fail
      refine CV.out.mono ?_
      rintro e w3 ⟨x3,x4,rfl,_,hx4,hb3⟩
      go_wp2_with fail
      have hy3:=hy.keep hb3
      go_roundw
      case rel=>exact ⟨y,r,hy3,hx4,hg2,by rw[HD.out];exact HLY.out,hlm.out,hbr.trans (hb3.mono hbr.size)⟩
      case measure=>rw[hM1.out,natOf_eq hx4];exact hlt.out
end Go.Proofs.YtjipjfoambbofaaGreatDoor
end
section
namespace Vic
def sgn (neg:Bool) (n:Nat):Int:=if neg then -(n:Int)else n
theorem sgn_natAbs (neg:Bool) (n:Nat):(sgn neg n).natAbs=n:=by cases neg<;>simp[sgn]
def quo (neg:Bool) (n d:Nat):Rat:=mkRat (sgn neg n) d
theorem quo_den {neg:Bool}{n d:Nat}(hd:d≠0):(quo neg n d).den=d / Nat.gcd n d:=by
 rw[quo,Rat.den_mkRat,if_neg hd,sgn_natAbs,Nat.gcd_comm]
theorem sgn_div (neg:Bool) (n g:Nat) (h:g∣n):sgn neg n / (g:Int)=sgn neg (n / g):=by
 obtain ⟨k,rfl⟩:=h
 rcases Nat.eq_zero_or_pos g with h0|h0
 ·subst h0;cases neg<;>simp[sgn]
 ·rw[Nat.mul_div_cancel_left _ h0]
  have e:sgn neg (g*k)=(g:Int)*sgn neg k:=by
   cases neg<;>simp[sgn,Int.mul_neg]
  rw[e,Int.mul_ediv_cancel_left _ (by omega)]
theorem quo_num {neg:Bool}{n d:Nat}(hd:d≠0):(quo neg n d).num=sgn neg (n / Nat.gcd n d):=by
 rw[quo,Rat.num_mkRat,if_neg hd,sgn_natAbs,Nat.gcd_comm,sgn_div _ _ _ (Nat.gcd_dvd_left n d)]
theorem quo_natAbs {neg:Bool}{n d:Nat}(hd:d≠0):(quo neg n d).num.natAbs=n / Nat.gcd n d:=by
 rw[quo_num hd,sgn_natAbs]
theorem quo_neg {neg:Bool}{n d:Nat}(hd:d≠0):decide ((quo neg n d).num<0)=(neg && decide (n / Nat.gcd n d≠0)):=by
 rw[quo_num hd]
 generalize n / Nat.gcd n d=m
 cases neg
 ·simp[sgn]
 ·simp only[sgn,if_true,Bool.true_and]
  by_cases h:m=0
  ·subst h;rfl
  ·rw[decide_eq_true (by omega),decide_eq_true h]
theorem quo_self (q:Rat):quo (decide (q.num<0)) q.num.natAbs q.den=q:=by
 have e:sgn (decide (q.num<0)) q.num.natAbs=q.num:=by
  unfold sgn
  by_cases h:q.num<0
  ·simp[h];omega
  ·simp[h];omega
 rw[quo,e]
 exact Rat.mkRat_self q
abbrev sz (n:Nat):Nat:=(dgs n).length
theorem sz_mono {a b:Nat}(h:a≤b):sz a≤sz b:=digs_length_mono (by omega) h
theorem sz_mul (a b:Nat):sz (a*b)≤sz a+sz b:=by
 have h1:a<4294967296 ^ sz a:=lt_pow_digs_length (B:=4294967296) (by omega) a
 have h2:b<4294967296 ^ sz b:=lt_pow_digs_length (B:=4294967296) (by omega) b
 apply digs_length_le (by omega)
 rw[Nat.pow_add]
 exact Nat.mul_lt_mul'' h1 h2
theorem sz_div (a b:Nat):sz (a / b)≤sz a:=sz_mono (Nat.div_le_self a b)
theorem sz_word {a:Nat}(h:a<18446744073709551616):sz a≤2:=digs_length_le (B:=4294967296) (k:=2) (by omega) h
def Fits (L:Nat) (q:Rat):Prop:=sz q.num.natAbs≤L∧sz q.den≤L
theorem fits_quo {neg:Bool}{n d L:Nat}(hd:d≠0) (hn:sz n≤L) (hl:sz d≤L):Fits L (quo neg n d):=
 ⟨by rw[quo_natAbs hd];exact Nat.le_trans (sz_div _ _) hn,by rw[quo_den hd];exact Nat.le_trans (sz_div _ _) hl⟩
theorem Fits.mono {L M:Nat}{q:Rat}(h:Fits L q) (hm:L≤M):Fits M q:=⟨Nat.le_trans h.1 hm,Nat.le_trans h.2 hm⟩
end Vic
end
section
namespace Vic
open Go Go.RowKit
def mget (kv:List (List UInt8 × Value)) (s:List UInt8):Option Value:=(kv.find? fun p=>p.1 == s).map (·.2)
theorem mget_cons (p:List UInt8 × Value) (kv:List (List UInt8 × Value)) (s:List UInt8):mget (p :: kv) s=if p.1=s then some p.2 else mget kv s:=by
 unfold mget
 by_cases h:p.1=s
 ·simp[h]
 ·have h':(p.1 == s)=false:=beq_eq_false_iff_ne.2 h
  rw[List.find?_cons,h',if_neg h]
theorem mget_set {c:List UInt8}{v u:Value}:∀ {kv:List (List UInt8 × Value)}{j:Nat},kv[j]?=some (c,u)→(∀ (i:Nat) (p:List UInt8 × Value),i<j→kv[i]?=some p→p.1≠c)→∀ s,mget (kv.set j (c,v)) s=if s=c then some v else mget kv s
 | [],j,h,_,s=>by simp at h
 | p :: kv,0,h,_,s=>by
   simp only[List.getElem?_cons_zero,Option.some.injEq]at h
   subst h
   rw[List.set_cons_zero,mget_cons,mget_cons]
   by_cases hs:c=s
   ·subst hs;simp
   ·rw[if_neg hs,if_neg (fun e=>hs e.symm)];simp[hs]
 | p :: kv,j+1,h,hn,s=>by
   have hp:=hn 0 p (by omega) (by simp)
   rw[List.set_cons_succ,mget_cons,mget_cons,mget_set (kv:=kv) (j:=j) (by simpa using h) (fun i q hi hq=>hn (i+1) q (by omega) (by simpa using hq)) s]
   by_cases hs:p.1=s
   ·subst hs;simp[hp]
   ·simp[hs]
theorem mget_push {c:List UInt8}{v:Value}:∀ {kv:List (List UInt8 × Value)},mget kv c=none→∀ s,mget (kv ++ [(c,v)]) s=if s=c then some v else mget kv s
 | [],h,s=>by
   rw[List.nil_append,mget_cons]
   by_cases hs:c=s
   ·subst hs;simp
   ·rw[if_neg hs,if_neg (fun e=>hs e.symm)]
 | p :: kv,h,s=>by
   rw[mget_cons]at h
   have hp:p.1≠c:=fun e=>by rw[if_pos e]at h;cases h
   rw[if_neg hp]at h
   rw[List.cons_append,mget_cons,mget_cons,mget_push h s]
   by_cases hs:p.1=s
   ·subst hs;simp[hp]
   ·simp[hs]
def Stp (es:Array MapEntry) (clock:Nat):Prop:=(∀ x∈es.toList,x.born<clock)∧(es.toList.map (·.born)).Nodup
theorem Stp.push {es:Array MapEntry}{clock:Nat}(h:Stp es clock) (k v:Value):Stp (es.push { key:=k,val:=v,born:=clock }) (clock+1):=by
 refine ⟨fun x hx=>?_,?_⟩
 ·rw[Array.toList_push]at hx
  rcases List.mem_append.1 hx with hx|hx
  ·have:=h.1 x hx;omega
  ·simp at hx;subst hx;simp
 ·rw[Array.toList_push,List.map_append,List.nodup_append]
  refine ⟨h.2,by simp,fun a ha b hb=>?_⟩
  simp at hb;subst hb
  obtain ⟨x,hx,rfl⟩:=List.mem_map.1 ha
  have:=h.1 x hx;omega
theorem born_modify (es:Array MapEntry) (j:Nat) (f:MapEntry→MapEntry) (hf:∀ e,(f e).born=e.born):(es.modify j f).toList.map (·.born)=es.toList.map (·.born):=by
 apply List.ext_getElem?
 intro i
 rw[Array.toList_modify]
 simp only[List.getElem?_map,List.getElem?_modify]
 cases es.toList[i]? with
 | none=>simp
 | some e=>
   split
   ·simp[hf e]
   ·simp
theorem Stp.modify {es:Array MapEntry}{clock:Nat}(h:Stp es clock) (j:Nat) (f:MapEntry→MapEntry) (hf:∀ e,(f e).born=e.born):Stp (es.modify j f) clock:=by
 refine ⟨fun x hx=>?_,by rw[born_modify es j f hf];exact h.2⟩
 have hm:x.born∈es.toList.map (·.born):=by rw[← born_modify es j f hf];exact List.mem_map_of_mem hx
 obtain ⟨y,hy,e⟩:=List.mem_map.1 hm
 rw[← e];exact h.1 y hy
def StrMap (w:World) (m:Nat) (f:List UInt8→Option Value):Prop:=
 ∃ es clock kv,w.heap[m]?=some (.map es clock)∧es.toList.map (fun e:MapEntry=>(e.key,e.val))=kv.map (fun p:List UInt8 × Value=>(Value.string ⟨p.1.toArray⟩,p.2))∧(∀ s,mget kv s=f s)∧Stp es clock
theorem StrMap.lt {w:World}{m:Nat}{f:List UInt8→Option Value}(h:StrMap w m f):m<w.heap.size:=by
 obtain ⟨es,c,kv,h1,_⟩:=h
 rcases Nat.lt_or_ge m w.heap.size with h2|h2
 ·exact h2
 ·rw[Array.getElem?_eq_none h2]at h1;cases h1
theorem StrMap.stay {w w':World}{m:Nat}{f:List UInt8→Option Value}(h:StrMap w m f) (hb:w'.heap[m]?=w.heap[m]?):StrMap w' m f:=by
 obtain ⟨es,c,kv,h1,h2⟩:=h
 exact ⟨es,c,kv,hb.trans h1,h2⟩
theorem StrMap.keep {w w':World}{m:Nat}{f:List UInt8→Option Value}(h:StrMap w m f) (hb:Below w.heap.size w w'):StrMap w' m f:=h.stay (hb.block _ h.lt)
theorem StrMap.congr {w:World}{m:Nat}{f g:List UInt8→Option Value}(h:StrMap w m f) (e:∀ s,f s=g s):StrMap w m g:=by
 obtain ⟨es,c,kv,h1,h2,h3,h4⟩:=h
 exact ⟨es,c,kv,h1,h2,fun s=>(h3 s).trans (e s),h4⟩
theorem StrMap.made (w:World):StrMap (w.alloc (.map #[] 0)) w.heap.size (fun _=>none):=⟨#[],0,[],by show (w.heap.push _)[w.heap.size]?=_;simp,rfl,fun s=>rfl,by simp[Stp]⟩
theorem StrMap.cell {w:World}{m:Nat}{f:List UInt8→Option Value}(h:StrMap w m f) (o:Nat):w.cell? ⟨m,o,none⟩=none:=by
 obtain ⟨es,c,kv,h1,_⟩:=h
 simp[World.cell?,h1]
theorem StrMap.ne {w:World}{m b:Nat}{f:List UInt8→Option Value}(h:StrMap w m f) {cs:Array Value}{t:TypeId}{fr:Nat × Nat}(hb:w.heap[b]?=some (.cells cs t fr)):b≠m:=by
 rintro rfl
 obtain ⟨es,c,kv,h1,_⟩:=h
 rw[h1]at hb;cases hb
theorem bytes_ne {a b:List UInt8}:((⟨a.toArray⟩:ByteArray) == ⟨b.toArray⟩)=(a == b):=by
 rw[Bool.eq_iff_iff,MapKept.bytes_beq,beq_iff_eq]
 constructor
 ·intro h;injection h with h;simpa using h
 ·rintro rfl;rfl
theorem findNow_txt (c:List UInt8):∀ (es:List MapEntry) (kv:List (List UInt8 × Value)) (i:Nat),es.map (fun e:MapEntry=>(e.key,e.val))=kv.map (fun p:List UInt8 × Value=>(Value.string ⟨p.1.toArray⟩,p.2)) →
 (mget kv c=none∧Instr.findNow .string (.string ⟨c.toArray⟩) es i=some none) ∨
 ∃ j v,mget kv c=some v∧Instr.findNow .string (.string ⟨c.toArray⟩) es i=some (some (i+j,v))∧kv[j]?=some (c,v)∧∀ (k:Nat) (p:List UInt8 × Value),k<j→kv[k]?=some p→p.1≠c
 | [],kv,i,h=>by
   have h0:kv = []:=by cases kv with|nil=>rfl|cons a r=>simp at h
   subst h0
   exact .inl ⟨rfl,rfl⟩
 | e :: es,[],i,h=>by simp at h
 | e :: es,p :: kv,i,h=>by
   simp only[List.map_cons,List.cons.injEq,Prod.mk.injEq]at h
   obtain ⟨⟨h1,h2⟩,h3⟩:=h
   have hs:Instr.sameNow .string (.string ⟨c.toArray⟩) e.key=some (c == p.1):=by
    rw[h1]
    show some ((⟨c.toArray⟩:ByteArray) == ⟨p.1.toArray⟩)=_
    rw[bytes_ne]
   unfold Instr.findNow
   rw[hs,mget_cons]
   by_cases hc:c=p.1
   ·subst hc
    rw[if_pos rfl,beq_self_eq_true]
    exact .inr ⟨0,p.2,rfl,by simp[h2],rfl,fun k q hk=>by omega⟩
   ·rw[if_neg (fun e=>hc e.symm),beq_eq_false_iff_ne.2 hc]
    rcases findNow_txt c es kv (i+1) h3 with ⟨a,b⟩|⟨j,v,a,b,d,n⟩
    ·exact .inl ⟨a,b⟩
    ·refine .inr ⟨j+1,v,a,by rw[show i+(j+1)=i+1+j by omega];exact b,by simpa using d,fun k q hk hq=>?_⟩
     rcases k with _|k
     ·simp only[List.getElem?_cons_zero,Option.some.injEq]at hq
      subst hq;exact fun e=>hc e.symm
     ·exact n k q (by omega) (by simpa using hq)
variable {P:Program}
theorem checkKey_txt {kt:TypeId}(hk:P.underlying kt=some .string) (b:Bool) (v:ByteArray) (w:World):(Instr.checkKey b 10000 kt (.string v)).run P w=.ok () w:=by
 unfold Instr.checkKey
 simp[run_underlying hk]
theorem StrMap.lookup {t kt et:TypeId}{z:Value}(ht:P.underlying t=some (.map kt et)) (hk:P.underlying kt=some .string) (hz:∀ w,(zeroValue et).run P w=.ok z w) {w:World}{m:Nat}{f:List UInt8→Option Value}(h:StrMap w m f) (c:List UInt8) :
 (Instr.lookup t (.map (some m)) (.string ⟨c.toArray⟩) false).run P w=.ok ((f c).getD z) w∧(Instr.lookup t (.map (some m)) (.string ⟨c.toArray⟩) true).run P w=.ok (.tuple #[(f c).getD z,.bool (f c).isSome]) w:=by
 obtain ⟨es,cl,kv,h1,h2,h3,h9⟩:=h
 rw[← h3 c]
 rcases findNow_txt c es.toList kv 0 h2 with ⟨a,b⟩|⟨j,v,a,b,_⟩
 ·rw[a]
  constructor<;>simp[Instr.lookup,run_underlying ht,MapKept.run_getObj_map h1,checkKey_txt hk,Instr.findKey,run_underlying hk,b,hz]
 ·rw[a]
  constructor<;>simp[Instr.lookup,run_underlying ht,MapKept.run_getObj_map h1,checkKey_txt hk,Instr.findKey,run_underlying hk,b]
theorem StrMap.update {t kt et:TypeId}(ht:P.underlying t=some (.map kt et)) (hk:P.underlying kt=some .string) {w:World}{m:Nat}{f:List UInt8→Option Value}(h:StrMap w m f) (c:List UInt8) (v:Value) :
 ∃ w',(Instr.mapUpdate t (.map (some m)) (.string ⟨c.toArray⟩) v).run P w=.ok () w'∧StrMap w' m (fun s=>if s=c then some v else f s)∧w.grownBy w' (some m)∧w'.heap.size=w.heap.size:=by
 have hlt:=h.lt
 obtain ⟨es,cl,kv,h1,h2,h3,h9⟩:=h
 have hgr:∀ o:Obj,w.grownBy { w with heap:=w.heap.setIfInBounds m o } (some m):=fun o=>by
  refine ⟨rfl,rfl,rfl,by simp,fun j hj hne=>?_⟩
  show (w.heap.setIfInBounds m _)[j]?=_
  rw[Array.getElem?_setIfInBounds_ne]
  intro e;exact hne (by rw[e])
 rcases findNow_txt c es.toList kv 0 h2 with ⟨a,b⟩|⟨j,u,a,b,d,n⟩
 ·refine ⟨{ w with heap:=w.heap.setIfInBounds m (.map (es.push { key:=.string ⟨c.toArray⟩,val:=v,born:=cl }) (cl+1)) },?_,?_,hgr _,by simp⟩
  ·simp[Instr.mapUpdate,run_underlying ht,MapKept.run_getObj_map h1,checkKey_txt hk,Instr.findKey,run_underlying hk,b,MapKept.run_setObj_map _ h1]
  ·refine ⟨_,_,kv ++ [(c,v)],by show (w.heap.setIfInBounds m _)[m]?=_;rw[Array.getElem?_setIfInBounds_self];rw[if_pos hlt],by simp[h2],fun s=>by rw[mget_push a s,h3 s],h9.push _ _⟩
 ·have hkey:(((es[0+j]?).map (·.key)).getD (.string ⟨c.toArray⟩))=.string ⟨c.toArray⟩:=by
   have h4:=congrArg (fun l=>l[j]?) h2
   simp only[List.getElem?_map,Array.getElem?_toList,d,Option.map_some]at h4
   rw[Nat.zero_add]
   cases he:es[j]? with
   | none=>rfl
   | some e=>
     rw[he]at h4
     simp only[Option.map_some,Option.some.injEq,Prod.mk.injEq]at h4
     exact h4.1
  refine ⟨{ w with heap:=w.heap.setIfInBounds m (.map (es.modify (0+j) fun e=>{ e with key:=.string ⟨c.toArray⟩,val:=v }) cl) },?_,?_,hgr _,by simp⟩
  ·rw[Nat.zero_add]at hkey
   have hst:(Instr.keyThatStays (.string ⟨c.toArray⟩) (.string ⟨c.toArray⟩)).run P w=.ok (.string ⟨c.toArray⟩) w:=MapKept.run_keyThatStays (d:=.string) (by trivial)
   simp[Instr.mapUpdate,run_underlying ht,MapKept.run_getObj_map h1,checkKey_txt hk,Instr.findKey,run_underlying hk,b,-Array.getElem?_toList,-Option.getD_map,hkey,hst,MapKept.run_setObj_map _ h1]
  ·refine ⟨_,_,kv.set j (c,v),by show (w.heap.setIfInBounds m _)[m]?=_;rw[Array.getElem?_setIfInBounds_self];rw[if_pos hlt],?_,fun s=>by rw[mget_set d n s,h3 s],h9.modify (0+j) (fun e=>{ e with key:=.string ⟨c.toArray⟩,val:=v }) fun _=>rfl⟩
   rw[Nat.zero_add,Array.toList_modify,List.map_set,← h2]
   apply List.ext_getElem?
   intro i
   by_cases hij:i=j
   ·subst hij
    simp only[List.getElem?_map,List.getElem?_modify,List.getElem?_set]
    have h4:=congrArg (fun l=>l[i]?) h2
    simp only[List.getElem?_map,d,Option.map_some]at h4
    cases he:es.toList[i]? with
    | none=>rw[he]at h4;simp at h4
    | some e=>
      have hl:i<es.size:=by
       have:=(List.getElem?_eq_some_iff.1 he).1
       simpa using this
      simp[hl]
   ·simp only[List.getElem?_map,List.getElem?_modify,List.getElem?_set]
    have hji:¬ j=i:=fun e=>hij e.symm
    simp[hji]
theorem find_born {es:List MapEntry}{i:Nat}{e:MapEntry}(h:es[i]?=some e) (hn:(es.map (·.born)).Nodup):es.findIdx? (fun x=>(x.born:Int) == (e.born:Int))=some i:=by
 obtain ⟨hi,he⟩:=List.getElem?_eq_some_iff.1 h
 rw[List.findIdx?_eq_some_iff_getElem]
 refine ⟨hi,by rw[he];simp,fun j hj=>?_⟩
 have:=List.pairwise_iff_getElem.1 hn j i (by simp;omega) (by simpa using hi) hj
 simp only[List.getElem_map,he]at this
 simp;omega
def setB (w:World) (m:Nat) (o:Obj):World:={ w with heap:=w.heap.setIfInBounds m o }
theorem setB_at {w:World}{m:Nat}(h:m<w.heap.size) (o:Obj):(setB w m o).heap[m]?=some o:=by
 show (w.heap.setIfInBounds m o)[m]?=_
 rw[Array.getElem?_setIfInBounds_self,if_pos h]
theorem setB_size (w:World) (m:Nat) (o:Obj):(setB w m o).heap.size=w.heap.size:=by simp[setB]
theorem setB_grown (w:World) (m:Nat) (o:Obj):w.grownBy (setB w m o) (some m):=by
 refine ⟨rfl,rfl,rfl,by simp[setB],fun j hj hne=>?_⟩
 show (w.heap.setIfInBounds m _)[j]?=_
 rw[Array.getElem?_setIfInBounds_ne]
 intro e;exact hne (by rw[e])
theorem set_run {w:World}{m:Nat}{es:Array MapEntry}{clock:Nat}(o:Obj) (h:w.heap[m]?=some (.map es clock)):(setObj m o).run P w=.ok () (setB w m o):=MapKept.run_setObj_map o h
theorem entry_run {w:World}{m:Nat}{t:TypeId}{es:Array MapEntry}{clock i:Nat}{e:MapEntry}(h:w.heap[m]?=some (.map es clock)) (hi:es.toList[i]?=some e) (hs:(es.toList.map (·.born)).Nodup) (v:Value) :
 (Instr.entryStore t (.map (some m)) (.int .i64 (e.born:Int)) v).run P w=.ok () (setB w m (.map (es.modify i fun x=>{ x with val:=v }) clock)):=by
 have hf:=find_born hi hs
 have hf':es.findIdx? (fun x=>(x.born:Int) == (e.born:Int))=some i:=by
  rw[← hf];obtain ⟨l⟩:=es;simp
 simp[Instr.entryStore,MapKept.run_getObj_map h,asInt,asIntOf,hf',set_run _ h]
theorem mod_kv {es:Array MapEntry}{kv:List (List UInt8 × Value)}(h2:es.toList.map (fun e:MapEntry=>(e.key,e.val))=kv.map (fun p:List UInt8 × Value=>(Value.string ⟨p.1.toArray⟩,p.2))) {j:Nat}{c:List UInt8}{u v:Value}(d:kv[j]?=some (c,u)) :
 ((es.modify j fun e=>{ e with key:=.string ⟨c.toArray⟩ }).modify j fun e=>{ e with val:=v }).toList.map (fun e:MapEntry=>(e.key,e.val))=(kv.set j (c,v)).map (fun p:List UInt8 × Value=>(Value.string ⟨p.1.toArray⟩,p.2)):=by
 rw[List.map_set,← h2]
 apply List.ext_getElem?
 intro i
 simp only[Array.toList_modify,List.getElem?_map,List.getElem?_modify,List.getElem?_set]
 have h4:=congrArg (fun l=>l[i]?) h2
 simp only[List.getElem?_map]at h4
 by_cases hij:j=i
 ·subst hij
  rw[d]at h4
  cases he:es.toList[j]? with
  | none=>rw[he]at h4;simp at h4
  | some e=>
    have hl:j<es.size:=by
     have:=(List.getElem?_eq_some_iff.1 he).1
     simpa using this
    simp[hl]
 ·simp[hij]
theorem StrMap.entry {t kt et:TypeId}{z:Value}(ht:P.underlying t=some (.map kt et)) (hk:P.underlying kt=some .string) (hz:∀ w,(zeroValue et).run P w=.ok z w) {w:World}{m:Nat}{f:List UInt8→Option Value}(h:StrMap w m f) (c:List UInt8) (v:Value) :
 ∃ (u:Value) (n:Int) (w1 w2:World),(Instr.mapEntry t (.map (some m)) (.string ⟨c.toArray⟩)).run P w=.ok (.tuple #[u,.int .i64 n]) w1∧(Instr.entryStore t (.map (some m)) (.int .i64 n) v).run P w1=.ok () w2∧StrMap w2 m (fun s=>if s=c then some v else f s)∧w.grownBy w2 (some m)∧w2.heap.size=w.heap.size:=by
 have hlt:=h.lt
 obtain ⟨es,cl,kv,h1,h2,h3,h9⟩:=h
 have hgg:∀ o o':Obj,w.grownBy (setB (setB w m o) m o') (some m):=fun o o'=>by
  have g1:=setB_grown w m o
  have g2:=setB_grown (setB w m o) m o'
  exact ⟨g2.os.trans g1.os,g2.tape.trans g1.tape,g2.output.trans g1.output,Nat.le_trans g1.size g2.size,fun j hj hn=>(g2.block j (by rw[setB_size];exact hj) hn).trans (g1.block j hj hn)⟩
 rcases findNow_txt c es.toList kv 0 h2 with ⟨a,b⟩|⟨j,u,a,b,d,n⟩
 ·have hsz:(es.push { key:=.string ⟨c.toArray⟩,val:=z,born:=cl }).toList[es.size]?=some { key:=.string ⟨c.toArray⟩,val:=z,born:=cl }:=by simp
  have hp:=h9.push (.string ⟨c.toArray⟩) z
  refine ⟨z,cl,setB w m (.map (es.push { key:=.string ⟨c.toArray⟩,val:=z,born:=cl }) (cl+1)),_,?_,entry_run (setB_at hlt _) hsz hp.2 v,?_,hgg _ _,by rw[setB_size,setB_size]⟩
  ·simp[Instr.mapEntry,run_underlying ht,MapKept.run_getObj_map h1,checkKey_txt hk,Instr.findKey,run_underlying hk,b,hz,set_run _ h1,goInt]
  ·refine ⟨_,_,kv ++ [(c,v)],setB_at (by rw[setB_size];exact hlt) _,?_,fun s=>by rw[mget_push a s,h3 s],hp.modify es.size (fun x=>{ x with val:=v }) fun _=>rfl⟩
   rw[List.map_append,← h2]
   apply List.ext_getElem?
   intro i
   simp only[Array.toList_modify,Array.toList_push,List.getElem?_map,List.getElem?_modify,List.getElem?_append,List.length_map,Array.length_toList]
   rcases Nat.lt_trichotomy i es.size with hi|hi|hi
   ·simp[hi,Nat.ne_of_gt hi]
   ·subst hi;simp
   ·have:¬ i<es.size:=by omega
    have h5:i - es.size≠0:=by omega
    obtain ⟨q,hq⟩:∃ q,i - es.size=q+1:=⟨i - es.size - 1,by omega⟩
    simp[this,hq]
 ·have hk0:=congrArg (fun l=>l[j]?) h2
  simp only[List.getElem?_map,d,Option.map_some]at hk0
  obtain ⟨e,he⟩:∃ e,es.toList[j]?=some e:=by
   cases he:es.toList[j]? with
   | none=>rw[he]at hk0;simp at hk0
   | some e=>exact ⟨e,rfl⟩
  rw[he]at hk0
  simp only[Option.map_some,Option.some.injEq,Prod.mk.injEq]at hk0
  have he':es[j]?=some e:=by rw[← Array.getElem?_toList];exact he
  have hm1:(es.modify j fun x=>{ x with key:=.string ⟨c.toArray⟩ }).toList[j]?=some { e with key:=.string ⟨c.toArray⟩ }:=by
   simp[List.getElem?_modify,he]
  have hp:=h9.modify j (fun x=>{ x with key:=.string ⟨c.toArray⟩ }) fun _=>rfl
  refine ⟨u,e.born,setB w m (.map (es.modify j fun x=>{ x with key:=.string ⟨c.toArray⟩ }) cl),_,?_,entry_run (setB_at hlt _) hm1 hp.2 v,?_,hgg _ _,by rw[setB_size,setB_size]⟩
  ·have hst:(Instr.keyThatStays (.string ⟨c.toArray⟩) (.string ⟨c.toArray⟩)).run P w=.ok (.string ⟨c.toArray⟩) w:=MapKept.run_keyThatStays (d:=.string) (by trivial)
   simp[Instr.mapEntry,run_underlying ht,MapKept.run_getObj_map h1,checkKey_txt hk,Instr.findKey,run_underlying hk,b,he',hk0.1,hst,set_run _ h1,goInt]
  ·exact ⟨_,_,kv.set j (c,v),setB_at (by rw[setB_size];exact hlt) _,mod_kv h2 d,fun s=>by rw[mget_set d n s,h3 s],hp.modify j (fun x=>{ x with val:=v }) fun _=>rfl⟩
theorem StrMap.clear {t kt et ty:TypeId}(ht:P.underlying t=some (.map kt et)) {w:World}{m:Nat}{f:List UInt8→Option Value}(h:StrMap w m f) :
 ∃ w',(Builtin.clear_ #[t] ty #[.map (some m)]).run P w=.ok (.tuple #[]) w'∧StrMap w' m (fun _=>none)∧w.grownBy w' (some m)∧w'.heap.size=w.heap.size:=by
 have hlt:=h.lt
 obtain ⟨es,cl,kv,h1,h2,h3,h9⟩:=h
 refine ⟨{ w with heap:=w.heap.setIfInBounds m (.map #[] cl) },?_,?_,?_,by simp⟩
 ·simp[Builtin.clear_,run_underlying ht,MapKept.run_getObj_map h1,MapKept.run_setObj_map _ h1,Result.andThen]
 ·exact ⟨#[],cl,[],by show (w.heap.setIfInBounds m _)[m]?=_;rw[Array.getElem?_setIfInBounds_self];rw[if_pos hlt],rfl,fun s=>rfl,by simp[Stp]⟩
 ·refine ⟨rfl,rfl,rfl,by simp,fun j hj hne=>?_⟩
  show (w.heap.setIfInBounds m _)[j]?=_
  rw[Array.getElem?_setIfInBounds_ne]
  intro e;exact hne (by rw[e])
def inSet (ks:List (List UInt8)) (s:List UInt8):Option Value:=if s∈ks then some (.bool true)else none
theorem inSet_nil (s:List UInt8):none=inSet [] s:=by simp[inSet]
theorem inSet_add (ks:List (List UInt8)) (c s:List UInt8):(if s=c then some (Value.bool true)else inSet ks s)=inSet (c :: ks) s:=by
 unfold inSet
 by_cases h:s=c
 ·simp[h]
 ·simp[h]
theorem inSet_get (ks:List (List UInt8)) (s:List UInt8):(inSet ks s).getD (.bool false)=.bool (decide (s∈ks)):=by
 unfold inSet
 by_cases h:s∈ks<;>simp[h]
end Vic
end
