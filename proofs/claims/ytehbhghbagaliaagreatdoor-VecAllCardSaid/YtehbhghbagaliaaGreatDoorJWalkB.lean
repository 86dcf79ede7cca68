/- Package nat: sums, differences, products. And: Package nat: products, bits, noughts. Package nat: shifts, quotients by one digit. Package nat: shifts either way; quotients by one digit. -/
import Derived.Test.YtehbhghbagaliaaGreatDoorJWalkA
import Derived.Deep.OwnRows
import Derived.Test.YtehbhghbagaliaaGreatDoorJPlainA
set_option linter.unusedVariables false
set_option linter.unusedSimpArgs false
namespace Go.Proofs.YtehbhghbagaliaaGreatDoor
open Go.RowKit Vic
theorem info_u32:(Tryz.prog.info? 125).map (fun i=>(i.zero,i.size,i.bytes))=some (some (.int .u32 0),1,4):=by kernel_rfl
theorem made_u32 (n:Nat):madeCells #[.int .u32 0] n=vals .u32 (List.replicate n 0):=by
 apply Array.ext'
 rw[toList_madeCells_one]
 simp[vals]
theorem add_hi (x p q:Nat) (h:x≤1) (hp:p<4294967296) (hq:q<4294967296) :
 (.int .u64 (IntKind.u64.wrap ((x:Int)+IntKind.u64.wrap ((p:Int)+(q:Int))) / 4294967296):Value)=.int .u64 (((x+(p+q)) / 4294967296:Nat):Int):=by
 congr 1;rw[IntKind.wrap_u64,IntKind.wrap_u64];omega
theorem add_lo (x p q:Nat) (h:x≤1) (hp:p<4294967296) (hq:q<4294967296) :
 (IntKind.u64.wrap ((x:Int)+IntKind.u64.wrap ((p:Int)+(q:Int))) % 4294967296)=(((x+(p+q)) % 4294967296:Nat):Int):=by
 rw[IntKind.wrap_u64,IntKind.wrap_u64];omega
theorem mk_u32 (n:Nat) (N:Int) (hN:N=n) (hn:n≤10000000000000) (w:World) :
 (Instr.makeSlice 123 (.int .i64 N) (.int .i64 N)).run Tryz.prog w=.ok (.slice (some ⟨w.heap.size,0,none⟩) n n) (w.alloc (.cells (vals .u32 (List.replicate n 0)) 125)):=by
 subst hN
 rw[run_make_row' 123 125 _ 4 Tryz.underlying123 info_u32 rfl .i64 .i64 n (by omega) (by omega) w,made_u32]
set_option maxRecDepth 100000 in
set_option maxHeartbeats 2000000 in
theorem nat_AddpN (w:World) (u v:Value) (a b:Nat) (ha:NatAt w u a) (hb:NatAt w v b) (hal:(dgs a).length≤1000000000000) (hbl:(dgs b).length≤1000000000000) :
 Calls Tryz.prog 61 #[u,v] w (Gives (fun x w'=>NatPtr w' x (a+b)∧NewPtr w.heap.size x) w):=by
 have CA:=Lib.hid (nat_digits w u a ha)
 have CB:=Lib.hid (nat_digits w v b hb)
 have VA:Hid (val 4294967296 (dgs a)=a):=val_digs (by omega) a
 have VB:Hid (val 4294967296 (dgs b)=b):=val_digs (by omega) b
 have da:dig 4294967296 (dgs a):=digs_dig (by omega) a
 have db:dig 4294967296 (dgs b):=digs_dig (by omega) b
 generalize dgs a=la at *
 generalize dgs b=lb at *
 obtain ⟨n,hn⟩:∃ n,n=max la.length lb.length+1:=⟨_,rfl⟩
 have HN:=Lib.hid hn
 have hmk:∀ w,(Instr.makeSlice 123 (.int .i64 (la.length+1)) (.int .i64 (la.length+1))).run Tryz.prog w=.ok (.slice (some ⟨w.heap.size,0,none⟩) (la.length+1) (la.length+1)) (w.alloc (.cells (vals .u32 (List.replicate (la.length+1) 0)) 125)):=fun w=>mk_u32 _ _ (by omega) (by omega) w
 have hmk2:∀ w,(Instr.makeSlice 123 (.int .i64 (lb.length+1)) (.int .i64 (lb.length+1))).run Tryz.prog w=.ok (.slice (some ⟨w.heap.size,0,none⟩) (lb.length+1) (lb.length+1)) (w.alloc (.cells (vals .u32 (List.replicate (lb.length+1) 0)) 125)):=fun w=>mk_u32 _ _ (by omega) (by omega) w
 clear hn
 go_enter Tryz.func61,Tryz.ntmps61
 go_wp2_with fail
 refine CA.out.mono ?_
 rintro e w' ⟨A,c,rfl,hA,rfl⟩
 go_wp2_with fail
 refine CB.out.mono ?_
 rintro e w' ⟨A',c',rfl,hB,rfl⟩
 go_wp2_with fail
 ·have hn:=HN.out
  obtain rfl:n=lb.length+1:=by rw[hn,Nat.max_eq_right (a:=la.length) (b:=lb.length) (by omega)]
  clear hn hmk hmk2
  go_loopw [8,23] (fun s t wr=>∃ (k x:Nat) (o:List Nat),s=.int .u64 x∧t=.int .i64 k∧k≤lb.length+1∧Below w.heap.size w wr∧Row wr w.heap.size 125 (vals .u32 o)∧Hid (AddInv 4294967296 la lb o (lb.length+1) k x)) (fun _ t _=>lb.length+1 - (intOf t).toNat)
  case atStart=>exact ⟨0,0,_,rfl,rfl,by omega,(Below.refl _ _).alloc (Nat.le_refl _) _,Row.new _ _ _,AddInv.start (by omega) la lb _⟩
  case round=>
   obtain ⟨k,x,o,rfl,rfl,hk,hbl,hrow,hi⟩:=hrel
   by_cases hlt:k<lb.length+1
   ·have C1:=Lib.hid (nat_at wr _ la k (U32s.keep hA hbl) da (by omega) (by omega))
    have C2:=Lib.hid (nat_at wr _ lb k (U32s.keep hB hbl) db (by omega) (by omega))
    have hcell:=hrow.cell k
    rw[vals_get .u32 o k (by rw[hi.out.len];omega)]at hcell
    have hfree:=hrow.free k
    have hst:=hi.out.step (by omega) da db hlt
    have b1:=dig_getD da (by omega) k
    have b2:=dig_getD db (by omega) k
    have b3:=hi.out.small
    generalize la.getD k 0=p at *
    generalize lb.getD k 0=q at *
    generalize o.getD k 0=r at *
    have HS:Hid (AddInv 4294967296 la lb (o.set k ((x+(p+q)) % 4294967296)) (lb.length+1) (k+1) ((x+(p+q)) / 4294967296)):=hst
    have B1:=Lib.hid b1;have B2:=Lib.hid b2
    clear hst b1 b2
    go_wp2_with fail
    refine C1.out.mono ?_
    rintro e w' ⟨rfl,rfl⟩
    go_wp2_with fail
    refine C2.out.mono ?_
    rintro e w' ⟨rfl,rfl⟩
    go_wp2_with fail
    go_roundw
    case rel=>
     refine ⟨k+1,(x+(p+q)) / 4294967296,o.set k ((x+(p+q)) % 4294967296),?_,by go_num,by omega,hbl.setCell (Nat.le_refl _) _,?_,HS⟩
     ·rw[add_hi x p q b3 B1.out B2.out]
     ·rw[add_lo x p q b3 B1.out B2.out,← vals_set];exact hrow.set _ _
    case measure=>simp[intOf];omega
   ·obtain rfl:k=lb.length+1:=by omega
    have hd:=hi.out.done (by omega) da db (HN.out.symm)
    rw[VA.out,VB.out]at hd
    have hlen:=hi.out.len
    have hu:U32s wr (.slice (some ⟨w.heap.size,0,none⟩) (lb.length+1) (lb.length+1)) o:=by
     have:=hrow.ints (l:=o) (lb.length+1) (by omega)
     rwa [hlen]at this
    have CO:=Lib.hid (nat_ofpN wr _ o hu hi.out.dg (by omega))
    have HD:=Lib.hid hd
    clear hd hlen
    go_wp2_with fail
    refine CO.out.mono ?_
    rintro e w' ⟨z,rfl,⟨hz,hnz⟩,hbz⟩
    rw[HD.out]at hz
    go_wp2
    go_ret
    exact ⟨z,rfl,⟨hz,hnz.mono hbl.size⟩,below_seq hbl hbz⟩
 ·have hn:=HN.out
  obtain rfl:n=la.length+1:=by rw[hn,Nat.max_eq_left (a:=la.length) (b:=lb.length) (by omega)]
  clear hn hmk hmk2
  go_loopw [8,23] (fun s t wr=>∃ (k x:Nat) (o:List Nat),s=.int .u64 x∧t=.int .i64 k∧k≤la.length+1∧Below w.heap.size w wr∧Row wr w.heap.size 125 (vals .u32 o)∧Hid (AddInv 4294967296 la lb o (la.length+1) k x)) (fun _ t _=>la.length+1 - (intOf t).toNat)
  case atStart=>exact ⟨0,0,_,rfl,rfl,by omega,(Below.refl _ _).alloc (Nat.le_refl _) _,Row.new _ _ _,AddInv.start (by omega) la lb _⟩
  case round=>
   obtain ⟨k,x,o,rfl,rfl,hk,hbl,hrow,hi⟩:=hrel
   by_cases hlt:k<la.length+1
   ·have C1:=Lib.hid (nat_at wr _ la k (U32s.keep hA hbl) da (by omega) (by omega))
    have C2:=Lib.hid (nat_at wr _ lb k (U32s.keep hB hbl) db (by omega) (by omega))
    have hcell:=hrow.cell k
    rw[vals_get .u32 o k (by rw[hi.out.len];omega)]at hcell
    have hfree:=hrow.free k
    have hst:=hi.out.step (by omega) da db hlt
    have b1:=dig_getD da (by omega) k
    have b2:=dig_getD db (by omega) k
    have b3:=hi.out.small
    generalize la.getD k 0=p at *
    generalize lb.getD k 0=q at *
    generalize o.getD k 0=r at *
    have HS:Hid (AddInv 4294967296 la lb (o.set k ((x+(p+q)) % 4294967296)) (la.length+1) (k+1) ((x+(p+q)) / 4294967296)):=hst
    have B1:=Lib.hid b1;have B2:=Lib.hid b2
    clear hst b1 b2
    go_wp2_with fail
    refine C1.out.mono ?_
    rintro e w' ⟨rfl,rfl⟩
    go_wp2_with fail
    refine C2.out.mono ?_
    rintro e w' ⟨rfl,rfl⟩
    go_wp2_with fail
    go_roundw
    case rel=>
     refine ⟨k+1,(x+(p+q)) / 4294967296,o.set k ((x+(p+q)) % 4294967296),?_,by go_num,by omega,hbl.setCell (Nat.le_refl _) _,?_,HS⟩
     ·rw[add_hi x p q b3 B1.out B2.out]
     ·rw[add_lo x p q b3 B1.out B2.out,← vals_set];exact hrow.set _ _
    case measure=>simp[intOf];omega
   ·obtain rfl:k=la.length+1:=by omega
    have hd:=hi.out.done (by omega) da db (HN.out.symm)
    rw[VA.out,VB.out]at hd
    have hlen:=hi.out.len
    have hu:U32s wr (.slice (some ⟨w.heap.size,0,none⟩) (la.length+1) (la.length+1)) o:=by
     have:=hrow.ints (l:=o) (la.length+1) (by omega)
     rwa [hlen]at this
    have CO:=Lib.hid (nat_ofpN wr _ o hu hi.out.dg (by omega))
    have HD:=Lib.hid hd
    clear hd hlen
    go_wp2_with fail
    refine CO.out.mono ?_
    rintro e w' ⟨z,rfl,⟨hz,hnz⟩,hbz⟩
    rw[HD.out]at hz
    go_wp2
    go_ret
    exact ⟨z,rfl,⟨hz,hnz.mono hbl.size⟩,below_seq hbl hbz⟩
theorem nat_Addp (w:World) (u v:Value) (a b:Nat) (ha:NatAt w u a) (hb:NatAt w v b) (hal:(dgs a).length≤1000000000000) (hbl:(dgs b).length≤1000000000000) :
 Calls Tryz.prog 61 #[u,v] w (Gives (fun x w'=>NatPtr w' x (a+b)) w):=
 (nat_AddpN w u v a b ha hb hal hbl).mono fun _ _ h=>h.mono fun _ _ h=>h.1
theorem nat_Add (w:World) (u v:Value) (a b:Nat) (ha:NatAt w u a) (hb:NatAt w v b) (hal:(dgs a).length≤1000000000000) (hbl:(dgs b).length≤1000000000000) :
 Calls Tryz.prog 61 #[u,v] w (Gives (fun x w'=>NatAt w' x (a+b)) w):=
 (nat_Addp w u v a b ha hb hal hbl).mono fun _ _ h=>h.mono fun _ _=>NatPtr.at_
theorem less_sum (x:Int) (p q:Nat) (h:x=0∨x=-1) (hp:p<4294967296) (hq:q<4294967296) :
 wrap64 (x+wrap64 (wrap64 (p:Int) - wrap64 (q:Int)))=x+((p:Int) - (q:Int)):=by
 unfold wrap64;omega
theorem less_lo (y:Int):y % 4294967296=(((y % ((4294967296:Nat):Int)).toNat:Nat):Int):=by omega
theorem cmpI_nonneg {a b:Nat}(h:b≤a):0≤cmpI a b:=by
 unfold cmpI
 rw[if_neg (by omega)]
 split<;>omega
def GivesOk (Q:Value→World→Prop) (w:World) (e:Ending) (w':World):Prop:=∃ x,e=.returned (.tuple #[x,.bool true])∧Q x w'∧Below w.heap.size w w'
theorem nat_Less_no (w:World) (u v:Value) (a b:Nat) (ha:NatAt w u a) (hb:NatAt w v b) (hal:(dgs a).length≤1000000000000) (hbl:(dgs b).length≤1000000000000) (h:a<b) :
 Calls Tryz.prog 135 #[u,v] w (Rets (.tuple #[.pointer none,.bool false]) w):=by
 have cc:=nat_Cmp w u v a b ha hb hal hbl
 rw[cmpI_lt h]at cc
 have CC:=Lib.hid cc
 clear cc hal hbl h
 go_enter Tryz.func135,Tryz.ntmps135
 go_wp2_with fail
 refine CC.out.mono ?_
 rintro e w' ⟨rfl,rfl⟩
 go_wp2
 go_ret2
 exact ⟨rfl,rfl⟩
set_option maxRecDepth 100000 in
set_option maxHeartbeats 2000000 in
theorem nat_Less_yes (w:World) (u v:Value) (a b:Nat) (ha:NatAt w u a) (hb:NatAt w v b) (hal:(dgs a).length≤1000000000000) (hbl:(dgs b).length≤1000000000000) (h:b≤a) :
 Calls Tryz.prog 135 #[u,v] w (GivesOk (fun x w'=>NatAt w' x (a - b)) w):=by
 obtain ⟨s0,hs0,CC⟩:∃ s0:Int,0≤s0∧Hid (Calls Tryz.prog 91 #[u,v] w (Rets (.int .i64 s0) w)):=
  ⟨cmpI a b,cmpI_nonneg h,nat_Cmp w u v a b ha hb hal hbl⟩
 have CA:=Lib.hid (nat_digits w u a ha)
 have CB:=Lib.hid (nat_digits w v b hb)
 have VA:Hid (val 4294967296 (dgs a)=a):=val_digs (by omega) a
 have VB:Hid (val 4294967296 (dgs b)=b):=val_digs (by omega) b
 have da:dig 4294967296 (dgs a):=digs_dig (by omega) a
 have db:dig 4294967296 (dgs b):=digs_dig (by omega) b
 have hll:(dgs b).length≤(dgs a).length:=digs_length_mono (by omega) h
 generalize dgs a=la at *
 generalize dgs b=lb at *
 have hmk:∀ w,(Instr.makeSlice 123 (.int .i64 la.length) (.int .i64 la.length)).run Tryz.prog w=.ok (.slice (some ⟨w.heap.size,0,none⟩) la.length la.length) (w.alloc (.cells (vals .u32 (List.replicate la.length 0)) 125)):=fun w=>mk_u32 _ _ rfl (by omega) w
 have H:=Lib.hid h
 clear h
 go_enter Tryz.func135,Tryz.ntmps135
 go_wp2_with fail
 refine CC.out.mono ?_
 rintro e w' ⟨rfl,rfl⟩
 go_wp2_with fail
 refine CA.out.mono ?_
 rintro e w' ⟨A,c,rfl,hA,rfl⟩
 go_wp2_with fail
 refine CB.out.mono ?_
 rintro e w' ⟨A',c',rfl,hB,rfl⟩
 go_wp2_with fail
 clear hmk
 go_loopw [9,24] (fun s t wr=>∃ (k:Nat) (x:Int) (o:List Nat),s=.int .i64 x∧t=.int .i64 k∧k≤la.length∧Below w.heap.size w wr∧Row wr w.heap.size 125 (vals .u32 o)∧Hid (LessInv 4294967296 la lb o la.length k x)) (fun _ t _=>la.length - (intOf t).toNat)
 case atStart=>exact ⟨0,0,_,rfl,rfl,by omega,(Below.refl _ _).alloc (Nat.le_refl _) _,Row.new _ _ _,LessInv.start (by omega) la lb _⟩
 case round=>
  obtain ⟨k,x,o,rfl,rfl,hk,hbl,hrow,hi⟩:=hrel
  by_cases hlt:k<la.length
  ·have C1:=Lib.hid (nat_at wr _ la k (U32s.keep hA hbl) da (by omega) (by omega))
   have C2:=Lib.hid (nat_at wr _ lb k (U32s.keep hB hbl) db (by omega) (by omega))
   have hcell:=hrow.cell k
   rw[vals_get .u32 o k (by rw[hi.out.len];omega)]at hcell
   have hfree:=hrow.free k
   have hst:=hi.out.step (by omega) da db hlt
   have b1:=dig_getD da (by omega) k
   have b2:=dig_getD db (by omega) k
   have b3:=hi.out.small
   generalize la.getD k 0=p at *
   generalize lb.getD k 0=q at *
   generalize o.getD k 0=r at *
   have HS:Hid (LessInv 4294967296 la lb (o.set k ((x+((p:Int) - (q:Int))) % ((4294967296:Nat):Int)).toNat) la.length (k+1) ((x+((p:Int) - (q:Int))) / ((4294967296:Nat):Int))):=hst
   have B1:=Lib.hid b1;have B2:=Lib.hid b2;have B3:=Lib.hid b3
   clear hst b1 b2 b3
   go_wp2_with fail
   refine C1.out.mono ?_
   rintro e w' ⟨rfl,rfl⟩
   go_wp2_with fail
   refine C2.out.mono ?_
   rintro e w' ⟨rfl,rfl⟩
   go_wp2_with fail
   go_roundw
   case rel=>
    refine ⟨k+1,(x+((p:Int) - (q:Int))) / ((4294967296:Nat):Int),o.set k ((x+((p:Int) - (q:Int))) % ((4294967296:Nat):Int)).toNat,?_,by go_num,by omega,hbl.setCell (Nat.le_refl _) _,?_,HS⟩
    ·rw[less_sum x p q B3.out B1.out B2.out];rfl
    ·rw[less_sum x p q B3.out B1.out B2.out,less_lo,← vals_set];exact hrow.set _ _
   case measure=>simp[intOf];omega
  ·obtain rfl:k=la.length:=by omega
   have hd:=hi.out.done (by omega) da db (by rw[VA.out,VB.out];exact H.out) hll
   rw[VA.out,VB.out]at hd
   have hlen:=hi.out.len
   have hu:U32s wr (.slice (some ⟨w.heap.size,0,none⟩) la.length la.length) o:=by
    have:=hrow.ints (l:=o) la.length (by omega)
    rwa [hlen]at this
   have CO:=Lib.hid (nat_of wr _ o hu hi.out.dg (by omega))
   have HD:=Lib.hid hd
   clear hd hlen
   go_wp2_with fail
   refine CO.out.mono ?_
   rintro e w' ⟨z,rfl,hz,hbz⟩
   rw[HD.out]at hz
   go_wp2
   go_ret2
   exact ⟨z,rfl,hz,below_seq hbl hbz⟩
end Go.Proofs.YtehbhghbagaliaaGreatDoor
set_option linter.unusedVariables false
set_option linter.unusedSimpArgs false
namespace Go.Proofs.YtehbhghbagaliaaGreatDoor
open Go.RowKit Vic
theorem wrap64_small (d:Nat) (h:d<4294967296):IntKind.u64.wrap (d:Int)=d:=by rw[IntKind.wrap_u64];omega
theorem mul_sum (x p q d:Nat) (hs:x<4294967296) (hp:p<4294967296) (hq:q<4294967296) (hd:d<4294967296) :
 IntKind.u64.wrap ((x:Int)+IntKind.u64.wrap (IntKind.u64.wrap (IntKind.u64.wrap (p:Int)*IntKind.u64.wrap (q:Int))+IntKind.u64.wrap (d:Int)))=((x+(p*q+d):Nat):Int):=by
 rw[show IntKind.u64.wrap (p:Int)=p by rw[IntKind.wrap_u64];omega,show IntKind.u64.wrap (q:Int)=q by rw[IntKind.wrap_u64];omega]
 have h1:p*q≤4294967295*4294967295:=Nat.mul_le_mul (by omega) (by omega)
 have e:((p*q:Nat):Int)=(p:Int)*(q:Int):=Int.natCast_mul _ _
 rw[← e]
 generalize p*q=m at *
 simp only[IntKind.wrap_u64]
 omega
theorem _root_.Vic.U32s.at_ {w:World}{A:Option Addr}{c:Nat}{l:List Nat}(h:U32s w (.slice A l.length c) l) (k:Nat) (hk:k<l.length) :
 ∃ b o,A=some ⟨b,o,none⟩∧w.cell? ⟨b,o+k,none⟩=some (.int .u32 ((l.getD k 0:Nat):Int)):=by
 obtain ⟨A',c',hv,_,hcell⟩:=h
 injection hv with h1 h2 h3
 subst h1
 exact hcell k hk
set_option maxRecDepth 100000 in
set_option maxHeartbeats 4000000 in
theorem nat_Mul (w:World) (u v:Value) (a b:Nat) (ha:NatAt w u a) (hb:NatAt w v b) (hal:(dgs a).length≤500000000000) (hbl:(dgs b).length≤500000000000) :
 Calls Tryz.prog 59 #[u,v] w (Gives (fun x w'=>NatAt w' x (a*b)) w):=by
 have CA:=Lib.hid (nat_digits w u a ha)
 have CB:=Lib.hid (nat_digits w v b hb)
 have VA:Hid (val 4294967296 (dgs a)=a):=val_digs (by omega) a
 have VB:Hid (val 4294967296 (dgs b)=b):=val_digs (by omega) b
 have da:dig 4294967296 (dgs a):=digs_dig (by omega) a
 have db:dig 4294967296 (dgs b):=digs_dig (by omega) b
 generalize dgs a=la at *
 generalize dgs b=lb at *
 have hmk:∀ w,(Instr.makeSlice 123 (.int .i64 (la.length+lb.length)) (.int .i64 (la.length+lb.length))).run Tryz.prog w=.ok (.slice (some ⟨w.heap.size,0,none⟩) (la.length+lb.length) (la.length+lb.length)) (w.alloc (.cells (vals .u32 (List.replicate (la.length+lb.length) 0)) 125)):=fun w=>mk_u32 _ _ (by omega) (by omega) w
 go_enter Tryz.func59,Tryz.ntmps59
 go_wp2_with fail
 refine CA.out.mono ?_
 rintro e w' ⟨A,c,rfl,hA,rfl⟩
 go_wp2_with fail
 refine CB.out.mono ?_
 rintro e w' ⟨A',c',rfl,hB,rfl⟩
 go_wp2_with fail
 clear hmk
 go_loopw [25] (fun t wr=>∃ (i:Nat) (o:List Nat),t=.int .i64 i∧i≤la.length∧Below w.heap.size w wr∧Row wr w.heap.size 125 (vals .u32 o)∧Hid (MulOut 4294967296 la lb o i)) (fun t _=>la.length - (intOf t).toNat)
 case atStart=>exact ⟨0,_,rfl,by omega,(Below.refl _ _).alloc (Nat.le_refl _) _,Row.new _ _ _,MulOut.start (by omega) la lb⟩
 case round=>
  obtain ⟨i,o0,rfl,hi,hbl,hrow,ho⟩:=hrel
  by_cases hlt:i<la.length
  ·obtain ⟨b1,o1,rfl,hc1⟩:=(U32s.keep hA hbl).at_ i hlt
   have hp:=dig_getD da (by omega) i
   obtain ⟨p,hpe⟩:∃ p,p=la.getD i 0:=⟨_,rfl⟩
   rw[← hpe]at hp hc1
   have HP:=Lib.hid hp;have HPE:=Lib.hid hpe;clear hp hpe
   go_wp2_with fail
   obtain ⟨wo,hwo⟩:∃ wo:World,wo=wr:=⟨_,rfl⟩
   go_loopw [10,32] (fun s t wi=>∃ (k x:Nat) (o:List Nat),s=.int .u64 x∧t=.int .i64 k∧k≤lb.length∧Below w.heap.size w wi∧Row wi w.heap.size 125 (vals .u32 o)∧Hid (MulIn 4294967296 lb o o0 p i k x)) (fun _ t _=>lb.length - (intOf t).toNat)
   case atStart=>exact ⟨0,0,o0,rfl,rfl,by omega,hbl,hrow,MulIn.start (by omega) ho.out.dg p i⟩
   case round=>
    obtain ⟨k,x,o,rfl,rfl,hk,hbi,hri,hin⟩:=hrel
    by_cases hkl:k<lb.length
    ·obtain ⟨b2,o2,rfl,hc2⟩:=(U32s.keep hB hbi).at_ k hkl
     have hlen:o.length=la.length+lb.length:=hin.out.len.trans ho.out.len
     have hcell:=hri.cell (i+k)
     rw[vals_get .u32 o (i+k) (by omega)]at hcell
     have hfree:=hri.free (i+k)
     have hst:=hin.out.step (by omega) db HP.out (by rw[ho.out.len];omega)
     have hq:=dig_getD db (by omega) k
     have hd:=dig_getD hin.out.dg (by omega) (i+k)
     have hx:=hin.out.small
     generalize lb.getD k 0=q at *
     generalize o.getD (i+k) 0=d at *
     have HS:Hid (MulIn 4294967296 lb (o.set (i+k) ((x+(p*q+d)) % 4294967296)) o0 p i (k+1) ((x+(p*q+d)) / 4294967296)):=hst
     have HE:=Lib.hid (mul_sum x p q d hx HP.out hq hd)
     clear hst hq hd hx
     go_wp2_with fail
     go_roundw
     case rel=>
      refine ⟨k+1,(x+(p*q+d)) / 4294967296,o.set (i+k) ((x+(p*q+d)) % 4294967296),?_,by go_num,by omega,hbi.setCell (Nat.le_refl _) _,?_,HS⟩
      ·rw[HE.out,div_half]
      ·rw[HE.out,show (((x+(p*q+d):Nat):Int) % 4294967296)=(((x+(p*q+d)) % 4294967296:Nat):Int)from (Int.natCast_emod _ _).symm,← vals_set];exact hri.set _ _
     case measure=>simp[intOf];omega
    ·obtain rfl:k=lb.length:=by omega
     have hlen:o.length=la.length+lb.length:=hin.out.len.trans ho.out.len
     have hcell:=hri.cell (i+lb.length)
     rw[vals_get .u32 o (i+lb.length) (by omega)]at hcell
     have hfree:=hri.free (i+lb.length)
     have hin':=hin.out
     rw[HPE.out]at hin'
     have hst:=ho.out.step (by omega) da hlt hin'
     have hx:=hin.out.small
     generalize o.getD (i+lb.length) 0=d at *
     have HS:Hid (MulOut 4294967296 la lb (o.set (i+lb.length) x) (i+1)):=hst
     have HX:=Lib.hid hx
     clear hst hx hin'
     go_wp2_with fail
     go_roundw
     case rel=>
      refine ⟨i+1,o.set (i+lb.length) x,by go_num,by omega,hbi.setCell (Nat.le_refl _) _,?_,HS⟩
      rw[show ((x:Int) % 4294967296)=(x:Int) by have:=HX.out;omega,← vals_set];exact hri.set _ _
     case measure=>simp[intOf];omega
  ·obtain rfl:i=la.length:=by omega
   have hd:=ho.out.done
   rw[VA.out,VB.out]at hd
   have hlen:=ho.out.len
   have hu:U32s wr (.slice (some ⟨w.heap.size,0,none⟩) (la.length+lb.length) (la.length+lb.length)) o0:=by
    have:=hrow.ints (l:=o0) (la.length+lb.length) (by omega)
    rwa [hlen]at this
   have CO:=Lib.hid (nat_of wr _ o0 hu ho.out.dg (by omega))
   have HD:=Lib.hid hd
   clear hd hlen
   go_wp2_with fail
   refine CO.out.mono ?_
   rintro e w' ⟨z,rfl,hz,hbz⟩
   rw[HD.out]at hz
   go_wp2
   go_ret
   exact ⟨z,rfl,hz,below_seq hbl hbz⟩
set_option maxRecDepth 100000 in
set_option maxHeartbeats 1000000 in
theorem nat_Bits (w:World) (v:Value) (a:Nat) (ha:NatAt w v a) (hal:(dgs a).length≤1000000000000) :
 Calls Tryz.prog 30 #[v] w (Rets (.int .i64 ((blen a:Nat):Int)) w):=by
 have CA:=Lib.hid (nat_digits w v a ha)
 obtain ⟨r,hr⟩:∃ r,r=blen a:=⟨_,rfl⟩
 rw[← hr]
 have HR:=Lib.hid hr;clear hr
 rcases Nat.eq_zero_or_pos (dgs a).length with h0|h0
 ·have ha0:a=0:=(digs_eq_nil (by omega)).1 (List.eq_nil_of_length_eq_zero h0)
  have hr0:r=0:=by rw[HR.out,ha0];rfl
  subst hr0
  go_enter Tryz.func30,Tryz.ntmps30
  go_wp2_with fail
  refine CA.out.mono ?_
  rintro e w' ⟨A,c,rfl,hA,rfl⟩
  generalize dgs a=la at *
  go_wp2
  go_ret
  exact ⟨rfl,rfl⟩
 ·obtain ⟨k,hk⟩:∃ k,(dgs a).length=k+1:=⟨(dgs a).length - 1,by omega⟩
  have ha0:a≠0:=fun e=>by rw[e,show dgs 0 = []from digs_zero _]at hk;simp at hk
  have hb:=blen_digs a ha0 k hk
  have da:dig 4294967296 (dgs a):=digs_dig (by omega) a
  have hb':r=32*k+blen ((dgs a).getD k 0):=HR.out.trans hb
  have hlt:=dig_getD da (by omega) k
  generalize hd:(dgs a).getD k 0=d at *
  have HB:=Lib.hid hb'
  have HD:=Lib.hid hd
  have CL:=Lib.hid (bits_Len d w (by omega))
  have hbl:blen d≤64:=blen_le (n:=d) (k:=64) (by omega)
  have HK:=Lib.hid hk
  have EW:=Lib.hid (wrap64_small d (by omega))
  clear hb hb' hd hlt da
  generalize blen d=bd at *
  go_enter Tryz.func30,Tryz.ntmps30
  go_wp2_with fail
  refine CA.out.mono ?_
  rintro e w' ⟨A,c,rfl,hA,rfl⟩
  generalize dgs a=la at *
  obtain ⟨b1,o1,rfl,hc1⟩:=hA.at_ k (by omega)
  rw[HD.out]at hc1
  have hlen:(la.length:Int) - 1=(k:Int):=by omega
  go_wp2_with fail
  rw[EW.out]
  refine CL.out.mono ?_
  rintro e w' ⟨rfl,rfl⟩
  go_wp2
  go_ret
  have:=HB.out
  exact ⟨ret_int (by omega),rfl⟩
set_option maxRecDepth 100000 in
set_option maxHeartbeats 1000000 in
theorem nat_Twos (w:World) (v:Value) (a:Nat) (ha:NatAt w v a) (hal:(dgs a).length≤1000000000000) :
 Calls Tryz.prog 31 #[v] w (Rets (.int .i64 ((tz a:Nat):Int)) w):=by
 have CA:=Lib.hid (nat_digits w v a ha)
 have da:dig 4294967296 (dgs a):=digs_dig (by omega) a
 have VA:Hid (val 4294967296 (dgs a)=a):=val_digs (by omega) a
 obtain ⟨r,hr⟩:∃ r,r=tz a:=⟨_,rfl⟩
 rw[← hr]
 have HR:=Lib.hid hr;clear hr
 go_enter Tryz.func31,Tryz.ntmps31
 go_wp2_with fail
 refine CA.out.mono ?_
 rintro e w' ⟨A,c,rfl,hA,rfl⟩
 generalize dgs a=la at *
 go_wp2_with fail
 go_loop [8] (fun t=>∃ k:Nat,t=.int .i64 k∧k≤la.length∧Hid (val 4294967296 (la.take k)=0)) (fun t=>la.length - (intOf t).toNat)
 case atStart=>exact ⟨0,rfl,by omega,rfl⟩
 case round=>
  obtain ⟨k,rfl,hk,hz⟩:=hrel
  by_cases hlt:k<la.length
  ·obtain ⟨b1,o1,rfl,hc1⟩:=hA.at_ k hlt
   have hd:=dig_getD da (by omega) k
   have hT:Hid (la.getD k 0≠0→r=32*k+tz (la.getD k 0)):=fun h=>by
    rw[HR.out,← VA.out];exact tz_digit hz.out h da
   have hZ:Hid (la.getD k 0=0→val 4294967296 (la.take (k+1))=0):=fun h=>by
    rw[val_take_step,hz.out,h];simp
   generalize la.getD k 0=d at *
   have EW:=Lib.hid (wrap64_small d (by omega))
   rcases Nat.eq_zero_or_pos d with h0|h0
   ·subst h0
    have hz2:=Lib.hid (hZ.out rfl)
    go_wp2_with fail
    go_round
    case rel=>exact ⟨k+1,by go_num,by omega,hz2.out⟩
    case measure=>simp[intOf];omega
   ·have hb:(((d:Nat):Int) != 0)=true:=by rw[bne_iff_ne];omega
    have CZ:=Lib.hid (bits_Zeros_1 d w (by omega) (by omega))
    have HF:=Lib.hid (hT.out (by omega))
    have hlt2:tz d<64:=tz_lt (n:=64) (by omega) (by omega)
    clear hd
    generalize tz d=td at *
    go_wp2_with fail
    rw[EW.out]
    refine CZ.out.mono ?_
    rintro e w' ⟨rfl,rfl⟩
    go_wp2
    go_ret
    have:=HF.out
    exact ⟨ret_int (by omega),rfl⟩
  ·obtain rfl:k=la.length:=by omega
   have h0:r=0:=by
    have:=hz.out
    rw[val_take_all _ _ _ (Nat.le_refl _),VA.out]at this
    rw[HR.out,this,tz_zero]
   subst h0
   go_wp2
   go_ret
   exact ⟨rfl,rfl⟩
end Go.Proofs.YtehbhghbagaliaaGreatDoor
set_option linter.unusedVariables false
set_option linter.unusedSimpArgs false
namespace Go.Proofs.YtehbhghbagaliaaGreatDoor
open Go.RowKit Vic
theorem _root_.Vic.U32s.cap {w:World}{A:Option Addr}{c:Nat}{l:List Nat}(h:U32s w (.slice A l.length c) l):l.length≤c:=by
 obtain ⟨A',c',hv,h2,_⟩:=h
 injection hv with _ _ h3
 omega
theorem _root_.Vic.U32s.cut {w:World}{b o c:Nat}{l:List Nat}(h:U32s w (.slice (some ⟨b,o,none⟩) l.length c) l) (q:Nat) (hq:q≤l.length) :
 U32s w (.slice (some ⟨b,o+q,none⟩) (l.length - q) (c - q)) (l.drop q):=by
 refine ⟨_,c - q,by rw[List.length_drop],by rw[List.length_drop];have:=h.cap;omega,fun i hi=>?_⟩
 rw[List.length_drop]at hi
 obtain ⟨b',o',hb,hc⟩:=h.at_ (q+i) (by omega)
 injection hb with hb
 injection hb with hb1 hb2
 subst hb1;subst hb2
 exact ⟨b,o+q,rfl,by rw[getD_drop,Nat.add_assoc];exact hc⟩
theorem u32_or_val (a b:Nat) (ha:a<4294967296) (hb:b<4294967296):bits .or .u32 ((a:Nat):Int) ((b:Nat):Int)=((a ||| b:Nat):Int):=u32_or_nat a b ha hb
theorem down_val (p p2 s:Nat) (hp:p<4294967296) (hp2:p2<4294967296) :
 bits .or .u64 (p:Int) (IntKind.u64.wrap ((p2:Int)*4294967296)) / 2 ^ s % 4294967296=(((p+p2*2 ^ 32) / 2 ^ s % 2 ^ 32:Nat):Int):=by
 rw[show IntKind.u64.wrap ((p2:Int)*4294967296)=(p2:Int)*4294967296 by rw[IntKind.wrap_u64];omega,or_up p p2 hp hp2,shr_val,
  show p+4294967296*p2=p+p2*2 ^ 32 by omega]
 generalize (p+p2*2 ^ 32) / 2 ^ s=y
 omega
theorem up_y (d s:Nat) (hd:d<4294967296) (h:d*2 ^ s<2 ^ 64):IntKind.u64.wrap (IntKind.u64.wrap (d:Int)*2 ^ s)=((d*2 ^ s:Nat):Int):=by
 rw[wrap64_small d hd,shl_val]
 exact congrArg (fun n:Nat=>(n:Int)) (Nat.mod_eq_of_lt h)
theorem up_lo (x d s:Nat) (hx:x<4294967296) (hd:d<4294967296) (h:d*2 ^ s<2 ^ 64) :
 bits .or .u32 (x:Int) (IntKind.u64.wrap (IntKind.u64.wrap (d:Int)*2 ^ s) % 4294967296)=((x ||| d*2 ^ s % 2 ^ 32:Nat):Int):=by
 rw[up_y d s hd h]
 generalize d*2 ^ s=y
 rw[show ((y:Nat):Int) % 4294967296=((y % 2 ^ 32:Nat):Int) by omega]
 exact u32_or_nat _ _ hx (by omega)
theorem up_hi (d s:Nat) (hd:d<4294967296) (h:d*2 ^ s<2 ^ 64) :
 IntKind.u64.wrap (IntKind.u64.wrap (d:Int)*2 ^ s) / 4294967296 % 4294967296=((d*2 ^ s / 2 ^ 32:Nat):Int):=by
 rw[up_y d s hd h]
 generalize d*2 ^ s=y at *
 omega
set_option maxRecDepth 100000 in
set_option maxHeartbeats 4000000 in
theorem nat_up (w:World) (v:Value) (a k:Nat) (ha:NatAt w v a) (hal:(dgs a).length≤500000000000) (hk:k≤1000000000000) :
 Calls Tryz.prog 122 #[v,.int .i64 k] w (Gives (fun x w'=>NatAt w' x (a*2 ^ k)) w):=by
 have CA:=Lib.hid (nat_digits w v a ha)
 have VA:Hid (val 4294967296 (dgs a)=a):=val_digs (by omega) a
 have da:dig 4294967296 (dgs a):=digs_dig (by omega) a
 generalize dgs a=la at *
 obtain ⟨q,hq⟩:∃ q,q=k / 32:=⟨_,rfl⟩
 obtain ⟨s,hs⟩:∃ s,s=k % 32:=⟨_,rfl⟩
 have hqb:q≤100000000000:=by omega
 have hsb:s<32:=by omega
 have eq1:((k:Nat):Int) / 32=(q:Int):=by omega
 have es:((k:Nat):Int) % 32=(s:Int):=by omega
 have hqs:k=32*q+s:=by omega
 have HQS:=Lib.hid hqs
 have hmk:∀ w,(Instr.makeSlice 123 (.int .i64 (la.length+q+1)) (.int .i64 (la.length+q+1))).run Tryz.prog w=.ok (.slice (some ⟨w.heap.size,0,none⟩) (la.length+q+1) (la.length+q+1)) (w.alloc (.cells (vals .u32 (List.replicate (la.length+q+1) 0)) 125)):=fun w=>mk_u32 _ _ (by omega) (by omega) w
 clear hq hs hqs
 go_enter Tryz.func122,Tryz.ntmps122
 go_wp2_with fail
 refine CA.out.mono ?_
 rintro e w' ⟨A,c,rfl,hA,rfl⟩
 go_wp2_with fail
 clear hmk
 go_loopw [21] (fun t wr=>∃ (i:Nat) (o:List Nat),t=.int .i64 i∧i≤la.length∧Below w.heap.size w wr∧Row wr w.heap.size 125 (vals .u32 o)∧Hid (UpInv la o q s i)) (fun t _=>la.length - (intOf t).toNat)
 case atStart=>exact ⟨0,_,rfl,by omega,(Below.refl _ _).alloc (Nat.le_refl _) _,Row.new _ _ _,UpInv.start la q s⟩
 case round=>
  obtain ⟨i,o,rfl,hi,hbl,hrow,ho⟩:=hrel
  by_cases hlt:i<la.length
  ·obtain ⟨b1,o1,rfl,hc1⟩:=(U32s.keep hA hbl).at_ i hlt
   have hlen:=ho.out.len
   have hcell:=hrow.cell (i+q)
   rw[vals_get .u32 o (i+q) (by omega)]at hcell
   have hfree:=hrow.free (i+q)
   have hst:=ho.out.step hsb da hlt
   have hd:=dig_getD da (by omega) i
   have hc:=dig_getD ho.out.dg (by omega) (i+q)
   have hcell2:=hrow.cell (i+q+1)
   rw[vals_get .u32 o (i+q+1) (by omega)]at hcell2
   have hfree2:=hrow.free (i+q+1)
   generalize la.getD i 0=d at *
   generalize o.getD (i+q) 0=x at *
   generalize o.getD (i+q+1) 0=z at *
   have HST:=Lib.hid hst
   have HD:=Lib.hid hd
   have HC:=Lib.hid hc
   clear hst hd hc
   go_wp2_with fail
   go_roundw
   case rel=>
    obtain ⟨f1,f2,f3,f4⟩:=HST.out
    refine ⟨i+1,_,by go_num,by omega,(hbl.setCell (Nat.le_refl _) _).setCell (Nat.le_refl _) _,?_,f4⟩
    rw[up_lo x d s HC.out HD.out f3,up_hi d s HD.out f3,← vals_set,← vals_set]
    exact (hrow.set _ _).set _ _
   case measure=>simp[intOf];omega
  ·obtain rfl:i=la.length:=by omega
   have hd:=ho.out.done
   rw[← HQS.out]at hd
   have hd':val 4294967296 o=a*2 ^ k:=by rw[← VA.out];exact hd
   have hlen:=ho.out.len
   have hu:U32s wr (.slice (some ⟨w.heap.size,0,none⟩) (la.length+q+1) (la.length+q+1)) o:=by
    have:=hrow.ints (l:=o) (la.length+q+1) (by omega)
    rwa [hlen]at this
   have CO:=Lib.hid (nat_of wr _ o hu ho.out.dg (by omega))
   have HD:=Lib.hid hd'
   clear hd hd' hlen
   go_wp2_with fail
   refine CO.out.mono ?_
   rintro e w' ⟨z,rfl,hz,hbz⟩
   rw[HD.out]at hz
   go_wp2
   go_ret
   exact ⟨z,rfl,hz,below_seq hbl hbz⟩
set_option maxRecDepth 100000 in
set_option maxHeartbeats 4000000 in
theorem nat_down (w:World) (v:Value) (a k:Nat) (ha:NatAt w v a) (hal:(dgs a).length≤1000000000000) (hk:k≤1000000000000000) :
 Calls Tryz.prog 124 #[v,.int .i64 k] w (Gives (fun x w'=>NatAt w' x (a / 2 ^ k)) w):=by
 have CA:=Lib.hid (nat_digits w v a ha)
 have VA:Hid (val 4294967296 (dgs a)=a):=val_digs (by omega) a
 have da:dig 4294967296 (dgs a):=digs_dig (by omega) a
 generalize dgs a=la at *
 obtain ⟨q,hq⟩:∃ q,q=k / 32:=⟨_,rfl⟩
 obtain ⟨s,hs⟩:∃ s,s=k % 32:=⟨_,rfl⟩
 have hqb:q≤1000000000000000:=by omega
 have hsb:s<32:=by omega
 have eq1:((k:Nat):Int) / 32=(q:Int):=by omega
 have es:((k:Nat):Int) % 32=(s:Int):=by omega
 have hqs:k=32*q+s:=by omega
 have HQS:=Lib.hid hqs
 have HQ:=Lib.hid hq
 clear hq hs hqs
 by_cases hlq:la.length≤q
 ·have h0:a / 2 ^ k=0:=by rw[← VA.out];exact down_none da k (by rw[← HQ.out];exact hlq)
  have CO:=Lib.hid (nat_of w (.slice none 0 0) [] (Ints.nil_ _ w) (dig_nil _) (by simp))
  rw[h0]
  clear h0
  go_enter Tryz.func124,Tryz.ntmps124
  go_wp2_with fail
  refine CA.out.mono ?_
  rintro e w' ⟨A,c,rfl,hA,rfl⟩
  go_wp2_with fail
  refine CO.out.mono ?_
  rintro e w' ⟨z,rfl,hz,hbz⟩
  go_wp2
  go_ret
  exact ⟨z,rfl,hz,hbz⟩
 ·have hmk:∀ w,(Instr.makeSlice 123 (.int .i64 (la.length - q:Nat)) (.int .i64 (la.length - q:Nat))).run Tryz.prog w=.ok (.slice (some ⟨w.heap.size,0,none⟩) (la.length - q) (la.length - q)) (w.alloc (.cells (vals .u32 (List.replicate (la.length - q) 0)) 125)):=fun w=>mk_u32 _ _ (by omega) (by omega) w
  go_enter Tryz.func124,Tryz.ntmps124
  go_wp2_with fail
  refine CA.out.mono ?_
  rintro e w' ⟨A,c,rfl,hA,rfl⟩
  obtain ⟨b1,o1,rfl,_⟩:=hA.at_ 0 (by omega)
  have hcq:¬ c=q:=by have:=hA.cap;omega
  have hcap:=hA.cap
  have hcut:=Lib.hid (hA.cut q (by omega))
  have hm:(la.drop q).length=la.length - q:=List.length_drop
  have dq:dig 4294967296 (la.drop q):=dig_drop da q
  obtain ⟨lq,hlqe⟩:∃ lq,lq=la.drop q:=⟨_,rfl⟩
  rw[← hlqe]at hm dq hcut
  have hval:val (2 ^ 32) lq / 2 ^ s=a / 2 ^ k:=by
   rw[hlqe,down_all da,← HQS.out];exact congrArg (· / 2 ^ k) VA.out
  have HV:=Lib.hid hval
  have HM:=Lib.hid hm
  clear hval hm hlqe hcap hA
  go_wp2_with fail
  clear hmk
  go_loopw [25] (fun t wr=>∃ (i:Nat) (o:List Nat),t=.int .i64 i∧i≤la.length - q∧Below w.heap.size w wr∧Row wr w.heap.size 125 (vals .u32 o)∧Hid (DownInv lq o s i)) (fun t _=>la.length - q - (intOf t).toNat)
  case atStart=>exact ⟨0,_,rfl,by omega,(Below.refl _ _).alloc (Nat.le_refl _) _,Row.new _ _ _,by rw[← HM.out];exact DownInv.start lq s⟩
  case round=>
   obtain ⟨i,o,rfl,hi,hbl,hrow,ho⟩:=hrel
   by_cases hlt:i<la.length - q
   ·have hlen:o.length=la.length - q:=ho.out.len.trans HM.out
    have hcell:=hrow.cell i
    rw[vals_get .u32 o i (by omega)]at hcell
    have hfree:=hrow.free i
    have hst:=ho.out.step hsb dq (by rw[HM.out];omega)
    have hp:=dig_getD dq (by omega) i
    have hp2:=dig_getD dq (by omega) (i+1)
    have C1:=Lib.hid (nat_at wr _ lq i (hcut.out.keep hbl) dq (by rw[HM.out];omega) (by omega))
    have c2:=nat_at wr _ lq (i+1) (hcut.out.keep hbl) dq (by rw[HM.out];omega) (by omega)
    rw[show (((i+1:Nat)):Int)=(i:Int)+1 from rfl]at c2
    have C2:=Lib.hid c2
    generalize lq.getD i 0=p at *
    generalize lq.getD (i+1) 0=p2 at *
    generalize o.getD i 0=z at *
    have HST:=Lib.hid hst
    have HP:=Lib.hid hp
    have HP2:=Lib.hid hp2
    clear hst hp hp2 c2 hlen
    go_wp2_with fail
    refine C1.out.mono ?_
    rintro e w' ⟨rfl,rfl⟩
    go_wp2_with fail
    refine C2.out.mono ?_
    rintro e w' ⟨rfl,rfl⟩
    go_wp2_with fail
    go_roundw
    case rel=>
     refine ⟨i+1,_,by go_num,by omega,hbl.setCell (Nat.le_refl _) _,?_,HST.out⟩
     rw[down_val p p2 s HP.out HP2.out,← vals_set]
     exact hrow.set _ _
    case measure=>simp[intOf];omega
   ·obtain rfl:i=la.length - q:=by omega
    have ho':=ho.out
    rw[← HM.out]at ho'
    have hd:=ho'.done dq
    rw[HV.out]at hd
    have hd':val 4294967296 o=a / 2 ^ k:=hd
    have hlen:o.length=la.length - q:=ho.out.len.trans HM.out
    have hu:U32s wr (.slice (some ⟨w.heap.size,0,none⟩) (la.length - q) (la.length - q)) o:=by
     have:=hrow.ints (l:=o) (la.length - q) (by omega)
     rwa [hlen]at this
    have CO:=Lib.hid (nat_of wr _ o hu ho.out.dg (by omega))
    have HD:=Lib.hid hd'
    clear hd hd' hlen ho'
    go_wp2_with fail
    refine CO.out.mono ?_
    rintro e w' ⟨z,rfl,hz,hbz⟩
    rw[HD.out]at hz
    go_wp2
    go_ret
    exact ⟨z,rfl,hz,below_seq hbl hbz⟩
end Go.Proofs.YtehbhghbagaliaaGreatDoor
set_option linter.unusedVariables false
set_option linter.unusedSimpArgs false
namespace Go.Proofs.YtehbhghbagaliaaGreatDoor
open Go.RowKit Vic
theorem short_or (r p:Nat) (hr:r<4294967296) (hp:p<4294967296) :
 bits .or .u64 (IntKind.u64.wrap ((r:Int)*4294967296)) (IntKind.u64.wrap (p:Int))=((r*4294967296+p:Nat):Int):=by
 rw[wrap64_small p hp,show IntKind.u64.wrap ((r:Int)*4294967296)=((r*4294967296:Nat):Int) by rw[IntKind.wrap_u64];omega,or_half _ _ (Nat.mul_mod_left _ _) (by omega) hp]
def ShortPost (l:List Nat) (y:Nat) (w:World) (e:Ending) (w':World):Prop:=
 ∃ (b:Nat) (o:List Nat),e=.returned (.tuple #[.slice (some ⟨b,0,none⟩) l.length l.length,.int .u64 ((val 4294967296 l % y:Nat):Int)]) ∧
   U32s w' (.slice (some ⟨b,0,none⟩) l.length l.length) o∧dig 4294967296 o∧o.length=l.length∧val 4294967296 o=val 4294967296 l / y∧Below w.heap.size w w'
set_option maxRecDepth 100000 in
set_option maxHeartbeats 2000000 in
theorem nat_short (w:World) (A:Option Addr) (c:Nat) (l:List Nat) (y:Nat) (h:U32s w (.slice A l.length c) l) (hd:dig 4294967296 l) (hl:l.length≤1000000000000) (hy:0<y) (hy2:y≤4294967296) :
 Calls Tryz.prog 81 #[.slice A l.length c,.int .u64 y] w (ShortPost l y w):=by
 have hmk:∀ w,(Instr.makeSlice 123 (.int .i64 l.length) (.int .i64 l.length)).run Tryz.prog w=.ok (.slice (some ⟨w.heap.size,0,none⟩) l.length l.length) (w.alloc (.cells (vals .u32 (List.replicate l.length 0)) 125)):=fun w=>mk_u32 _ _ rfl (by omega) w
 have HY:=Lib.hid hy2
 have hy1:(1:Int)≤y:=by omega
 clear hy2
 go_enter Tryz.func81,Tryz.ntmps81
 go_wp2_with fail
 clear hmk
 go_loopw [7,8] (fun s t wr=>∃ (j r:Nat) (o:List Nat),s=.int .u64 r∧t=.int .i64 ((j:Int) - 1)∧j≤l.length∧Below w.heap.size w wr∧Row wr w.heap.size 125 (vals .u32 o)∧Hid (ShortInv 4294967296 l o y j r)) (fun _ t _=>(intOf t+1).toNat)
 case atStart=>exact ⟨l.length,0,_,rfl,rfl,by omega,(Below.refl _ _).alloc (Nat.le_refl _) _,Row.new _ _ _,ShortInv.start (by omega) l hy⟩
 case round=>
  obtain ⟨j,r,o,rfl,rfl,hj,hbl,hrow,hi⟩:=hrel
  rcases Nat.eq_zero_or_pos j with h0|h0
  ·subst h0
   go_wp2
   go_ret2
   obtain ⟨d1,d2⟩:=hi.out.done
   have hlen:=hi.out.len
   refine ⟨w.heap.size,o,by rw[← d2];rfl,?_,hi.out.dg,hlen,d1,hbl⟩
   have:=hrow.ints (l:=o) l.length (by omega)
   rwa [hlen]at this
  ·obtain ⟨k,rfl⟩:∃ k,j=k+1:=⟨j - 1,by omega⟩
   obtain ⟨b1,o1,rfl,hc1⟩:=(U32s.keep h hbl).at_ k (by omega)
   have hcell:=hrow.cell k
   rw[vals_get .u32 o k (by rw[hi.out.len];omega)]at hcell
   have hfree:=hrow.free k
   have hst:=hi.out.step (by omega) hd (by omega)
   have hp:=dig_getD hd (by omega) k
   have hr:r<4294967296:=by have:=hi.out.small;have:=HY.out;omega
   generalize l.getD k 0=p at *
   generalize o.getD k 0=z at *
   have e1:=short_or r p hr hp
   have e2:((r*4294967296+p:Nat):Int) / (y:Int)=(((r*4294967296+p) / y:Nat):Int):=(Int.natCast_ediv _ _).symm
   have e3:((r*4294967296+p:Nat):Int) % (y:Int)=(((r*4294967296+p) % y:Nat):Int):=(Int.natCast_emod _ _).symm
   generalize (r*4294967296+p) / y=q at *
   generalize (r*4294967296+p) % y=r' at *
   generalize r*4294967296+p=m at *
   have HST:=Lib.hid hst
   clear hst hp hr
   go_wp2_with fail
   go_roundw
   case rel=>
    refine ⟨k,r',o.set k q,by rw[e3],rfl,by omega,hbl.setCell (Nat.le_refl _) _,?_,HST.out.2⟩
    have hq:=HST.out.1
    rw[wrap64_small q hq,show ((q:Int) % 4294967296)=q by omega,← vals_set]
    exact hrow.set _ _
   case measure=>simp[intOf]
end Go.Proofs.YtehbhghbagaliaaGreatDoor
