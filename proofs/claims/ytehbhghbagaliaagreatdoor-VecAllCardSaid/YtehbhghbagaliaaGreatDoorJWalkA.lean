/- Package nat: digits, small numbers, the order. And: Package bits: what each function returns. Package bits: shifts, sums, signs. Package bits: quotients. -/
import Derived.Test.YtehbhghbagaliaaGreatDoorProg
import Derived.WalkSpells
import Derived.WalkLawsBesides
import Derived.Test.YtehbhghbagaliaaGreatDoorJMemA
import Derived.Test.YtehbhghbagaliaaGreatDoorJPlainA
set_option linter.unusedVariables false
set_option linter.unusedSimpArgs false
namespace Go.Proofs.YtehbhghbagaliaaGreatDoor
open Go.RowKit Vic
theorem nat_at (w:World) (v:Value) (l:List Nat) (i:Nat) (h:U32s w v l) (hd:dig 4294967296 l) (hl:l.length≤1099511627776) (hi:i≤1099511627776) :
 Calls Tryz.prog 102 #[v,.int .i64 i] w (Rets (.int .u64 ((l.getD i 0:Nat):Int)) w):=by
 obtain ⟨d,hdd⟩:∃ d,d=l.getD i 0:=⟨_,rfl⟩
 have hlt:=dig_getD hd (by omega) i
 obtain ⟨A,c,rfl,hc,hcell⟩:=h
 by_cases hil:i<l.length
 ·obtain ⟨b,o,rfl,hcl⟩:=hcell i hil
  rw[← hdd]at hcl ⊢ hlt
  have hlt':((d:Nat):Int)<4294967296:=by omega
  clear hcell hdd hlt
  go_enter Tryz.func102,Tryz.ntmps102
  go_wp2
  go_ret
  exact ⟨rfl,rfl⟩
 ·have h0:d=0:=by rw[hdd];exact getD_big l i (by omega)
  rw[← hdd]
  clear hcell hdd hlt
  subst h0
  go_enter Tryz.func102,Tryz.ntmps102
  go_wp2
  go_ret
  exact ⟨rfl,rfl⟩
def DigsOf (l:List Nat) (w:World) (e:Ending) (w':World):Prop:=∃ A c,e=.returned (.slice A l.length c)∧U32s w (.slice A l.length c) l∧w=w'
theorem nat_digits (w:World) (v:Value) (n:Nat) (h:NatAt w v n):Calls Tryz.prog 79 #[v] w (DigsOf (dgs n) w):=by
 rcases h with ⟨rfl,rfl⟩|⟨b,s,rfl,hc,hs,_⟩
 ·go_enter Tryz.func79,Tryz.ntmps79
  go_wp2
  go_ret
  refine ⟨none,0,?_,?_,rfl⟩
  ·simp[dgs,digs_zero]
  ·rw[show dgs 0 = []from digs_zero _];exact Ints.nil_ _ _
 ·obtain ⟨A,c,rfl,h1,h2⟩:=hs
  go_enter Tryz.func79,Tryz.ntmps79
  go_wp2
  go_ret
  exact ⟨A,c,rfl,⟨A,c,rfl,h1,h2⟩,rfl⟩
theorem of_end (w:World) (A:Option Addr) (c:Nat) (l:List Nat) (k:Nat) (h:U32s w (.slice A l.length c) l) (hd:dig 4294967296 l) (hk:k≤l.length)
 (h0:∀ i,k≤i→i<l.length→l.getD i 0=0) (hk0:k=0∨l.getD (k - 1) 0≠0) :
 NatPtr (w.alloc (.cells #[.slice A k c] 129)) (.pointer (some ⟨w.heap.size,0,none⟩)) (val 4294967296 l):=by
 have e:=trimd_take l k hk h0 hk0
 rw[trimd_eq_digs (by omega) hd]at e
 obtain ⟨A',c',hv,hlc,hcell⟩:=h
 injection hv with h1 h2 h3
 subst h1;subst h3
 refine ⟨_,.slice A k c,rfl,by simp,?_,⟨_,_,Row.new _ _ _⟩⟩
 rw[e]
 have hlen:(l.take k).length=k:=by simp;omega
 refine ⟨A,c,by rw[hlen],by rw[hlen];omega,fun i hi=>?_⟩
 rw[hlen]at hi
 obtain ⟨b,o,hA,hc⟩:=hcell i (by omega)
 refine ⟨b,o,hA,?_⟩
 rw[getD_take l k i hi]
 exact cell_keep hc ((Below.refl _ _).alloc (Nat.le_refl _) _)
set_option maxHeartbeats 400000 in
theorem nat_ofpN (w:World) (v:Value) (l:List Nat) (h:U32s w v l) (hd:dig 4294967296 l) (hl:l.length≤1099511627776) :
 Calls Tryz.prog 57 #[v] w (Gives (fun x w'=>NatPtr w' x (val 4294967296 l)∧NewPtr w.heap.size x) w):=by
 have h':=h
 obtain ⟨A,c,rfl,hc,hcell⟩:=h
 go_enter Tryz.func57,Tryz.ntmps57
 go_wp2
 go_loop [3] (fun t=>∃ k:Nat,k≤l.length∧t=.int .i64 k∧Hid (∀ i,k≤i→i<l.length→l.getD i 0=0)) (fun t=>(intOf t).toNat)
 case atStart=>exact ⟨l.length,Nat.le_refl _,rfl,fun i h1 h2=>by omega⟩
 case round=>
  obtain ⟨k,hk,rfl,hz⟩:=hrel
  rcases Nat.eq_zero_or_pos k with hk0|hk0
  ·subst hk0
   go_wp2
   go_ret
   exact ⟨_,rfl,⟨of_end w A c l 0 h' hd (Nat.zero_le _) hz.out (.inl rfl),_,rfl,Nat.le_refl _⟩,(Below.refl _ _).alloc (Nat.le_refl _) _⟩
  ·obtain ⟨j,rfl⟩:∃ j,k=j+1:=⟨k - 1,by omega⟩
   obtain ⟨b,o,rfl,hcl⟩:=hcell j (by omega)
   obtain ⟨d,hdj⟩:∃ d,d=l.getD j 0:=⟨_,rfl⟩
   rw[← hdj]at hcl
   have HD:=Lib.hid hdj;clear hdj
   clear hcell
   go_wp2
   ·have h0:((d:Int) == 0)=true:=by assumption
    go_round
    case rel=>
     refine ⟨j,by omega,rfl,fun i h1 h2=>?_⟩
     by_cases e:i=j
     ·subst e;rw[← HD.out];simpa using h0
     ·exact hz.out i (by omega) h2
    case measure=>simp[intOf]
   ·have h0:((d:Int) == 0)=false:=by assumption
    go_ret
    refine ⟨_,rfl,⟨of_end w _ c l (j+1) h' hd hk hz.out (.inr ?_),_,rfl,Nat.le_refl _⟩,(Below.refl _ _).alloc (Nat.le_refl _) _⟩
    simp only[Nat.add_sub_cancel]
    rw[← HD.out];simpa using h0
theorem nat_ofp (w:World) (v:Value) (l:List Nat) (h:U32s w v l) (hd:dig 4294967296 l) (hl:l.length≤1099511627776) :
 Calls Tryz.prog 57 #[v] w (Gives (fun x w'=>NatPtr w' x (val 4294967296 l)) w):=
 (nat_ofpN w v l h hd hl).mono fun _ _ h=>h.mono fun _ _ h=>h.1
theorem nat_of (w:World) (v:Value) (l:List Nat) (h:U32s w v l) (hd:dig 4294967296 l) (hl:l.length≤1099511627776) :
 Calls Tryz.prog 57 #[v] w (Gives (fun x w'=>NatAt w' x (val 4294967296 l)) w):=
 (nat_ofp w v l h hd hl).mono fun _ _ h=>h.mono fun _ _=>NatPtr.at_
theorem of_val (x:Nat):val 4294967296 [x % 4294967296,x / 4294967296]=x:=by
 simp only[val];omega
theorem nat_Ofp (w:World) (x:Nat) (hx:x<18446744073709551616) :
 Calls Tryz.prog 60 #[.int .u64 x] w (Gives (fun v w'=>NatPtr w' v x) w):=by
 have e1:((x:Nat):Int) % 4294967296=((x % 4294967296:Nat):Int):=by omega
 have e2:((x:Nat):Int) / 4294967296=((x / 4294967296:Nat):Int):=by omega
 have hr:=Row.new w 125 (vals .u32 [x % 4294967296,x / 4294967296])
 have hc:=nat_ofp _ _ _ (hr.ints 2 (by simp)) (by simp[dig];omega) (by simp)
 rw[of_val]at hc
 have HC:=Lib.hid hc;have E1:=Lib.hid e1;have E2:=Lib.hid e2;clear hc hr e1 e2
 go_enter Tryz.func60,Tryz.ntmps60
 go_wp2_with fail
 rw[E1.out,E2.out]
 refine HC.out.mono ?_
 rintro e w' ⟨v,rfl,hv,hb⟩
 go_wp2
 go_ret
 exact ⟨v,rfl,hv,((Below.refl _ _).alloc (Nat.le_refl _) _).trans (hb.mono (by simp))⟩
theorem nat_Of (w:World) (x:Nat) (hx:x<18446744073709551616) :
 Calls Tryz.prog 60 #[.int .u64 x] w (Gives (fun v w'=>NatAt w' v x) w):=
 (nat_Ofp w x hx).mono fun _ _ h=>h.mono fun _ _=>NatPtr.at_
set_option maxHeartbeats 1000000 in
theorem nat_Cmp (w:World) (u v:Value) (a b:Nat) (ha:NatAt w u a) (hb:NatAt w v b) (hal:(dgs a).length≤1000000000000) (hbl:(dgs b).length≤1000000000000) :
 Calls Tryz.prog 91 #[u,v] w (Rets (.int .i64 (cmpI a b)) w):=by
 have ca:=nat_digits w u a ha
 have cb:=nat_digits w v b hb
 have CA:=Lib.hid ca;clear ca
 have CB:=Lib.hid cb;clear cb
 obtain ⟨r,hr⟩:∃ r,r=cmpI a b:=⟨_,rfl⟩
 rw[← hr]
 have HR:=Lib.hid hr;clear hr
 have va:val 4294967296 (dgs a)=a:=val_digs (by omega) a
 have vb:val 4294967296 (dgs b)=b:=val_digs (by omega) b
 have VA:=Lib.hid va;have VB:=Lib.hid vb;clear va vb
 have da:dig 4294967296 (dgs a):=digs_dig (by omega) a
 have db:dig 4294967296 (dgs b):=digs_dig (by omega) b
 go_enter Tryz.func91,Tryz.ntmps91
 go_wp2_with fail
 refine CA.out.mono ?_
 rintro e w' ⟨A,c,rfl,hA,rfl⟩
 go_wp2_with fail
 refine CB.out.mono ?_
 rintro e w' ⟨A',c',rfl,hB,rfl⟩
 generalize dgs a=la at *
 generalize dgs b=lb at *
 go_wp2_with fail
 all_goals
  go_loop [7] (fun t=>∃ j:Nat,t=.int .i64 ((j:Int) - 1)∧j≤1000000000000∧Hid (val 4294967296 (la.drop j)=val 4294967296 (lb.drop j))) (fun t=>(intOf t+1).toNat)
  case atStart=>first
   | exact ⟨lb.length,rfl,hbl,by rw[List.drop_of_length_le (by omega),List.drop_of_length_le (Nat.le_refl _)];rfl⟩
   | exact ⟨la.length,rfl,hal,by rw[List.drop_of_length_le (Nat.le_refl _),List.drop_of_length_le (by omega)];rfl⟩
  case round=>
   obtain ⟨j,rfl,hj,hd⟩:=hrel
   rcases Nat.eq_zero_or_pos j with h0|h0
   ·subst h0
    go_wp2
    go_ret
    refine ⟨ret_int ?_,rfl⟩
    rw[HR.out]
    have e:=hd.out
    simp only[List.drop_zero]at e
    rw[VA.out,VB.out]at e
    exact (cmpI_eq e).symm
   ·obtain ⟨k,rfl⟩:∃ k,j=k+1:=⟨j - 1,by omega⟩
    have c1:=nat_at w _ la k hA da (by omega) (by omega)
    have c2:=nat_at w _ lb k hB db (by omega) (by omega)
    have C1:=Lib.hid c1;have C2:=Lib.hid c2;clear c1 c2
    have hs1:Hid (val 4294967296 (la.drop k)=la.getD k 0+4294967296*val 4294967296 (la.drop (k+1))):=val_drop_step _ la k
    have hs2:Hid (val 4294967296 (lb.drop k)=lb.getD k 0+4294967296*val 4294967296 (lb.drop (k+1))):=val_drop_step _ lb k
    have hl1:Hid (la.getD k 0<lb.getD k 0→a<b):=fun h=>by
     have:=lt_of_digit (by omega) da k hd.out h
     rwa [VA.out,VB.out]at this
    have hl2:Hid (lb.getD k 0<la.getD k 0→b<a):=fun h=>by
     have:=lt_of_digit (by omega) db k hd.out.symm h
     rwa [VA.out,VB.out]at this
    generalize la.getD k 0=x at *
    generalize lb.getD k 0=y at *
    go_wp2_with fail
    refine C1.out.mono ?_
    rintro e w' ⟨rfl,rfl⟩
    go_wp2_with fail
    refine C2.out.mono ?_
    rintro e w' ⟨rfl,rfl⟩
    rcases Nat.lt_trichotomy x y with hxy|hxy|hxy
    ·have b1:(((x:Nat):Int) != ((y:Nat):Int))=true:=by rw[bne_iff_ne];omega
     go_wp2
     go_ret
     exact ⟨ret_int (by rw[HR.out,cmpI_lt (hl1.out hxy)]),rfl⟩
    ·subst hxy
     go_wp2
     go_round
     case rel=>exact ⟨k,by go_num,by omega,by rw[hs1.out,hs2.out,hd.out];exact rfl⟩
     case measure=>simp[intOf]
    ·have b1:(((x:Nat):Int) != ((y:Nat):Int))=true:=by rw[bne_iff_ne];omega
     go_wp2
     go_ret
     exact ⟨ret_int (by rw[HR.out,cmpI_gt (hl2.out hxy)]),rfl⟩
theorem word_small {a:Nat}(h:(dgs a).length≤2):a<18446744073709551616:=by
 have h1:=lt_pow_digs_length (B:=4294967296) (by omega) a
 have h2:4294967296 ^ (dgs a).length≤4294967296 ^ 2:=Nat.pow_le_pow_right (by omega) h
 exact Nat.lt_of_lt_of_le h1 h2
theorem word_big {a:Nat}(h:2<(dgs a).length):18446744073709551616≤a:=pow_le_of_digs_length (B:=4294967296) (k:=2) (by omega) h
theorem or_zero (x:Nat) (h:x<18446744073709551616):bits .or .u64 0 ((x:Nat):Int)=((x:Nat):Int):=by
 have:=u64_or_nat 0 x (by omega) h
 rw[Nat.zero_or]at this;exact this
theorem or_up (x y:Nat) (hx:x<4294967296) (hy:y<4294967296):bits .or .u64 ((x:Nat):Int) (((y:Nat):Int)*4294967296)=((x+4294967296*y:Nat):Int):=by
 rw[mul_half,u64_or_nat _ _ (by omega) (by omega),Nat.or_comm,nat_join 32 _ _ (Nat.mul_mod_left _ _) hx]
 congr 1;omega
set_option maxRecDepth 100000 in
set_option maxHeartbeats 1000000 in
theorem nat_Word (w:World) (v:Value) (a:Nat) (ha:NatAt w v a) (hal:(dgs a).length≤1000000000000) :
 Calls Tryz.prog 151 #[v] w (Rets (.tuple #[.int .u64 ((if a<18446744073709551616 then a else 0:Nat):Int),.bool (decide (a<18446744073709551616))]) w):=by
 have ca:=nat_digits w v a ha
 have CA:=Lib.hid ca;clear ca
 have va:val 4294967296 (dgs a)=a:=val_digs (by omega) a
 have da:dig 4294967296 (dgs a):=digs_dig (by omega) a
 by_cases hl:2<(dgs a).length
 ·have hb:=word_big hl
  rw[if_neg (by omega),decide_eq_false (by omega)]
  clear hb va da
  go_enter Tryz.func151,Tryz.ntmps151
  go_wp2_with fail
  refine CA.out.mono ?_
  rintro e w' ⟨A,c,rfl,hA,rfl⟩
  generalize dgs a=la at *
  go_wp2
  go_ret2
  exact ⟨rfl,rfl⟩
 ·have hb:=word_small (a:=a) (by omega)
  rw[if_pos hb,decide_eq_true hb]
  obtain ⟨r,hr⟩:∃ r,r=a:=⟨_,rfl⟩
  rw[← hr]
  have HR:=Lib.hid hr;clear hr
  have VA:=Lib.hid va
  have DA:=Lib.hid da
  clear hb va da
  go_enter Tryz.func151,Tryz.ntmps151
  go_wp2_with fail
  refine CA.out.mono ?_
  rintro e w' ⟨A,c,rfl,hA,rfl⟩
  generalize dgs a=la at *
  obtain ⟨A',c',hv,_,hcell⟩:=hA
  injection hv with h1 h2 h3
  subst h1;subst h3
  match la,hl,VA,DA,hcell with
  | [],_,VA,_,_=>
    have h0:r=0:=HR.out.trans VA.out.symm
    subst h0
    clear HR
    go_wp2
    go_loop [4,15] (fun x t=>x=.int .u64 0∧t=.int .i64 0) (fun _ _=>0)
    case atStart=>exact ⟨rfl,rfl⟩
    case round=>
     obtain ⟨rfl,rfl⟩:=hrel
     go_wp2
     go_ret2
     exact ⟨rfl,rfl⟩
  | [p],_,VA,DA,hcell=>
    have h0:r=p:=by have:=VA.out;rw[HR.out,← this];simp[val]
    clear HR
    obtain rfl:p=r:=h0.symm
    obtain ⟨b,o,rfl,hc0⟩:=hcell 0 (by simp)
    have hp:p<4294967296:=DA.out p (by simp)
    have e1:=or_zero p (by omega)
    have hp':((p:Nat):Int)<4294967296:=by omega
    simp only[List.getD_cons_zero,Nat.add_zero]at hc0
    clear hcell hp
    go_wp2
    go_loop [4,15] (fun x t=>(x=.int .u64 0∧t=.int .i64 0)∨(x=.int .u64 p∧t=.int .i64 1)) (fun _ t=>1 - (intOf t).toNat)
    case atStart=>exact .inl ⟨rfl,rfl⟩
    case round=>
     rcases hrel with ⟨rfl,rfl⟩|⟨rfl,rfl⟩
     ·go_wp2
      go_round
      case rel=>exact .inr ⟨rfl,rfl⟩
      case measure=>simp[intOf]
     ·go_wp2
      go_ret2
      exact ⟨rfl,rfl⟩
  | [p,q],_,VA,DA,hcell=>
    have hr:r=p+4294967296*q:=by have:=VA.out;rw[HR.out,← this];simp[val]
    obtain ⟨b,o,rfl,hc0⟩:=hcell 0 (by simp)
    obtain ⟨b',o',hbo,hc1⟩:=hcell 1 (by simp)
    injection hbo with hbo
    injection hbo with hb1 hb2
    subst hb1;subst hb2
    have hp:p<4294967296:=DA.out p (by simp)
    have hq:q<4294967296:=DA.out q (by simp)
    have e1:=or_zero p (by omega)
    have e2:=or_up p q hp hq
    have hp':((p:Nat):Int)<4294967296:=by omega
    have hq':((q:Nat):Int)<4294967296:=by omega
    simp only[List.getD_cons_zero,List.getD_cons_succ,Nat.add_zero]at hc0 hc1
    rw[← hr]at e2
    clear hcell hp hq hr HR
    go_wp2
    go_loop [4,15] (fun x t=>(x=.int .u64 0∧t=.int .i64 0)∨(x=.int .u64 p∧t=.int .i64 1)∨(x=.int .u64 r∧t=.int .i64 2)) (fun _ t=>2 - (intOf t).toNat)
    case atStart=>exact .inl ⟨rfl,rfl⟩
    case round=>
     rcases hrel with ⟨rfl,rfl⟩|⟨rfl,rfl⟩|⟨rfl,rfl⟩
     ·go_wp2
      go_round
      case rel=>exact .inr (.inl ⟨rfl,rfl⟩)
      case measure=>simp[intOf]
     ·go_wp2
      go_round
      case rel=>exact .inr (.inr ⟨rfl,rfl⟩)
      case measure=>simp[intOf]
     ·go_wp2
      go_ret2
      exact ⟨rfl,rfl⟩
  | p :: q :: r :: l,hl,_,_,_=>exact absurd (by simp) hl
end Go.Proofs.YtehbhghbagaliaaGreatDoor
set_option linter.unusedVariables false
set_option linter.unusedSimpArgs false
namespace Go.Proofs.YtehbhghbagaliaaGreatDoor
open Go.RowKit Vic
theorem bits_Mul (x y:Nat) (w:World) (hx:x<18446744073709551616) (hy:y<18446744073709551616) :
 Calls Tryz.prog 22 #[.int .u64 x,.int .u64 y] w (Rets (.tuple #[.int .u64 ((x*y / 18446744073709551616:Nat):Int),.int .u64 ((x*y % 18446744073709551616:Nat):Int)]) w):=by
 go_enter Tryz.func22,Tryz.ntmps22
 go_wp2
 go_ret2
 refine ⟨?_,rfl⟩
 refine ret2_int ?_ ?_
 ·simp (disch:=omega) only[and_mask,div_half,← Int.natCast_mul,← Int.natCast_add,wrap64_nat]
  exact congrArg (fun n:Nat=>(n:Int)) (mul_words x y hx hy).1
 ·simp (disch:=omega) only[and_mask,div_half,mul_half,← Int.natCast_mul,← Int.natCast_add,wrap64_nat,or_half]
  exact congrArg (fun n:Nat=>(n:Int)) (mul_words x y hx hy).2
set_option maxHeartbeats 1000000 in
theorem bits_Len (x:Nat) (w:World) (hx:x<18446744073709551616) :
 Calls Tryz.prog 35 #[.int .u64 x] w (Rets (.int .i64 (blen x:Nat)) w):=by
 go_enter Tryz.func35,Tryz.ntmps35
 go_wp2
 go_loop [0,3,4] (fun a n b=>∃ y m s:Nat,a=.int .u64 y∧n=.int .i64 m∧b=.int .i64 s∧(s=32∨s=16∨s=8∨s=4∨s=2∨s=1∨s=0)∧y<18446744073709551616∧m+2*s≤64∧Hid (LenInv x y m s)) (fun _ _ b=>(intOf b).toNat)
 case atStart=>exact ⟨x,0,32,rfl,rfl,rfl,.inl rfl,hx,by omega,LenInv.start hx⟩
 case round=>
  obtain ⟨y,m,s,rfl,rfl,rfl,hs,hy,hm,hi⟩:=hrel
  rcases hs with rfl|rfl|rfl|rfl|rfl|rfl|rfl
  ·go_wp2
   ·have ht:(((y:Nat):Int) / 4294967296 != 0)=true:=by assumption
    go_round
    case rel=>exact ⟨y / 4294967296,m+32,16,rfl,rfl,rfl,by simp,by omega,by omega,hi.out.up' (p:=4294967296) rfl rfl (.inr rfl) (by omega) ht⟩
    case measure=>simp[intOf]
   ·have ht:(((y:Nat):Int) / 4294967296 != 0)=false:=by assumption
    go_round
    case rel=>exact ⟨y,m,16,rfl,rfl,rfl,by simp,by omega,by omega,hi.out.stay' (p:=4294967296) rfl rfl (.inr rfl) (by omega) ht⟩
    case measure=>simp[intOf]
  ·go_wp2
   ·have ht:(((y:Nat):Int) / 65536 != 0)=true:=by assumption
    go_round
    case rel=>exact ⟨y / 65536,m+16,8,rfl,rfl,rfl,by simp,by omega,by omega,hi.out.up' (p:=65536) rfl rfl (.inr rfl) (by omega) ht⟩
    case measure=>simp[intOf]
   ·have ht:(((y:Nat):Int) / 65536 != 0)=false:=by assumption
    go_round
    case rel=>exact ⟨y,m,8,rfl,rfl,rfl,by simp,by omega,by omega,hi.out.stay' (p:=65536) rfl rfl (.inr rfl) (by omega) ht⟩
    case measure=>simp[intOf]
  ·go_wp2
   ·have ht:(((y:Nat):Int) / 256 != 0)=true:=by assumption
    go_round
    case rel=>exact ⟨y / 256,m+8,4,rfl,rfl,rfl,by simp,by omega,by omega,hi.out.up' (p:=256) rfl rfl (.inr rfl) (by omega) ht⟩
    case measure=>simp[intOf]
   ·have ht:(((y:Nat):Int) / 256 != 0)=false:=by assumption
    go_round
    case rel=>exact ⟨y,m,4,rfl,rfl,rfl,by simp,by omega,by omega,hi.out.stay' (p:=256) rfl rfl (.inr rfl) (by omega) ht⟩
    case measure=>simp[intOf]
  ·go_wp2
   ·have ht:(((y:Nat):Int) / 16 != 0)=true:=by assumption
    go_round
    case rel=>exact ⟨y / 16,m+4,2,rfl,rfl,rfl,by simp,by omega,by omega,hi.out.up' (p:=16) rfl rfl (.inr rfl) (by omega) ht⟩
    case measure=>simp[intOf]
   ·have ht:(((y:Nat):Int) / 16 != 0)=false:=by assumption
    go_round
    case rel=>exact ⟨y,m,2,rfl,rfl,rfl,by simp,by omega,by omega,hi.out.stay' (p:=16) rfl rfl (.inr rfl) (by omega) ht⟩
    case measure=>simp[intOf]
  ·go_wp2
   ·have ht:(((y:Nat):Int) / 4 != 0)=true:=by assumption
    go_round
    case rel=>exact ⟨y / 4,m+2,1,rfl,rfl,rfl,by simp,by omega,by omega,hi.out.up' (p:=4) rfl rfl (.inr rfl) (by omega) ht⟩
    case measure=>simp[intOf]
   ·have ht:(((y:Nat):Int) / 4 != 0)=false:=by assumption
    go_round
    case rel=>exact ⟨y,m,1,rfl,rfl,rfl,by simp,by omega,by omega,hi.out.stay' (p:=4) rfl rfl (.inr rfl) (by omega) ht⟩
    case measure=>simp[intOf]
  ·go_wp2
   ·have ht:(((y:Nat):Int) / 2 != 0)=true:=by assumption
    go_round
    case rel=>exact ⟨y / 2,m+1,0,rfl,rfl,rfl,by simp,by omega,by omega,hi.out.up' (p:=2) rfl rfl (.inl rfl) (by omega) ht⟩
    case measure=>simp[intOf]
   ·have ht:(((y:Nat):Int) / 2 != 0)=false:=by assumption
    go_round
    case rel=>exact ⟨y,m,0,rfl,rfl,rfl,by simp,by omega,by omega,hi.out.stay' (p:=2) rfl rfl (.inl rfl) (by omega) ht⟩
    case measure=>simp[intOf]
  ·have hd:=hi.out.done
   obtain ⟨hd1,hd2⟩:=hd
   have H:=Lib.hid hd1;clear hd1
   go_wp2
   go_ret
   refine ⟨ret_int ?_,rfl⟩
   rw[← H.out]
   exact (Int.natCast_add _ _).symm
end Go.Proofs.YtehbhghbagaliaaGreatDoor
set_option linter.unusedVariables false
set_option linter.unusedSimpArgs false
namespace Go.Proofs.YtehbhghbagaliaaGreatDoor
open Go.RowKit Vic
theorem bits_Shl_far (x:Nat) (n:Int) (w:World) (hx:x<18446744073709551616) (h1 : -9223372036854775808≤n) (h2:n≤9223372036854775807) (h:64≤n∨n≤-64) :
 Calls Tryz.prog 53 #[.int .u64 x,.int .i64 n] w (Rets (.int .u64 0) w):=by
 rcases h with h|h
 ·go_enter Tryz.func53,Tryz.ntmps53
  go_wp2
  go_ret
  exact ⟨rfl,rfl⟩
 ·go_enter Tryz.func53,Tryz.ntmps53
  go_wp2
  go_ret
  exact ⟨rfl,rfl⟩
theorem bits_Shl_pos (x:Nat) (n:Nat) (w:World) (hx:x<18446744073709551616) (h:n<64) :
 Calls Tryz.prog 53 #[.int .u64 x,.int .i64 n] w (Rets (.int .u64 ((x*2 ^ n % 18446744073709551616:Nat):Int)) w):=by
 go_enter Tryz.func53,Tryz.ntmps53
 go_wp2
 go_ret
 exact ⟨ret_int (shl_val x n),rfl⟩
theorem bits_Shl_neg (x:Nat) (n:Nat) (w:World) (hx:x<18446744073709551616) (h:n<64) (h0:0<n) :
 Calls Tryz.prog 53 #[.int .u64 x,.int .i64 (-(n:Int))] w (Rets (.int .u64 ((x / 2 ^ n:Nat):Int)) w):=by
 go_enter Tryz.func53,Tryz.ntmps53
 go_wp2
 go_ret
 exact ⟨ret_int (shr_val x n),rfl⟩
theorem bits_Shl (x:Nat) (n:Int) (w:World) (hx:x<18446744073709551616) (h1 : -9223372036854775808≤n) (h2:n≤9223372036854775807) :
 Calls Tryz.prog 53 #[.int .u64 x,.int .i64 n] w (Rets (.int .u64 ((shlN x n:Nat):Int)) w):=by
 unfold shlN
 by_cases h:64≤n∨n≤-64
 ·rw[if_pos h];exact bits_Shl_far x n w hx h1 h2 h
 ·rw[if_neg h]
  by_cases h0:n<0
  ·rw[if_pos h0]
   obtain ⟨k,hk⟩:∃ k:Nat,n=-(k:Int):=⟨(-n).toNat,by omega⟩
   subst hk
   rw[show (- -(k:Int)).toNat=k by omega]
   exact bits_Shl_neg x k w hx (by omega) (by omega)
  ·rw[if_neg h0]
   obtain ⟨k,hk⟩:∃ k:Nat,n=(k:Int):=⟨n.toNat,by omega⟩
   subst hk
   rw[Int.toNat_natCast]
   exact bits_Shl_pos x k w hx (by omega)
theorem bits_Shr_far (x:Nat) (n:Int) (w:World) (hx:x<18446744073709551616) (h1 : -9223372036854775808≤n) (h2:n≤9223372036854775807) (h:64≤n∨n≤-64) :
 Calls Tryz.prog 54 #[.int .u64 x,.int .i64 n] w (Rets (.int .u64 0) w):=by
 rcases h with h|h
 ·go_enter Tryz.func54,Tryz.ntmps54
  go_wp2
  go_ret
  exact ⟨rfl,rfl⟩
 ·go_enter Tryz.func54,Tryz.ntmps54
  go_wp2
  go_ret
  exact ⟨rfl,rfl⟩
theorem bits_Shr_pos (x:Nat) (n:Nat) (w:World) (hx:x<18446744073709551616) (h:n<64) :
 Calls Tryz.prog 54 #[.int .u64 x,.int .i64 n] w (Rets (.int .u64 ((x / 2 ^ n:Nat):Int)) w):=by
 go_enter Tryz.func54,Tryz.ntmps54
 go_wp2
 go_ret
 exact ⟨ret_int (shr_val x n),rfl⟩
theorem bits_Shr_neg (x:Nat) (n:Nat) (w:World) (hx:x<18446744073709551616) (h:n<64) (h0:0<n) :
 Calls Tryz.prog 54 #[.int .u64 x,.int .i64 (-(n:Int))] w (Rets (.int .u64 ((x*2 ^ n % 18446744073709551616:Nat):Int)) w):=by
 go_enter Tryz.func54,Tryz.ntmps54
 go_wp2
 go_ret
 exact ⟨ret_int (shl_val x n),rfl⟩
theorem bits_Shr (x:Nat) (n:Int) (w:World) (hx:x<18446744073709551616) (h1 : -9223372036854775808≤n) (h2:n≤9223372036854775807) :
 Calls Tryz.prog 54 #[.int .u64 x,.int .i64 n] w (Rets (.int .u64 ((shrN x n:Nat):Int)) w):=by
 unfold shrN
 by_cases h:64≤n∨n≤-64
 ·rw[if_pos h];exact bits_Shr_far x n w hx h1 h2 h
 ·rw[if_neg h]
  by_cases h0:n<0
  ·rw[if_pos h0]
   obtain ⟨k,hk⟩:∃ k:Nat,n=-(k:Int):=⟨(-n).toNat,by omega⟩
   subst hk
   rw[show (- -(k:Int)).toNat=k by omega]
   exact bits_Shr_neg x k w hx (by omega) (by omega)
  ·rw[if_neg h0]
   obtain ⟨k,hk⟩:∃ k:Nat,n=(k:Int):=⟨n.toNat,by omega⟩
   subst hk
   rw[Int.toNat_natCast]
   exact bits_Shr_pos x k w hx (by omega)
theorem bits_Zeros_0 (w:World):Calls Tryz.prog 80 #[.int .u64 0] w (Rets (.int .i64 64) w):=by
 go_enter Tryz.func80,Tryz.ntmps80
 go_wp2
 go_ret
 exact ⟨rfl,rfl⟩
theorem and_low (x:Nat) (hx:x<18446744073709551616) (h0:x≠0):bits .and .u64 ((x:Nat):Int) (IntKind.u64.wrap (-((x:Nat):Int)))=((2 ^ tz x:Nat):Int):=by
 have e:IntKind.u64.wrap (-((x:Nat):Int))=((18446744073709551616 - x:Nat):Int):=by rw[IntKind.wrap_u64];omega
 rw[e,u64_and_nat _ _ hx (by omega),low_bit x h0 hx]
theorem bits_Zeros_1 (x:Nat) (w:World) (hx:x<18446744073709551616) (h0:x≠0):Calls Tryz.prog 80 #[.int .u64 x] w (Rets (.int .i64 (tz x:Nat)) w):=by
 have hb:(((x:Nat):Int) == 0)=false:=by simp;exact h0
 have ht:=tz_lt (n:=64) h0 hx
 have hl:=and_low x hx h0
 have h2:2 ^ tz x<18446744073709551616:=(show 2 ^ tz x<2 ^ 64 from Nat.pow_lt_pow_right (by omega) ht)
 have hB:=bits_Len (2 ^ tz x) w h2
 rw[blen_two_pow]at hB
 clear h2
 have HL:=Lib.hid hl;clear hl
 go_enter Tryz.func80,Tryz.ntmps80
 go_wp2_with fail
 rw[HL.out]
 refine hB.mono ?_
 rintro e w' ⟨rfl,rfl⟩
 go_wp2
 go_ret
 exact ⟨ret_int (by omega),rfl⟩
def zeros64 (x:Nat):Nat:=if x=0 then 64 else tz x
theorem bits_Zeros (x:Nat) (w:World) (hx:x<18446744073709551616):Calls Tryz.prog 80 #[.int .u64 x] w (Rets (.int .i64 (zeros64 x:Nat)) w):=by
 unfold zeros64
 by_cases h:x=0
 ·subst h;exact bits_Zeros_0 w
 ·rw[if_neg h];exact bits_Zeros_1 x w hx h
theorem bits_Abs (x:Int) (w:World) (h1 : -9223372036854775808≤x) (h2:x≤9223372036854775807) :
 Calls Tryz.prog 78 #[.int .i64 x] w (Rets (.int .u64 (x.natAbs:Nat)) w):=by
 rcases Int.lt_or_le x 0 with h|h
 ·go_enter Tryz.func78,Tryz.ntmps78
  go_wp2
  go_ret
  exact ⟨ret_int (by rw[IntKind.wrap_u64,IntKind.wrap_u64];omega),rfl⟩
 ·go_enter Tryz.func78,Tryz.ntmps78
  go_wp2
  go_ret
  exact ⟨ret_int (by omega),rfl⟩
def narrowI (x:Int) (n:Nat):Int:=wrap64 (x*2 ^ (64 - n)) / 2 ^ (64 - n)
def sarI (x n:Int):Int:=if n≤-64 then 0 else if n<0 then wrap64 (x*2 ^ (-n).toNat)else if n≤63 then x / 2 ^ n.toNat else x / 2 ^ 63
end Go.Proofs.YtehbhghbagaliaaGreatDoor
set_option linter.unusedVariables false
set_option linter.unusedSimpArgs false
namespace Go.Proofs.YtehbhghbagaliaaGreatDoor
open Go.RowKit Vic
theorem quo_nat (u y:Nat):(((u:Nat):Int) / ((y / 4294967296:Nat):Int))=((u / (y / 4294967296):Nat):Int):=by simp
theorem digit_m (r next:Nat) (hr:(r:Int)<4294967296) (hn:(next:Int)<4294967296) :
 ∃ m:Nat,m=r*4294967296+next∧bits .or .u64 ((r:Int)*4294967296) ((next:Nat):Int)=((m:Nat):Int):=
 ⟨r*4294967296+next,rfl,by rw[mul_half,or_half _ _ (by omega) (by omega) (by omega)]⟩
theorem digit_p (q yl:Nat) (hq:q≤4294967295) (hl:(yl:Int)<4294967296):(0:Int)≤(q:Int)*(yl:Int)∧(q:Int)*(yl:Int)≤18446744073709551615:=by
 have h:q*yl≤4294967295*4294967295:=Nat.mul_le_mul hq (by omega)
 have e:((q*yl:Nat):Int)=(q:Int)*(yl:Int):=Int.natCast_mul _ _
 rw[← e]
 omega
theorem pos_of_lt_mul {m q y:Nat}(h:m<q*y):0<q:=by
 rcases Nat.eq_zero_or_pos q with h0|h0
 ·subst h0;omega
 ·exact h0
def DigInv (u next y yh q r:Nat):Prop:=q*yh+r=u∧∀ x,x*y≤u*4294967296+next→x≤q
theorem digit_rest (u next q y R:Nat) (h:u*4294967296+next=q*y+R) (hR:R<18446744073709551616) :
 IntKind.u64.wrap (IntKind.u64.wrap (IntKind.u64.wrap (((u:Nat):Int)*4294967296)+((next:Nat):Int)) - IntKind.u64.wrap (((q:Nat):Int)*((y:Nat):Int)))=((R:Nat):Int):=by
 have h':((u*4294967296+next:Nat):Int)=((q*y+R:Nat):Int):=by rw[h]
 rw[Int.natCast_add (q*y),Int.natCast_mul q y]at h'
 clear h
 generalize ((q:Nat):Int)*((y:Nat):Int)=P at *
 simp only[IntKind.wrap_u64]
 omega
theorem DigInv.start {u next y yh yl:Nat}(ey:y=yh*4294967296+yl) (hn:next<4294967296) (hyh:0<yh):DigInv u next y yh (u / yh) (u % yh):=by
 refine ⟨?_,fun x hx=>?_⟩
 ·rw[Nat.mul_comm];exact Nat.div_add_mod u yh
 ·rw[ey]at hx;exact guess_ge hn hyh x hx
theorem DigInv.down {u next y yh yl q r:Nat}(h:DigInv u next y yh q r) (hq:0<q) (ey:y=yh*4294967296+yl) (hn:next<4294967296) (hu:u<y)
 (ho:4294967296≤q∨r*4294967296+next<q*yl):DigInv u next y yh (q - 1) (r+yh):=by
 obtain ⟨h1,h2⟩:=h
 refine ⟨?_,fun x hx=>?_⟩
 ·obtain ⟨p,rfl⟩:∃ p,q=p+1:=⟨q - 1,by omega⟩
  simp only[Nat.add_sub_cancel]
  rw[Nat.add_mul]at h1
  omega
 ·rcases ho with ho|ho
  ·exact guess_big hn hu ho x (h2 x hx) hx
  ·rw[ey]at hx
   exact guess_over h1 ho x (h2 x (by rw[ey];exact hx)) hx
theorem DigInv.done {u next y yh yl q r:Nat}(h:DigInv u next y yh q r) (ey:y=yh*4294967296+yl) (hy:0<y) (ho:q*yl≤r*4294967296+next) :
 q=(u*4294967296+next) / y∧u*4294967296+next=q*y+(u*4294967296+next) % y:=by
 obtain ⟨h1,h2⟩:=h
 have e:q=(u*4294967296+next) / y:=by
  rw[ey]at hy h2 ⊢
  exact (guess_end hy h1 ho h2).symm
 refine ⟨e,?_⟩
 have:=Nat.div_add_mod (u*4294967296+next) y
 rw[← e,Nat.mul_comm]at this
 exact this.symm
set_option maxRecDepth 100000 in
set_option maxHeartbeats 1000000 in
theorem bits_digit (u next y:Nat) (w:World) (hu:u<y) (hn:next<4294967296) (hy:y<18446744073709551616) (hy2:9223372036854775808≤y) :
 Calls Tryz.prog 55 #[.int .u64 u,.int .u64 next,.int .u64 y] w
  (Rets (.tuple #[.int .u64 (((u*4294967296+next) / y:Nat):Int),.int .u64 (((u*4294967296+next) % y:Nat):Int)]) w):=by
 obtain ⟨Q,hQ⟩:∃ Q,Q=(u*4294967296+next) / y:=⟨_,rfl⟩
 obtain ⟨R,hR⟩:∃ R,R=(u*4294967296+next) % y:=⟨_,rfl⟩
 rw[← hQ,← hR]
 have HQ:=Lib.hid hQ;clear hQ
 have HR:=Lib.hid hR;clear hR
 obtain ⟨yh,hyh⟩:∃ yh,yh=y / 4294967296:=⟨_,rfl⟩
 obtain ⟨yl,hyl⟩:∃ yl,yl=y % 4294967296:=⟨_,rfl⟩
 have b1:2147483648≤yh:=by omega
 have b2:yh<4294967296:=by omega
 have b3:yl<4294967296:=by omega
 have ey:y=yh*4294967296+yl:=by omega
 have e1:((y:Nat):Int) / 4294967296=(yh:Int):=by omega
 have e2:bits .and .u64 ((y:Nat):Int) 4294967295=(yl:Int):=by rw[and_mask y hy,hyl]
 clear hyh hyl
 have EY:=Lib.hid ey;clear ey
 have hy2':(9223372036854775808:Int)≤(y:Int):=by omega
 have hy':((y:Nat):Int)<18446744073709551616:=by omega
 have hu':((u:Nat):Int)<(y:Int):=by omega
 clear hy2 hy hu
 have hfin:∀ q r,DigInv u next y yh q r→q*yl≤r*4294967296+next→q=Q∧u*4294967296+next=q*y+R∧R<18446744073709551616:=by
  intro q r h ho
  have hd:=h.done EY.out (by omega) ho
  rw[← HQ.out,← HR.out]at hd
  refine ⟨hd.1,hd.2,?_⟩
  have:=Nat.mod_lt (u*4294967296+next) (show 0<y by omega)
  rw[← HR.out]at this
  omega
 have HF:=Lib.hid hfin;clear hfin
 have hq0:u / yh≤4294967297:=guess_first b3 (by have:=EY.out;omega) (by omega)
 have hr0:u % yh<4294967296:=by have:=Nat.mod_lt u (show 0<yh by omega);omega
 have HI:=Lib.hid (DigInv.start (u:=u) (next:=next) EY.out hn (by omega))
 have e3:((u:Nat):Int) / ((yh:Nat):Int)=((u / yh:Nat):Int):=(Int.natCast_ediv _ _).symm
 have e4:((u:Nat):Int) % ((yh:Nat):Int)=((u % yh:Nat):Int):=(Int.natCast_emod _ _).symm
 generalize u / yh=q0 at *
 generalize u % yh=r0 at *
 have i1:(2147483648:Int)≤yh:=by omega
 have i2:(yh:Int)<4294967296:=by omega
 have i3:(yl:Int)<4294967296:=by omega
 have i4:(next:Int)<4294967296:=by omega
 have i5:(q0:Int)≤4294967297:=by omega
 have i6:(r0:Int)<4294967296:=by omega
 have HN:=Lib.hid hn
 have HB:=Lib.hid b3
 clear hn b1 b2 b3 hq0 hr0
 go_enter Tryz.func55,Tryz.ntmps55
 go_wp2
 go_loop [8,9] (fun a b=>∃ q r:Nat,a=.int .u64 q∧b=.int .u64 r∧(q:Int)≤4294967297∧(r:Int)<4294967296∧Hid (DigInv u next y yh q r)) (fun a _=>(intOf a).toNat)
 case atStart=>exact ⟨q0,r0,rfl,by rw[e4],i5,i6,HI.out⟩
 case round=>
  obtain ⟨q,r,rfl,rfl,hq,hr,hi⟩:=hrel
  by_cases hA:(4294967296:Int)≤q
  ·have hd:=hi.out.down (by omega) EY.out HN.out (by omega) (.inl (by omega))
   have HD:Hid (DigInv u next y yh (q - 1) (r+yh)):=hd
   clear hd
   have hT:decide ((4294967295:Int)<(q:Int))=true:=decide_eq_true (by omega)
   have h1:(1:Int)≤q:=by omega
   by_cases hC:(r:Int)+yh<4294967296
   ·have hU:decide ((4294967295:Int)<(r:Int)+yh)=false:=decide_eq_false (by omega)
    have HC:=Lib.hid hC
    clear hA hC
    go_wp2
    go_round
    case rel=>exact ⟨q - 1,r+yh,by go_num,by go_num,by omega,by have:=HC.out;omega,HD⟩
    case measure=>simp[intOf];omega
   ·have hf:=HF.out _ _ HD.out (guess_far (H:=4294967296) (by omega) (by omega) HB.out)
    have HFF:=Lib.hid hf;clear hf
    have hU:decide ((4294967295:Int)<(r:Int)+yh)=true:=decide_eq_true (by omega)
    clear hA hC
    go_wp2
    go_ret2
    obtain ⟨f1,f2,f3⟩:=HFF.out
    refine ⟨ret2_int (by omega) ?_,rfl⟩
    have:=digit_rest u next (q - 1) y R f2 f3
    rw[← this,show ((q - 1:Nat):Int)=(q:Int) - 1 by omega]
  ·have hT:decide ((4294967295:Int)<(q:Int))=false:=decide_eq_false (by omega)
   obtain ⟨m,em,e5⟩:=digit_m r next hr i4
   obtain ⟨c1,c2⟩:=digit_p q yl (by omega) i3
   have hd:m<q*yl→DigInv u next y yh (q - 1) (r+yh):=fun ho=>hi.out.down (pos_of_lt_mul ho) EY.out HN.out (by omega) (.inr (em▸ho))
   have hf0:q*yl≤m→q=Q∧u*4294967296+next=q*y+R∧R<18446744073709551616:=fun ho=>HF.out _ _ hi.out (em▸ho)
   have hq1:m<q*yl→1≤q:=fun ho=>pos_of_lt_mul ho
   have hP:((q*yl:Nat):Int)=(q:Int)*(yl:Int):=Int.natCast_mul _ _
   clear em
   by_cases hB:m<q*yl
   ·have hG:decide ((m:Int)<(q:Int)*(yl:Int))=true:=decide_eq_true (by omega)
    have HD:=Lib.hid (hd hB)
    have h1:(1:Int)≤q:=by have:=hq1 hB;omega
    by_cases hC:(r:Int)+yh<4294967296
    ·have hU:decide ((4294967295:Int)<(r:Int)+yh)=false:=decide_eq_false (by omega)
     have HC:=Lib.hid hC
     clear hA hC hP hd hf0 hq1 hB
     go_wp2
     go_round
     case rel=>exact ⟨q - 1,r+yh,by go_num,by go_num,by omega,by have:=HC.out;omega,HD.out⟩
     case measure=>simp[intOf];omega
    ·have hf:=HF.out _ _ HD.out (guess_far (H:=4294967296) (by omega) (by omega) HB.out)
     have HFF:=Lib.hid hf;clear hf
     have hU:decide ((4294967295:Int)<(r:Int)+yh)=true:=decide_eq_true (by omega)
     clear hA hC hP hd hf0 hq1 hB
     go_wp2
     go_ret2
     obtain ⟨f1,f2,f3⟩:=HFF.out
     refine ⟨ret2_int (by omega) ?_,rfl⟩
     have:=digit_rest u next (q - 1) y R f2 f3
     rw[← this,show ((q - 1:Nat):Int)=(q:Int) - 1 by omega]
   ·have hG:decide ((m:Int)<(q:Int)*(yl:Int))=false:=decide_eq_false (by omega)
    have HFF:=Lib.hid (hf0 (by omega))
    clear hA hP hd hf0 hq1 hB
    go_wp2
    go_ret2
    obtain ⟨f1,f2,f3⟩:=HFF.out
    refine ⟨ret2_int (by omega) ?_,rfl⟩
    exact digit_rest u next q y R f2 f3
theorem bits_Div_no (h l y:Nat) (w:World) (hh:y≤h) :
 Calls Tryz.prog 23 #[.int .u64 h,.int .u64 l,.int .u64 y] w (Rets (.tuple #[.int .u64 0,.int .u64 0,.bool false]) w):=by
 have hI:((y:Nat):Int)≤h:=by omega
 clear hh
 go_enter Tryz.func23,Tryz.ntmps23
 go_wp2
 go_ret3
 exact ⟨rfl,rfl⟩
theorem or_join (q1 q0:Nat) (h1:q1<4294967296) (h2:q0<4294967296):bits .or .u64 ((q1:Int)*4294967296) (q0:Int)=((q1*4294967296+q0:Nat):Int):=by
 rw[mul_half,or_half _ _ (Nat.mul_mod_left _ _) (by omega) h2]
theorem div_steps (h l y:Nat) (hh:h<y) (hl:l<18446744073709551616) (hy:y<18446744073709551616) :
 ∃ b y2 hs lo u l2 a c q1 r1 q0 r2 Q R:Nat,(h*18446744073709551616+l) / y=Q∧(h*18446744073709551616+l) % y=R∧blen y=64 - b∧b<64∧y*2 ^ b=y2∧y2<18446744073709551616∧9223372036854775808≤y2∧h*2 ^ b % 18446744073709551616=hs∧l / 2 ^ (64 - b)=lo ∧
   bits .or .u64 (hs:Int) (lo:Int)=(u:Int)∧u<y2∧l*2 ^ b % 18446744073709551616=l2∧l2<18446744073709551616∧(l2:Int) / 4294967296=(a:Int)∧a<4294967296∧bits .and .u64 (l2:Int) 4294967295=(c:Int)∧c<4294967296 ∧
   (u*4294967296+a) / y2=q1∧(u*4294967296+a) % y2=r1∧r1<y2∧q1<4294967296∧(r1*4294967296+c) / y2=q0∧(r1*4294967296+c) % y2=r2∧q0<4294967296 ∧
   bits .or .u64 ((q1:Int)*4294967296) (q0:Int)=(Q:Int)∧((r2:Nat):Int) / 2 ^ b=(R:Int):=by
 have hy0:y≠0:=by omega
 have hb1:blen y≤64:=blen_le (n:=y) (k:=64) hy
 have hb2:=blen_pos hy0
 obtain ⟨b,hb⟩:∃ b,blen y+b=64:=⟨64 - blen y,by omega⟩
 obtain ⟨a1,a2,a3,a4,a5,a6⟩:=div_scaled h l y b hb hy0 hl hh
 have hlt:l*2 ^ b % 2 ^ 64<2 ^ 64:=Nat.mod_lt _ (by omega)
 obtain ⟨d1,d2,d3,d4⟩:=div_words h l y b (h*2 ^ b+l / 2 ^ (64 - b)) (l*2 ^ b % 2 ^ 64) hy0 hlt a5 a6
 have ehs:h*2 ^ b % 18446744073709551616=h*2 ^ b:=Nat.mod_eq_of_lt a3
 have hs:=Nat.two_pow_pos b
 refine ⟨b,_,_,_,h*2 ^ b+l / 2 ^ (64 - b),_,_,_,_,_,_,_,_,_,rfl,rfl,by omega,by omega,rfl,a1,a2,rfl,rfl,?_,a5,rfl,hlt,div_half _,?_,and_mask _ hlt,?_,rfl,rfl,?_,d1,rfl,rfl,d2,?_,?_⟩
 ·have h64:2 ^ b≤2 ^ 64:=Nat.pow_le_pow_right (by omega) (by omega)
  rw[ehs,u64_or_nat _ _ a3 (Nat.lt_of_lt_of_le a4 h64),nat_join b _ _ (Nat.mul_mod_left _ _) a4]
 ·exact (Nat.div_lt_iff_lt_mul (by omega)).2 hlt
 ·exact Nat.mod_lt _ (by omega)
 ·exact Nat.mod_lt _ (by omega)
 ·exact (or_join _ _ d1 d2).trans (congrArg (fun n:Nat=>(n:Int)) d3)
 ·rw[shr_val]
  exact congrArg (fun n:Nat=>(n:Int)) d4
set_option maxRecDepth 100000 in
set_option maxHeartbeats 1000000 in
theorem bits_Div_yes (h l y:Nat) (w:World) (hh:h<y) (hl:l<18446744073709551616) (hy:y<18446744073709551616) :
 Calls Tryz.prog 23 #[.int .u64 h,.int .u64 l,.int .u64 y] w
  (Keeps (.tuple #[.int .u64 (((h*18446744073709551616+l) / y:Nat):Int),.int .u64 (((h*18446744073709551616+l) % y:Nat):Int),.bool true]) w):=by
 obtain ⟨b,y2,hs,lo,u,l2,a,c,q1,r1,q0,r2,Q,R,fQ,fR,f1,f2,f3,f4,f5,f6,f7,f8,f9,f10,f11,f12,f13,f14,f15,f16,f17,f18,f19,f20,f21,f22,f23,f24⟩:=div_steps h l y hh hl hy
 rw[fQ,fR]
 clear fQ fR
 have c1:=bits_Len y w hy
 rw[f1]at c1
 have c2:=bits_Shl_pos h b w (by omega) f2
 rw[f6]at c2
 have c3:Calls Tryz.prog 54 #[.int .u64 l,.int .i64 (64 - (b:Int))] w (Rets (.int .u64 (lo:Int)) w):=by
  have h0:=bits_Shr l (64 - (b:Int)) w hl (by omega) (by omega)
  have e:shrN l (64 - (b:Int))=lo:=by
   unfold shrN
   by_cases hb:b=0
   ·subst hb
    rw[if_pos (by omega),← f7]
    exact (Nat.div_eq_of_lt (show l<2 ^ 64 from hl)).symm
   ·rw[if_neg (by omega),if_neg (by omega),show (64 - (b:Int)).toNat=64 - b by omega];exact f7
  rw[e]at h0;exact h0
 have c4:=bits_digit u a y2 w f9 f13 f4 f5
 rw[f16,f17]at c4
 have c5:=bits_digit r1 c y2 w f18 f15 f4 f5
 rw[f20,f21]at c5
 have e1:IntKind.u64.wrap (((y:Nat):Int)*2 ^ b)=((y2:Nat):Int):=by
  rw[shl_val,f3,Nat.mod_eq_of_lt f4]
 have e2:IntKind.u64.wrap (((l:Nat):Int)*2 ^ b)=((l2:Nat):Int):=by rw[shl_val];exact congrArg (fun n:Nat=>(n:Int)) f10
 have g1:((h:Nat):Int)<y:=by omega
 have g3:(0:Int)≤b∧(b:Int)<64:=by omega
 have e3:bits .or .u64 (IntKind.u64.wrap ((q1:Int)*4294967296)) (q0:Int)=(Q:Int):=by
  rw[show IntKind.u64.wrap ((q1:Int)*4294967296)=(q1:Int)*4294967296 by rw[IntKind.wrap_u64];omega];exact f23
 have g5:(64:Int) - ((64 - b:Nat):Int)=b:=by omega
 have C1:=Lib.hid c1;have C2:=Lib.hid c2;have C3:=Lib.hid c3;have C4:=Lib.hid c4;have C5:=Lib.hid c5
 clear c1 c2 c3 c4 c5 f1 f2 f3 f4 f5 f6 f7 f9 f10 f11 f13 f15 f16 f17 f18 f19 f20 f21 f22 f23 hh hl hy
 go_enter Tryz.func23,Tryz.ntmps23
 go_wp2_with fail
 refine C1.out.mono ?_
 rintro e w' ⟨rfl,rfl⟩
 go_wp2_with fail
 refine C2.out.mono ?_
 rintro e w' ⟨rfl,rfl⟩
 go_wp2_with fail
 refine C3.out.mono ?_
 rintro e w' ⟨rfl,rfl⟩
 go_wp2_with fail
 refine C4.out.mono ?_
 rintro e w' ⟨rfl,rfl⟩
 go_wp2_with fail
 refine C5.out.mono ?_
 rintro e w' ⟨rfl,rfl⟩
 go_wp2_with fail
 go_region
 go_wp2
 go_ret3
 exact ⟨rfl,(Below.refl _ _).drew⟩
end Go.Proofs.YtehbhghbagaliaaGreatDoor
