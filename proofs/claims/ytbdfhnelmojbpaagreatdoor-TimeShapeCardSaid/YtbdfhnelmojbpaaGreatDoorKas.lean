/- Plain arithmetic of a long quotient: what Div's loop over the digits keeps. No program in sight. -/
import Derived.Test.YtbdfhnelmojbpaaGreatDoorKar
import Derived.Test.YtbdfhnelmojbpaaGreatDoorKaq
import Derived.Deep.RegionLaw
import Derived.Deep.RegionWith
import Derived.Deep.CutBlock
import Derived.Test.YtbdfhnelmojbpaaGreatDoorKap
set_option linter.unusedVariables false
set_option linter.unusedSimpArgs false
section
namespace Vic
theorem val_drop_small {B:Nat}(hB:0<B) {l:List Nat}{k:Nat}(h:val B l<B ^ k):val B (l.drop k)=0:=by
 have:=val_split B l k
 rcases Nat.eq_zero_or_pos (val B (l.drop k))with h0|h0
 ·exact h0
 ·have:B ^ k*1≤B ^ k*val B (l.drop k):=Nat.mul_le_mul_left _ h0
  omega
theorem val_take_small {B:Nat}(hB:0<B) {l:List Nat}{k:Nat}(h:val B l<B ^ k):val B (l.take k)=val B l:=by
 have:=val_split B l k
 rw[val_drop_small hB h,Nat.mul_zero]at this
 omega
structure LongInv (B A b:Nat) (z o:List Nat) (Z K i:Nat):Prop where
 lz:z.length=Z
 lo:o.length=K
 dz:dig B z
 do_:dig B o
 sum:val B z+b*val B o=A
 low:val B (o.take i)=0
 win:val B (z.drop i)<b
theorem LongInv.start {B A b H:Nat}{z:List Nat}{K n:Nat}(hB:0<B) (hz:dig B z) (hA:val B z=A) (h1:A<B ^ (K+n)*H) (h2:B ^ n*H≤b):LongInv B A b z (List.replicate K 0) z.length K K:=by
 refine ⟨rfl,by simp,hz,dig_replicate hB K,by rw[val_zeros];omega,?_,?_⟩
 ·rw[List.take_of_length_le (by simp)];exact val_zeros B K
 ·have e:=val_split B z K
  have h3:B ^ K*val B (z.drop K)≤A:=by rw[← hA];omega
  have h4:B ^ K*val B (z.drop K)<B ^ K*(B ^ n*H):=by rw[← Nat.mul_assoc,← Nat.pow_add];omega
  have:=Nat.lt_of_mul_lt_mul_left h4
  omega
theorem LongInv.window {B A b:Nat}{z o:List Nat}{Z K i n:Nat}(h:LongInv B A b z o Z K (i+1)) (hB:1<B) (hb:b<B ^ n) :
 val B ((z.drop i).take (n+1))=val B (z.drop i)∧val B (z.drop i)<b*B:=by
 have e:=val_drop_step B z i
 have hd:=dig_getD h.dz (by omega) i
 have hw:=h.win
 have h1:B*(val B (z.drop (i+1))+1)≤B*b:=Nat.mul_le_mul_left _ hw
 rw[Nat.mul_add]at h1
 rw[Nat.mul_comm b B]
 have h2:B*b<B*B ^ n:=Nat.mul_lt_mul_of_pos_left hb (by omega)
 have h3:B ^ (n+1)=B*B ^ n:=by rw[Nat.pow_succ,Nat.mul_comm]
 refine ⟨val_take_small (by omega) (by omega),by omega⟩
theorem LongInv.step {B A b:Nat}{z o l:List Nat}{Z K i n:Nat}(h:LongInv B A b z o Z K (i+1)) (hB:1<B) (hb:b<B ^ n) (hb0:0<b) (hi:i<K) (hz:i+(n+1)≤Z)
 (hl:l.length=n+1) (hd:dig B l) (hv:val B l=val B ((z.drop i).take (n+1)) % b) :
 LongInv B A b (z.take i ++ l ++ z.drop (i+(n+1))) (o.set i (val B ((z.drop i).take (n+1)) / b)) Z K i:=by
 obtain ⟨e1,e2⟩:=h.window hB hb
 rw[e1]at hv ⊢
 have hq:val B (z.drop i) / b<B:=by rw[Nat.div_lt_iff_lt_mul hb0,Nat.mul_comm];exact e2
 have hlz:=h.lz
 have hlo:=h.lo
 have ez:val B (z.drop (i+(n+1)))=0:=by
  rw[← List.drop_drop]
  refine val_drop_small (by omega) (Nat.lt_of_lt_of_le e2 ?_)
  rw[Nat.pow_succ];exact Nat.mul_le_mul_right _ (Nat.le_of_lt hb)
 have es:=val_split B z i
 have el:=h.low
 rw[val_take_step]at el
 have eo:=val_set (B:=B) (val B (z.drop i) / b) (show i<o.length by omega)
 have eoi:B ^ i*o.getD i 0=0:=by omega
 have elo:val B (o.take i)=0:=by omega
 have ti:(z.take i).length=i:=by rw[List.length_take];omega
 have evz:val B (z.take i ++ l ++ z.drop (i+(n+1)))=val B (z.take i)+B ^ i*val B l:=by
  rw[List.append_assoc,val_append,val_append,ez,ti,Nat.mul_zero,Nat.add_zero]
 have edm:=Nat.div_add_mod (val B (z.drop i)) b
 rw[← hv]at edm
 have hm:=Nat.mod_lt (val B (z.drop i)) hb0
 rw[← hv]at hm
 refine ⟨?_,by simp[hlo],?_,dig_set h.do_ hq _,?_,?_,?_⟩
 ·simp only[List.length_append,ti,hl,List.length_drop];omega
 ·exact dig_append.2 ⟨dig_append.2 ⟨dig_take h.dz i,hd⟩,dig_drop h.dz _⟩
 ·rw[evz]
  have hs:=h.sum
  rw[eoi,Nat.add_zero]at eo
  rw[eo,Nat.mul_add]
  generalize val B (z.drop i) / b=q at *
  have e5:B ^ i*val B (z.drop i)=B ^ i*(b*q)+B ^ i*val B l:=by rw[← Nat.mul_add,edm]
  have e6:b*(B ^ i*q)=B ^ i*(b*q):=Nat.mul_left_comm _ _ _
  omega
 ·rw[take_set];exact elo
 ·rw[List.append_assoc,List.drop_append_of_le_length (by omega),List.drop_of_length_le (by omega),List.nil_append,val_append,ez,Nat.mul_zero,Nat.add_zero]
  exact hm
theorem LongInv.done {B A b:Nat}{z o:List Nat}{Z K:Nat}(h:LongInv B A b z o Z K 0) (hb:0<b):val B o=A / b∧val B z=A % b:=by
 have hs:=h.sum
 have hw:=h.win
 rw[List.drop_zero]at hw
 rw[Nat.add_comm]at hs
 subst hs
 rw[Nat.mul_add_div hb,Nat.mul_add_mod,Nat.div_eq_of_lt hw,Nat.mod_eq_of_lt hw]
 exact ⟨rfl,rfl⟩
theorem top_shift {b n s:Nat}(hb:b≠0) (hn:(digs 4294967296 b).length=n+1) (hs:s=32 - blen ((digs 4294967296 b).getD n 0)) :
 s<32∧(digs 4294967296 (b*2 ^ s)).length=n+1∧2147483648≤(digs 4294967296 (b*2 ^ s)).getD n 0∧4294967296 ^ n*2147483648≤b*2 ^ s∧b*2 ^ s<4294967296 ^ (n+1):=by
 have hd:=digs_dig (B:=4294967296) (by omega) b
 have hv:=val_digs (B:=4294967296) (by omega) b
 have h1:=pow_le_of_digs_length (B:=4294967296) (n:=b) (k:=n) (by omega) (by omega)
 have e:=val_split 4294967296 (digs 4294967296 b) n
 rw[val_drop_step,List.drop_of_length_le (show (digs 4294967296 b).length≤n+1 by omega),hv]at e
 simp only[val,Nat.mul_zero,Nat.add_zero]at e
 have hlow:=val_take_lt (B:=4294967296) (by omega) hd n
 have ht:=dig_getD hd (by omega) n
 generalize (digs 4294967296 b).getD n 0=t at *
 generalize val 4294967296 ((digs 4294967296 b).take n)=lo at *
 have ht0:t≠0:=by intro h;rw[h]at e;omega
 have hl1:=lt_two_blen t
 have hl2:=two_le_blen ht0
 have hl3:=blen_le (n:=t) (k:=32) (by omega)
 have hl4:=blen_pos ht0
 generalize blen t=L at *
 subst hs
 have p1:2 ^ (L - 1)*2 ^ (32 - L)=2147483648:=by rw[← Nat.pow_add,show L - 1+(32 - L)=31 by omega]
 have p2:2 ^ L*2 ^ (32 - L)=4294967296:=by rw[← Nat.pow_add,show L+(32 - L)=32 by omega]
 have q1:4294967296 ^ n*2147483648≤b*2 ^ (32 - L):=by
  rw[← p1,← Nat.mul_assoc]
  refine Nat.mul_le_mul_right _ ?_
  have:4294967296 ^ n*2 ^ (L - 1)≤4294967296 ^ n*t:=Nat.mul_le_mul_left _ hl2
  omega
 have q2:b*2 ^ (32 - L)<4294967296 ^ (n+1):=by
  rw[Nat.pow_succ,show 4294967296 ^ n*4294967296=4294967296 ^ n*(2 ^ L*2 ^ (32 - L)) by rw[p2],← Nat.mul_assoc]
  refine Nat.mul_lt_mul_of_pos_right ?_ (Nat.two_pow_pos _)
  have:4294967296 ^ n*(t+1)≤4294967296 ^ n*2 ^ L:=Nat.mul_le_mul_left _ hl1
  rw[Nat.mul_add]at this
  omega
 have q3:4294967296 ^ n≤b*2 ^ (32 - L):=Nat.le_trans (by omega) q1
 refine ⟨by omega,?_,?_,q1,q2⟩
 ·have a1:=digs_length_le (B:=4294967296) (by omega) q2
  have a2:¬ (digs 4294967296 (b*2 ^ (32 - L))).length≤n:=fun h=>by
   have:=lt_pow_digs_length (B:=4294967296) (by omega) (b*2 ^ (32 - L))
   have:=Nat.pow_le_pow_right (show 0<4294967296 by omega) h
   omega
  omega
 ·rw[digs_getD (by omega)]
  have r1:b*2 ^ (32 - L) / 4294967296 ^ n<4294967296:=by
   rw[Nat.div_lt_iff_lt_mul (Nat.pow_pos (by omega)),Nat.mul_comm 4294967296,← Nat.pow_succ]
   exact q2
  rw[Nat.mod_eq_of_lt r1,Nat.le_div_iff_mul_le (Nat.pow_pos (by omega)),Nat.mul_comm]
  exact q1
end Vic
end
section
namespace Go.Proofs.YtbdfhnelmojbpaaGreatDoor
open Go.RowKit Vic
theorem nat_common (w:World) (a b:Nat) (ha:a<18446744073709551616) (hb:b<18446744073709551616) :
 Calls Tryz.prog 294 #[.int .u64 a,.int .u64 b] w (Keeps (.int .u64 ((Nat.gcd a b:Nat):Int)) w):=by
 have HG:Hid (Nat.gcd a b=Nat.gcd a b):=rfl
 obtain ⟨g,hg⟩:∃ g,g=Nat.gcd a b:=⟨_,rfl⟩
 rw[← hg]
 have HGG:=Lib.hid hg
 clear hg HG
 go_enter Tryz.func294,Tryz.ntmps294
 go_wp2
 go_loopw [0,1] (fun s t wr=>∃ x y n:Nat,s=.int .u64 x∧t=.int .u64 y∧wr=w.drewN n∧Hid (Nat.gcd x y=g)) (fun _ t _=>(intOf t).toNat)
 case atStart=>exact ⟨a,b,0,rfl,rfl,rfl,HGG.out.symm⟩
 case round=>
  obtain ⟨x,y,n,rfl,rfl,rfl,hi⟩:=hrel
  by_cases hy:y=0
  ·subst hy
   go_wp2
   go_ret
   refine ⟨ret_int ?_,Vic.Below.drewN_ (Below.refl _ _) _⟩
   rw[← hi.out,Nat.gcd_zero_right]
  ·have hy1:(1:Int)≤y:=by omega
   have e:((x:Nat):Int) % ((y:Nat):Int)=((x % y:Nat):Int):=(Int.natCast_emod _ _).symm
   have hlt:x % y<y:=Nat.mod_lt _ (by omega)
   have HI:Hid (Nat.gcd y (x % y)=g):=(gcd_step x y).trans hi.out
   generalize x % y=r at *
   have HLT:=Lib.hid hlt
   clear hlt hi
   go_wp2
   go_quiet (fail)
   go_wp2
   go_roundw
   case rel=>exact ⟨y,r,n+nq,rfl,by rw[e],World.drewN_drewN _ _ _,HI⟩
   case measure=>rw[e];have:=HLT.out;simp[intOf];omega
def Parted (a b:Nat) (w:World) (e:Ending) (w':World):Prop:=
 ∃ x y,e=.returned (.tuple #[x,y,.bool true])∧NatAt w' x (a / b)∧NatAt w' y (a % b)∧Below w.heap.size w w'
set_option maxHeartbeats 2000000 in
theorem nat_Div_small (w:World) (u v:Value) (a b:Nat) (ha:NatAt w u a) (hb:NatAt w v b) (hal:(dgs a).length≤500000000000) (hbl:(dgs b).length≤500000000000) (h:a<b) :
 Calls Tryz.prog 224 #[u,v] w (Parted a b w):=by
 have CB:=Lib.hid (nat_digits w v b hb)
 have CA:Hid (∀ wr,Below w.heap.size w wr→Calls Tryz.prog 219 #[u] wr (DigsOf (dgs a) wr)):=fun wr hw=>nat_digits wr u a (ha.keep hw)
 have CC0:=nat_Cmp w u v a b ha hb (by omega) (by omega)
 rw[cmpI_lt h]at CC0
 have CC:=Lib.hid CC0
 clear CC0
 have hb0:(dgs b).length≠0:=fun h0=>by
  have:=(digs_eq_nil (B:=4294967296) (by omega)).1 (List.eq_nil_of_length_eq_zero h0)
  omega
 have VA:Hid (val 4294967296 (dgs a)=a):=val_digs (by omega) a
 have da:dig 4294967296 (dgs a):=digs_dig (by omega) a
 have H:=Lib.hid h
 generalize dgs b=lb at *
 generalize dgs a=la at *
 have CO:=Lib.hid (nat_of w (.slice none 0 0) [] (Ints.nil_ _ _) (dig_nil _) (by simp))
 clear h
 go_enter Tryz.func224,Tryz.ntmps224
 go_wp2_with fail
 refine CB.out.mono ?_
 rintro e w' ⟨A,c,rfl,hA,rfl⟩
 go_wp2_with fail
 refine CC.out.mono ?_
 rintro e w' ⟨rfl,rfl⟩
 go_wp2_with fail
 refine CO.out.mono ?_
 rintro e w' ⟨z,rfl,hz,hbz⟩
 go_wp2_with fail
 refine (CA.out _ hbz).mono ?_
 rintro e w'' ⟨A2,c2,rfl,hA2,rfl⟩
 have CO2:=Lib.hid (nat_of w' _ la hA2 da (by omega))
 go_wp2_with fail
 refine CO2.out.mono ?_
 rintro e w'' ⟨z2,rfl,hz2,hbz2⟩
 go_wp2_with fail
 go_ret3
 rw[VA.out]at hz2
 refine ⟨z,z2,rfl,?_,?_,below_seq hbz hbz2⟩
 ·rw[Nat.div_eq_of_lt H.out];exact hz.keep (hbz2)
 ·rw[Nat.mod_eq_of_lt H.out];exact hz2
theorem cmpI_ge {a b:Nat}(h:b≤a):∃ s:Int,0≤s∧cmpI a b=s:=⟨cmpI a b,cmpI_nonneg h,rfl⟩
set_option maxRecDepth 100000 in
set_option maxHeartbeats 2000000 in
theorem nat_Div_one (w:World) (u v:Value) (a b:Nat) (ha:NatAt w u a) (hb:NatAt w v b) (hal:(dgs a).length≤500000000000) (hb1:(dgs b).length=1) (h:b≤a) :
 Calls Tryz.prog 224 #[u,v] w (Parted a b w):=by
 have CB:=Lib.hid (nat_digits w v b hb)
 have CA:Hid (∀ wr,Below w.heap.size w wr→Calls Tryz.prog 219 #[u] wr (DigsOf (dgs a) wr)):=fun wr hw=>nat_digits wr u a (ha.keep hw)
 have CC0:=nat_Cmp w u v a b ha hb (by omega) (by omega)
 obtain ⟨s,hs,hcs⟩:=cmpI_ge h
 rw[hcs]at CC0
 have CC:=Lib.hid CC0
 clear CC0
 have VA:Hid (val 4294967296 (dgs a)=a):=val_digs (by omega) a
 have da:dig 4294967296 (dgs a):=digs_dig (by omega) a
 have VB:val 4294967296 (dgs b)=b:=val_digs (by omega) b
 have db:dig 4294967296 (dgs b):=digs_dig (by omega) b
 have nb:norm (dgs b):=digs_norm (by omega) b
 obtain ⟨d,hd⟩:∃ d,dgs b = [d]:=List.length_eq_one_iff.1 hb1
 rw[hd]at VB db nb CB
 have hbd:d=b:=by simpa [val]using VB
 have hdl:d<4294967296:=db d (by simp)
 have hd0:d≠0:=by simpa [norm]using nb
 subst hbd
 have H:=Lib.hid h
 have ew:=wrap64_small d hdl
 have HDL:=Lib.hid hdl
 generalize dgs a=la at *
 clear h VB db nb hd hb1 hdl hcs
 go_enter Tryz.func224,Tryz.ntmps224
 go_wp2_with fail
 refine CB.out.mono ?_
 rintro e w' ⟨A,c,rfl,hA,rfl⟩
 obtain ⟨bb,ob,rfl,hcell⟩:=hA.at_ 0 (by simp)
 rw[show ([d]:List Nat).getD 0 0=d from rfl,Nat.add_zero]at hcell
 go_wp2_with fail
 refine CC.out.mono ?_
 rintro e w' ⟨rfl,rfl⟩
 go_wp2_with fail
 have DA:=da;have HD0:Hid (0<d):=Nat.pos_of_ne_zero hd0
 go_upto_region 7 with fail
 go_cut [8,9] (fun x y wc=>∃ bs os,x=.slice (some ⟨bs,0,none⟩) la.length la.length∧y=.int .u64 ((val 4294967296 la % d:Nat):Int)∧U32s wc (.slice (some ⟨bs,0,none⟩) la.length la.length) os∧dig 4294967296 os∧os.length=la.length∧val 4294967296 os=val 4294967296 la / d∧Below w.heap.size w wc)
 case rest=>
  obtain ⟨bs,os,rfl,rfl,hos,dos,los,vos,hbel⟩:=hcut
  have CO:=Lib.hid (nat_of wc (.slice (some ⟨bs,0,none⟩) la.length la.length) os hos dos (by omega))
  have CR:Hid (∀ wr,Calls Tryz.prog 201 #[.int .u64 ((val 4294967296 la % d:Nat):Int)] wr (Gives (fun x w'=>NatAt w' x (val 4294967296 la % d)) wr)):=fun wr=>nat_Of wr _ (by have:=Nat.mod_lt (val 4294967296 la) HD0.out;have:=HDL.out;omega)
  rw[vos]at CO
  clear vos
  rw[VA.out]at CR CO ⊢
  go_wp2_with fail
  refine CO.out.mono ?_
  rintro e w2 ⟨z,rfl,hz,hbz⟩
  go_wp2_with fail
  refine (CR.out _).mono ?_
  rintro e w3 ⟨z2,rfl,hz2,hbz2⟩
  go_wp2_with fail
  go_ret3
  exact ⟨z,z2,rfl,hz.keep hbz2,hz2,hbel.trans ((hbz.trans (hbz2.mono hbz.size)).mono hbel.size)⟩
 go_region_with (first|(go_at_call 219;refine (CA.out w.drew ⟨rfl,rfl,rfl,Nat.le_refl _,fun _ _=>rfl⟩).mono ?_;rintro e w2 ⟨A2,c2,rfl,hA2,rfl⟩)|(go_at_call 221;refine (nat_short _ A2 c2 la d hA2 DA (by omega) HD0.out (by have:=HDL.out;omega)).mono ?_;rintro e w' ⟨bs,os,rfl,hos,dos,los,vos,bos⟩))
 all_goals (go_wp2_with fail;go_meet)
 all_goals exact ⟨bs,os,rfl,rfl,hos,dos,los,vos,⟨bos.os,bos.tape,bos.output,bos.size,bos.block⟩⟩
end Go.Proofs.YtbdfhnelmojbpaaGreatDoor
end
section
namespace Go.Proofs.YtbdfhnelmojbpaaGreatDoor
open Go.RowKit Vic
theorem info1_u32:∃ i,Tryz.prog.info? 291=some i∧i.size=1:=by
 have h:=info_u32
 cases hi:Tryz.prog.info? 291 with
 | none=>rw[hi]at h;simp at h
 | some i=>rw[hi]at h;simp at h;exact ⟨i,rfl,h.2.1⟩
theorem mk_room (n:Nat) (N:Int) (hN:N=n) (hn:n≤10000000000000) (w:World) :
 (Instr.makeSlice 289 (.int .i64 0) (.int .i64 N)).run Tryz.prog w=.ok (.slice (some ⟨w.heap.size,0,none⟩) 0 n) (w.alloc (.cells (vals .u32 (List.replicate n 0)) 291)):=by
 subst hN
 have h:=info_u32
 obtain ⟨i,hi,hzz⟩:=Option.map_eq_some_iff.1 h
 simp only[Prod.mk.injEq]at hzz
 obtain ⟨hz,hs,hb⟩:=hzz
 have hr:=run_make (P:=Tryz.prog) w 289 291 i _ Tryz.underlying289 hi hz .i64 .i64 0 n (Int.le_refl _) (by omega) (by rw[hb];omega) (by omega)
 simp only[Int.toNat_zero,Int.toNat_natCast,hs,Nat.mul_one]at hr
 rw[hr,show (Value.int .u32 0).cells=#[.int .u32 0]from rfl,made_u32]
theorem _root_.Vic.NatAt.open_ {w:World}{v:Value}{n:Nat}(h:NatAt w v n) (h0:n≠0) :
 ∃ b A c,v=.pointer (some ⟨b,0,none⟩)∧w.cell? ⟨b,0,none⟩=some (.slice A (dgs n).length c)∧U32s w (.slice A (dgs n).length c) (dgs n):=by
 rcases h with ⟨_,h⟩|⟨b,s,h1,h2,h3,h4⟩
 ·exact absurd h h0
 ·obtain ⟨A,c,rfl,h4,h5⟩:=h3
  exact ⟨b,A,c,h1,h2,⟨A,c,rfl,h4,h5⟩⟩
theorem up_len {a s na:Nat}(hs:s<32) (hna:na=(dgs a).length):(dgs (a*2 ^ s)).length≤na+1:=by
 refine digs_length_le (by omega) ?_
 have h1:=lt_pow_digs_length (B:=4294967296) (by omega) a
 rw[show (digs 4294967296 a).length=na from hna.symm]at h1
 have h2:2 ^ s≤2 ^ 32:=Nat.pow_le_pow_right (by omega) (by omega)
 rw[Nat.pow_succ]
 exact Nat.lt_of_le_of_lt (Nat.mul_le_mul_left _ h2) (Nat.mul_lt_mul_of_pos_right h1 (by omega))
theorem digs_len_pos {n:Nat}(h:n≠0):0<(dgs n).length:=by
 rcases Nat.eq_zero_or_pos (dgs n).length with h0|h0
 ·exact absurd ((digs_eq_nil (B:=4294967296) (by omega)).1 (List.eq_nil_of_length_eq_zero h0)) h
 ·exact h0
theorem long_top {a s na k:Nat}(hs:s<32) (hna:na=(dgs a).length) (hk:k=na):a*2 ^ s<4294967296 ^ k*2147483648:=by
 have h1:=lt_pow_digs_length (B:=4294967296) (by omega) a
 rw[show (digs 4294967296 a).length=na from hna.symm]at h1
 have h2:2 ^ s≤2 ^ 31:=Nat.pow_le_pow_right (by omega) (by omega)
 subst hk
 exact Nat.lt_of_le_of_lt (Nat.mul_le_mul_left _ h2) (Nat.mul_lt_mul_of_pos_right h1 (by omega))
theorem rest_small {a b s m n:Nat}(hb:b≠0) (h:b*2 ^ s<4294967296 ^ m) (hn:m≤n):a % b*2 ^ s<4294967296 ^ n:=by
 have h1:a % b*2 ^ s≤b*2 ^ s:=Nat.mul_le_mul_right _ (Nat.le_of_lt (Nat.mod_lt _ (Nat.pos_of_ne_zero hb)))
 have h2:=Nat.pow_le_pow_right (show 0<4294967296 by omega) hn
 omega
theorem padded (n k:Nat) (hk:(dgs n).length≤k):∃ z,z=dgs n ++ List.replicate (k - (dgs n).length) 0∧z.length=k∧dig 4294967296 z∧val 4294967296 z=n∧∀ j,(dgs n).length≤j→z.getD j 0=0:=by
 refine ⟨_,rfl,by simp;omega,dig_append.2 ⟨digs_dig (by omega) _,dig_replicate (by omega) _⟩,?_,fun j hj=>?_⟩
 ·rw[val_append,val_zeros,Nat.mul_zero,Nat.add_zero];exact val_digs (by omega) n
 ·rw[getD_app_right _ _ _ hj,getD_zeros]
theorem put_zero (z:List Nat) (r:Nat) (h:r<z.length) (h0:z.getD r 0=0):z.take r ++ [0] ++ z.drop (r+([0]:List Nat).length)=z:=by
 apply List.ext_getElem?
 intro j
 have ht:(z.take r).length=r:=by simp;omega
 rcases Nat.lt_trichotomy j r with h1|h1|h1
 ·rw[List.append_assoc,List.getElem?_append_left (by omega),List.getElem?_take_of_lt h1]
 ·subst h1
  rw[List.append_assoc,List.getElem?_append_right (by omega),ht]
  simp[List.getD_eq_getElem?_getD,h]at h0
  simp[h,h0]
 ·rw[List.append_assoc,List.getElem?_append_right (by omega),ht,List.getElem?_append_right (by simp;omega),List.getElem?_drop]
  congr 1
  simp;omega
set_option maxRecDepth 100000 in
set_option maxHeartbeats 4000000 in
theorem nat_Div_long (w:World) (u v:Value) (a b m:Nat) (ha:NatAt w u a) (hb:NatAt w v b) (hal:(dgs a).length≤100000000000) (hb1:(dgs b).length=m+2) (h:b≤a) :
 Calls Tryz.prog 224 #[u,v] w (Parted a b w):=by
 have hb0:b≠0:=by
  rintro rfl
  rw[show dgs 0 = []from digs_zero _]at hb1;simp at hb1
 have CB:=Lib.hid (nat_digits w v b hb)
 have hlen:(dgs b).length≤(dgs a).length:=digs_length_mono (by omega) h
 have CC0:=nat_Cmp w u v a b ha hb (by omega) (by omega)
 obtain ⟨s0,hs0,hcs⟩:=cmpI_ge h
 rw[hcs]at CC0
 have CC:=Lib.hid CC0
 clear CC0
 have db:(dgs b).getD (m+1) 0<4294967296:=dig_getD (digs_dig (B:=4294967296) (by omega) b) (by omega) (m+1)
 obtain ⟨s,hs⟩:∃ s,s=32 - blen ((dgs b).getD (m+1) 0):=⟨_,rfl⟩
 obtain ⟨t1,t2,t3,t4,t5⟩:=top_shift (n:=m+1) hb0 hb1 hs
 obtain ⟨bl,hbl⟩:∃ bl,bl=32 - s:=⟨_,rfl⟩
 have CL:Hid (∀ wr,Calls Tryz.prog 154 #[.int .u64 ((dgs b).getD (m+1) 0:Nat)] wr (Rets (.int .i64 (bl:Nat)) wr)):=fun wr=>by
  have:=bits_Len ((dgs b).getD (m+1) 0) wr (by omega)
  rwa [show blen ((dgs b).getD (m+1) 0)=bl by have:=blen_le (n:=(dgs b).getD (m+1) 0) (k:=32) (by omega);omega]at this
 have ebl:(32:Int) - (bl:Int)=(s:Int):=by omega
 have CU:Hid (∀ wr,Below w.heap.size w wr→Calls Tryz.prog 272 #[v,.int .i64 s] wr (Gives (fun x w'=>NatAt w' x (b*2 ^ s)) wr)):=fun wr hw=>nat_up wr v b s (hb.keep hw) (by omega) (by omega)
 have CA:Hid (∀ wr,Below w.heap.size w wr→Calls Tryz.prog 272 #[u,.int .i64 s] wr (Gives (fun x w'=>NatAt w' x (a*2 ^ s)) wr)):=fun wr hw=>nat_up wr u a s (ha.keep hw) (by omega) (by omega)
 obtain ⟨lb,hlb⟩:∃ lb,lb=dgs b:=⟨_,rfl⟩
 rw[← hlb]at CB CL db hb1 hlen
 generalize hd:lb.getD (m+1) 0=d at *
 have ew:=wrap64_small d db
 have hss:s<32:=t1
 have T2:=Lib.hid t2;have T3:=Lib.hid t3;have T4:=Lib.hid t4;have T5:=Lib.hid t5;have H:=Lib.hid h;have HB0:=Lib.hid hb0;have DB:=Lib.hid db
 clear t1 t2 t3 t4 t5 h hs hcs hb0 db hlb hbl
 go_enter Tryz.func224,Tryz.ntmps224
 go_wp2_with fail
 refine CB.out.mono ?_
 rintro e w' ⟨A,c,rfl,hA,rfl⟩
 obtain ⟨bb,ob,rfl,hcell⟩:=hA.at_ (m+1) (by omega)
 rw[hd]at hcell
 rw[hb1]at hA ⊢
 go_wp2_with fail
 refine CC.out.mono ?_
 rintro e w' ⟨rfl,rfl⟩
 go_wp2_with fail
 refine (CL.out _).mono ?_
 rintro e w' ⟨rfl,rfl⟩
 go_wp2_with fail
 refine (CU.out _ (Below.refl _ _)).mono ?_
 rintro e w1 ⟨x1,rfl,hx1,hb1'⟩
 obtain ⟨px,A2,c2,rfl,hcx,hl2⟩:=hx1.open_ (Nat.mul_ne_zero HB0.out (Nat.ne_of_gt (Nat.two_pow_pos _)))
 rw[show (dgs (b*2 ^ s)).length=m+2 from T2.out]at hcx hl2
 obtain ⟨pa,A3,c3,rfl,hca,hl3⟩:=(ha.keep hb1').open_ (by have:=H.out;have:=HB0.out;omega)
 obtain ⟨na,hna⟩:∃ na,na=(dgs a).length:=⟨_,rfl⟩
 rw[← hna]at hca hl3 hal hlen
 have HNA:=Lib.hid hna
 clear hna
 have hmk:∀ w,(Instr.makeSlice 289 (.int .i64 0) (.int .i64 (na+2))).run Tryz.prog w=.ok (.slice (some ⟨w.heap.size,0,none⟩) 0 (na+2)) (w.alloc (.cells (vals .u32 (List.replicate (na+2) 0)) 291)):=fun w=>mk_room (na+2) _ (by omega) (by omega) w
 obtain ⟨i1,hi1,hsz1⟩:=info1_u32
 have ewn:IntKind.i64.wrap ((na:Int)+2)=(na:Int)+2:=by rw[IntKind.wrap_i64];omega
 go_upto_region 11 with fail
 have B0:Below w1.heap.size w1 w1.drew:=⟨rfl,rfl,rfl,Nat.le_refl _,fun _ _=>rfl⟩
 obtain ⟨ob0,hob0⟩:∃ o:Obj,o=.cells (vals .u32 (List.replicate (na+2) 0)) 291:=⟨_,rfl⟩
 have B1:Below w1.heap.size w1 (w1.drew.alloc ob0):=B0.alloc (Nat.le_refl _) _
 have E0:=Lib.hid (show a*2 ^ s≠0 from Nat.mul_ne_zero (by have:=H.out;have:=HB0.out;omega) (Nat.ne_of_gt (Nat.two_pow_pos _)))
 have LE:=Lib.hid (show (dgs (a*2 ^ s)).length≤na+1 from up_len hss HNA.out)
 have LP:=Lib.hid (show 0<(dgs (a*2 ^ s)).length from digs_len_pos E0.out)
 have HBW:=Lib.hid hb1';have HB0':=Lib.hid B0;have HB1':=Lib.hid B1;have HHL:=Lib.hid hlen;have HHA:=Lib.hid hal
 clear hb1' B0 B1
 go_cut [11] (fun x wc=>∃ g,x=.slice (some ⟨g,0,none⟩) (dgs (a*2 ^ s)).length (na+2)∧w1.heap.size≤g∧Below w1.heap.size w1 wc∧Row wc g 291 (vals .u32 (dgs (a*2 ^ s) ++ List.replicate (na+2 - (dgs (a*2 ^ s)).length) 0)))
 case rest=>
  obtain ⟨g,rfl,hg,hbc,hrow⟩:=hcut
  obtain ⟨z,hz,lz,dz,vz,zz⟩:=padded (a*2 ^ s) (na+2) (by have:=LE.out;omega)
  rw[← hz]at hrow
  have hn2:=LE.out
  generalize (dgs (a*2 ^ s)).length=n2 at *
  have ZZ:=Lib.hid zz;have VZ:=Lib.hid vz;have DZ:=Lib.hid dz;have HCA:=Lib.hid hca;have HHZ:=Lib.hid hz
  clear zz vz dz hz hmk
  go_wp2_with fail
  go_loopw [11] (fun x wr=>∃ r,x=.slice (some ⟨g,0,none⟩) r (na+2)∧n2≤r∧r≤na+1∧Below w1.heap.size w1 wr∧Row wr g 291 (vals .u32 z)) (fun x _=>match x with | .slice _ l _=>na+1 - l|_=>0)
  case atStart=>exact ⟨n2,rfl,Nat.le_refl _,hn2,hbc,hrow⟩
  case round=>
   obtain ⟨r,rfl,hr1,hr2,hbr,hrr⟩:=hrel
   have hcr:=cell_keep HCA.out hbr
   by_cases hlt:r≤na
   ·have hz0:=Lib.hid (ZZ.out r hr1)
    have hone:Ints .u32 (wr.alloc (.cells #[.int .u32 0] 291)) (.slice (some ⟨wr.heap.size,0,none⟩) ([0]:List Nat).length 1) [0]:=Row.ints (l:=[0]) (Row.new wr 291 (vals .u32 [0])) 1 (by simp)
    go_wp2_with (at_builtin;refine wpList_append_row rfl (.tmp 84) (.tmp 85) 289 rfl 291 i1 Tryz.underlying289 hi1 hsz1 .u32 g r (na+2) 1 z [0] _ 1 rfl rfl rfl (hrr.alloc _) hone (by simp) (by simp;omega) (by simp;omega) ?_;intro w6 hr6 ho6)
    rw[put_zero z r (by omega) hz0.out]at hr6
    go_wp2_with fail
    go_roundw
    case rel=>exact ⟨r+1,rfl,by omega,by omega,(hbr.alloc hbr.size _).trans (ho6.below hg),hr6⟩
    case measure=>show na+1 - (r+1)<na+1 - r;omega
   ·obtain rfl:r=na+1:=by omega
    obtain ⟨K,hK⟩:∃ K,na+1=K+(m+2):=⟨na+1 - (m+2),by omega⟩
    have hmk2:∀ w,(Instr.makeSlice 289 (.int .i64 (K:Int)) (.int .i64 (K:Int))).run Tryz.prog w=.ok (.slice (some ⟨w.heap.size,0,none⟩) K K) (w.alloc (.cells (vals .u32 (List.replicate K 0)) 291)):=fun w=>mk_u32 K _ rfl (by omega) w
    obtain ⟨b2,o2,rfl,hc0⟩:=(show U32s w1 (.slice A2 (dgs (b*2 ^ s)).length c2) (dgs (b*2 ^ s))from by rw[show (dgs (b*2 ^ s)).length=m+2 from T2.out];exact hl2).at_ 0 (by rw[show (dgs (b*2 ^ s)).length=m+2 from T2.out];omega)
    have hb2:b2<w1.heap.size:=block_lt hc0
    have hglt:=hrr.lt
    have L0:Hid (LongInv 4294967296 (a*2 ^ s) (b*2 ^ s) z (List.replicate K 0) (na+2) K K):=by
     have:=LongInv.start (B:=4294967296) (A:=a*2 ^ s) (b:=b*2 ^ s) (H:=2147483648) (K:=K) (n:=m+1) (by omega) DZ.out VZ.out (long_top hss HNA.out (by omega)) T4.out
     rwa [lz]at this
    clear hc0
    go_wp2_with fail
    obtain ⟨gt,hgt⟩:∃ gt,gt=wr.heap.size:=⟨_,rfl⟩
    obtain ⟨w4,hw4⟩:∃ w4,w4=wr.alloc (.cells (vals .u32 (List.replicate K 0)) 291):=⟨_,rfl⟩
    have R0:Row w4 gt 291 (vals .u32 (List.replicate K 0)):=by rw[hw4,hgt];exact Row.new _ _ _
    have R1:Row w4 g 291 (vals .u32 z):=by rw[hw4];exact hrr.alloc _
    have B4:Below w1.heap.size w1 w4:=by rw[hw4];exact hbr.alloc hbr.size _
    rw[← hw4,← hgt]
    have hgg:g<gt:=by rw[hgt];exact hglt
    clear hw4 hgt hglt hrr hbr hcr hmk2
    go_loopw [13] (fun t wq=>∃ (j:Nat) (z o:List Nat),t=.int .i64 ((j:Int) - 1)∧j≤K∧Below w1.heap.size w1 wq∧Row wq g 291 (vals .u32 z)∧Row wq gt 291 (vals .u32 o)∧Hid (LongInv 4294967296 (a*2 ^ s) (b*2 ^ s) z o (na+2) K j)) (fun t _=>(intOf t+1).toNat)
    case atStart=>exact ⟨K,z,_,rfl,Nat.le_refl _,B4,R1,R0,L0⟩
    case round=>
     obtain ⟨j,z,o,rfl,hj,hbq,hrz,hro,hi⟩:=hrel
     rcases Nat.eq_zero_or_pos j with h0|h0
     ·subst h0
      obtain ⟨vo,vz⟩:=hi.out.done (Nat.pos_of_ne_zero (Nat.mul_ne_zero HB0.out (Nat.ne_of_gt (Nat.two_pow_pos _))))
      obtain ⟨q1,q2⟩:=scale_div (N:=a) (y:=b) (s:=2 ^ s) (Nat.two_pow_pos _)
      rw[q1]at vo;rw[q2]at vz
      have lo:=hi.out.lo
      have lz':=hi.out.lz
      have do':=hi.out.do_
      have dz':=hi.out.dz
      have ho:U32s wr (.slice (some ⟨gt,0,none⟩) K K) o:=by
       have:=hro.ints (l:=o) K (by omega)
       rwa [lo]at this
      have hzz:U32s wr (.slice (some ⟨g,0,none⟩) (na+1) (na+2)) (z.take (na+1)):=hrz.front (na+1) (na+2) (by omega) (by omega)
      have hvz:val 4294967296 (z.take (na+1))=a % b*2 ^ s:=by
       rw[val_take_small (by omega),vz]
       rw[vz]
       exact rest_small HB0.out T5.out (by omega)
      have CO:=Lib.hid (nat_of wr _ o ho do' (by omega))
      have CZ:Hid (∀ wq,Below wr.heap.size wr wq→Calls Tryz.prog 199 #[.slice (some ⟨g,0,none⟩) (na+1) (na+2)] wq (Gives (fun x w'=>NatAt w' x (a % b*2 ^ s)) wq)):=fun wq hq=>by
       have:=nat_of wq _ (z.take (na+1)) (hzz.keep hq) (dig_take dz' _) (by simp;omega)
       rwa [hvz]at this
      rw[vo]at CO
      have hdl6:(dgs (a % b*2 ^ s)).length≤1000000000000:=by
       have h1:=digs_length_le (B:=4294967296) (show 1<4294967296 by omega) (rest_small (a:=a) HB0.out T5.out (Nat.le_refl (m+1+1)))
       have h2:=HHL.out
       have h3:=HHA.out
       exact Nat.le_trans h1 (by omega)
      clear vo vz q1 q2 hvz ho hzz hK
      go_wp2_with fail
      refine CO.out.mono ?_
      rintro e w5 ⟨x5,rfl,hx5,hb5⟩
      go_wp2_with fail
      refine (CZ.out _ hb5).mono ?_
      rintro e w6 ⟨x6,rfl,hx6,hb6⟩
      have CD:=Lib.hid (nat_down w6 x6 _ s hx6 hdl6 (by omega))
      rw[Nat.mul_div_cancel _ (Nat.two_pow_pos s)]at CD
      go_wp2_with fail
      refine CD.out.mono ?_
      rintro e w7 ⟨x7,rfl,hx7,hb7⟩
      go_wp2_with fail
      go_ret3
      have hB5:=below_seq hb5 (below_seq hb6 hb7)
      exact ⟨x5,x7,rfl,hx5.keep (below_seq hb6 hb7),hx7,HBW.out.trans ((hbq.trans (hB5.mono hbq.size)).mono HBW.out.size)⟩
     ·obtain ⟨k,rfl⟩:∃ k,j=k+1:=⟨j - 1,by omega⟩
      have lz':=hi.out.lz
      have lo:=hi.out.lo
      have dz':=hi.out.dz
      obtain ⟨v1,v2⟩:=hi.out.window (by omega) T5.out
      have hwl:((z.drop k).take (m+3)).length=m+3:=by simp;omega
      have hl2':U32s wr (.slice (some ⟨b2,o2,none⟩) (dgs (b*2 ^ s)).length c2) (dgs (b*2 ^ s)):=by
       rw[show (dgs (b*2 ^ s)).length=m+2 from T2.out];exact hl2.keep hbq
      have CS:=Lib.hid (nat_step wr g k (na+2 - k) b2 o2 c2 m (vals .u32 z) ((z.drop k).take (m+3)) (dgs (b*2 ^ s)) (by rw[upd_window _ _ _ (by omega)];exact hrz) (by rw[hwl,vals_size];omega)
       (fun i hi=>by
        obtain ⟨b3,o3,e3,h3⟩:=hl2'.at_ i hi
        injection e3 with e3
        injection e3 with e3 e4
        subst e3;subst e4
        exact h3) (by omega) hwl T2.out (by omega) (by omega) (by have:=hl2'.cap;rw[show (dgs (b*2 ^ s)).length=m+2 from T2.out]at this;exact this) (dig_take (dig_drop dz' _) _) (digs_dig (by omega) _) T3.out
       (by rw[v1,show val 4294967296 (dgs (b*2 ^ s))=b*2 ^ s from val_digs (by omega) _];exact v2))
      clear v1 v2 hl2'
      have hK2:K+(m+2)=na+1:=hK.symm
      clear hK
      go_wp2_with fail
      rw[show k+(m+2)+1 - k=m+3 by omega]
      refine CS.out.mono ?_
      rintro e w5 ⟨he,l,hrl,hll,hdl,hvl,hol⟩
      rw[show val 4294967296 (dgs (b*2 ^ s))=b*2 ^ s from val_digs (by omega) _]at he hvl
      obtain ⟨q,hq⟩:∃ q,q=val 4294967296 ((z.drop k).take (m+3)) / (b*2 ^ s):=⟨_,rfl⟩
      rw[← hq]at he
      subst he
      have hgn:gt≠g:=by omega
      have hro5:Row w5 gt 291 (vals .u32 o):=(hol.block gt hgn).trans hro
      have hcell5:=hro5.cell k
      rw[vals_get .u32 o k (by omega)]at hcell5
      have hfree5:=hro5.free k
      rw[upd_vals z l k (by omega),hll,hwl]at hrl
      have HST:=Lib.hid (hi.out.step (by omega) T5.out (Nat.pos_of_ne_zero (Nat.mul_ne_zero HB0.out (Nat.ne_of_gt (Nat.two_pow_pos _)))) (by omega) (by omega) (hll.trans hwl) hdl hvl)
      rw[← hq]at HST
      clear hq hvl
      go_wp2_with fail
      go_roundw
      case rel=>
       refine ⟨k,_,_,rfl,by omega,(hbq.trans (hol.below hg)).setCell (Nat.le_trans hg (Nat.le_of_lt hgg)) _,hrl.far (Nat.ne_of_lt hgg) _,?_,HST⟩
       rw[← vals_set]
       exact hro5.set _ _
      case measure=>simp[intOf]
 go_region_law (first
  | (go_simp;go_at_call 272;refine (CA.out _ (by first|exact HBW.out.trans (HB0'.out.mono HBW.out.size)|(rw[← hob0];exact HBW.out.trans (HB1'.out.mono HBW.out.size)))).mono ?_;rintro e w5 ⟨x5,rfl,hx5,hb5⟩;obtain ⟨p5,A5,c5,rfl,hc5,hl5⟩:=hx5.open_ E0.out;have k5:(w5.alloc (.cells (vals .u32 (List.replicate (na+2) 0)) 291)).cell? ⟨p5,0,none⟩=some (.slice A5 (dgs (a*2 ^ s)).length c5):=cell_keep hc5 ((Below.refl _ _).alloc (Nat.le_refl _) _);(try have hrow5:Row w5 w1.heap.size 291 (vals .u32 (List.replicate (na+2) 0)):=Row.keep (Row.new w1.drew 291 (vals .u32 (List.replicate (na+2) 0))) hb5);(try have kpa:w5.cell? ⟨pa,0,none⟩=some (.slice A3 na c3):=cell_keep (w:=w1.drew) hca hb5))
  | ((refine step_append_row rfl (.tmp 68) (.tmp 74) 289 rfl 291 i1 Tryz.underlying289 hi1 hsz1 .u32 _ _ _ _ (List.replicate (na+2) 0) (dgs (a*2 ^ s)) _ _ rfl rfl rfl (by first|exact hrow5|exact Row.new _ _ _) (by first|exact hl5|exact Ints.keep hl5 ((Below.refl _ _).alloc (Nat.le_refl _) _)) LP.out (by have:=LE.out;simp;omega) (by have:=LE.out;omega) ?_;intro w6 hr6 ho6)))
 all_goals (go_wp2_with fail;go_meet)
 all_goals subst hob0
 all_goals refine ⟨_,rfl,?_,?_,by simpa using hr6⟩
 all_goals first
  | exact Nat.le_refl _
  | exact hb5.size
  | exact (HB1'.out.trans (hb5.mono HB1'.out.size)).trans (ho6.below (Nat.le_refl _))
  | exact ((HB0'.out.trans (hb5.mono HB0'.out.size)).alloc hb5.size _).trans (ho6.below hb5.size)
end Go.Proofs.YtbdfhnelmojbpaaGreatDoor
end
section
namespace Vic
open Go Go.RowKit
def natOf (w:World):Value→Nat
 | .pointer (some p)=>match w.cell? p with
   | some (.slice (some q) l _)=>val 4294967296 ((List.range l).map fun i=>match w.cell? ⟨q.block,q.off+i,none⟩with|some (.int _ d)=>d.toNat|_=>0)
   | _=>0
 | _=>0
theorem natOf_eq {w:World}{v:Value}{n:Nat}(h:NatAt w v n):natOf w v=n:=by
 rcases h with ⟨rfl,rfl⟩|⟨b,s,rfl,hc,⟨A,c,rfl,hlc,hcell⟩,hblk⟩
 ·rfl
 ·have hv:val 4294967296 (digs 4294967296 n)=n:=val_digs (by omega) n
  unfold natOf
  simp only[hc]
  rcases A with _|q
  ·rcases Nat.eq_zero_or_pos (digs 4294967296 n).length with h0|h0
   ·have:digs 4294967296 n = []:=List.eq_nil_of_length_eq_zero h0
    rw[this]at hv
    simpa [val]using hv
   ·obtain ⟨_,_,h1,_⟩:=hcell 0 h0
    cases h1
  ·have e:((List.range (digs 4294967296 n).length).map fun i=>match w.cell? ⟨q.block,q.off+i,none⟩with|some (.int _ d)=>d.toNat|_=>0)=digs 4294967296 n:=by
    apply List.ext_getElem
    ·simp
    ·intro i h1 h2
     obtain ⟨b',o',hq,hi⟩:=hcell i h2
     injection hq with hq
     subst hq
     simp[hi,h2]
   simp only[e]
   exact hv
theorem tz_le_len (a L:Nat) (h:(dgs a).length≤L):tz a≤32*L:=by
 rcases Nat.eq_zero_or_pos a with h0|h0
 ·subst h0;rw[tz_zero];omega
 ·have h1:=lt_pow_digs_length (B:=4294967296) (by omega) a
  have e:(4294967296:Nat) ^ (dgs a).length=2 ^ (32*(dgs a).length):=by rw[Nat.pow_mul]
  have h2:a<2 ^ (32*(dgs a).length):=by rw[← e];exact h1
  have:=tz_lt (by omega) h2
  omega
end Vic
namespace Go.Proofs.YtbdfhnelmojbpaaGreatDoor
open Go.RowKit Vic
theorem nat_Div (w:World) (u v:Value) (a b:Nat) (ha:NatAt w u a) (hb:NatAt w v b) (hal:(dgs a).length≤100000000000) (hbl:(dgs b).length≤100000000000) (h0:b≠0) :
 Calls Tryz.prog 224 #[u,v] w (Parted a b w):=by
 rcases Nat.lt_or_ge a b with h|h
 ·exact nat_Div_small w u v a b ha hb (by omega) (by omega) h
 ·have h1:=digs_len_pos h0
  rcases Nat.lt_or_ge (dgs b).length 2 with h2|h2
  ·exact nat_Div_one w u v a b ha hb (by omega) (by omega) h
  ·exact nat_Div_long w u v a b ((dgs b).length - 2) ha hb (by omega) (by omega) h
set_option maxRecDepth 100000 in
set_option maxHeartbeats 4000000 in
theorem nat_shifts (w:World) (u v:Value) (a b:Nat) (ha:NatAt w u a) (hb:NatAt w v b) (hal:(dgs a).length≤10000000000) (hbl:(dgs b).length≤10000000000) (ha0:a≠0) (hb0:b≠0) :
 Calls Tryz.prog 295 #[u,v] w (Gives (fun x w'=>NatAt w' x (Nat.gcd a b)) w):=by
 have CA:=Lib.hid (nat_Twos w u a ha (by omega))
 have CB:=Lib.hid (nat_Twos w v b hb (by omega))
 have CA2:Hid (∀ wr,Below w.heap.size w wr→Calls Tryz.prog 148 #[u] wr (Rets (.int .i64 ((tz a:Nat):Int)) wr)):=fun wr hw=>nat_Twos wr u a (ha.keep hw) (by omega)
 have CB2:Hid (∀ wr,Below w.heap.size w wr→Calls Tryz.prog 148 #[v] wr (Rets (.int .i64 ((tz b:Nat):Int)) wr)):=fun wr hw=>nat_Twos wr v b (hb.keep hw) (by omega)
 have ta:=tz_le_len a _ hal
 have tb:=tz_le_len b _ hbl
 have CD:Hid (∀ wr,Below w.heap.size w wr→Calls Tryz.prog 274 #[u,.int .i64 (tz a:Nat)] wr (Gives (fun x w'=>NatAt w' x (odd a)) wr)):=fun wr hw=>nat_down wr u a (tz a) (ha.keep hw) (by omega) (by omega)
 have CE:Hid (∀ wr,Below w.heap.size w wr→Calls Tryz.prog 274 #[v,.int .i64 (tz b:Nat)] wr (Gives (fun x w'=>NatAt w' x (odd b)) wr)):=fun wr hw=>nat_down wr v b (tz b) (hb.keep hw) (by omega) (by omega)
 have HG:=Lib.hid (gcd_odd_odd ha0 hb0)
 obtain ⟨L,hL⟩:∃ L,L=max (dgs a).length (dgs b).length:=⟨_,rfl⟩
 have hl1:Hid ((dgs (odd a)).length≤L):=Nat.le_trans (digs_length_mono (by omega) (odd_le a)) (by rw[hL];exact Nat.le_max_left _ _)
 have hl2:Hid ((dgs (odd b)).length≤L):=Nat.le_trans (digs_length_mono (by omega) (odd_le b)) (by rw[hL];exact Nat.le_max_right _ _)
 have o1:=Lib.hid (odd_odd ha0)
 have o2:=Lib.hid (odd_odd hb0)
 have hLL:L≤10000000000:=by omega
 obtain ⟨by_,hby⟩:∃ by_,by_=min (tz a) (tz b):=⟨_,rfl⟩
 have hby2:by_≤320000000000:=by omega
 have HBY:=Lib.hid hby
 generalize tz a=p at *
 generalize tz b=q at *
 have HL:=Lib.hid hL
 clear hL
 have hbpq:(by_=p∧p≤q)∨(by_=q∧q<p):=by omega
 clear hby
 go_enter Tryz.func295,Tryz.ntmps295
 go_wp2_with fail
 refine CA.out.mono ?_
 rintro e w' ⟨rfl,rfl⟩
 go_wp2_with fail
 refine CB.out.mono ?_
 rintro e w' ⟨rfl,rfl⟩
 rcases hbpq with ⟨rfl,hpq⟩|⟨rfl,hpq⟩
 all_goals
  go_wp2_with fail
  refine (CA2.out _ (Below.refl _ _)).mono ?_
  rintro e w' ⟨rfl,rfl⟩
  go_wp2_with fail
  refine (CD.out _ (Below.refl _ _)).mono ?_
  rintro e w1 ⟨x1,rfl,hx1,hb1⟩
  go_wp2_with fail
  refine (CB2.out _ hb1).mono ?_
  rintro e w' ⟨rfl,rfl⟩
  go_wp2_with fail
  refine (CE.out _ hb1).mono ?_
  rintro e w2 ⟨x2,rfl,hx2,hb2⟩
  have hx1':=hx1.keep hb2
  have hb3:=below_seq hb1 hb2
  obtain ⟨G,hG⟩:∃ G,G=Nat.gcd (odd a) (odd b):=⟨_,rfl⟩
  have HGG:=Lib.hid hG
  clear hG CA2 CD CB2 CE hx1 CA CB
  go_wp2_with fail
  go_loopw [0,1] (fun s t wr=>∃ x y,NatAt wr s x∧NatAt wr t y∧Hid (x % 2=1)∧Hid (y % 2=1)∧Hid (Nat.gcd x y=G)∧(dgs x).length≤L∧(dgs y).length≤L∧Below w.heap.size w wr) (fun s t wr=>natOf wr s+natOf wr t)
  case atStart=>exact ⟨_,_,hx1',hx2,o1,o2,HGG.out.symm,hl1.out,hl2.out,hb3⟩
  case round=>
   obtain ⟨x,y,hx,hy,ox,oy,hg,hlx,hly,hbr⟩:=hrel
   have CC:=nat_Cmp wr _ _ x y hx hy (by omega) (by omega)
   rcases Nat.lt_trichotomy x y with h|h|h
   ·rw[cmpI_lt h]at CC
    have HC:=Lib.hid CC
    clear CC
    have CL:=Lib.hid (nat_Less_yes wr _ _ y x hy hx (by omega) (by omega) (by omega))
    have hne:y - x≠0:=by omega
    have hld:(dgs (y - x)).length≤L:=Nat.le_trans (digs_length_mono (by omega) (Nat.sub_le _ _)) hly
    have hlo:(dgs (odd (y - x))).length≤L:=Nat.le_trans (digs_length_mono (by omega) (odd_le _)) hld
    have hGR:Hid (Nat.gcd (odd (y - x)) x=G):=(gcd_round (by omega) ox.out).trans ((Nat.gcd_comm _ _).trans hg.out)
    have hS0:x≠0:=by have:=ox.out;omega
    have hdec:Hid (odd (y - x)+x<x+y):=by
     have:=odd_le (y - x)
     show _<_
     omega
    have hodd:Hid (odd (y - x) % 2=1):=odd_odd hne
    have hO0:odd (y - x)≠0:=by have:=hodd.out;omega
    generalize y - x=D at *
    go_wp2_with fail
    refine HC.out.mono ?_
    rintro e w' ⟨rfl,rfl⟩
    go_wp2_with fail
    refine CL.out.mono ?_
    rintro e w3 ⟨x3,rfl,hx3,hb4⟩
    have CT:=Lib.hid (nat_Twos w3 x3 D hx3 (by omega))
    have ht:=tz_le_len D L hld
    have CDn:Hid (Calls Tryz.prog 274 #[x3,.int .i64 (tz D:Nat)] w3 (Gives (fun x w'=>NatAt w' x (odd D)) w3)):=nat_down w3 x3 D (tz D) hx3 (by omega) (by omega)
    generalize tz D=td at *
    generalize odd D=O at *
    go_wp2_with fail
    refine CT.out.mono ?_
    rintro e w' ⟨rfl,rfl⟩
    go_wp2_with fail
    refine CDn.out.mono ?_
    rintro e w4 ⟨x4,rfl,hx4,hb5⟩
    have hb6:Below w.heap.size w w4:=hbr.trans ((below_seq hb4 hb5).mono hbr.size)
    have hS4:=(hx).keep (below_seq hb4 hb5)
    have hM1:=Lib.hid (natOf_eq hx)
    have hM2:=Lib.hid (natOf_eq hy)
    obtain ⟨p4,A4,c4,rfl,hc4,hl4⟩:=hx4.open_ hO0
    obtain ⟨p5,A5,c5,rfl,hc5,hl5⟩:=hS4.open_ hS0
    have hM3:=Lib.hid (natOf_eq hx4)
    have hM4:=Lib.hid (natOf_eq hS4)
    have HL4:=Lib.hid hlo
    have HL5:=Lib.hid hlx
    by_cases h4:(dgs O).length≤2
    ·by_cases h5:(dgs x).length≤2
     ·have v4:=word_small h4
      have v5:=word_small h5
      have CW:=nat_Word w4 _ O hx4 (by omega)
      have CV:=nat_Word w4 _ x hS4 (by omega)
      rw[if_pos v4,decide_eq_true v4]at CW
      rw[if_pos v5,decide_eq_true v5]at CV
      have hW:=Lib.hid CW
      have hV:=Lib.hid CV
      have CC:=nat_common w4 O x v4 v5
      rw[hGR.out]at CC
      have hCC:=Lib.hid CC
      have hGl:G<18446744073709551616:=by rw[← hGR.out];exact Nat.lt_of_le_of_lt (Nat.gcd_le_left _ (by omega)) v4
      have hGL:=Lib.hid hGl
      clear CW CV CC v4 v5 hGl
      generalize (dgs O).length=n4 at *
      generalize (dgs x).length=n5 at *
      go_wp2_with fail
      refine hW.out.mono ?_
      rintro e w' ⟨rfl,rfl⟩
      go_wp2_with fail
      refine hV.out.mono ?_
      rintro e w' ⟨rfl,rfl⟩
      go_wp2_with fail
      refine hCC.out.mono ?_
      rintro e w5 ⟨rfl,hb7⟩
      have CO:=Lib.hid (nat_Of w5 G hGL.out)
      go_wp2_with fail
      refine CO.out.mono ?_
      rintro e w6 ⟨x6,rfl,hx6,hb8⟩
      have CU:=Lib.hid (nat_up w6 x6 G by_ hx6 (Nat.le_trans (digs_length_le (k:=2) (by omega) (by exact hGL.out)) (by omega)) (by omega))
      go_wp2_with fail
      refine CU.out.mono ?_
      rintro e w7 ⟨x7,rfl,hx7,hb9⟩
      go_wp2_with fail
      go_ret
      refine ⟨x7,rfl,?_,hb6.trans ((below_seq hb7 (below_seq hb8 hb9)).mono hb6.size)⟩
      rw[HG.out,← HBY.out,← HGG.out]
      exact hx7
     ·generalize hn4:(dgs O).length=n4 at *
      generalize hn5:(dgs x).length=n5 at *
      have HN4:=Lib.hid hn4;have HN5:=Lib.hid hn5;clear hn4 hn5
      go_wp2_with fail
      go_roundw
      case rel=>exact ⟨O,x,hx4,hS4,hodd,ox,hGR,Nat.le_trans (Nat.le_of_eq HN4.out) HL4.out,Nat.le_trans (Nat.le_of_eq HN5.out) HL5.out,hb6⟩
      case measure=>rw[hM1.out,hM2.out,hM3.out,hM4.out];exact hdec.out
    ·generalize hn4:(dgs O).length=n4 at *
     generalize hn5:(dgs x).length=n5 at *
     have HN4:=Lib.hid hn4;have HN5:=Lib.hid hn5;clear hn4 hn5
     go_wp2_with fail
     go_roundw
     case rel=>exact ⟨O,x,hx4,hS4,hodd,ox,hGR,Nat.le_trans (Nat.le_of_eq HN4.out) HL4.out,Nat.le_trans (Nat.le_of_eq HN5.out) HL5.out,hb6⟩
     case measure=>rw[hM1.out,hM2.out,hM3.out,hM4.out];exact hdec.out
   ·subst h
    rw[cmpI_eq rfl]at CC
    have HC:=Lib.hid CC
    have CU:=Lib.hid (nat_up wr _ x _ hx (by omega) (show by_≤1000000000000 by omega))
    clear CC
    go_wp2_with fail
    refine HC.out.mono ?_
    rintro e w' ⟨rfl,rfl⟩
    go_wp2_with fail
    refine CU.out.mono ?_
    rintro e w3 ⟨x3,rfl,hx3,hb4⟩
    go_wp2_with fail
    go_ret
    refine ⟨x3,rfl,?_,hbr.trans (hb4.mono hbr.size)⟩
    rw[HG.out,← HBY.out,← HGG.out,← hg.out,Nat.gcd_self]
    exact hx3
   ·rw[cmpI_gt h]at CC
    have HC:=Lib.hid CC
    clear CC
    have CL:=Lib.hid (nat_Less_yes wr _ _ x y hx hy (by omega) (by omega) (by omega))
    have hne:x - y≠0:=by omega
    have hld:(dgs (x - y)).length≤L:=Nat.le_trans (digs_length_mono (by omega) (Nat.sub_le _ _)) hlx
    have hlo:(dgs (odd (x - y))).length≤L:=Nat.le_trans (digs_length_mono (by omega) (odd_le _)) hld
    have hGR:Hid (Nat.gcd (odd (x - y)) y=G):=(gcd_round (by omega) oy.out).trans (hg.out)
    have hS0:y≠0:=by have:=oy.out;omega
    have hdec:Hid (odd (x - y)+y<x+y):=by
     have:=odd_le (x - y)
     show _<_
     omega
    have hodd:Hid (odd (x - y) % 2=1):=odd_odd hne
    have hO0:odd (x - y)≠0:=by have:=hodd.out;omega
    generalize x - y=D at *
    go_wp2_with fail
    refine HC.out.mono ?_
    rintro e w' ⟨rfl,rfl⟩
    go_wp2_with fail
    refine CL.out.mono ?_
    rintro e w3 ⟨x3,rfl,hx3,hb4⟩
    have CT:=Lib.hid (nat_Twos w3 x3 D hx3 (by omega))
    have ht:=tz_le_len D L hld
    have CDn:Hid (Calls Tryz.prog 274 #[x3,.int .i64 (tz D:Nat)] w3 (Gives (fun x w'=>NatAt w' x (odd D)) w3)):=nat_down w3 x3 D (tz D) hx3 (by omega) (by omega)
    generalize tz D=td at *
    generalize odd D=O at *
    go_wp2_with fail
    refine CT.out.mono ?_
    rintro e w' ⟨rfl,rfl⟩
    go_wp2_with fail
    refine CDn.out.mono ?_
    rintro e w4 ⟨x4,rfl,hx4,hb5⟩
    have hb6:Below w.heap.size w w4:=hbr.trans ((below_seq hb4 hb5).mono hbr.size)
    have hS4:=(hy).keep (below_seq hb4 hb5)
    have hM1:=Lib.hid (natOf_eq hx)
    have hM2:=Lib.hid (natOf_eq hy)
    obtain ⟨p4,A4,c4,rfl,hc4,hl4⟩:=hx4.open_ hO0
    obtain ⟨p5,A5,c5,rfl,hc5,hl5⟩:=hS4.open_ hS0
    have hM3:=Lib.hid (natOf_eq hx4)
    have hM4:=Lib.hid (natOf_eq hS4)
    have HL4:=Lib.hid hlo
    have HL5:=Lib.hid hly
    by_cases h4:(dgs O).length≤2
    ·by_cases h5:(dgs y).length≤2
     ·have v4:=word_small h4
      have v5:=word_small h5
      have CW:=nat_Word w4 _ O hx4 (by omega)
      have CV:=nat_Word w4 _ y hS4 (by omega)
      rw[if_pos v4,decide_eq_true v4]at CW
      rw[if_pos v5,decide_eq_true v5]at CV
      have hW:=Lib.hid CW
      have hV:=Lib.hid CV
      have CC:=nat_common w4 O y v4 v5
      rw[hGR.out]at CC
      have hCC:=Lib.hid CC
      have hGl:G<18446744073709551616:=by rw[← hGR.out];exact Nat.lt_of_le_of_lt (Nat.gcd_le_left _ (by omega)) v4
      have hGL:=Lib.hid hGl
      clear CW CV CC v4 v5 hGl
      generalize (dgs O).length=n4 at *
      generalize (dgs y).length=n5 at *
      go_wp2_with fail
      refine hW.out.mono ?_
      rintro e w' ⟨rfl,rfl⟩
      go_wp2_with fail
      refine hV.out.mono ?_
      rintro e w' ⟨rfl,rfl⟩
      go_wp2_with fail
      refine hCC.out.mono ?_
      rintro e w5 ⟨rfl,hb7⟩
      have CO:=Lib.hid (nat_Of w5 G hGL.out)
      go_wp2_with fail
      refine CO.out.mono ?_
      rintro e w6 ⟨x6,rfl,hx6,hb8⟩
      have CU:=Lib.hid (nat_up w6 x6 G by_ hx6 (Nat.le_trans (digs_length_le (k:=2) (by omega) (by exact hGL.out)) (by omega)) (by omega))
      go_wp2_with fail
      refine CU.out.mono ?_
      rintro e w7 ⟨x7,rfl,hx7,hb9⟩
      go_wp2_with fail
      go_ret
      refine ⟨x7,rfl,?_,hb6.trans ((below_seq hb7 (below_seq hb8 hb9)).mono hb6.size)⟩
      rw[HG.out,← HBY.out,← HGG.out]
      exact hx7
     ·generalize hn4:(dgs O).length=n4 at *
      generalize hn5:(dgs y).length=n5 at *
      have HN4:=Lib.hid hn4;have HN5:=Lib.hid hn5;clear hn4 hn5
      go_wp2_with fail
      go_roundw
      case rel=>exact ⟨O,y,hx4,hS4,hodd,oy,hGR,Nat.le_trans (Nat.le_of_eq HN4.out) HL4.out,Nat.le_trans (Nat.le_of_eq HN5.out) HL5.out,hb6⟩
      case measure=>rw[hM1.out,hM2.out,hM3.out,hM4.out];exact hdec.out
    ·generalize hn4:(dgs O).length=n4 at *
     generalize hn5:(dgs y).length=n5 at *
     have HN4:=Lib.hid hn4;have HN5:=Lib.hid hn5;clear hn4 hn5
     go_wp2_with fail
     go_roundw
     case rel=>exact ⟨O,y,hx4,hS4,hodd,oy,hGR,Nat.le_trans (Nat.le_of_eq HN4.out) HL4.out,Nat.le_trans (Nat.le_of_eq HN5.out) HL5.out,hb6⟩
     case measure=>rw[hM1.out,hM2.out,hM3.out,hM4.out];exact hdec.out
end Go.Proofs.YtbdfhnelmojbpaaGreatDoor
end
section
namespace Go.Proofs.YtbdfhnelmojbpaaGreatDoor
open Go.RowKit Vic
set_option maxRecDepth 100000 in
set_option maxHeartbeats 4000000 in
theorem nat_Gcd (w:World) (u v:Value) (a b:Nat) (ha:NatAt w u a) (hb:NatAt w v b) (hal:(dgs a).length≤10000000000) (hbl:(dgs b).length≤10000000000) :
 Calls Tryz.prog 261 #[u,v] w (Gives (fun x w'=>NatAt w' x (Nat.gcd a b)) w):=by
 obtain ⟨L,hL⟩:∃ L,L=max (dgs a).length (dgs b).length:=⟨_,rfl⟩
 have hl1:(dgs a).length≤L:=by omega
 have hl2:(dgs b).length≤L:=by omega
 have hLL:L≤10000000000:=by omega
 obtain ⟨G,hG⟩:∃ G,G=Nat.gcd a b:=⟨_,rfl⟩
 rw[← hG]
 have HG:=Lib.hid hG
 clear hL hG
 go_enter Tryz.func261,Tryz.ntmps261
 go_wp2_with fail
 go_loopw [5,6] (fun s t wr=>∃ x y,NatAt wr s x∧NatAt wr t y∧Hid (Nat.gcd x y=G)∧(dgs x).length≤L∧(dgs y).length≤L∧Below w.heap.size w wr) (fun _ t wr=>natOf wr t)
 case atStart=>exact ⟨a,b,ha,hb,HG.out.symm,hl1,hl2,Below.refl _ _⟩
 case round=>
  obtain ⟨x,y,hx,hy,hg,hlx,hly,hbr⟩:=hrel
  have CX:=nat_Word wr _ x hx (by omega)
  have CY:=nat_Word wr _ y hy (by omega)
  have hM1:=Lib.hid (natOf_eq hy)
  have CDX:=Lib.hid (nat_digits wr _ x hx)
  have CDY:=Lib.hid (nat_digits wr _ y hy)
  by_cases hw:x<18446744073709551616∧y<18446744073709551616
  ·obtain ⟨v4,v5⟩:=hw
   rw[if_pos v4,decide_eq_true v4]at CX
   rw[if_pos v5,decide_eq_true v5]at CY
   have hX:=Lib.hid CX
   have hY:=Lib.hid CY
   have CC:=nat_common wr x y v4 v5
   rw[hg.out]at CC
   have hCC:=Lib.hid CC
   have hGl:G<18446744073709551616:=by
    rw[← hg.out]
    rcases Nat.eq_zero_or_pos x with h0|h0
    ·subst h0;rw[Nat.gcd_zero_left];exact v5
    ·exact Nat.lt_of_le_of_lt (Nat.gcd_le_left _ h0) v4
   have hGL:=Lib.hid hGl
   clear CX CY CC v4 v5 hGl
   go_wp2_with fail
   refine hX.out.mono ?_
   rintro e w' ⟨rfl,rfl⟩
   go_wp2_with fail
   refine hY.out.mono ?_
   rintro e w' ⟨rfl,rfl⟩
   go_wp2_with fail
   refine hCC.out.mono ?_
   rintro e w5 ⟨rfl,hb7⟩
   have CO:=Lib.hid (nat_Of w5 G hGL.out)
   go_wp2_with fail
   refine CO.out.mono ?_
   rintro e w6 ⟨x6,rfl,hx6,hb8⟩
   go_wp2_with fail
   go_ret
   exact ⟨x6,rfl,hx6,hbr.trans ((below_seq hb7 hb8).mono hbr.size)⟩
  ·obtain ⟨p,hp⟩:∃ p:Nat,p=if x<18446744073709551616 then x else 0:=⟨_,rfl⟩
   obtain ⟨q,hq⟩:∃ q:Nat,q=if y<18446744073709551616 then y else 0:=⟨_,rfl⟩
   rw[← hp]at CX
   rw[← hq]at CY
   have hb2:(decide (x<18446744073709551616)=false)∨(decide (x<18446744073709551616)=true∧decide (y<18446744073709551616)=false):=by
    by_cases h1:x<18446744073709551616
    ·exact .inr ⟨decide_eq_true h1,decide_eq_false fun h2=>hw ⟨h1,h2⟩⟩
    ·exact .inl (decide_eq_false h1)
   clear hp hq hw
   generalize decide (x<18446744073709551616)=bx at *
   generalize decide (y<18446744073709551616)=by_ at *
   have hX:=Lib.hid CX
   have hY:=Lib.hid CY
   clear CX CY
   rcases Nat.eq_zero_or_pos y with h0|h0
   ·subst h0
    have hgx:x=G:=by have:=hg.out;rwa [Nat.gcd_zero_right]at this
    subst hgx
    have CO:Hid (∀ v,U32s wr v (dgs x)→Calls Tryz.prog 199 #[v] wr (Gives (fun z w'=>NatAt w' z x) wr)):=fun v hv=>by
     have:=nat_of wr v (dgs x) hv (digs_dig (by omega) _) (by omega)
     rwa [show val 4294967296 (dgs x)=x from val_digs (by omega) x]at this
    rw[show dgs 0 = []from digs_zero _]at CDY
    rcases hb2 with rfl|⟨rfl,rfl⟩
    all_goals
     go_wp2_with fail
     refine hX.out.mono ?_
     rintro e w' ⟨rfl,rfl⟩
     go_wp2_with fail
     refine hY.out.mono ?_
     rintro e w' ⟨rfl,rfl⟩
     go_wp2_with fail
     refine CDY.out.mono ?_
     rintro e w' ⟨A,c,rfl,hA,rfl⟩
     go_wp2_with fail
     refine CDX.out.mono ?_
     rintro e w' ⟨A2,c2,rfl,hA2,rfl⟩
     go_wp2_with fail
     refine (CO.out _ hA2).mono ?_
     rintro e w3 ⟨x3,rfl,hx3,hb3⟩
     go_wp2_with fail
     go_ret
     exact ⟨x3,rfl,hx3,hbr.trans (hb3.mono hbr.size)⟩
   ·have hlp:=digs_len_pos (n:=y) (by omega)
    by_cases hne:(dgs x).length=(dgs y).length
    ·have hx0:x≠0:=by
      rintro rfl
      rw[show dgs 0 = []from digs_zero _]at hne;simp at hne;omega
     have CS0:=nat_shifts wr _ _ x y hx hy (by omega) (by omega) hx0 (by omega)
     rw[hg.out]at CS0
     have CS:=Lib.hid CS0
     clear CS0
     have hbne:(((dgs x).length:Int) != ((dgs y).length:Int))=false:=by rw[hne];simp
     have HNE:=Lib.hid hne
     clear hne
     generalize dgs x=lx at *
     generalize dgs y=ly at *
     rcases hb2 with rfl|⟨rfl,rfl⟩
     all_goals
      go_wp2_with fail
      refine hX.out.mono ?_
      rintro e w' ⟨rfl,rfl⟩
      go_wp2_with fail
      refine hY.out.mono ?_
      rintro e w' ⟨rfl,rfl⟩
      go_wp2_with fail
      refine CDY.out.mono ?_
      rintro e w' ⟨A,c,rfl,hA,rfl⟩
      go_wp2_with fail
      refine CDX.out.mono ?_
      rintro e w' ⟨A2,c2,rfl,hA2,rfl⟩
      go_wp2_with fail
      refine CDY.out.mono ?_
      rintro e w' ⟨A3,c3,rfl,hA3,rfl⟩
      go_wp2_with fail
      refine CS.out.mono ?_
      rintro e w3 ⟨x3,rfl,hx3,hb3⟩
      go_wp2_with fail
      go_ret
      exact ⟨x3,rfl,hx3,hbr.trans (hb3.mono hbr.size)⟩
    ·have CV:=Lib.hid (nat_Div wr _ _ x y hx hy (by omega) (by omega) (by omega))
     have hbne:(((dgs x).length:Int) != ((dgs y).length:Int))=true:=by rw[bne_iff_ne];omega
     have hlm:Hid ((dgs (x % y)).length≤L):=Nat.le_trans (digs_length_mono (by omega) (Nat.le_of_lt (Nat.mod_lt _ h0))) hly
     have hlt:Hid (x % y<y):=Nat.mod_lt _ h0
     have hg2:Hid (Nat.gcd y (x % y)=G):=(gcd_step x y).trans hg.out
     have HLY:=Lib.hid hly
     clear hne
     unfold Parted at CV
     generalize x % y=r at *
     generalize dgs x=lx at *
     generalize hd:dgs y=ly at *
     have HD:=Lib.hid hd
     clear hd
     rcases hb2 with rfl|⟨rfl,rfl⟩
     all_goals
      go_wp2_with fail
      refine hX.out.mono ?_
      rintro e w' ⟨rfl,rfl⟩
      go_wp2_with fail
      refine hY.out.mono ?_
      rintro e w' ⟨rfl,rfl⟩
      go_wp2_with fail
      refine CDY.out.mono ?_
      rintro e w' ⟨A,c,rfl,hA,rfl⟩
      go_wp2_with fail
      refine CDX.out.mono ?_
      rintro e w' ⟨A2,c2,rfl,hA2,rfl⟩
      go_wp2_with fail
      refine CDY.out.mono ?_
      rintro e w' ⟨A3,c3,rfl,hA3,rfl⟩
      go_wp2_with fail
      refine CV.out.mono ?_
      rintro e w3 ⟨x3,x4,rfl,_,hx4,hb3⟩
      go_wp2_with fail
      have hy3:=hy.keep hb3
      go_roundw
      case rel=>exact ⟨y,r,hy3,hx4,hg2,by rw[HD.out];exact HLY.out,hlm.out,hbr.trans (hb3.mono hbr.size)⟩
      case measure=>rw[hM1.out,natOf_eq hx4];exact hlt.out
end Go.Proofs.YtbdfhnelmojbpaaGreatDoor
end
section
namespace Vic
def sgn (neg:Bool) (n:Nat):Int:=if neg then -(n:Int)else n
theorem sgn_natAbs (neg:Bool) (n:Nat):(sgn neg n).natAbs=n:=by cases neg<;>simp[sgn]
def quo (neg:Bool) (n d:Nat):Rat:=mkRat (sgn neg n) d
theorem quo_den {neg:Bool}{n d:Nat}(hd:d≠0):(quo neg n d).den=d / Nat.gcd n d:=by
 rw[quo,Rat.den_mkRat,if_neg hd,sgn_natAbs,Nat.gcd_comm]
theorem sgn_div (neg:Bool) (n g:Nat) (h:g∣n):sgn neg n / (g:Int)=sgn neg (n / g):=by
 obtain ⟨k,rfl⟩:=h
 rcases Nat.eq_zero_or_pos g with h0|h0
 ·subst h0;cases neg<;>simp[sgn]
 ·rw[Nat.mul_div_cancel_left _ h0]
  have e:sgn neg (g*k)=(g:Int)*sgn neg k:=by
   cases neg<;>simp[sgn,Int.mul_neg]
  rw[e,Int.mul_ediv_cancel_left _ (by omega)]
theorem quo_num {neg:Bool}{n d:Nat}(hd:d≠0):(quo neg n d).num=sgn neg (n / Nat.gcd n d):=by
 rw[quo,Rat.num_mkRat,if_neg hd,sgn_natAbs,Nat.gcd_comm,sgn_div _ _ _ (Nat.gcd_dvd_left n d)]
theorem quo_natAbs {neg:Bool}{n d:Nat}(hd:d≠0):(quo neg n d).num.natAbs=n / Nat.gcd n d:=by
 rw[quo_num hd,sgn_natAbs]
theorem quo_neg {neg:Bool}{n d:Nat}(hd:d≠0):decide ((quo neg n d).num<0)=(neg && decide (n / Nat.gcd n d≠0)):=by
 rw[quo_num hd]
 generalize n / Nat.gcd n d=m
 cases neg
 ·simp[sgn]
 ·simp only[sgn,if_true,Bool.true_and]
  by_cases h:m=0
  ·subst h;rfl
  ·rw[decide_eq_true (by omega),decide_eq_true h]
theorem quo_self (q:Rat):quo (decide (q.num<0)) q.num.natAbs q.den=q:=by
 have e:sgn (decide (q.num<0)) q.num.natAbs=q.num:=by
  unfold sgn
  by_cases h:q.num<0
  ·simp[h];omega
  ·simp[h];omega
 rw[quo,e]
 exact Rat.mkRat_self q
theorem sgn_self (q:Rat):sgn (decide (q.num<0)) q.num.natAbs=q.num:=by
 unfold sgn
 by_cases h:q.num<0
 ·simp[h];omega
 ·simp[h];omega
abbrev sz (n:Nat):Nat:=(dgs n).length
theorem sz_mono {a b:Nat}(h:a≤b):sz a≤sz b:=digs_length_mono (by omega) h
theorem sz_mul (a b:Nat):sz (a*b)≤sz a+sz b:=by
 have h1:a<4294967296 ^ sz a:=lt_pow_digs_length (B:=4294967296) (by omega) a
 have h2:b<4294967296 ^ sz b:=lt_pow_digs_length (B:=4294967296) (by omega) b
 apply digs_length_le (by omega)
 rw[Nat.pow_add]
 exact Nat.mul_lt_mul'' h1 h2
theorem sz_add (a b:Nat):sz (a+b)≤max (sz a) (sz b)+1:=by
 have h1:a<4294967296 ^ sz a:=lt_pow_digs_length (B:=4294967296) (by omega) a
 have h2:b<4294967296 ^ sz b:=lt_pow_digs_length (B:=4294967296) (by omega) b
 apply digs_length_le (by omega)
 have h3:4294967296 ^ sz a≤4294967296 ^ max (sz a) (sz b):=Nat.pow_le_pow_right (by omega) (Nat.le_max_left _ _)
 have h4:4294967296 ^ sz b≤4294967296 ^ max (sz a) (sz b):=Nat.pow_le_pow_right (by omega) (Nat.le_max_right _ _)
 rw[Nat.pow_succ]
 omega
theorem sz_div (a b:Nat):sz (a / b)≤sz a:=sz_mono (Nat.div_le_self a b)
theorem sz_word {a:Nat}(h:a<18446744073709551616):sz a≤2:=digs_length_le (B:=4294967296) (k:=2) (by omega) h
def Fits (L:Nat) (q:Rat):Prop:=sz q.num.natAbs≤L∧sz q.den≤L
theorem fits_quo {neg:Bool}{n d L:Nat}(hd:d≠0) (hn:sz n≤L) (hl:sz d≤L):Fits L (quo neg n d):=
 ⟨by rw[quo_natAbs hd];exact Nat.le_trans (sz_div _ _) hn,by rw[quo_den hd];exact Nat.le_trans (sz_div _ _) hl⟩
theorem Fits.mono {L M:Nat}{q:Rat}(h:Fits L q) (hm:L≤M):Fits M q:=⟨Nat.le_trans h.1 hm,Nat.le_trans h.2 hm⟩
theorem quo_add {d e:Nat}(x y:Rat) (hd:x.den=d) (he:y.den=e) (neg:Bool) (s:Nat) (h:sgn neg s=x.num*e+y.num*d):quo neg s (d*e)=x+y:=by
 rw[quo,h,Rat.add_def',hd,he]
theorem quo_add_same {d:Nat}(x y:Rat) (hd:x.den=d) (he:y.den=d) (neg:Bool) (s:Nat) (h:sgn neg s=x.num+y.num):quo neg s d=x+y:=by
 have h0:d≠0:=by rw[← hd];exact x.den_nz
 rw[quo,h,Rat.add_def',hd,he]
 rw[show x.num*(d:Int)+y.num*(d:Int)=(x.num+y.num)*(d:Int) by rw[Int.add_mul]]
 exact (Rat.mkRat_mul_right h0).symm
end Vic
end
