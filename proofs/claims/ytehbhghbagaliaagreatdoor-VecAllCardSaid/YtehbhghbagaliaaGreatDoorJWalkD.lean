/- Package nat: a number of a text. And: Package frac: its parts, new ones. Package frac: of a whole number, as a text. Package frac: a fraction of a text. Package frac: sign, products, sums, quotients. Package frac: sums, differences, quotients, floors. Package frac: quotients, floors. Plain law: a fraction's own text is read as it. Plain: begun's numbers as texts. -/
import Derived.Test.YtehbhghbagaliaaGreatDoorJWalkC
import Derived.Test.YtehbhghbagaliaaGreatDoorJStr
import Derived.Test.YtehbhghbagaliaaGreatDoorJNatK
import Derived.Test.YtehbhghbagaliaaGreatDoorJMemA
set_option linter.unusedVariables false
set_option linter.unusedSimpArgs false
namespace Vic
open Go Go.RowKit
def GoodNat (l:List UInt8):Prop:=Canon l∧l.length≤2000
theorem digs_dec {n k:Nat}(h:n<10 ^ k) (hk:k≤1000000):(dgs n).length≤1000000:=by
 have h1:(10:Nat) ^ k≤4294967296 ^ k:=Nat.pow_le_pow_left (by omega) k
 exact Nat.le_trans (digs_length_le (B:=4294967296) (by omega) (Nat.lt_of_lt_of_le h h1)) hk
def strLen:Value→Nat
 | .string s=>s.size
 | _=>0
def GivesNo (w:World) (e:Ending) (w':World):Prop:=e=.returned (.tuple #[.pointer none,.bool false])∧Below w.heap.size w w'
end Vic
namespace Go.Proofs.YtehbhghbagaliaaGreatDoor
open Go.RowKit Vic
set_option maxRecDepth 100000 in
set_option maxHeartbeats 4000000 in
theorem nat_Get_no (w:World) (l:List UInt8) (hs:l.length≤9223372036854775806) (h:¬ GoodNat l) :
 Calls Tryz.prog 24 #[.string ⟨l.toArray⟩] w (GivesNo w):=by
 match l,hs,h with
 | [],_,_=>
   go_enter Tryz.func24,Tryz.ntmps24
   go_wp2_with fail
   go_ret2
   exact ⟨rfl,Below.refl _ _⟩
 | c :: r,hs,h=>
   by_cases hlong:2000<r.length+1
   ·go_enter Tryz.func24,Tryz.ntmps24
    go_wp2_with fail
    go_ret2
    exact ⟨rfl,Below.refl _ _⟩
   ·by_cases hz:1<r.length+1∧c=48
    ·obtain ⟨hz1,rfl⟩:=hz
     have hb:(((((⟨((48:UInt8) :: r).toArray⟩:ByteArray)[0]'(by show 0<((48:UInt8) :: r).toArray.size;simp)).toNat:Int)) == 48)=true:=rfl
     go_enter Tryz.func24,Tryz.ntmps24
     go_wp2_with fail
     go_ret2
     exact ⟨rfl,Below.refl _ _⟩
    ·have hno:Lib.trimS (c :: r) tenDigs≠[]:=fun e=>by
      refine h ⟨⟨by simp,(trim_digs _).1 e,?_⟩,by show r.length+1≤2000;omega⟩
      by_cases h1:1<r.length+1
      ·refine .inr fun e2=>hz ⟨h1,?_⟩
       simpa using e2
      ·left;show r.length+1=1;omega
     have CT0:=strings_Trim_digs w (c :: r) hs
     obtain ⟨t,ht⟩:∃ t,t=Lib.trimS (c :: r) tenDigs:=⟨_,rfl⟩
     rw[← ht]at CT0 hno
     have CT:=Lib.hid CT0
     obtain ⟨b0,t0,rfl⟩:∃ b0 t0,t=b0 :: t0:=by
      rcases t with _|⟨b0,t0⟩
      ·exact absurd rfl hno
      ·exact ⟨b0,t0,rfl⟩
     clear CT0 ht hno
     have hb:1<r.length+1→(((((⟨(c :: r).toArray⟩:ByteArray)[0]'(by show 0<(c :: r).toArray.size;simp)).toNat:Int)) == 48)=false:=fun h1=>by
      have:c≠48:=fun e=>hz ⟨h1,e⟩
      have h2:c.toNat≠48:=fun e=>this (UInt8.toNat_inj.1 e)
      show ((c.toNat:Int) == 48)=false
      rw[beq_eq_false_iff_ne];omega
     clear hz h
     by_cases h1:1<r.length+1
     ·have hb1:=hb h1
      clear hb
      go_enter Tryz.func24,Tryz.ntmps24
      go_wp2_with fail
      refine CT.out.mono ?_
      rintro e w1 ⟨rfl,hb1⟩
      go_wp2_with fail
      go_ret2
      exact ⟨rfl,hb1⟩
     ·clear hb
      go_enter Tryz.func24,Tryz.ntmps24
      go_wp2_with fail
      refine CT.out.mono ?_
      rintro e w1 ⟨rfl,hb1⟩
      go_wp2_with fail
      go_ret2
      exact ⟨rfl,hb1⟩
set_option maxRecDepth 100000 in
set_option maxHeartbeats 4000000 in
theorem nat_Get_yesN (w:World) (l:List UInt8) (h:GoodNat l) :
 Calls Tryz.prog 24 #[.string ⟨l.toArray⟩] w (GivesOk (fun x w'=>NatPtr w' x (numOf 0 l)∧NewPtr w.heap.size x) w):=by
 obtain ⟨⟨h0,hdig,hhead⟩,hlen⟩:=h
 obtain ⟨c,r,rfl⟩:∃ c r,l=c :: r:=by
  rcases l with _|⟨c,r⟩
  ·exact absurd rfl h0
  ·exact ⟨c,r,rfl⟩
 have hlen2:r.length+1≤2000:=hlen
 have CT0:=strings_Trim_digs w (c :: r) (by omega)
 rw[(trim_digs _).2 hdig]at CT0
 have CT:=Lib.hid CT0
 have HD:=Lib.hid hdig
 have CO:Hid (∀ wr,Calls Tryz.prog 57 #[.slice none 0 0] wr (Gives (fun x w'=>NatPtr w' x 0∧NewPtr wr.heap.size x) wr)):=fun wr=>nat_ofpN wr (.slice none 0 0) [] (Ints.nil_ _ _) (dig_nil _) (by simp)
 have hb:1<r.length+1→(((((⟨(c :: r).toArray⟩:ByteArray)[0]'(by show 0<(c :: r).toArray.size;simp)).toNat:Int)) == 48)=false:=fun h1=>by
  have h3:c≠48:=by
   rcases hhead with h4|h4
   ·have h4':r.length+1=1:=h4
    omega
   ·intro e;subst e;simp at h4
  have h2:c.toNat≠48:=fun e=>h3 (UInt8.toNat_inj.1 e)
  show ((c.toNat:Int) == 48)=false
  rw[beq_eq_false_iff_ne];omega
 have HB:=Lib.hid hb
 clear CT0 hdig hhead h0 hlen hb
 have HR:(((r.length:Int)+1) % 9)=(((r.length+1) % 9:Nat):Int):=by omega
 have HRR:=Lib.hid HR
 clear HR
 by_cases h1:1<r.length+1
 case' pos=>have hb1:=HB.out h1
 all_goals
  clear HB
  go_enter Tryz.func24,Tryz.ntmps24
  go_wp2_with fail
  refine CT.out.mono ?_
  rintro e w1 ⟨rfl,hb1⟩
  go_wp2_with fail
  refine (CO.out _).mono ?_
  rintro e w2 ⟨x2,rfl,⟨hx2,hn2⟩,hb2⟩
  go_wp2_with fail
  go_loopw [0,4,5] (fun s x t wr=>∃ (done rest:List UInt8) (k:Nat),s=.string ⟨rest.toArray⟩∧t=.int .i64 k∧NatPtr wr x (numOf 0 done)∧NewPtr w.heap.size x∧Hid (c :: r=done ++ rest)∧((done = []∧k=(r.length+1) % 9∧rest.length=r.length+1)∨(k=9∧rest.length % 9=0))∧rest.length≤2000∧Below w.heap.size w wr) (fun s _ t _=>2*strLen s+(1 - (intOf t).toNat))
  case atStart=>exact ⟨[],c :: r,_,rfl,congrArg (Value.int .i64) HRR.out,hx2,hn2.mono hb1.size,rfl,.inl ⟨rfl,rfl,rfl⟩,hlen2,below_seq hb1 hb2⟩
  case round=>
   obtain ⟨done,rest,k,rfl,rfl,hx,hnx,hsp,hk,hrl,hbr⟩:=hrel
   rcases rest with _|⟨c2,r2⟩
   ·have e0:c :: r=done:=by rw[hsp.out];simp
    have E0:=Lib.hid e0
    clear e0 hk hsp
    go_wp2_with fail
    go_ret2
    exact ⟨u4,rfl,⟨E0.out.symm▸hx,hnx⟩,hbr⟩
   ·rcases Nat.eq_zero_or_pos k with hk0|hk0
    ·subst hk0
     have hm:(r.length+1) % 9=0∧(c2 :: r2).length=r.length+1:=by
      rcases hk with ⟨_,h2,h3⟩|⟨h2,_⟩
      ·exact ⟨h2.symm,h3⟩
      ·omega
     have HM:=Lib.hid hm
     clear hm hk
     go_wp2_with fail
     go_roundw
     case rel=>
      have h5:=HM.out
      exact ⟨done,c2 :: r2,9,rfl,rfl,hx,hnx,hsp,.inr ⟨rfl,by omega⟩,hrl,hbr⟩
     case measure=>
      simp[intOf,strLen]
    ·have hkl:k≤r2.length+1:=by
      rcases hk with ⟨_,h2,h3⟩|⟨h2,h3⟩
      ·have h4:r2.length+1=r.length+1:=h3
       omega
      ·have h4:(r2.length+1) % 9=0:=h3
       omega
     have hk9:k≤9:=by rcases hk with ⟨_,h2,h3⟩|⟨h2,h3⟩<;>omega
     obtain ⟨p,hp⟩:∃ p,p=(c2 :: r2).take k:=⟨_,rfl⟩
     obtain ⟨q,hq⟩:∃ q,q=(c2 :: r2).drop k:=⟨_,rfl⟩
     have hpl:p.length=k:=by rw[hp,List.length_take];show min k (r2.length+1)=k;omega
     have hql:q.length=r2.length+1 - k:=by rw[hq,List.length_drop];rfl
     have hpq:c2 :: r2=p ++ q:=by rw[hp,hq,List.take_append_drop]
     have ep:(⟨(c2 :: r2).toArray⟩:ByteArray).extract 0 k=⟨p.toArray⟩:=by rw[hp];exact bytes_take _ _
     have eq_:(⟨(c2 :: r2).toArray⟩:ByteArray).extract k (r2.length+1)=⟨q.toArray⟩:=by rw[hq];exact bytes_drop _ _ _ rfl
     have CP:Hid (∀ w,Calls Tryz.prog 58 #[.string ⟨p.toArray⟩,.int .i64 10,.int .i64 32] w (Keeps (.tuple #[.int .u64 (numOf 0 p:Nat),.nilIface]) w)):=fun w=>
      strconv_ParseUint_digs w p (fun x hx=>HD.out x (by rw[hsp.out,hpq];simp[hx])) (fun e=>by rw[e]at hpl;simp at hpl;omega) (by omega)
     have hnum:Hid (numOf 0 (done ++ p)=numOf 0 done*1000000000+numOf 0 p):=by
      show _=_
      rw[numOf_append,numOf_acc (numOf 0 done) p,hpl]
      rcases hk with ⟨h2,_⟩|⟨h2,_⟩
      ·rw[h2];simp[numOf_nil]
      ·rw[h2]
     have hnp:Hid (numOf 0 p<10 ^ p.length):=numOf_lt p fun x hx=>HD.out x (by rw[hsp.out,hpq];simp[hx])
     have HK:=Lib.hid hk
     have HPQ:=Lib.hid hpq
     have HQL:=Lib.hid hql
     have HPL:=Lib.hid hpl
     clear hk hp hq hpl hql hpq
     go_wp2_with fail
     refine (CP.out _).mono ?_
     rintro e w3 ⟨rfl,hb3⟩
     have C1:=Lib.hid (nat_Of w3 1000000000 (by omega))
     go_wp2_with fail
     refine C1.out.mono ?_
     rintro e w4 ⟨x4,rfl,hx4,hb4⟩
     have HX:=Lib.hid hx
     clear hx C1
     obtain ⟨D,hD⟩:∃ D,D=numOf 0 done:=⟨_,rfl⟩
     obtain ⟨R,hR⟩:∃ R,R=numOf 0 p:=⟨_,rfl⟩
     have hDl:D<10 ^ done.length:=by rw[hD];exact numOf_lt done (fun x hx=>HD.out x (by rw[hsp.out];simp[hx]))
     have hdn:done.length≤2000:=by
      have:=congrArg List.length hsp.out
      rw[List.length_append]at this
      have h5:r.length+1=done.length+(r2.length+1):=this
      omega
     have hdl:(dgs D).length≤1000000:=digs_dec hDl (by omega)
     have hdl2:Hid ((dgs (D*1000000000)).length≤1000000):=digs_dec (k:=done.length+9) (by rw[Nat.pow_add];exact Nat.mul_lt_mul_of_pos_right hDl (by omega)) (by omega)
     clear hDl
     have hRR:R<18446744073709551616:=by
      have h5:=hnp.out
      rw[← hR]at h5
      exact Nat.lt_trans h5 (Nat.lt_of_le_of_lt (Nat.pow_le_pow_right (by omega) (by rw[HPL.out];exact hk9)) (by omega))
     have HN:=Lib.hid hnum.out
     rw[← hD,← hR]at HN
     rw[← hD]at HX
     have HRR2:=Lib.hid hRR
     have HR2:=Lib.hid hR
     rw[← hR]
     clear hRR hR hD hnum hnp
     have CM:=Lib.hid (nat_Mul w4 u4 x4 D 1000000000 (HX.out.at_.keep (below_seq hb3 hb4)) hx4 (by omega) (Nat.le_trans (digs_length_le (k:=1) (by omega) (by omega)) (by omega)))
     go_wp2_with fail
     refine CM.out.mono ?_
     rintro e w5 ⟨x5,rfl,hx5,hb5⟩
     have C2:=Lib.hid (nat_Of w5 R HRR2.out)
     go_wp2_with fail
     refine C2.out.mono ?_
     rintro e w6 ⟨x6,rfl,hx6,hb6⟩
     have CA:=Lib.hid (nat_AddpN w6 x5 x6 (D*1000000000) R (hx5.keep hb6) hx6 (by have:=hdl2.out;omega) (by have:=digs_length_le (B:=4294967296) (k:=2) (by omega) (show R<4294967296 ^ 2 from HRR2.out);exact Nat.le_trans this (by omega)))
     go_wp2_with fail
     refine CA.out.mono ?_
     rintro e w7 ⟨x7,rfl,⟨hx7,hn7⟩,hb7⟩
     go_wp2_with fail
     go_roundw
     case rel=>
      have h5:=HQL.out
      refine ⟨done ++ p,q,9,rfl,rfl,by rw[HN.out];exact hx7,hn7.mono (Nat.le_trans hbr.size (below_seq hb3 (below_seq hb4 (below_seq hb5 hb6))).size),?_,.inr ⟨rfl,?_⟩,?_,hbr.trans ((below_seq hb3 (below_seq hb4 (below_seq hb5 (below_seq hb6 hb7)))).mono hbr.size)⟩
      ·show _=_
       rw[hsp.out,HPQ.out,List.append_assoc]
      ·rcases HK.out with ⟨_,h2,h3⟩|⟨h2,h3⟩
       ·have h4:r2.length+1=r.length+1:=h3
        omega
       ·have h4:(r2.length+1) % 9=0:=h3
        omega
      ·have h4:r2.length+1≤2000:=hrl
       omega
     case measure=>
      have h5:=HQL.out
      have e1:strLen (.string ⟨q.toArray⟩)=q.length:=rfl
      have e2:strLen (.string ⟨(c2 :: r2).toArray⟩)=r2.length+1:=rfl
      show 2*strLen (.string ⟨q.toArray⟩)+(1 - (intOf (.int .i64 9)).toNat)<2*strLen (.string ⟨(c2 :: r2).toArray⟩)+(1 - (intOf (.int .i64 k)).toNat)
      rw[e1,e2]
      simp[intOf]
      omega
theorem nat_Get_yes (w:World) (l:List UInt8) (h:GoodNat l) :
 Calls Tryz.prog 24 #[.string ⟨l.toArray⟩] w (GivesOk (fun x w'=>NatPtr w' x (numOf 0 l)) w):=
 (nat_Get_yesN w l h).mono fun _ _ ⟨x,h1,h2,h3⟩=>⟨x,h1,h2.1,h3⟩
end Go.Proofs.YtehbhghbagaliaaGreatDoor
set_option linter.unusedVariables false
set_option linter.unusedSimpArgs false
namespace Vic
open Go Go.RowKit
def FracPtr (w:World) (v:Value) (q:Rat):Prop:=
 ∃ b pn pd,v=.pointer (some ⟨b,0,none⟩)∧w.cell? ⟨b,0,none⟩=some (.bool (decide (q.num<0)))∧w.cell? ⟨b,1,none⟩=some pn∧w.cell? ⟨b,2,none⟩=some pd∧NatAt w pn q.num.natAbs∧NatPtr w pd q.den
def FracAt (w:World) (v:Value) (q:Rat):Prop:=
 (v=.pointer none∧q=0)∨(∃ b x y,v=.pointer (some ⟨b,0,none⟩)∧w.cell? ⟨b,0,none⟩=some x∧w.cell? ⟨b,1,none⟩=some y∧w.cell? ⟨b,2,none⟩=some (.pointer none)∧q=0)∨FracPtr w v q
theorem FracPtr.at_ {w:World}{v:Value}{q:Rat}(h:FracPtr w v q):FracAt w v q:=.inr (.inr h)
theorem FracPtr.keep {w w':World}{v:Value}{q:Rat}(h:FracPtr w v q) (hb:Below w.heap.size w w'):FracPtr w' v q:=by
 obtain ⟨b,pn,pd,h1,h2,h3,h4,h5,h6⟩:=h
 exact ⟨b,pn,pd,h1,cell_keep h2 hb,cell_keep h3 hb,cell_keep h4 hb,h5.keep hb,h6.keep hb⟩
theorem FracAt.keep {w w':World}{v:Value}{q:Rat}(h:FracAt w v q) (hb:Below w.heap.size w w'):FracAt w' v q:=by
 rcases h with h|⟨b,x,y,h1,h2,h3,h4,h5⟩|h
 ·exact .inl h
 ·exact .inr (.inl ⟨b,x,y,h1,cell_keep h2 hb,cell_keep h3 hb,cell_keep h4 hb,h5⟩)
 ·exact .inr (.inr (h.keep hb))
def PartsOf (q:Rat) (w:World) (e:Ending) (w':World):Prop:=
 ∃ pn pd,e=.returned (.tuple #[.bool (decide (q.num<0)),pn,pd])∧NatAt w' pn q.num.natAbs∧NatPtr w' pd q.den∧Below w.heap.size w w'
end Vic
namespace Go.Proofs.YtehbhghbagaliaaGreatDoor
open Go.RowKit Vic
theorem frac_zero (w:World) (v:Value) (n:Nat) (h:NatAt w v n) (hl:sz n≤1000000000000):Calls Tryz.prog 64 #[v] w (Rets (.bool (decide (n=0))) w):=by
 have CB:=Lib.hid (nat_Bits w v n h hl)
 by_cases h0:n=0
 ·subst h0
  rw[blen_zero]at CB
  go_enter Tryz.func64,Tryz.ntmps64
  go_wp2_with fail
  refine CB.out.mono ?_
  rintro e w' ⟨rfl,rfl⟩
  go_wp2_with fail
  go_ret
  exact ⟨rfl,rfl⟩
 ·have hb:=blen_pos h0
  rw[decide_eq_false h0]
  generalize blen n=k at *
  clear h0
  have hk:(((k:Nat):Int) == 0)=false:=by rw[beq_eq_false_iff_ne];omega
  go_enter Tryz.func64,Tryz.ntmps64
  go_wp2_with fail
  refine CB.out.mono ?_
  rintro e w' ⟨rfl,rfl⟩
  go_wp2_with fail
  go_ret
  exact ⟨rfl,rfl⟩
set_option maxRecDepth 100000 in
set_option maxHeartbeats 4000000 in
theorem frac_Parts (w:World) (v:Value) (q:Rat) (h:FracAt w v q):Calls Tryz.prog 44 #[v] w (PartsOf q w):=by
 have C0:Hid (∀ w,Calls Tryz.prog 60 #[.int .u64 0] w (Gives (fun x w'=>NatPtr w' x 0) w)):=fun w=>nat_Ofp w 0 (by omega)
 have C1:Hid (∀ w,Calls Tryz.prog 60 #[.int .u64 1] w (Gives (fun x w'=>NatPtr w' x 1) w)):=fun w=>nat_Ofp w 1 (by omega)
 rcases h with ⟨rfl,rfl⟩|⟨b,x,y,rfl,hx,hy,hd,rfl⟩|⟨b,pn,pd,rfl,hb,hn,hd,hpn,hpd⟩
 ·go_enter Tryz.func44,Tryz.ntmps44
  go_wp2_with fail
  refine (C0.out _).mono ?_
  rintro e w1 ⟨x1,rfl,hx1,hb1⟩
  go_wp2_with fail
  refine (C1.out _).mono ?_
  rintro e w2 ⟨x2,rfl,hx2,hb2⟩
  go_wp2_with fail
  go_ret3
  exact ⟨x1,x2,rfl,(hx1.keep hb2).at_,hx2,below_seq hb1 hb2⟩
 ·go_enter Tryz.func44,Tryz.ntmps44
  go_wp2_with fail
  refine (C0.out _).mono ?_
  rintro e w1 ⟨x1,rfl,hx1,hb1⟩
  go_wp2_with fail
  refine (C1.out _).mono ?_
  rintro e w2 ⟨x2,rfl,hx2,hb2⟩
  go_wp2_with fail
  go_ret3
  exact ⟨x1,x2,rfl,(hx1.keep hb2).at_,hx2,below_seq hb1 hb2⟩
 ·obtain ⟨bd,Ad,cd,rfl,_,_⟩:=hpd.open_
  have HPN:=Lib.hid hpn
  have HPD:=Lib.hid hpd
  clear hpn hpd
  obtain ⟨ng,hng⟩:∃ ng:Bool,ng=decide (q.num<0):=⟨_,rfl⟩
  rw[← hng]at hb
  have HNG:=Lib.hid hng
  clear hng
  go_enter Tryz.func44,Tryz.ntmps44
  go_wp2_with fail
  go_quiet (fail)
  go_wp2_with fail
  go_ret3
  have hb2:Below w.heap.size w (w.drewN nq):=Vic.Below.drewN_ (Below.refl _ _) _
  exact ⟨pn,_,by rw[HNG.out];rfl,HPN.out.keep hb2,HPD.out.keep hb2,hb2⟩
set_option maxRecDepth 100000 in
set_option maxHeartbeats 4000000 in
theorem frac_New_no (w:World) (ng:Bool) (u v:Value) (h:NatAt w v 0):Calls Tryz.prog 72 #[.bool ng,u,v] w (Rets (.tuple #[.pointer none,.bool false]) w):=by
 have CZ0:=frac_zero w v 0 h (by rw[sz,show dgs 0 = []from digs_zero _];simp)
 have CZ:=Lib.hid CZ0
 clear CZ0
 go_enter Tryz.func72,Tryz.ntmps72
 go_wp2_with fail
 refine CZ.out.mono ?_
 rintro e w' ⟨rfl,rfl⟩
 go_wp2_with fail
 go_ret2
 exact ⟨rfl,rfl⟩
theorem frac_built (w:World) (ng:Bool) (pn pd:Value) (n d:Nat) (hn:NatAt w pn n) (hd:NatPtr w pd d) (q:Rat) (h1:q.num.natAbs=n) (h2:q.den=d) (h3:decide (q.num<0)=ng) :
 FracPtr (w.alloc (.cells #[.bool ng,pn,pd] 122)) (.pointer (some ⟨w.heap.size,0,none⟩)) q:=by
 have hb:=(Below.refl w.heap.size w).alloc (Nat.le_refl _) (.cells #[.bool ng,pn,pd] 122)
 exact ⟨w.heap.size,pn,pd,rfl,by rw[h3];simp,by simp,by simp,by rw[h1];exact hn.keep hb,by rw[h2];exact hd.keep hb⟩
set_option maxRecDepth 100000 in
set_option maxHeartbeats 4000000 in
theorem frac_New (w:World) (ng:Bool) (u v:Value) (n d:Nat) (hn:NatAt w u n) (hd:NatAt w v d) (h0:d≠0) (hnl:sz n≤10000000000) (hdl:sz d≤10000000000) :
 Calls Tryz.prog 72 #[.bool ng,u,v] w (GivesOk (fun x w'=>FracPtr w' x (quo ng n d)) w):=by
 have CZ0:=frac_zero w v d hd (by omega)
 rw[decide_eq_false h0]at CZ0
 have CZ:=Lib.hid CZ0
 have CG:=Lib.hid (nat_Gcd w u v n d hn hd hnl hdl)
 have q1:=Lib.hid (quo_natAbs (neg:=ng) (n:=n) h0)
 have q2:=Lib.hid (quo_den (neg:=ng) (n:=n) h0)
 have q3:=Lib.hid (quo_neg (neg:=ng) (n:=n) h0)
 have g0:Nat.gcd n d≠0:=fun e=>h0 (Nat.eq_zero_of_gcd_eq_zero_right e)
 have gl:sz (Nat.gcd n d)≤10000000000:=Nat.le_trans (sz_mono (Nat.gcd_le_right n (by omega))) hdl
 have hdg:Hid (d / Nat.gcd n d≠0):=by
  have:=Nat.div_pos (Nat.gcd_le_right n (Nat.pos_of_ne_zero h0)) (Nat.pos_of_ne_zero g0)
  show d / Nat.gcd n d≠0
  omega
 clear CZ0
 have HG0:=Lib.hid g0
 generalize hg:Nat.gcd n d=g at *
 have C1:Hid (∀ w,Calls Tryz.prog 60 #[.int .u64 1] w (Gives (fun x w'=>NatPtr w' x 1) w)):=fun w=>nat_Ofp w 1 (by omega)
 have C0:Hid (∀ w,Calls Tryz.prog 60 #[.int .u64 0] w (Gives (fun x w'=>NatPtr w' x 0) w)):=fun w=>nat_Ofp w 0 (by omega)
 have H0:=Lib.hid h0
 clear h0 g0 hg
 go_enter Tryz.func72,Tryz.ntmps72
 go_wp2_with fail
 refine CZ.out.mono ?_
 rintro e w' ⟨rfl,rfl⟩
 go_wp2_with fail
 refine CG.out.mono ?_
 rintro e w1 ⟨x1,rfl,hx1,hb1⟩
 go_wp2_with fail
 refine (C1.out _).mono ?_
 rintro e w2 ⟨x2,rfl,hx2,hb2⟩
 have CC0:=nat_Cmp w2 x1 x2 g 1 (hx1.keep hb2) hx2.at_ (Nat.le_trans gl (by omega)) (Nat.le_trans (sz_word (a:=1) (by omega)) (by omega))
 have hb12:=below_seq hb1 hb2
 have HX1:=Lib.hid (hx1.keep hb2)
 by_cases h1:g=1
 ·subst h1
  rw[cmpI_eq rfl]at CC0
  have CC:=Lib.hid CC0
  rw[Nat.div_one]at q1 q3
  rw[Nat.div_one]at q2
  have HN:=hn.keep hb12
  have HD:=(hd.ptr H0.out).keep hb12
  have HB:=hb12
  have hml:=hnl
  clear CC0 CZ CG hx1 hx2 hn hd hnl
  have HDD:=Lib.hid HD
  obtain ⟨b7,A7,c7,rfl,_,_⟩:=HD.open_
  clear HD
  rcases HN with ⟨rfl,rfl⟩|hp
  ·cases ng
   ·go_wp2_with fail
    refine CC.out.mono ?_
    rintro e w' ⟨rfl,rfl⟩
    go_wp2_with fail
    refine (C0.out _).mono ?_
    rintro e w8 ⟨x8,rfl,hx8,hb8⟩
    have HX8:=Lib.hid hx8
    obtain ⟨b9,A9,c9,rfl,_,_⟩:=hx8.open_
    go_wp2_with fail
    go_ret2
    exact ⟨_,rfl,frac_built w8 false _ _ _ _ HX8.out.at_ (HDD.out.keep hb8) _ q1.out q2.out q3.out,(HB.trans (hb8.mono HB.size)).alloc (HB.trans (hb8.mono HB.size)).size _⟩
   ·go_wp2_with fail
    refine CC.out.mono ?_
    rintro e w' ⟨rfl,rfl⟩
    go_wp2_with fail
    refine (C0.out _).mono ?_
    rintro e w8 ⟨x8,rfl,hx8,hb8⟩
    have HX8:=Lib.hid hx8
    have CY0:=frac_zero w8 x8 0 hx8.at_ (by rw[sz,show dgs 0 = []from digs_zero _];simp)
    rw[decide_eq_true rfl]at CY0
    have CY:=Lib.hid CY0
    obtain ⟨b9,A9,c9,rfl,_,_⟩:=hx8.open_
    clear CY0
    go_wp2_with fail
    refine CY.out.mono ?_
    rintro e w' ⟨rfl,rfl⟩
    go_wp2_with fail
    go_ret2
    exact ⟨_,rfl,frac_built w8 false _ _ _ _ HX8.out.at_ (HDD.out.keep hb8) _ q1.out q2.out q3.out,(HB.trans (hb8.mono HB.size)).alloc (HB.trans (hb8.mono HB.size)).size _⟩
  ·have HN:=Lib.hid (NatPtr.at_ hp)
   have CY0:=frac_zero w2 u n HN.out (by omega)
   obtain ⟨b8,A8,c8,rfl,_,_⟩:=NatPtr.open_ hp
   obtain ⟨z,hz⟩:∃ z,z=decide (n=0):=⟨_,rfl⟩
   rw[← hz]at CY0
   have CY:=Lib.hid CY0
   have HZ:=Lib.hid hz
   clear CY0 hz hp
   cases ng
   ·go_wp2_with fail
    refine CC.out.mono ?_
    rintro e w' ⟨rfl,rfl⟩
    go_wp2_with fail
    go_ret2
    exact ⟨_,rfl,frac_built w2 false _ _ _ _ HN.out HDD.out _ q1.out q2.out q3.out,HB.alloc HB.size _⟩
   ·go_wp2_with fail
    refine CC.out.mono ?_
    rintro e w' ⟨rfl,rfl⟩
    go_wp2_with fail
    refine CY.out.mono ?_
    rintro e w' ⟨rfl,rfl⟩
    go_wp2_with fail
    go_ret2
    exact ⟨_,rfl,frac_built w2 (!z) _ _ _ _ HN.out HDD.out _ q1.out q2.out (by rw[q3.out,HZ.out];simp),HB.alloc HB.size _⟩
 ·have hne:cmpI g 1≠0:=by
   rcases Nat.lt_or_gt_of_ne h1 with h2|h2
   ·rw[cmpI_lt h2];omega
   ·rw[cmpI_gt h2];omega
  generalize cmpI g 1=s0 at *
  have hs0:(s0 != 0)=true:=by rw[bne_iff_ne];exact hne
  have CC:=Lib.hid CC0
  have CD1:=Lib.hid (nat_Div w2 u x1 n g (hn.keep hb12) HX1.out (Nat.le_trans hnl (by omega)) (Nat.le_trans gl (by omega)) HG0.out)
  have hdv:=hd.keep hb12
  have hml:sz (n / g)≤10000000000:=Nat.le_trans (sz_div _ _) hnl
  clear CC0 CZ CG hx1 hx2 hn hd hnl hne h1
  go_wp2_with fail
  refine CC.out.mono ?_
  rintro e w' ⟨rfl,rfl⟩
  go_wp2_with fail
  refine CD1.out.mono ?_
  rintro e w3 ⟨pn,y3,rfl,hx3,_,hb3⟩
  have CD2:=Lib.hid (nat_Div w3 v x1 d g (hdv.keep hb3) (HX1.out.keep hb3) (Nat.le_trans hdl (by omega)) (Nat.le_trans gl (by omega)) HG0.out)
  go_wp2_with fail
  refine CD2.out.mono ?_
  rintro e W ⟨pd,y4,rfl,hx4,_,hb4⟩
  have HN:=hx3.keep hb4
  have HD:=hx4.ptr hdg.out
  have HB:=hb12.trans ((below_seq hb3 hb4).mono hb12.size)
  clear hx3 hx4 CD1 CD2 CC hdv
  generalize n / g=m at *
  generalize d / g=dd at *
  have HDD:=Lib.hid HD
  obtain ⟨b7,A7,c7,rfl,_,_⟩:=HD.open_
  clear HD
  rcases HN with ⟨rfl,rfl⟩|hp
  ·cases ng
   ·go_wp2_with fail
    refine (C0.out _).mono ?_
    rintro e w8 ⟨x8,rfl,hx8,hb8⟩
    have HX8:=Lib.hid hx8
    obtain ⟨b9,A9,c9,rfl,_,_⟩:=hx8.open_
    go_wp2_with fail
    go_ret2
    exact ⟨_,rfl,frac_built w8 false _ _ _ _ HX8.out.at_ (HDD.out.keep hb8) _ q1.out q2.out q3.out,(HB.trans (hb8.mono HB.size)).alloc (HB.trans (hb8.mono HB.size)).size _⟩
   ·go_wp2_with fail
    refine (C0.out _).mono ?_
    rintro e w8 ⟨x8,rfl,hx8,hb8⟩
    have HX8:=Lib.hid hx8
    have CY0:=frac_zero w8 x8 0 hx8.at_ (by rw[sz,show dgs 0 = []from digs_zero _];simp)
    rw[decide_eq_true rfl]at CY0
    have CY:=Lib.hid CY0
    obtain ⟨b9,A9,c9,rfl,_,_⟩:=hx8.open_
    clear CY0
    go_wp2_with fail
    refine CY.out.mono ?_
    rintro e w' ⟨rfl,rfl⟩
    go_wp2_with fail
    go_ret2
    exact ⟨_,rfl,frac_built w8 false _ _ _ _ HX8.out.at_ (HDD.out.keep hb8) _ q1.out q2.out q3.out,(HB.trans (hb8.mono HB.size)).alloc (HB.trans (hb8.mono HB.size)).size _⟩
  ·have HN:=Lib.hid (NatPtr.at_ hp)
   have CY0:=frac_zero W pn m HN.out (by omega)
   obtain ⟨b8,A8,c8,rfl,_,_⟩:=NatPtr.open_ hp
   obtain ⟨z,hz⟩:∃ z,z=decide (m=0):=⟨_,rfl⟩
   rw[← hz]at CY0
   have CY:=Lib.hid CY0
   have HZ:=Lib.hid hz
   clear CY0 hz hp
   cases ng
   ·go_wp2_with fail
    go_ret2
    exact ⟨_,rfl,frac_built W false _ _ _ _ HN.out HDD.out _ q1.out q2.out q3.out,HB.alloc HB.size _⟩
   ·go_wp2_with fail
    refine CY.out.mono ?_
    rintro e w' ⟨rfl,rfl⟩
    go_wp2_with fail
    go_ret2
    exact ⟨_,rfl,frac_built W (!z) _ _ _ _ HN.out HDD.out _ q1.out q2.out (by rw[q3.out,HZ.out];simp),HB.alloc HB.size _⟩
end Go.Proofs.YtehbhghbagaliaaGreatDoor
set_option linter.unusedVariables false
set_option linter.unusedSimpArgs false
namespace Vic
open Go Go.RowKit
def fracText (q:Rat):List UInt8:=
 (if q.num<0 then [45]else []) ++ Lib.decDigits q.num.natAbs ++ (if q.den=1 then []else 47 :: Lib.decDigits q.den)
theorem dec_inj {a b:Nat}(h:Lib.decDigits a=Lib.decDigits b):a=b:=by
 have:=congrArg (numOf 0) h
 rwa [numOf_dec,numOf_dec]at this
theorem dec_one:Lib.decDigits 1 = [49]:=by rw[dec_small (by omega)];rfl
theorem dec_sz {n L:Nat}(h:sz n≤L):(Lib.decDigits n).length≤10*L+1:=by
 have h1:=dec_len_digs (lt_pow_digs_length (B:=4294967296) (by omega) n)
 have h2:(digs 4294967296 n).length≤L:=h
 omega
end Vic
namespace Go.Proofs.YtehbhghbagaliaaGreatDoor
open Go.RowKit Vic
theorem frac_sure (w:World) (ng:Bool) (u v:Value) (n d:Nat) (hn:NatAt w u n) (hd:NatAt w v d) (h0:d≠0) (hnl:sz n≤10000000000) (hdl:sz d≤10000000000) :
 Calls Tryz.prog 65 #[.bool ng,u,v] w (Gives (fun x w'=>FracPtr w' x (quo ng n d)) w):=by
 have CN:=Lib.hid (frac_New w ng u v n d hn hd h0 hnl hdl)
 clear hn hd h0 hnl hdl
 go_enter Tryz.func65,Tryz.ntmps65
 go_wp2_with fail
 refine CN.out.mono ?_
 rintro e w1 ⟨x1,rfl,hx1,hb1⟩
 go_wp2_with fail
 go_ret
 exact ⟨x1,rfl,hx1,hb1⟩
theorem int_rat (n:Int):((n:Rat)).num=n∧((n:Rat)).den=1:=⟨rfl,rfl⟩
set_option maxRecDepth 100000 in
theorem frac_Of (w:World) (n:Int) (h1 : -9223372036854775808≤n) (h2:n≤9223372036854775807) :
 Calls Tryz.prog 29 #[.int .i64 n] w (Gives (fun x w'=>FracPtr w' x (n:Rat)) w):=by
 have CA:=Lib.hid (bits_Abs n w h1 h2)
 have CO:=Lib.hid (nat_Ofp w n.natAbs (by omega))
 have C1:Hid (∀ w,Calls Tryz.prog 60 #[.int .u64 1] w (Gives (fun x w'=>NatPtr w' x 1) w)):=fun w=>nat_Ofp w 1 (by omega)
 obtain ⟨k,hk⟩:∃ k,k=n.natAbs:=⟨_,rfl⟩
 rw[← hk]at CA CO
 have HK:=Lib.hid hk
 clear h1 h2 hk
 go_enter Tryz.func29,Tryz.ntmps29
 go_wp2_with fail
 refine CA.out.mono ?_
 rintro e w' ⟨rfl,rfl⟩
 go_wp2_with fail
 refine CO.out.mono ?_
 rintro e w1 ⟨x1,rfl,hx1,hb1⟩
 go_wp2_with fail
 refine (C1.out _).mono ?_
 rintro e w2 ⟨x2,rfl,hx2,hb2⟩
 have HX1:=Lib.hid (hx1.keep hb2)
 have HX2:=Lib.hid hx2
 obtain ⟨p1,A1,c1,rfl,_,_⟩:=hx1.open_
 obtain ⟨p2,A2,c2,rfl,_,_⟩:=hx2.open_
 have HB:=below_seq hb1 hb2
 go_wp2_with fail
 go_ret
 refine ⟨_,rfl,frac_built w2 _ _ _ k 1 HX1.out.at_ HX2.out (n:Rat) HK.out.symm rfl rfl,HB.alloc HB.size _⟩
set_option maxRecDepth 100000 in
set_option maxHeartbeats 4000000 in
theorem frac_Text (w:World) (v:Value) (q:Rat) (h:FracAt w v q) (hf:Fits 1000000 q) (ht:Tab w) :
 Calls Tryz.prog 10 #[v] w (Keeps (.string ⟨(fracText q).toArray⟩) w):=by
 have CP:=Lib.hid (frac_Parts w v q h)
 obtain ⟨f1,f2⟩:=hf
 have l1:=dec_sz f1
 have l2:=dec_sz f2
 have F1:=Lib.hid f1;have F2:=Lib.hid f2
 have HT:=Lib.hid (show fracText q=(if q.num<0 then [45]else []) ++ Lib.decDigits q.num.natAbs ++ (if q.den=1 then []else 47 :: Lib.decDigits q.den)from rfl)
 have H1:Hid (q.den=1→Lib.decDigits q.den = [49]):=fun h=>by rw[h];exact dec_one
 have H2:Hid (q.den≠1→Lib.decDigits q.den≠[49]):=fun h e=>h (dec_inj (e.trans dec_one.symm))
 clear f1 f2 h
 unfold PartsOf at CP
 generalize fracText q=T at *
 generalize hng:decide (q.num<0)=ng at *
 have HNG:=Lib.hid hng
 clear hng
 generalize q.num.natAbs=n at *
 generalize hd:q.den=d at *
 clear hd
 generalize hsn:Lib.decDigits n=sn at *
 generalize hsd:Lib.decDigits d=sd at *
 have SN:=Lib.hid hsn;have SD:=Lib.hid hsd
 clear hsn hsd
 go_enter Tryz.func10,Tryz.ntmps10
 go_wp2_with fail
 refine CP.out.mono ?_
 rintro e w1 ⟨pn,pd,rfl,hn,hd,hb1⟩
 have CN0:=nat_Text w1 pn n hn F1.out (ht.keep hb1)
 rw[SN.out]at CN0
 have CN:=Lib.hid CN0
 have CD:Hid (∀ w2,Below w1.heap.size w1 w2→Calls Tryz.prog 32 #[pd] w2 (Keeps (.string ⟨sd.toArray⟩) w2)):=fun w2 h2=>by
  have:=nat_Text w2 pd d (hd.keep h2).at_ F2.out ((ht.keep hb1).keep h2)
  rwa [SD.out]at this
 clear CN0
 by_cases h1:d=1
 ·have e1:=H1.out h1
  have hTd:Hid ((if d=1 then []else 47 :: sd)=([]:List UInt8)):=if_pos h1
  rw[hTd.out]at HT
  subst e1
  cases ng
  ·have hT:Hid (T=sn):=by
    have h5:=of_decide_eq_false HNG.out
    show _=_
    rw[HT.out,if_neg h5]
    simp
   go_wp2_with fail
   refine CN.out.mono ?_
   rintro e w2 ⟨rfl,hb2⟩
   go_wp2_with fail
   refine (CD.out _ hb2).mono ?_
   rintro e w3 ⟨rfl,hb3⟩
   go_wp2_with fail
   go_ret
   exact ⟨by rw[hT.out];rfl,below_seq hb1 (below_seq hb2 hb3)⟩
  ·have hT:Hid (T = [45] ++ sn):=by
    have h5:=of_decide_eq_true HNG.out
    show _=_
    rw[HT.out,if_pos h5]
    simp
   go_wp2_with fail
   refine CN.out.mono ?_
   rintro e w2 ⟨rfl,hb2⟩
   go_wp2_with fail
   refine (CD.out _ hb2).mono ?_
   rintro e w3 ⟨rfl,hb3⟩
   go_wp2_with fail
   go_ret
   exact ⟨by rw[hT.out,← bytes_app];rfl,below_seq hb1 (below_seq hb2 hb3)⟩
 ·have hne:(sd == [49])=false:=beq_eq_false_iff_ne.2 (H2.out h1)
  have hTd:Hid ((if d=1 then []else 47 :: sd)=47 :: sd):=if_neg h1
  rw[hTd.out]at HT
  cases ng
  ·have hT:Hid (T=sn ++ ([47] ++ sd)):=by
    have h5:=of_decide_eq_false HNG.out
    show _=_
    rw[HT.out,if_neg h5]
    simp
   go_wp2_with fail
   refine CN.out.mono ?_
   rintro e w2 ⟨rfl,hb2⟩
   go_wp2_with fail
   refine (CD.out _ hb2).mono ?_
   rintro e w3 ⟨rfl,hb3⟩
   go_wp2_with fail
   go_ret
   exact ⟨by rw[hT.out,← bytes_app,← bytes_app];rfl,below_seq hb1 (below_seq hb2 hb3)⟩
  ·have hT:Hid (T = [45] ++ sn ++ ([47] ++ sd)):=by
    have h5:=of_decide_eq_true HNG.out
    show _=_
    rw[HT.out,if_pos h5]
    simp
   go_wp2_with fail
   refine CN.out.mono ?_
   rintro e w2 ⟨rfl,hb2⟩
   go_wp2_with fail
   refine (CD.out _ hb2).mono ?_
   rintro e w3 ⟨rfl,hb3⟩
   go_wp2_with fail
   go_ret
   exact ⟨by rw[hT.out,← bytes_app,← bytes_app,← bytes_app];rfl,below_seq hb1 (below_seq hb2 hb3)⟩
end Go.Proofs.YtehbhghbagaliaaGreatDoor
set_option linter.unusedVariables false
set_option linter.unusedSimpArgs false
namespace Vic
open Go Go.RowKit
instance (l:List UInt8):Decidable (Canon l):=inferInstanceAs (Decidable (_∧_∧_))
instance (l:List UInt8):Decidable (GoodNat l):=inferInstanceAs (Decidable (_∧_))
def fracNeg (l:List UInt8):Bool:=Lib.hasPrefix l [45]
def fracTop (l:List UInt8):List UInt8:=(Lib.cut (Lib.trimPrefix l [45]) [47]).1
def fracBelow (l:List UInt8):List UInt8:=if (Lib.cut (Lib.trimPrefix l [45]) [47]).2.2 then (Lib.cut (Lib.trimPrefix l [45]) [47]).2.1 else [49]
def fracOf (l:List UInt8):Rat:=quo (fracNeg l) (numOf 0 (fracTop l)) (numOf 0 (fracBelow l))
def FracGood (l:List UInt8):Prop:=GoodNat (fracTop l)∧GoodNat (fracBelow l)∧numOf 0 (fracBelow l)≠0∧fracText (fracOf l)=l
def GotFrac (l:List UInt8) (w:World) (e:Ending) (w':World):Prop:=
 (¬ FracGood l∧GivesNo w e w')∨(FracGood l∧∃ x,e=.returned (.tuple #[x,.bool true])∧FracPtr w' x (fracOf l)∧Fits 1000000 (fracOf l)∧Below w.heap.size w w')
def GotNat (l:List UInt8) (w:World) (e:Ending) (w':World):Prop:=
 ∃ x b,e=.returned (.tuple #[x,.bool b])∧Below w.heap.size w w'∧((b=false∧x=.pointer none∧¬ GoodNat l)∨(b=true∧GoodNat l∧NatPtr w' x (numOf 0 l)))
theorem trim_len (s p:List UInt8):(Lib.trimPrefix s p).length≤s.length:=by
 unfold Lib.trimPrefix;split
 ·simp
 ·exact Nat.le_refl _
theorem cut_len1 (s p:List UInt8):(Lib.cut s p).1.length≤s.length:=by
 unfold Lib.cut;split
 ·simp;omega
 ·exact Nat.le_refl _
theorem cut_len2 (s p:List UInt8):(Lib.cut s p).2.1.length≤s.length:=by
 unfold Lib.cut;split
 ·simp
 ·simp
theorem good_sz {l:List UInt8}(h:GoodNat l):sz (numOf 0 l)≤1000000:=digs_dec (numOf_lt l h.1.2.1) (by have:=h.2;omega)
end Vic
namespace Go.Proofs.YtehbhghbagaliaaGreatDoor
open Go.RowKit Vic
theorem nat_Get (w:World) (l:List UInt8) (hs:l.length≤9223372036854775806):Calls Tryz.prog 24 #[.string ⟨l.toArray⟩] w (GotNat l w):=by
 by_cases h:GoodNat l
 ·refine (nat_Get_yes w l h).mono ?_
  rintro e w' ⟨x,rfl,hx,hb⟩
  exact ⟨x,true,rfl,hb,.inr ⟨rfl,h,hx⟩⟩
 ·refine (nat_Get_no w l hs h).mono ?_
  rintro e w' ⟨rfl,hb⟩
  exact ⟨_,false,rfl,hb,.inl ⟨rfl,rfl,h⟩⟩
set_option maxRecDepth 100000 in
set_option maxHeartbeats 8000000 in
theorem frac_Get (w:World) (l:List UInt8) (hl:l.length≤1000000) (ht:Tab w):Calls Tryz.prog 25 #[.string ⟨l.toArray⟩] w (GotFrac l w):=by
 have C1:=Lib.hid (strings_CutPrefix w l [45])
 obtain ⟨t,htt⟩:∃ t,t=Lib.trimPrefix l [45]:=⟨_,rfl⟩
 have htl:t.length≤l.length:=by rw[htt];exact trim_len _ _
 obtain ⟨ng,hng⟩:∃ ng,ng=Lib.hasPrefix l [45]:=⟨_,rfl⟩
 rw[← htt,← hng]at C1
 have C2:=Lib.hid (strings_Cut w ht t [47] (by omega))
 obtain ⟨top,htop⟩:∃ top,top=(Lib.cut t [47]).1:=⟨_,rfl⟩
 obtain ⟨bel,hbel⟩:∃ bel,bel=(Lib.cut t [47]).2.1:=⟨_,rfl⟩
 obtain ⟨is,his⟩:∃ is,is=(Lib.cut t [47]).2.2:=⟨_,rfl⟩
 have htl1:top.length≤t.length:=by rw[htop];exact cut_len1 _ _
 have hbl1:bel.length≤t.length:=by rw[hbel];exact cut_len2 _ _
 rw[← htop,← hbel,← his]at C2
 have T1:Hid (fracNeg l=ng):=hng.symm
 have T2:Hid (fracTop l=top):=by show (Lib.cut (Lib.trimPrefix l [45]) [47]).1=_;rw[← htt,htop]
 have T3:Hid (fracBelow l=if is then bel else [49]):=by show (if (Lib.cut (Lib.trimPrefix l [45]) [47]).2.2 then (Lib.cut (Lib.trimPrefix l [45]) [47]).2.1 else [49])=_;rw[← htt,his,hbel]
 clear htt hng htop hbel his
 go_enter Tryz.func25,Tryz.ntmps25
 go_wp2_with fail
 refine C1.out.mono ?_
 rintro e w' ⟨rfl,rfl⟩
 go_wp2_with fail
 refine C2.out.mono ?_
 rintro e w1 ⟨rfl,hb1⟩
 have CT:Hid (∀ wr,Calls Tryz.prog 24 #[.string ⟨top.toArray⟩] wr (GotNat top wr)):=fun wr=>nat_Get wr top (by omega)
 have CB:Hid (∀ wr,Calls Tryz.prog 24 #[.string ⟨bel.toArray⟩] wr (GotNat bel wr)):=fun wr=>nat_Get wr bel (by omega)
 have C9:Hid (∀ wr,Calls Tryz.prog 24 #[.string ⟨#[49]⟩] wr (GotNat [49] wr)):=fun wr=>nat_Get wr [49] (by simp)
 have HT:=Lib.hid ht
 clear ht
 cases is
 ·rw[if_neg (by simp)]at T3
  obtain ⟨bl,hbl⟩:∃ bl:List UInt8,bl = [49]:=⟨_,rfl⟩
  rw[← hbl]at T3
  have CQ:Hid (∀ wr,Calls Tryz.prog 24 #[.string ⟨#[49]⟩] wr (GotNat bl wr)):=by rw[hbl];exact C9
  clear hbl CB C9
  go_wp2_with fail
  refine (CT.out _).mono ?_
  rintro e w2 ⟨x2,b2,rfl,hb2,h2⟩
  go_wp2_with fail
  refine (CQ.out _).mono ?_
  rintro e w3 ⟨x3,b3,rfl,hb3,h3⟩
  have hb13:=below_seq hb1 (below_seq hb2 hb3)
  rcases h2 with ⟨rfl,rfl,h2⟩|⟨rfl,h2,hx2⟩
  ·go_wp2_with fail
   go_ret2
   exact .inl ⟨fun h=>h2 (by have:=h.1;rwa [T2.out]at this),rfl,hb13⟩
  ·rcases h3 with ⟨rfl,rfl,h3⟩|⟨rfl,h3,hx3⟩
   ·go_wp2_with fail
    go_ret2
    exact .inl ⟨fun h=>h3 (by have:=h.2.1;rwa [T3.out]at this),rfl,hb13⟩
   ·have s2:=good_sz h2
    have s3:=good_sz h3
    have T4:Hid (fracOf l=quo ng (numOf 0 top) (numOf 0 bl)):=by show quo (fracNeg l) (numOf 0 (fracTop l)) (numOf 0 (fracBelow l))=_;rw[T1.out,T2.out,T3.out]
    have T5:Hid (numOf 0 (fracBelow l)=numOf 0 bl):=by show _=_;rw[T3.out]
    have T6:Hid (GoodNat (fracTop l)∧GoodNat (fracBelow l)):=by rw[T2.out,T3.out];exact ⟨h2,h3⟩
    have hx2':=hx2.keep hb3
    clear h2 h3 T1 T2 T3 CT CQ hx2
    generalize numOf 0 top=n at *
    generalize numOf 0 bl=d at *
    have CZ0:=frac_zero w3 x3 d hx3.at_ (by omega)
    by_cases hd0:d=0
    ·rw[decide_eq_true hd0]at CZ0
     have CZ:=Lib.hid CZ0
     clear CZ0
     go_wp2_with fail
     refine CZ.out.mono ?_
     rintro e w' ⟨rfl,rfl⟩
     go_wp2_with fail
     go_ret2
     exact .inl ⟨fun h=>h.2.2.1 (T5.out.trans hd0),rfl,hb13⟩
    ·rw[decide_eq_false hd0]at CZ0
     have CZ:=Lib.hid CZ0
     have CS:=Lib.hid (frac_sure w3 ng x2 x3 n d hx2'.at_ hx3.at_ hd0 (by omega) (by omega))
     have hfit:=fits_quo (neg:=ng) hd0 s2 s3
     rw[← T4.out]at hfit
     have HF:=Lib.hid hfit
     rw[← T4.out]at CS
     have H0:=Lib.hid hd0
     clear CZ0 hfit hd0 hx2' hx3 s2 s3
     obtain ⟨q,hq0⟩:∃ q,q=fracOf l:=⟨_,rfl⟩
     rw[← hq0]at CS HF
     have HQE:=Lib.hid hq0
     clear hq0
     go_wp2_with fail
     refine CZ.out.mono ?_
     rintro e w' ⟨rfl,rfl⟩
     go_wp2_with fail
     refine CS.out.mono ?_
     rintro e w4 ⟨x4,rfl,hx4,hb4⟩
     have hb14:=below_seq hb13 hb4
     have CX:=Lib.hid (frac_Text w4 x4 q hx4.at_ HF.out (HT.out.keep hb14))
     by_cases hq:fracText q=l
     ·have hbe:(fracText q == l)=true:=beq_iff_eq.2 hq
      have HQ:=Lib.hid hq
      clear hq
      obtain ⟨T,hT⟩:∃ T,T=fracText q:=⟨_,rfl⟩
      rw[← hT]at hbe CX HQ
      have HQT:=Lib.hid hT
      clear hT
      go_wp2_with fail
      refine CX.out.mono ?_
      rintro e w5 ⟨rfl,hb5⟩
      go_wp2_with fail
      go_ret2
      refine .inr ⟨⟨T6.out.1,T6.out.2,by rw[T5.out];exact H0.out,?_⟩,x4,rfl,?_,?_,below_seq hb14 hb5⟩
      ·rw[← HQE.out,← HQT.out];exact HQ.out
      ·exact HQE.out▸hx4.keep hb5
      ·exact HQE.out▸HF.out
     ·have hbe:(fracText q == l)=false:=beq_eq_false_iff_ne.2 hq
      have HQ:=Lib.hid hq
      clear hq
      obtain ⟨T,hT⟩:∃ T,T=fracText q:=⟨_,rfl⟩
      rw[← hT]at hbe CX HQ
      have HQT:=Lib.hid hT
      clear hT
      go_wp2_with fail
      refine CX.out.mono ?_
      rintro e w5 ⟨rfl,hb5⟩
      go_wp2_with fail
      go_ret2
      exact .inl ⟨fun h=>HQ.out (by have:=h.2.2.2;rwa [← HQE.out,← HQT.out]at this),rfl,below_seq hb14 hb5⟩
 ·rw[if_pos rfl]at T3
  obtain ⟨bl,hbl⟩:∃ bl:List UInt8,bl=bel:=⟨_,rfl⟩
  rw[← hbl]at T3
  have CQ:Hid (∀ wr,Calls Tryz.prog 24 #[.string ⟨bl.toArray⟩] wr (GotNat bl wr)):=by rw[hbl];exact CB
  rw[← hbl]
  clear hbl CB C9
  go_wp2_with fail
  refine (CT.out _).mono ?_
  rintro e w2 ⟨x2,b2,rfl,hb2,h2⟩
  go_wp2_with fail
  refine (CQ.out _).mono ?_
  rintro e w3 ⟨x3,b3,rfl,hb3,h3⟩
  have hb13:=below_seq hb1 (below_seq hb2 hb3)
  rcases h2 with ⟨rfl,rfl,h2⟩|⟨rfl,h2,hx2⟩
  ·go_wp2_with fail
   go_ret2
   exact .inl ⟨fun h=>h2 (by have:=h.1;rwa [T2.out]at this),rfl,hb13⟩
  ·rcases h3 with ⟨rfl,rfl,h3⟩|⟨rfl,h3,hx3⟩
   ·go_wp2_with fail
    go_ret2
    exact .inl ⟨fun h=>h3 (by have:=h.2.1;rwa [T3.out]at this),rfl,hb13⟩
   ·have s2:=good_sz h2
    have s3:=good_sz h3
    have T4:Hid (fracOf l=quo ng (numOf 0 top) (numOf 0 bl)):=by show quo (fracNeg l) (numOf 0 (fracTop l)) (numOf 0 (fracBelow l))=_;rw[T1.out,T2.out,T3.out]
    have T5:Hid (numOf 0 (fracBelow l)=numOf 0 bl):=by show _=_;rw[T3.out]
    have T6:Hid (GoodNat (fracTop l)∧GoodNat (fracBelow l)):=by rw[T2.out,T3.out];exact ⟨h2,h3⟩
    have hx2':=hx2.keep hb3
    clear h2 h3 T1 T2 T3 CT CQ hx2
    generalize numOf 0 top=n at *
    generalize numOf 0 bl=d at *
    have CZ0:=frac_zero w3 x3 d hx3.at_ (by omega)
    by_cases hd0:d=0
    ·rw[decide_eq_true hd0]at CZ0
     have CZ:=Lib.hid CZ0
     clear CZ0
     go_wp2_with fail
     refine CZ.out.mono ?_
     rintro e w' ⟨rfl,rfl⟩
     go_wp2_with fail
     go_ret2
     exact .inl ⟨fun h=>h.2.2.1 (T5.out.trans hd0),rfl,hb13⟩
    ·rw[decide_eq_false hd0]at CZ0
     have CZ:=Lib.hid CZ0
     have CS:=Lib.hid (frac_sure w3 ng x2 x3 n d hx2'.at_ hx3.at_ hd0 (by omega) (by omega))
     have hfit:=fits_quo (neg:=ng) hd0 s2 s3
     rw[← T4.out]at hfit
     have HF:=Lib.hid hfit
     rw[← T4.out]at CS
     have H0:=Lib.hid hd0
     clear CZ0 hfit hd0 hx2' hx3 s2 s3
     obtain ⟨q,hq0⟩:∃ q,q=fracOf l:=⟨_,rfl⟩
     rw[← hq0]at CS HF
     have HQE:=Lib.hid hq0
     clear hq0
     go_wp2_with fail
     refine CZ.out.mono ?_
     rintro e w' ⟨rfl,rfl⟩
     go_wp2_with fail
     refine CS.out.mono ?_
     rintro e w4 ⟨x4,rfl,hx4,hb4⟩
     have hb14:=below_seq hb13 hb4
     have CX:=Lib.hid (frac_Text w4 x4 q hx4.at_ HF.out (HT.out.keep hb14))
     by_cases hq:fracText q=l
     ·have hbe:(fracText q == l)=true:=beq_iff_eq.2 hq
      have HQ:=Lib.hid hq
      clear hq
      obtain ⟨T,hT⟩:∃ T,T=fracText q:=⟨_,rfl⟩
      rw[← hT]at hbe CX HQ
      have HQT:=Lib.hid hT
      clear hT
      go_wp2_with fail
      refine CX.out.mono ?_
      rintro e w5 ⟨rfl,hb5⟩
      go_wp2_with fail
      go_ret2
      refine .inr ⟨⟨T6.out.1,T6.out.2,by rw[T5.out];exact H0.out,?_⟩,x4,rfl,?_,?_,below_seq hb14 hb5⟩
      ·rw[← HQE.out,← HQT.out];exact HQ.out
      ·exact HQE.out▸hx4.keep hb5
      ·exact HQE.out▸HF.out
     ·have hbe:(fracText q == l)=false:=beq_eq_false_iff_ne.2 hq
      have HQ:=Lib.hid hq
      clear hq
      obtain ⟨T,hT⟩:∃ T,T=fracText q:=⟨_,rfl⟩
      rw[← hT]at hbe CX HQ
      have HQT:=Lib.hid hT
      clear hT
      go_wp2_with fail
      refine CX.out.mono ?_
      rintro e w5 ⟨rfl,hb5⟩
      go_wp2_with fail
      go_ret2
      exact .inl ⟨fun h=>HQ.out (by have:=h.2.2.2;rwa [← HQE.out,← HQT.out]at this),rfl,below_seq hb14 hb5⟩
end Go.Proofs.YtehbhghbagaliaaGreatDoor
set_option linter.unusedVariables false
set_option linter.unusedSimpArgs false
namespace Vic
open Go Go.RowKit
theorem fits_mul {L M:Nat}{x y:Rat}(hx:Fits L x) (hy:Fits M y):Fits (L+M) (x*y):=by
 rw[← quo_self x,← quo_self y,← quo_mul]
 exact fits_quo (Nat.mul_ne_zero x.den_nz y.den_nz) (Nat.le_trans (sz_mul _ _) (Nat.add_le_add hx.1 hy.1)) (Nat.le_trans (sz_mul _ _) (Nat.add_le_add hx.2 hy.2))
theorem sgn_add_abs (p q:Bool) (a b s:Nat) (r:Bool) (h:sgn r s=sgn p a+sgn q b):s≤a+b:=by
 have h1:=congrArg Int.natAbs h
 rw[sgn_natAbs]at h1
 have h2:=Int.natAbs_add_le (sgn p a) (sgn q b)
 rw[sgn_natAbs,sgn_natAbs]at h2
 omega
def SumOf (p:Bool) (a:Nat) (q:Bool) (b:Nat) (w:World) (e:Ending) (w':World):Prop:=
 ∃ r x s,e=.returned (.tuple #[.bool r,x])∧NatAt w' x s∧sgn r s=sgn p a+sgn q b∧Below w.heap.size w w'
def signI (q:Rat):Int:=if q.num<0 then -1 else if q.num=0 then 0 else 1
end Vic
namespace Go.Proofs.YtehbhghbagaliaaGreatDoor
open Go.RowKit Vic
theorem frac_Sign (w:World) (v:Value) (q:Rat) (h:FracAt w v q) (hf:Fits 1000000000 q):Calls Tryz.prog 36 #[v] w (Keeps (.int .i64 (signI q)) w):=by
 have CP:=Lib.hid (frac_Parts w v q h)
 unfold PartsOf at CP
 obtain ⟨s,hs⟩:∃ s,s=signI q:=⟨_,rfl⟩
 rw[← hs]
 have HS:=Lib.hid hs
 have HF:=Lib.hid hf.1
 clear hs hf h
 go_enter Tryz.func36,Tryz.ntmps36
 go_wp2_with fail
 refine CP.out.mono ?_
 rintro e w1 ⟨pn,pd,rfl,hn,hd,hb1⟩
 have CZ0:=frac_zero w1 pn q.num.natAbs hn (Nat.le_trans HF.out (by omega))
 by_cases h1:q.num<0
 ·have h2:s=-1:=by rw[HS.out,signI,if_pos h1]
  rw[decide_eq_true h1]
  subst h2
  go_wp2_with fail
  go_ret
  exact ⟨rfl,hb1⟩
 ·rw[decide_eq_false h1]
  by_cases h2:q.num.natAbs=0
  ·have h3:s=0:=by rw[HS.out,signI,if_neg h1,if_pos (by omega)]
   rw[decide_eq_true h2]at CZ0
   have CZ:=Lib.hid CZ0
   subst h3
   clear CZ0 h1 h2
   go_wp2_with fail
   refine CZ.out.mono ?_
   rintro e w' ⟨rfl,rfl⟩
   go_wp2_with fail
   go_ret
   exact ⟨rfl,hb1⟩
  ·have h3:s=1:=by rw[HS.out,signI,if_neg h1,if_neg (by omega)]
   rw[decide_eq_false h2]at CZ0
   have CZ:=Lib.hid CZ0
   subst h3
   clear CZ0 h1 h2
   go_wp2_with fail
   refine CZ.out.mono ?_
   rintro e w' ⟨rfl,rfl⟩
   go_wp2_with fail
   go_ret
   exact ⟨rfl,hb1⟩
set_option maxRecDepth 100000 in
theorem frac_Mul (w:World) (u v:Value) (x y:Rat) (hx:FracAt w u x) (hy:FracAt w v y) (hfx:Fits 1000000000 x) (hfy:Fits 1000000000 y) :
 Calls Tryz.prog 46 #[u,v] w (Gives (fun z w'=>FracPtr w' z (x*y)) w):=by
 have CP:=Lib.hid (frac_Parts w u x hx)
 unfold PartsOf at CP
 have CQ:Hid (∀ wr,Below w.heap.size w wr→Calls Tryz.prog 44 #[v] wr (PartsOf y wr)):=fun wr h=>frac_Parts wr v y (hy.keep h)
 unfold PartsOf at CQ
 have HE:=Lib.hid (quo_mul (decide (x.num<0)) (decide (y.num<0)) x.num.natAbs y.num.natAbs x.den y.den)
 rw[quo_self,quo_self]at HE
 have HFX:=Lib.hid hfx;have HFY:=Lib.hid hfy
 have HD0:Hid (x.den*y.den≠0):=Nat.mul_ne_zero x.den_nz y.den_nz
 clear hx hy hfx hfy
 go_enter Tryz.func46,Tryz.ntmps46
 go_wp2_with fail
 refine CP.out.mono ?_
 rintro e w1 ⟨pn,pd,rfl,hn,hd,hb1⟩
 go_wp2_with fail
 refine (CQ.out _ hb1).mono ?_
 rintro e w2 ⟨qn,qd,rfl,hm,he,hb2⟩
 have CN:=Lib.hid (nat_Mul w2 pn qn _ _ (hn.keep hb2) hm (Nat.le_trans HFX.out.1 (by omega)) (Nat.le_trans HFY.out.1 (by omega)))
 have CE:Hid (∀ wr,Below w2.heap.size w2 wr→Calls Tryz.prog 59 #[pd,qd] wr (Gives (fun z w'=>NatAt w' z (x.den*y.den)) wr)):=fun wr h=>nat_Mul wr pd qd _ _ ((hd.keep hb2).keep h).at_ (he.keep h).at_ (Nat.le_trans HFX.out.2 (by omega)) (Nat.le_trans HFY.out.2 (by omega))
 have sl1:sz (x.num.natAbs*y.num.natAbs)≤10000000000:=Nat.le_trans (sz_mul _ _) (by have:=HFX.out.1;have:=HFY.out.1;omega)
 have sl2:sz (x.den*y.den)≤10000000000:=Nat.le_trans (sz_mul _ _) (by have:=HFX.out.2;have:=HFY.out.2;omega)
 have SL1:=Lib.hid sl1;have SL2:=Lib.hid sl2
 clear sl1 sl2
 generalize decide (x.num<0)=p at *
 generalize decide (y.num<0)=q at *
 obtain ⟨nm,hnm⟩:∃ nm,nm=x.num.natAbs*y.num.natAbs:=⟨_,rfl⟩
 obtain ⟨de,hde⟩:∃ de,de=x.den*y.den:=⟨_,rfl⟩
 rw[← hnm]at CN SL1 HE
 rw[← hde]at CE SL2 HE HD0
 clear hnm hde
 go_wp2_with fail
 refine CN.out.mono ?_
 rintro e w3 ⟨x3,rfl,hx3,hb3⟩
 go_wp2_with fail
 refine (CE.out _ hb3).mono ?_
 rintro e w4 ⟨x4,rfl,hx4,hb4⟩
 have CS:Hid (∀ b,Calls Tryz.prog 65 #[.bool b,x3,x4] w4 (Gives (fun z w'=>FracPtr w' z (quo b nm de)) w4)):=fun b=>frac_sure w4 b x3 x4 nm de (hx3.keep hb4) hx4 HD0.out SL1.out SL2.out
 go_wp2_with fail
 refine (CS.out _).mono ?_
 rintro e w5 ⟨x5,rfl,hx5,hb5⟩
 go_wp2_with fail
 go_ret
 exact ⟨x5,rfl,HE.out▸hx5,below_seq hb1 (below_seq hb2 (below_seq hb3 (below_seq hb4 hb5)))⟩
set_option maxRecDepth 100000 in
set_option maxHeartbeats 1000000 in
theorem frac_signed (w:World) (p q:Bool) (u v:Value) (a b:Nat) (ha:NatAt w u a) (hb:NatAt w v b) (hal:sz a≤1000000000000) (hbl:sz b≤1000000000000) :
 Calls Tryz.prog 92 #[.bool p,u,.bool q,v] w (SumOf p a q b w):=by
 by_cases hpq:p=q
 ·subst hpq
  have CA:=Lib.hid (nat_Add w u v a b ha hb hal hbl)
  have HE:Hid (sgn p (a+b)=sgn p a+sgn p b):=by show _=_;cases p<;>simp[sgn]<;>omega
  clear ha hb hal hbl
  go_enter Tryz.func92,Tryz.ntmps92
  go_wp2_with fail
  refine CA.out.mono ?_
  rintro e w1 ⟨x1,rfl,hx1,hb1⟩
  go_wp2_with fail
  go_ret2
  exact ⟨p,x1,_,rfl,hx1,HE.out,hb1⟩
 ·have hne:(p == q)=false:=beq_eq_false_iff_ne.2 hpq
  rcases Nat.lt_or_ge a b with h|h
  ·have CL:=Lib.hid (nat_Less_no w u v a b ha hb hal hbl h)
   have CM:=Lib.hid (nat_Less_yes w v u b a hb ha hbl hal (by omega))
   have HE:Hid (sgn q (b - a)=sgn p a+sgn q b):=by show _=_;cases p<;>cases q<;>first|exact absurd rfl hpq|(simp[sgn];omega)
   clear ha hb hal hbl hpq
   go_enter Tryz.func92,Tryz.ntmps92
   go_wp2_with fail
   refine CL.out.mono ?_
   rintro e w' ⟨rfl,rfl⟩
   go_wp2_with fail
   refine CM.out.mono ?_
   rintro e w1 ⟨x1,rfl,hx1,hb1⟩
   go_wp2_with fail
   go_ret2
   exact ⟨q,x1,_,rfl,hx1,HE.out,hb1⟩
  ·have CL:=Lib.hid (nat_Less_yes w u v a b ha hb hal hbl h)
   have HE:Hid (sgn p (a - b)=sgn p a+sgn q b):=by show _=_;cases p<;>cases q<;>first|exact absurd rfl hpq|(simp[sgn];omega)
   clear ha hb hal hbl hpq
   go_enter Tryz.func92,Tryz.ntmps92
   go_wp2_with fail
   refine CL.out.mono ?_
   rintro e w1 ⟨x1,rfl,hx1,hb1⟩
   go_wp2_with fail
   go_ret2
   exact ⟨p,x1,_,rfl,hx1,HE.out,hb1⟩
set_option maxRecDepth 100000 in
theorem frac_Neg (w:World) (v:Value) (q:Rat) (h:FracAt w v q) (hf:Fits 1000000000000 q):Calls Tryz.prog 177 #[v] w (Gives (fun z w'=>FracPtr w' z (-q)) w):=by
 have CP:=Lib.hid (frac_Parts w v q h)
 unfold PartsOf at CP
 have HF:=Lib.hid hf.1
 have e1:Hid ((-q).num.natAbs=q.num.natAbs):=by show _=_;rw[Rat.neg_num];exact Int.natAbs_neg _
 have e2:Hid ((-q).den=q.den):=Rat.neg_den q
 have e3:Hid (decide ((-q).num<0)=(!decide (q.num<0) && !decide (q.num.natAbs=0))):=by
  show _=_
  rw[Rat.neg_num]
  by_cases h1:q.num<0
  ·rw[decide_eq_true h1,decide_eq_false (by omega)];rfl
  ·by_cases h2:q.num.natAbs=0
   ·rw[decide_eq_false h1,decide_eq_true h2,decide_eq_false (by omega)];rfl
   ·rw[decide_eq_false h1,decide_eq_false h2,decide_eq_true (by omega)];rfl
 clear h hf
 generalize hng:decide (q.num<0)=ng at *
 generalize q.num.natAbs=n at *
 generalize q.den=d at *
 clear hng
 go_enter Tryz.func177,Tryz.ntmps177
 go_wp2_with fail
 refine CP.out.mono ?_
 rintro e w1 ⟨pn,pd,rfl,hn,hd,hb1⟩
 have CZ:=Lib.hid (frac_zero w1 pn n hn HF.out)
 have HN:=Lib.hid hn
 have HD:=Lib.hid hd
 obtain ⟨z,hz⟩:∃ z,z=decide (n=0):=⟨_,rfl⟩
 rw[← hz]at CZ e3
 clear hz
 obtain ⟨b7,A7,c7,rfl,_,_⟩:=hd.open_
 rcases hn with ⟨rfl,rfl⟩|hp
 ·cases ng
  ·go_wp2_with fail
   refine CZ.out.mono ?_
   rintro e w' ⟨rfl,rfl⟩
   go_wp2_with fail
   go_ret
   exact ⟨_,rfl,frac_built w1 _ _ _ _ _ HN.out HD.out _ e1.out e2.out e3.out,hb1.alloc hb1.size _⟩
  ·go_wp2_with fail
   go_ret
   exact ⟨_,rfl,frac_built w1 _ _ _ _ _ HN.out HD.out _ e1.out e2.out e3.out,hb1.alloc hb1.size _⟩
 ·obtain ⟨b8,A8,c8,rfl,_,_⟩:=NatPtr.open_ hp
  cases ng
  ·go_wp2_with fail
   refine CZ.out.mono ?_
   rintro e w' ⟨rfl,rfl⟩
   go_wp2_with fail
   go_ret
   exact ⟨_,rfl,frac_built w1 _ _ _ _ _ HN.out HD.out _ e1.out e2.out e3.out,hb1.alloc hb1.size _⟩
  ·go_wp2_with fail
   go_ret
   exact ⟨_,rfl,frac_built w1 _ _ _ _ _ HN.out HD.out _ e1.out e2.out e3.out,hb1.alloc hb1.size _⟩
end Go.Proofs.YtehbhghbagaliaaGreatDoor
set_option linter.unusedVariables false
set_option linter.unusedSimpArgs false
namespace Vic
open Go Go.RowKit
theorem quo_one (ng:Bool) (n:Nat):quo ng n 1=((sgn ng n:Int):Rat):=by
 apply Rat.ext
 ·rw[quo_num (by omega),Nat.gcd_one_right,Nat.div_one];rfl
 ·rw[quo_den (by omega),Nat.gcd_one_right];rfl
theorem fits_neg {L:Nat}{x:Rat}(h:Fits L x):Fits L (-x):=⟨by rw[Rat.neg_num,Int.natAbs_neg];exact h.1,h.2⟩
theorem fits_of {n:Int}(h1 : -9223372036854775808≤n) (h2:n≤9223372036854775807):Fits 2 (n:Rat):=
 ⟨by show sz n.natAbs≤2;exact sz_word (by omega),by show sz 1≤2;exact sz_word (by omega)⟩
theorem add_num (x y:Rat):∃ s r,sgn r s=x.num*y.den+y.num*x.den∧quo r s (x.den*y.den)=x+y:=by
 obtain ⟨n,hn⟩:∃ n,n=x.num*(y.den:Int)+y.num*(x.den:Int):=⟨_,rfl⟩
 have e:sgn (decide (n<0)) n.natAbs=n:=by
  unfold sgn
  by_cases h:n<0
  ·simp[h];omega
  ·simp[h];omega
 refine ⟨n.natAbs,decide (n<0),by rw[e,hn],quo_add x y rfl rfl _ _ (by rw[e,hn])⟩
theorem fits_add {L M:Nat}{x y:Rat}(hx:Fits L x) (hy:Fits M y):Fits (L+M+1) (x+y):=by
 obtain ⟨s,r,h1,h2⟩:=add_num x y
 rw[← h2]
 have h3:s≤x.num.natAbs*y.den+y.num.natAbs*x.den:=by
  have h4:=congrArg Int.natAbs h1
  rw[sgn_natAbs]at h4
  have h5:=Int.natAbs_add_le (x.num*(y.den:Int)) (y.num*(x.den:Int))
  rw[Int.natAbs_mul,Int.natAbs_mul,Int.natAbs_natCast,Int.natAbs_natCast]at h5
  omega
 have h6:=sz_mul x.num.natAbs y.den
 have h7:=sz_mul y.num.natAbs x.den
 have h8:=sz_add (x.num.natAbs*y.den) (y.num.natAbs*x.den)
 have h9:=sz_mul x.den y.den
 have:=hx.1;have:=hx.2;have:=hy.1;have:=hy.2
 exact fits_quo (Nat.mul_ne_zero x.den_nz y.den_nz) (Nat.le_trans (sz_mono h3) (by omega)) (by omega)
theorem fits_div {L M:Nat}{x y:Rat}(hx:Fits L x) (hy:Fits M y) (h0:y≠0):Fits (L+M) (x / y):=by
 rw[← quo_div x y h0]
 have hn:y.num.natAbs≠0:=fun h=>h0 (Rat.num_eq_zero.1 (by omega))
 exact fits_quo (Nat.mul_ne_zero x.den_nz hn) (Nat.le_trans (sz_mul _ _) (Nat.add_le_add hx.1 hy.2)) (Nat.le_trans (sz_mul _ _) (Nat.add_le_add hx.2 hy.1))
def floorI (q:Rat):Int:=q.num / (q.den:Int)
theorem floor_pos {q:Rat}(h:¬ q.num<0):sgn false (q.num.natAbs / q.den)=floorI q:=by
 unfold floorI
 obtain ⟨k,hk⟩:∃ k:Nat,q.num=k:=⟨q.num.natAbs,by omega⟩
 rw[hk];simp[sgn]
theorem floor_whole {q:Rat}(h:q.num<0) (h0:q.num.natAbs % q.den=0):sgn true (q.num.natAbs / q.den)=floorI q:=by
 unfold floorI
 obtain ⟨k,hk⟩:∃ k:Nat,q.num=-(k:Int):=⟨q.num.natAbs,by omega⟩
 rw[hk]at h0 ⊢
 rw[Int.natAbs_neg,Int.natAbs_natCast]at h0 ⊢
 have hd:=q.den_nz
 generalize q.den=d at *
 obtain ⟨m,rfl⟩:=Nat.dvd_of_mod_eq_zero h0
 rw[Nat.mul_div_cancel_left _ (by omega)]
 show -(m:Int)=-((d*m:Nat):Int) / (d:Int)
 rw[Int.natCast_mul,← Int.mul_neg,Int.mul_ediv_cancel_left _ (by omega)]
theorem floor_rest {q:Rat}(h:q.num<0) (h0:q.num.natAbs % q.den≠0):sgn true (q.num.natAbs / q.den+1)=floorI q:=by
 unfold floorI
 obtain ⟨k,hk⟩:∃ k:Nat,q.num=-(k:Int):=⟨q.num.natAbs,by omega⟩
 rw[hk]at h0 ⊢
 rw[Int.natAbs_neg,Int.natAbs_natCast]at h0 ⊢
 have hd:=q.den_nz
 generalize q.den=d at *
 have e:=Nat.div_add_mod k d
 have hlt:=Nat.mod_lt k (Nat.pos_of_ne_zero hd)
 generalize k / d=m at *
 generalize k % d=r at *
 show -((m+1:Nat):Int)=-(k:Int) / (d:Int)
 symm
 rw[Int.ediv_eq_iff_of_pos (by omega)]
 subst e
 have e2:((d*m+r:Nat):Int)=(d:Int)*m+r:=by simp
 rw[e2]
 generalize hdm:(d:Int)*(m:Int)=dm
 have e3:(-((m+1:Nat):Int))*(d:Int)=-dm - d:=by
  rw[← hdm,Int.natCast_add,Int.neg_mul,Int.add_mul,Int.mul_comm (m:Int)];simp;omega
 rw[e3]
 omega
end Vic
namespace Go.Proofs.YtehbhghbagaliaaGreatDoor
open Go.RowKit Vic
set_option maxRecDepth 100000 in
set_option maxHeartbeats 2000000 in
theorem frac_Add (w:World) (u v:Value) (x y:Rat) (hx:FracAt w u x) (hy:FracAt w v y) (hfx:Fits 1000000000 x) (hfy:Fits 1000000000 y) :
 Calls Tryz.prog 47 #[u,v] w (Gives (fun z w'=>FracPtr w' z (x+y)) w):=by
 have CP:=Lib.hid (frac_Parts w u x hx)
 unfold PartsOf at CP
 have CQ:Hid (∀ wr,Below w.heap.size w wr→Calls Tryz.prog 44 #[v] wr (PartsOf y wr)):=fun wr h=>frac_Parts wr v y (hy.keep h)
 unfold PartsOf at CQ
 obtain ⟨fx1,fx2⟩:=hfx
 obtain ⟨fy1,fy2⟩:=hfy
 have dx0:=x.den_nz
 have dy0:=y.den_nz
 have HZ:Hid (x.num.natAbs=0→quo (decide (y.num<0)) y.num.natAbs y.den=x+y):=fun h=>by
  rw[quo_self,show x=0 from Rat.num_eq_zero.1 (by omega),Rat.zero_add]
 have HS:Hid (x.den=y.den→∀ r s,sgn r s=sgn (decide (x.num<0)) x.num.natAbs+sgn (decide (y.num<0)) y.num.natAbs→quo r s x.den=x+y):=fun h r s hs=>
  quo_add_same x y rfl h.symm r s (by rw[hs,sgn_self,sgn_self])
 have HA:Hid (∀ r s,sgn r s=sgn (decide (x.num<0)) (x.num.natAbs*y.den)+sgn (decide (y.num<0)) (y.num.natAbs*x.den)→quo r s (x.den*y.den)=x+y):=fun r s hs=>
  quo_add x y rfl rfl r s (by
   have e:∀ (b:Bool) (k d:Nat),sgn b (k*d)=sgn b k*(d:Int):=fun b k d=>by cases b<;>simp[sgn,Int.neg_mul]
   rw[hs,e,e,sgn_self,sgn_self])
 obtain ⟨Z,hZ⟩:∃ Z,Z=x+y:=⟨_,rfl⟩
 rw[← hZ]at HZ HS HA ⊢
 clear hx hy hZ
 generalize decide (x.num<0)=p at *
 generalize decide (y.num<0)=q at *
 generalize x.num.natAbs=n at *
 generalize y.num.natAbs=m at *
 generalize x.den=d at *
 generalize y.den=e0 at *
 have sl1:=sz_mul n e0
 have sl2:=sz_mul m d
 have sl3:=sz_mul d e0
 have F:Hid (sz n≤1000000000∧sz m≤1000000000∧sz d≤1000000000∧sz e0≤1000000000∧sz (n*e0)≤2000000000∧sz (m*d)≤2000000000∧sz (d*e0)≤2000000000):=⟨fx1,fy1,fx2,fy2,by omega,by omega,by omega⟩
 have D0:Hid (d≠0∧e0≠0∧d*e0≠0):=⟨dx0,dy0,Nat.mul_ne_zero dx0 dy0⟩
 clear fx1 fx2 fy1 fy2 sl1 sl2 sl3 dx0 dy0
 go_enter Tryz.func47,Tryz.ntmps47
 go_wp2_with fail
 refine CP.out.mono ?_
 rintro e w1 ⟨pn,pd,rfl,hn,hd,hb1⟩
 go_wp2_with fail
 refine (CQ.out _ hb1).mono ?_
 rintro e w2 ⟨qn,qd,rfl,hm,he,hb2⟩
 have hn':=hn.keep hb2
 have hd':=(hd.keep hb2).at_
 have he':=he.at_
 have hb12:=below_seq hb1 hb2
 obtain ⟨f1,f2,f3,f4,f5,f6,f7⟩:=F.out
 have CZ0:=frac_zero w2 pn n hn' (by omega)
 by_cases hn0:n=0
 ·rw[decide_eq_true hn0]at CZ0
  have CZ:=Lib.hid CZ0
  have CS0:=frac_sure w2 q qn qd m e0 hm he' D0.out.2.1 (by omega) (by omega)
  rw[HZ.out hn0]at CS0
  have CS:=Lib.hid CS0
  clear CZ0 CS0 hn0 f1 f2 f3 f4 f5 f6 f7
  go_wp2_with fail
  refine CZ.out.mono ?_
  rintro e w' ⟨rfl,rfl⟩
  go_wp2_with fail
  refine CS.out.mono ?_
  rintro e w3 ⟨x3,rfl,hx3,hb3⟩
  go_wp2_with fail
  go_ret
  exact ⟨x3,rfl,hx3,below_seq hb12 hb3⟩
 ·rw[decide_eq_false hn0]at CZ0
  have CZ:=Lib.hid CZ0
  have CC0:=nat_Cmp w2 pd qd d e0 hd' he' (Nat.le_trans f3 (by omega)) (Nat.le_trans f4 (by omega))
  by_cases hde:d=e0
  ·rw[cmpI_eq hde]at CC0
   have CC:=Lib.hid CC0
   have CG:=Lib.hid (frac_signed w2 p q pn qn n m hn' hm (by omega) (by omega))
   unfold SumOf at CG
   have HS':=Lib.hid (HS.out hde)
   clear CZ0 CC0 hn0 hde f1 f2 f3 f4 f5 f6 f7
   go_wp2_with fail
   refine CZ.out.mono ?_
   rintro e w' ⟨rfl,rfl⟩
   go_wp2_with fail
   refine CC.out.mono ?_
   rintro e w' ⟨rfl,rfl⟩
   go_wp2_with fail
   refine CG.out.mono ?_
   rintro e w3 ⟨r,x3,s,rfl,hx3,hs,hb3⟩
   obtain ⟨f1,f2,f3,f4,f5,f6,f7⟩:=F.out
   have hsl:sz s≤10000000000:=Nat.le_trans (sz_mono (sgn_add_abs _ _ _ _ _ _ hs)) (Nat.le_trans (sz_add n m) (by omega))
   have CS0:=frac_sure w3 r x3 pd s d hx3 (hd'.keep hb3) D0.out.1 hsl (by omega)
   rw[HS'.out r s hs]at CS0
   have CS:=Lib.hid CS0
   clear CS0 f1 f2 f3 f4 f5 f6 f7 hsl hs
   go_wp2_with fail
   refine CS.out.mono ?_
   rintro e w4 ⟨x4,rfl,hx4,hb4⟩
   go_wp2_with fail
   go_ret
   exact ⟨x4,rfl,hx4,below_seq hb12 (below_seq hb3 hb4)⟩
  ·have hs0:(cmpI d e0 == 0)=false:=by
    rw[beq_eq_false_iff_ne]
    rcases Nat.lt_or_gt_of_ne hde with h|h
    ·rw[cmpI_lt h];omega
    ·rw[cmpI_gt h];omega
   generalize cmpI d e0=s0 at *
   have CC:=Lib.hid CC0
   have CM:=Lib.hid (nat_Mul w2 pn qd n e0 hn' he' (Nat.le_trans f1 (by omega)) (Nat.le_trans f4 (by omega)))
   have CN:Hid (∀ wr,Below w2.heap.size w2 wr→Calls Tryz.prog 59 #[qn,pd] wr (Gives (fun x w'=>NatAt w' x (m*d)) wr)):=fun wr h=>nat_Mul wr qn pd m d (hm.keep h) (hd'.keep h) (Nat.le_trans f2 (by omega)) (Nat.le_trans f3 (by omega))
   have CD:Hid (∀ wr,Below w2.heap.size w2 wr→Calls Tryz.prog 59 #[pd,qd] wr (Gives (fun x w'=>NatAt w' x (d*e0)) wr)):=fun wr h=>nat_Mul wr pd qd d e0 (hd'.keep h) (he'.keep h) (Nat.le_trans f3 (by omega)) (Nat.le_trans f4 (by omega))
   clear CZ0 CC0 hn0 hde f1 f2 f3 f4 f5 f6 f7
   generalize n*e0=a1 at *
   generalize m*d=a2 at *
   generalize d*e0=a3 at *
   go_wp2_with fail
   refine CZ.out.mono ?_
   rintro e w' ⟨rfl,rfl⟩
   go_wp2_with fail
   refine CC.out.mono ?_
   rintro e w' ⟨rfl,rfl⟩
   go_wp2_with fail
   refine CM.out.mono ?_
   rintro e w3 ⟨x3,rfl,hx3,hb3⟩
   go_wp2_with fail
   refine (CN.out _ hb3).mono ?_
   rintro e w4 ⟨x4,rfl,hx4,hb4⟩
   obtain ⟨f1,f2,f3,f4,f5,f6,f7⟩:=F.out
   have CG:=Lib.hid (frac_signed w4 p q x3 x4 a1 a2 (hx3.keep hb4) hx4 (by omega) (by omega))
   unfold SumOf at CG
   clear f1 f2 f3 f4 f5 f6 f7
   go_wp2_with fail
   refine CG.out.mono ?_
   rintro e w5 ⟨r,x5,s,rfl,hx5,hs,hb5⟩
   have hb25:=below_seq hb3 (below_seq hb4 hb5)
   go_wp2_with fail
   refine (CD.out _ hb25).mono ?_
   rintro e w6 ⟨x6,rfl,hx6,hb6⟩
   obtain ⟨f1,f2,f3,f4,f5,f6,f7⟩:=F.out
   have hsl:sz s≤10000000000:=Nat.le_trans (sz_mono (sgn_add_abs _ _ _ _ _ _ hs)) (Nat.le_trans (sz_add a1 a2) (by omega))
   have CS0:=frac_sure w6 r x5 x6 s a3 (hx5.keep hb6) hx6 D0.out.2.2 hsl (by omega)
   rw[HA.out r s hs]at CS0
   have CS:=Lib.hid CS0
   clear CS0 f1 f2 f3 f4 f5 f6 f7 hsl hs
   go_wp2_with fail
   refine CS.out.mono ?_
   rintro e w7 ⟨x7,rfl,hx7,hb7⟩
   go_wp2_with fail
   go_ret
   exact ⟨x7,rfl,hx7,below_seq hb12 (below_seq hb25 (below_seq hb6 hb7))⟩
theorem frac_Sub (w:World) (u v:Value) (x y:Rat) (hx:FracAt w u x) (hy:FracAt w v y) (hfx:Fits 1000000000 x) (hfy:Fits 1000000000 y) :
 Calls Tryz.prog 155 #[u,v] w (Gives (fun z w'=>FracPtr w' z (x - y)) w):=by
 have CN:=Lib.hid (frac_Neg w v y hy (hfy.mono (by omega)))
 have CA:Hid (∀ wr z,Below w.heap.size w wr→FracPtr wr z (-y)→Calls Tryz.prog 47 #[u,z] wr (Gives (fun z w'=>FracPtr w' z (x - y)) wr)):=fun wr z h hz=>by
  rw[Rat.sub_eq_add_neg]
  exact frac_Add wr u z x (-y) (hx.keep h) hz.at_ hfx (fits_neg hfy)
 generalize x - y=Z at *
 generalize -y=Y at *
 clear hx hy hfx hfy
 go_enter Tryz.func155,Tryz.ntmps155
 go_wp2_with fail
 refine CN.out.mono ?_
 rintro e w1 ⟨x1,rfl,hx1,hb1⟩
 go_wp2_with fail
 refine (CA.out _ _ hb1 hx1).mono ?_
 rintro e w2 ⟨x2,rfl,hx2,hb2⟩
 go_wp2_with fail
 go_ret
 exact ⟨x2,rfl,hx2,below_seq hb1 hb2⟩
end Go.Proofs.YtehbhghbagaliaaGreatDoor
set_option linter.unusedVariables false
set_option linter.unusedSimpArgs false
namespace Go.Proofs.YtehbhghbagaliaaGreatDoor
open Go.RowKit Vic
set_option maxRecDepth 100000 in
theorem frac_Div (w:World) (u v:Value) (x y:Rat) (hx:FracAt w u x) (hy:FracAt w v y) (hfx:Fits 1000000000 x) (hfy:Fits 1000000000 y) (h0:y≠0) :
 Calls Tryz.prog 154 #[u,v] w (GivesOk (fun z w'=>FracPtr w' z (x / y)) w):=by
 have CP:=Lib.hid (frac_Parts w u x hx)
 unfold PartsOf at CP
 have CQ:Hid (∀ wr,Below w.heap.size w wr→Calls Tryz.prog 44 #[v] wr (PartsOf y wr)):=fun wr h=>frac_Parts wr v y (hy.keep h)
 unfold PartsOf at CQ
 have HE:=Lib.hid (quo_div x y h0)
 have HFX:=Lib.hid hfx;have HFY:=Lib.hid hfy
 have hn0:y.num.natAbs≠0:=fun h=>h0 (Rat.num_eq_zero.1 (by omega))
 have HD0:Hid (x.den*y.num.natAbs≠0):=Nat.mul_ne_zero x.den_nz hn0
 clear hx hy hfx hfy h0 hn0
 go_enter Tryz.func154,Tryz.ntmps154
 go_wp2_with fail
 refine CP.out.mono ?_
 rintro e w1 ⟨pn,pd,rfl,hn,hd,hb1⟩
 go_wp2_with fail
 refine (CQ.out _ hb1).mono ?_
 rintro e w2 ⟨qn,qd,rfl,hm,he,hb2⟩
 have CN:=Lib.hid (nat_Mul w2 pn qd _ _ (hn.keep hb2) he.at_ (Nat.le_trans HFX.out.1 (by omega)) (Nat.le_trans HFY.out.2 (by omega)))
 have CE:Hid (∀ wr,Below w2.heap.size w2 wr→Calls Tryz.prog 59 #[pd,qn] wr (Gives (fun z w'=>NatAt w' z (x.den*y.num.natAbs)) wr)):=fun wr h=>nat_Mul wr pd qn _ _ ((hd.keep hb2).keep h).at_ (hm.keep h) (Nat.le_trans HFX.out.2 (by omega)) (Nat.le_trans HFY.out.1 (by omega))
 have sl1:sz (x.num.natAbs*y.den)≤10000000000:=Nat.le_trans (sz_mul _ _) (by have:=HFX.out.1;have:=HFY.out.2;omega)
 have sl2:sz (x.den*y.num.natAbs)≤10000000000:=Nat.le_trans (sz_mul _ _) (by have:=HFX.out.2;have:=HFY.out.1;omega)
 have SL1:=Lib.hid sl1;have SL2:=Lib.hid sl2
 clear sl1 sl2
 generalize decide (x.num<0)=p at *
 generalize decide (y.num<0)=q at *
 obtain ⟨nm,hnm⟩:∃ nm,nm=x.num.natAbs*y.den:=⟨_,rfl⟩
 obtain ⟨de,hde⟩:∃ de,de=x.den*y.num.natAbs:=⟨_,rfl⟩
 rw[← hnm]at CN SL1 HE
 rw[← hde]at CE SL2 HE HD0
 clear hnm hde
 go_wp2_with fail
 refine CN.out.mono ?_
 rintro e w3 ⟨x3,rfl,hx3,hb3⟩
 go_wp2_with fail
 refine (CE.out _ hb3).mono ?_
 rintro e w4 ⟨x4,rfl,hx4,hb4⟩
 have CS:Hid (∀ b,Calls Tryz.prog 72 #[.bool b,x3,x4] w4 (GivesOk (fun z w'=>FracPtr w' z (quo b nm de)) w4)):=fun b=>frac_New w4 b x3 x4 nm de (hx3.keep hb4) hx4 HD0.out SL1.out SL2.out
 go_wp2_with fail
 refine (CS.out _).mono ?_
 rintro e w5 ⟨x5,rfl,hx5,hb5⟩
 go_wp2_with fail
 go_ret2
 exact ⟨x5,rfl,HE.out▸hx5,below_seq hb1 (below_seq hb2 (below_seq hb3 (below_seq hb4 hb5)))⟩
set_option maxRecDepth 100000 in
theorem frac_Div_no (w:World) (u v:Value) (x:Rat) (hx:FracAt w u x) (hy:FracAt w v 0) (hfx:Fits 1000000000 x) :
 Calls Tryz.prog 154 #[u,v] w (GivesNo w):=by
 have CP:=Lib.hid (frac_Parts w u x hx)
 unfold PartsOf at CP
 have CQ:Hid (∀ wr,Below w.heap.size w wr→Calls Tryz.prog 44 #[v] wr (PartsOf 0 wr)):=fun wr h=>frac_Parts wr v 0 (hy.keep h)
 unfold PartsOf at CQ
 have HFX:=Lib.hid hfx
 have s0:sz 0≤2:=sz_word (by omega)
 have s1:sz 1≤2:=sz_word (by omega)
 have S0:=Lib.hid s0;have S1:=Lib.hid s1
 clear hx hy hfx s0 s1
 go_enter Tryz.func154,Tryz.ntmps154
 go_wp2_with fail
 refine CP.out.mono ?_
 rintro e w1 ⟨pn,pd,rfl,hn,hd,hb1⟩
 go_wp2_with fail
 refine (CQ.out _ hb1).mono ?_
 rintro e w2 ⟨qn,qd,rfl,hm,he,hb2⟩
 have CN:=Lib.hid (nat_Mul w2 pn qd _ 1 (hn.keep hb2) he.at_ (Nat.le_trans HFX.out.1 (by omega)) (Nat.le_trans S1.out (by omega)))
 have CE:Hid (∀ wr,Below w2.heap.size w2 wr→Calls Tryz.prog 59 #[pd,qn] wr (Gives (fun z w'=>NatAt w' z (x.den*0)) wr)):=fun wr h=>nat_Mul wr pd qn _ 0 ((hd.keep hb2).keep h).at_ (hm.keep h) (Nat.le_trans HFX.out.2 (by omega)) (Nat.le_trans S0.out (by omega))
 rw[Nat.mul_zero]at CE
 generalize decide (x.num<0)=p at *
 generalize decide ((0:Rat).num<0)=q at *
 generalize x.num.natAbs*1=nm at *
 go_wp2_with fail
 refine CN.out.mono ?_
 rintro e w3 ⟨x3,rfl,hx3,hb3⟩
 go_wp2_with fail
 refine (CE.out _ hb3).mono ?_
 rintro e w4 ⟨x4,rfl,hx4,hb4⟩
 have CS:Hid (∀ b,Calls Tryz.prog 72 #[.bool b,x3,x4] w4 (Rets (.tuple #[.pointer none,.bool false]) w4)):=fun b=>frac_New_no w4 b x3 x4 hx4
 go_wp2_with fail
 refine (CS.out _).mono ?_
 rintro e w' ⟨rfl,rfl⟩
 go_wp2_with fail
 go_ret2
 exact ⟨rfl,below_seq hb1 (below_seq hb2 (below_seq hb3 hb4))⟩
set_option maxRecDepth 100000 in
set_option maxHeartbeats 1000000 in
theorem frac_Floor (w:World) (v:Value) (x:Rat) (hx:FracAt w v x) (hfx:Fits 1000000000 x) :
 Calls Tryz.prog 33 #[v] w (Gives (fun z w'=>FracPtr w' z (floorI x:Rat)) w):=by
 have CP:=Lib.hid (frac_Parts w v x hx)
 unfold PartsOf at CP
 have hd0:=x.den_nz
 have sq:=sz_div x.num.natAbs x.den
 have sa:=sz_add (x.num.natAbs / x.den) 1
 have s1:sz 1≤2:=sz_word (by omega)
 have sr:=sz_mono (Nat.mod_le x.num.natAbs x.den)
 have S:Hid (sz x.num.natAbs≤1000000000∧sz x.den≤1000000000∧sz (x.num.natAbs / x.den)≤1000000000∧sz (x.num.natAbs / x.den+1)≤1000000010∧sz 1≤2∧sz (x.num.natAbs % x.den)≤1000000000):=by
  have f1:=hfx.1
  have f2:=hfx.2
  exact ⟨f1,f2,by omega,by omega,s1,by omega⟩
 have V1:Hid (¬ x.num<0→quo false (x.num.natAbs / x.den) 1=(floorI x:Rat)):=fun h=>by rw[quo_one,floor_pos h]
 have V2:Hid (x.num<0→x.num.natAbs % x.den=0→quo true (x.num.natAbs / x.den) 1=(floorI x:Rat)):=fun h h0=>by rw[quo_one,floor_whole h h0]
 have V3:Hid (x.num<0→x.num.natAbs % x.den≠0→quo true (x.num.natAbs / x.den+1) 1=(floorI x:Rat)):=fun h h0=>by rw[quo_one,floor_rest h h0]
 have D0:=Lib.hid hd0
 have C1:Hid (∀ w,Calls Tryz.prog 60 #[.int .u64 1] w (Gives (fun x w'=>NatPtr w' x 1) w)):=fun w=>nat_Ofp w 1 (by omega)
 clear hfx hx hd0 sq sa s1 sr
 generalize x.num.natAbs=n at *
 generalize x.den=d at *
 obtain ⟨Z,hZ⟩:∃ Z:Rat,Z=(floorI x:Rat):=⟨_,rfl⟩
 rw[← hZ]at V1 V2 V3 ⊢
 clear hZ
 go_enter Tryz.func33,Tryz.ntmps33
 go_wp2_with fail
 refine CP.out.mono ?_
 rintro e w1 ⟨pn,pd,rfl,hn,hd,hb1⟩
 obtain ⟨s1,s2,s3,s4,s5,s6⟩:=S.out
 have CV:=Lib.hid (nat_Div w1 pn pd n d hn hd.at_ (Nat.le_trans s1 (by omega)) (Nat.le_trans s2 (by omega)) D0.out)
 unfold Parted at CV
 clear s1 s2 s3 s4 s5 s6
 obtain ⟨Q,hQ⟩:∃ Q,Q=n / d:=⟨_,rfl⟩
 obtain ⟨R,hR⟩:∃ R,R=n % d:=⟨_,rfl⟩
 rw[← hQ]at CV V1 V2 V3 S
 rw[← hR]at CV V2 V3 S
 clear hQ hR
 by_cases hng:x.num<0
 ·rw[decide_eq_true hng]
  have V2':=Lib.hid (V2.out hng)
  have V3':=Lib.hid (V3.out hng)
  clear hng
  go_wp2_with fail
  refine CV.out.mono ?_
  rintro e w2 ⟨x2,y2,rfl,hx2,hy2,hb2⟩
  obtain ⟨s1,s2,s3,s4,s5,s6⟩:=S.out
  have CZ0:=frac_zero w2 y2 R hy2 (by omega)
  by_cases hR0:R=0
  ·rw[decide_eq_true hR0]at CZ0
   have CZ:=Lib.hid CZ0
   have V:=Lib.hid (V2'.out hR0)
   clear CZ0 hR0 s1 s2 s3 s4 s5 s6
   go_wp2_with fail
   refine CZ.out.mono ?_
   rintro e w' ⟨rfl,rfl⟩
   go_wp2_with fail
   refine (C1.out _).mono ?_
   rintro e w3 ⟨x3,rfl,hx3,hb3⟩
   obtain ⟨s1,s2,s3,s4,s5,s6⟩:=S.out
   have CS0:=frac_sure w3 true x2 x3 Q 1 (hx2.keep hb3) hx3.at_ (by omega) (Nat.le_trans s3 (by omega)) (Nat.le_trans s5 (by omega))
   rw[V.out]at CS0
   have CS:=Lib.hid CS0
   clear CS0 s1 s2 s3 s4 s5 s6
   go_wp2_with fail
   refine CS.out.mono ?_
   rintro e w4 ⟨x4,rfl,hx4,hb4⟩
   go_wp2_with fail
   go_ret
   exact ⟨x4,rfl,hx4,below_seq hb1 (below_seq hb2 (below_seq hb3 hb4))⟩
  ·rw[decide_eq_false hR0]at CZ0
   have CZ:=Lib.hid CZ0
   have V:=Lib.hid (V3'.out hR0)
   clear CZ0 hR0 s1 s2 s3 s4 s5 s6
   go_wp2_with fail
   refine CZ.out.mono ?_
   rintro e w' ⟨rfl,rfl⟩
   go_wp2_with fail
   refine (C1.out _).mono ?_
   rintro e w3 ⟨x3,rfl,hx3,hb3⟩
   obtain ⟨s1,s2,s3,s4,s5,s6⟩:=S.out
   have CA:=Lib.hid (nat_Add w3 x2 x3 Q 1 (hx2.keep hb3) hx3.at_ (Nat.le_trans s3 (by omega)) (Nat.le_trans s5 (by omega)))
   clear s1 s2 s3 s4 s5 s6
   go_wp2_with fail
   refine CA.out.mono ?_
   rintro e w5 ⟨x5,rfl,hx5,hb5⟩
   go_wp2_with fail
   refine (C1.out _).mono ?_
   rintro e w6 ⟨x6,rfl,hx6,hb6⟩
   obtain ⟨s1,s2,s3,s4,s5,s6⟩:=S.out
   have CS0:=frac_sure w6 true x5 x6 (Q+1) 1 (hx5.keep hb6) hx6.at_ (by omega) (Nat.le_trans s4 (by omega)) (Nat.le_trans s5 (by omega))
   rw[V.out]at CS0
   have CS:=Lib.hid CS0
   clear CS0 s1 s2 s3 s4 s5 s6
   go_wp2_with fail
   refine CS.out.mono ?_
   rintro e w4 ⟨x4,rfl,hx4,hb4⟩
   go_wp2_with fail
   go_ret
   exact ⟨x4,rfl,hx4,below_seq hb1 (below_seq hb2 (below_seq hb3 (below_seq hb5 (below_seq hb6 hb4))))⟩
 ·rw[decide_eq_false hng]
  have V:=Lib.hid (V1.out (by omega))
  clear hng
  go_wp2_with fail
  refine CV.out.mono ?_
  rintro e w2 ⟨x2,y2,rfl,hx2,hy2,hb2⟩
  go_wp2_with fail
  refine (C1.out _).mono ?_
  rintro e w3 ⟨x3,rfl,hx3,hb3⟩
  obtain ⟨s1,s2,s3,s4,s5,s6⟩:=S.out
  have CS0:=frac_sure w3 false x2 x3 Q 1 (hx2.keep hb3) hx3.at_ (by omega) (Nat.le_trans s3 (by omega)) (Nat.le_trans s5 (by omega))
  rw[V.out]at CS0
  have CS:=Lib.hid CS0
  clear CS0 s1 s2 s3 s4 s5 s6
  go_wp2_with fail
  refine CS.out.mono ?_
  rintro e w4 ⟨x4,rfl,hx4,hb4⟩
  go_wp2_with fail
  go_ret
  exact ⟨x4,rfl,hx4,below_seq hb1 (below_seq hb2 (below_seq hb3 hb4))⟩
end Go.Proofs.YtehbhghbagaliaaGreatDoor
set_option linter.unusedVariables false
namespace Vic
open Go
theorem pre_one (c b:UInt8) (l:List UInt8) : [c].isPrefixOf (b :: l)=(c == b):=by
 show (c == b && [].isPrefixOf l)=_
 cases l<;>simp
theorem index_none {c:UInt8}:∀ {l:List UInt8},c∉l→Lib.index l [c]=-1
 | [],_=>rfl
 | b :: l,h=>by
   have hb:b≠c:=fun e=>h (by simp[e])
   have ih:=index_none (l:=l) (fun e=>h (List.mem_cons_of_mem _ e))
   unfold Lib.index
   rw[if_neg (by simp[pre_one,Ne.symm hb]),ih]
   rfl
theorem index_app {c:UInt8}:∀ {a:List UInt8}(b:List UInt8),c∉a→Lib.index (a ++ c :: b) [c]=(a.length:Nat)
 | [],b,_=>by
   show Lib.index (c :: b) [c]=_
   unfold Lib.index
   rw[if_pos (by simp[pre_one])];rfl
 | x :: a,b,h=>by
   have hx:x≠c:=fun e=>h (by simp[e])
   have ih:=index_app (a:=a) b (fun e=>h (List.mem_cons_of_mem _ e))
   show Lib.index (x :: (a ++ c :: b)) [c]=_
   unfold Lib.index
   rw[if_neg (by simp[pre_one,Ne.symm hx]),ih,if_neg (by simp)]
   simp
theorem cut_none {c:UInt8}{l:List UInt8}(h:c∉l):Lib.cut l [c]=(l,[],false):=by
 unfold Lib.cut;rw[index_none h,if_neg (by omega)]
theorem cut_app {c:UInt8}{a:List UInt8}(b:List UInt8) (h:c∉a):Lib.cut (a ++ c :: b) [c]=(a,b,true):=by
 unfold Lib.cut
 rw[index_app b h,if_pos (by omega)]
 simp
theorem dig_ne {c d:UInt8}(h:isDig c=true) (hd:isDig d=false):c≠d:=fun e=>by rw[e,hd]at h;cases h
theorem dec_no (n:Nat) {d:UInt8}(hd:isDig d=false):d∉Lib.decDigits n:=fun h=>by
 have:=dec_isDig n d h
 rw[hd]at this;cases this
theorem trim_neg (l:List UInt8):Lib.trimPrefix (45 :: l) [45]=l∧Lib.hasPrefix (45 :: l) [45]=true:=by
 constructor
 ·simp[Lib.trimPrefix,Lib.hasPrefix,pre_one]
 ·simp[Lib.hasPrefix,pre_one]
theorem trim_pos {c:UInt8}(l:List UInt8) (h:c≠45):Lib.trimPrefix (c :: l) [45]=c :: l∧Lib.hasPrefix (c :: l) [45]=false:=by
 constructor
 ·simp[Lib.trimPrefix,Lib.hasPrefix,pre_one,Ne.symm h]
 ·simp[Lib.hasPrefix,pre_one,Ne.symm h]
theorem fracGood_text (q:Rat) (hn:(Lib.decDigits q.num.natAbs).length≤2000) (hd:(Lib.decDigits q.den).length≤2000):FracGood (fracText q)∧fracOf (fracText q)=q:=by
 have hbody:∀ (body:List UInt8),body=Lib.decDigits q.num.natAbs ++ (if q.den=1 then []else 47 :: Lib.decDigits q.den)→(Lib.cut body [47]).1=Lib.decDigits q.num.natAbs∧(if (Lib.cut body [47]).2.2 then (Lib.cut body [47]).2.1 else [49])=Lib.decDigits q.den:=by
  rintro body rfl
  by_cases h1:q.den=1
  ·rw[if_pos h1,List.append_nil,cut_none (dec_no _ (by decide)),h1,dec_one]
   exact ⟨rfl,rfl⟩
  ·rw[if_neg h1,cut_app _ (dec_no _ (by decide))]
   exact ⟨rfl,rfl⟩
 have key:fracNeg (fracText q)=decide (q.num<0)∧fracTop (fracText q)=Lib.decDigits q.num.natAbs∧fracBelow (fracText q)=Lib.decDigits q.den:=by
  obtain ⟨b1,b2⟩:=hbody _ rfl
  by_cases h:q.num<0
  ·have e:fracText q=45 :: (Lib.decDigits q.num.natAbs ++ (if q.den=1 then []else 47 :: Lib.decDigits q.den)):=by
    unfold fracText;rw[if_pos h];simp
   obtain ⟨t1,t2⟩:=trim_neg (Lib.decDigits q.num.natAbs ++ (if q.den=1 then []else 47 :: Lib.decDigits q.den))
   unfold fracNeg fracTop fracBelow
   rw[e,t1,t2,decide_eq_true h]
   exact ⟨rfl,b1,b2⟩
  ·have e:fracText q=Lib.decDigits q.num.natAbs ++ (if q.den=1 then []else 47 :: Lib.decDigits q.den):=by
    unfold fracText;rw[if_neg h];simp
   obtain ⟨c,r,hcr⟩:∃ c r,Lib.decDigits q.num.natAbs=c :: r:=by
    rcases hx:Lib.decDigits q.num.natAbs with _|⟨c,r⟩
    ·exact absurd hx (dec_ne _)
    ·exact ⟨c,r,rfl⟩
   have hc:c≠45:=dig_ne (dec_isDig q.num.natAbs c (by rw[hcr];simp)) (by decide)
   have e2:fracText q=c :: (r ++ (if q.den=1 then []else 47 :: Lib.decDigits q.den)):=by rw[e,hcr];rfl
   obtain ⟨t1,t2⟩:=trim_pos (r ++ (if q.den=1 then []else 47 :: Lib.decDigits q.den)) hc
   unfold fracNeg fracTop fracBelow
   rw[e2,t1,t2,← e2,e,decide_eq_false h]
   exact ⟨rfl,b1,b2⟩
 obtain ⟨k1,k2,k3⟩:=key
 have hof:fracOf (fracText q)=q:=by
  unfold fracOf
  rw[k1,k2,k3,numOf_dec,numOf_dec]
  exact quo_self q
 refine ⟨⟨?_,?_,?_,?_⟩,hof⟩
 ·rw[k2];exact ⟨dec_canon _,hn⟩
 ·rw[k3];exact ⟨dec_canon _,hd⟩
 ·rw[k3,numOf_dec];exact q.den_nz
 ·rw[hof]
theorem fracGood_iff (l:List UInt8):FracGood l→l=fracText (fracOf l):=fun h=>h.2.2.2.symm
end Vic
set_option linter.unusedVariables false
namespace Vic
open Go
theorem fracText_eq {q:Rat}(ng:Bool) (n d:Nat) (h1:q.num=sgn ng n) (h0:ng=true→n≠0) (h2:q.den=d):fracText q=(if ng then [45]else []) ++ Lib.decDigits n ++ (if d=1 then []else 47 :: Lib.decDigits d):=by
 unfold fracText
 rw[h2,h1,sgn_natAbs]
 cases ng
 ·rw[if_neg (by simp[sgn])];rfl
 ·rw[if_pos (by have:=h0 rfl;simp[sgn];omega)];rfl
theorem text_7_3:fracText (quo true 7 3) = [45,55,47,51]:=by
 rw[fracText_eq true 7 3 (by decide +kernel) (by decide) (by decide +kernel),dec_small (by omega),dec_small (by omega)];rfl
theorem text_3:fracText ((-3:Int):Rat) = [45,51]:=by
 rw[fracText_eq true 3 1 (by decide +kernel) (by decide) (by decide +kernel),dec_small (by omega)];rfl
theorem floor_7_3:floorI (quo true 7 3)=-3:=by decide +kernel
theorem text_25_2:fracText (quo true 125 10) = [45,50,53,47,50]:=by
 rw[fracText_eq true 25 2 (by decide +kernel) (by decide) (by decide +kernel),dec_big (u:=25) (by omega),dec_small (by omega)];rfl
theorem text_1_2:fracText (quo true 1 2) = [45,49,47,50]:=by
 rw[fracText_eq true 1 2 (by decide +kernel) (by decide) (by decide +kernel),dec_small (by omega),dec_small (by omega)];rfl
theorem text_n (n:Nat) (h:n<10):fracText ((n:Int):Rat) = [UInt8.ofNat (48+n)]:=by
 rw[fracText_eq false n 1 (by show ((n:Int):Rat).num=_;simp[sgn]) (by simp) rfl,dec_small h];rfl
end Vic
