/- Package nat: a number as a text. -/
import Derived.Test.YtehbhghbagaliaaGreatDoorJWalkB
import Derived.Test.YtehbhghbagaliaaGreatDoorJFmt
import Derived.Test.YtehbhghbagaliaaGreatDoorJPlainB
import Derived.Test.YtehbhghbagaliaaGreatDoorJGrow
set_option linter.unusedVariables false
set_option linter.unusedSimpArgs false
namespace Vic
open Go Go.RowKit
def sliceNat (w:World):Value→Nat
 | .slice (some q) l _=>val 4294967296 ((List.range l).map fun i=>match w.cell? ⟨q.block,q.off+i,none⟩with|some (.int _ d)=>d.toNat|_=>0)
 | _=>0
theorem sliceNat_eq {w:World}{v:Value}{l:List Nat}(h:U32s w v l):sliceNat w v=val 4294967296 l:=by
 obtain ⟨A,c,rfl,hlc,hcell⟩:=h
 rcases A with _|q
 ·rcases Nat.eq_zero_or_pos l.length with h0|h0
  ·obtain rfl:l = []:=List.eq_nil_of_length_eq_zero h0
   rfl
  ·obtain ⟨_,_,h1,_⟩:=hcell 0 h0
   cases h1
 ·have e:((List.range l.length).map fun i=>match w.cell? ⟨q.block,q.off+i,none⟩with|some (.int _ d)=>d.toNat|_=>0)=l:=by
   apply List.ext_getElem
   ·simp
   ·intro i h1 h2
    obtain ⟨b',o',hq,hi⟩:=hcell i h2
    injection hq with hq
    subst hq
    simp[hi,h2]
  show val 4294967296 _=_
  rw[e]
theorem dec_len9 {r:Nat}(h:r<1000000000):(Lib.decDigits r).length≤9:=dec_len (k:=8) (by omega)
end Vic
namespace Go.Proofs.YtehbhghbagaliaaGreatDoor
open Go.RowKit Vic
set_option maxRecDepth 100000 in
set_option maxHeartbeats 4000000 in
theorem nat_Text (w:World) (v:Value) (n:Nat) (h:NatAt w v n) (hl:(dgs n).length≤1000000) (ht:Tab w) :
 Calls Tryz.prog 32 #[v] w (Keeps (.string ⟨(Lib.decDigits n).toArray⟩) w):=by
 have CA:=Lib.hid (nat_digits w v n h)
 obtain ⟨i1,hi1,hz1,hsz1,hby1⟩:∃ i:TypeInfo,Tryz.prog.info? 125=some i∧i.zero=some (.int .u32 0)∧i.size=1∧i.bytes=4:=by
  have h:=info_u32
  cases hi:Tryz.prog.info? 125 with
  | none=>rw[hi]at h;simp at h
  | some i=>rw[hi]at h;simp at h;exact ⟨i,rfl,h.1,h.2.1,h.2.2⟩
 go_enter Tryz.func32,Tryz.ntmps32
 go_wp2_with fail
 refine CA.out.mono ?_
 rintro e w' ⟨A,c,rfl,hA,rfl⟩
 go_wp2_with (at_builtin;refine wpList_append_copy rfl (.const (.slice none 0 0)) (.tmp 9) 123 rfl 125 i1 (.int .u32 0) Tryz.underlying123 hi1 hz1 hsz1 rfl .u32 (dgs n) A _ c rfl rfl rfl hA (by rw[hby1];omega) (by unfold maxLen;omega) ?_;intro v1 w1 hv1 hb1)
 have DN:Hid (val 4294967296 (dgs n)=n):=val_digs (by omega) n
 have hdl:(Lib.decDigits n).length≤10000001:=by
  have h1:=dec_len_digs (lt_pow_digs_length (B:=4294967296) (by omega) n)
  have h2:(digs 4294967296 n).length≤1000000:=hl
  omega
 clear hA CA hi1
 go_loopw [3,4] (fun d s wr=>∃ m bs,U32s wr d (dgs m)∧s=.string ⟨bs.toArray⟩∧Hid (TextInv n m bs)∧Below w.heap.size w wr) (fun d _ wr=>sliceNat wr d)
 case atStart=>exact ⟨n,[],hv1,rfl,TextInv.start n,hb1⟩
 case round=>
  obtain ⟨m,bs,hd,rfl,hi,hbr⟩:=hrel
  have hmn:=hi.out.le
  have hM:=Lib.hid (sliceNat_eq hd)
  have VM:Hid (val 4294967296 (dgs m)=m):=val_digs (by omega) m
  have htr:=ht.keep hbr
  rcases Nat.eq_zero_or_pos m with h0|h0
  ·subst h0
   have hdn:=hi.out.done
   have hd':=hd
   rw[show dgs 0 = []from digs_zero _]at hd'
   obtain ⟨A1,c1,rfl,hlc1,_⟩:=hd'
   clear hM
   rcases bs with _|⟨b0,bs⟩
   ·have hdd:=hdn.1 rfl
    have HDD:=Lib.hid hdd
    clear hdn hdd
    go_wp2_with fail
    go_ret
    exact ⟨by rw[HDD.out];rfl,hbr⟩
   ·have hdd:=hdn.2 (by simp)
    have HDD:=Lib.hid hdd
    clear hdn hdd
    go_wp2_with fail
    go_ret
    exact ⟨by rw[← HDD.out];rfl,hbr⟩
  ·have hlm:(dgs m).length≤1000000:=Nat.le_trans (digs_length_mono (by omega) hmn) hl
   have hlp:0<(dgs m).length:=by
    rcases Nat.eq_zero_or_pos (dgs m).length with h1|h1
    ·have:=(digs_eq_nil (B:=4294967296) (by omega)).1 (List.eq_nil_of_length_eq_zero h1);omega
    ·exact h1
   have hd':=hd
   obtain ⟨A1,c1,rfl,hlc1,_⟩:=hd'
   have CS0:=nat_short wr A1 c1 (dgs m) 1000000000 hd (digs_dig (by omega) _) (by omega) (by omega) (by omega)
   unfold ShortPost at CS0
   rw[VM.out]at CS0
   have CS:=Lib.hid CS0
   have hqm:(dgs (m / 1000000000)).length≤1000000:=Nat.le_trans (digs_length_mono (by omega) (Nat.div_le_self _ _)) hlm
   have hr:m % 1000000000<1000000000:=Nat.mod_lt _ (by omega)
   have hrl:=dec_len9 hr
   have hlt:Hid (m / 1000000000<m):=Nat.div_lt_self h0 (by omega)
   have hgo:Hid (0<m / 1000000000→TextInv n (m / 1000000000) (List.replicate (9 - (Lib.decDigits (m % 1000000000)).length) 48 ++ Lib.decDigits (m % 1000000000) ++ bs)):=fun h=>hi.out.go h0 h
   have hlast:Hid (m / 1000000000=0→TextInv n 0 (Lib.decDigits (m % 1000000000) ++ bs)):=fun h=>hi.out.last h0 h
   clear CS0
   generalize hn4:(dgs m).length=n4 at *
   have HN4:=Lib.hid hn4;clear hn4
   generalize m / 1000000000=q at *
   generalize m % 1000000000=r at *
   go_wp2_with fail
   refine CS.out.mono ?_
   rintro e w2 ⟨b2,o2,rfl,hu2,hdo,hlo,hvo,hb2⟩
   have CO0:=nat_ofp w2 (.slice (some ⟨b2,0,none⟩) o2.length n4) o2 (by rw[hlo];exact hu2) hdo (by omega)
   rw[hvo,hlo]at CO0
   have CO:=Lib.hid CO0
   clear CO0
   go_wp2_with fail
   refine CO.out.mono ?_
   rintro e w3 ⟨x3,rfl,hx3,hb3⟩
   obtain ⟨p3,A3,c3,rfl,hc3,hl3⟩:=hx3.open_
   have hb13:=below_seq hb2 hb3
   have CF:=Lib.hid (strconv_FormatUint w3 r (by omega) (htr.keep hb13))
   go_wp2_with fail
   refine CF.out.mono ?_
   rintro e w4 ⟨rfl,hb4⟩
   have hl4:=U32s.keep hl3 hb4
   have hb14:=hbr.trans ((below_seq hb13 hb4).mono hbr.size)
   rcases Nat.eq_zero_or_pos q with hq0|hq0
   ·subst hq0
    have TI:=Lib.hid (hlast.out rfl)
    rw[show (dgs 0) = []from digs_zero _]at hl4 ⊢
    have hln:=TI.out.len
    rw[List.length_append]at hln
    have hln2:(Lib.decDigits r).length+bs.length≤10000001:=Nat.le_trans hln hdl
    clear hln
    go_wp2_with fail
    refine ⟨⟨0,Lib.decDigits r ++ bs,?_,congrArg Value.string (bytes_app _ _),TI.out,hb14⟩,?_⟩
    ·rw[show dgs 0 = []from digs_zero _];exact hl4
    ·have e1:sliceNat w4 (.slice A3 0 c3)=0:=sliceNat_eq hl4
     rw[e1,hM.out,VM.out];exact hlt.out
   ·have TI:=Lib.hid (hgo.out hq0)
    obtain ⟨k,hk⟩:∃ k,k=9 - (Lib.decDigits r).length:=⟨_,rfl⟩
    have CR0:∀ w,Calls Tryz.prog 83 #[.string ⟨#[48]⟩,.int .i64 k] w (Keeps (.string ⟨(List.replicate k (48:UInt8)).toArray⟩) w):=fun w=>by
     have h:=Go.Proofs.Tryz.strings_Repeat ⟨#[48]⟩ k w (by omega) (by show 1*k≤_;omega)
     rw[show Lib.repeatL (⟨#[48]⟩:ByteArray).data.toList k=List.replicate k 48 from rep_one 48 k]at h
     exact h
    have CR:=Lib.hid CR0
    have e9:(9:Int) - ((Lib.decDigits r).length:Int)=(k:Int):=by omega
    rw[← hk]at TI
    have hln:=TI.out.len
    rw[List.length_append,List.length_append,List.length_replicate]at hln
    have hln2:k+(Lib.decDigits r).length+bs.length≤10000001:=Nat.le_trans hln hdl
    clear hln
    have hqp:0<(dgs q).length:=by
     rcases Nat.eq_zero_or_pos (dgs q).length with h1|h1
     ·have:=(digs_eq_nil (B:=4294967296) (by omega)).1 (List.eq_nil_of_length_eq_zero h1);omega
     ·exact h1
    have VQ:Hid (val 4294967296 (dgs q)=q):=val_digs (by omega) q
    clear CR0 hk
    generalize hnq:(dgs q).length=nq at *
    go_wp2_with fail
    refine (CR.out _).mono ?_
    rintro e w5 ⟨rfl,hb5⟩
    go_wp2_with fail
    have hl5:=U32s.keep hl4 hb5
    refine ⟨⟨q,_,hl5,congrArg Value.string ?_,TI.out,hb14.trans (hb5.mono hb14.size)⟩,?_⟩
    ·apply ByteArray.ext
     simp
    ·rw[sliceNat_eq hl5,VQ.out,hM.out,VM.out];exact hlt.out
end Go.Proofs.YtehbhghbagaliaaGreatDoor
