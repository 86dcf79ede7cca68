/- Words in decimal digits (strconv.FormatUint at base 10), over the shelf's contracts. -/
import Derived.Test.YtbdfhnelmojbpaaGreatDoorShelf
import Derived.Lib.AppendIntMem
import Derived.Test.YtbdfhnelmojbpaaGreatDoorRap
import Derived.Test.YtbdfhnelmojbpaaGreatDoorRaq
import Derived.Test.YtbdfhnelmojbpaaGreatDoorRar
import Derived.Shelf.Strings.SlTrimAscii
import Derived.Lib.AtoiErrMem
import Derived.Test.YtbdfhnelmojbpaaGreatDoorRat
set_option linter.unusedVariables false
set_option linter.unusedSimpArgs false
section
namespace Go.Proofs.YtbdfhnelmojbpaaGreatDoor
open Go.Shelf Go.RowKit Go.Sort Go.Lib Vic
structure Tab (w:World):Prop where
 pow:Lib.TabIs Tryz.prog w "internal/strconv.uint64pow10" .u64 Lib.pow10Tab
 maxLen:∃ m:Int,w.cell? ⟨0,0,none⟩=some (.int .i64 m)
theorem Tab.keep {w w':World}(h:Tab w) (hb:Below w.heap.size w w'):Tab w':=
 ⟨Lib.tabBelow_of_tabIs h.pow w' hb,by obtain ⟨m,hm⟩:=h.maxLen;exact ⟨m,cell_keep hm hb⟩⟩
set_option maxHeartbeats 4000000 in
set_option maxRecDepth 100000 in
theorem internal_FormatUint (w:World) (u:Nat) (hu64:u<18446744073709551616) (htab:Tab w) :
 Calls Tryz.prog 269 #[.int .u64 u,.int .i64 10] w (Keeps (.string ⟨(Lib.decDigits u).toArray⟩) w):=by
 by_cases hs:u<100
 ·have CS:=Lib.hid (Go.Proofs.Tryz.internal_strconv_small u hs w)
  have hs':((u:Nat):Int)<100:=by omega
  go_enter Tryz.func269,Tryz.ntmps269
  go_wp2_with fail
  refine CS.out.mono ?_
  rintro e w' ⟨rfl,rfl⟩
  go_wp2_with fail
  go_ret
  exact ⟨rfl,Below.refl _ _⟩
 ·have hu1:1≤u:=by omega
  have hnd20:Lib.nDigits u≤20:=by have:=Lib.numDigits_eq u hu1 hu64;split at this<;>omega
  have hnd1:=Lib.nDigits_pos u
  have hlen:Tryz.prog.arrayLen 355=24:=by kernel_rfl
  have hsl:∀ W,(Instr.sliceAt 355 (.pointer (some ⟨w.heap.size,0,none⟩)) none (some (.int .i64 (Lib.nDigits u:Int))) none).run Tryz.prog W=.ok (.slice (some ⟨w.heap.size,0,none⟩) (Lib.nDigits u) 24) W:=fun W=>by
   rw[run_sliceAt_array_h W 355 ⟨w.heap.size,0,none⟩ (by kernel_rfl) .i64 (Lib.nDigits u:Int) (by omega) (by rw[hlen];omega)]
   go_simp
  have hH0:=Lib.holds_zero0 w 355 (Lib.nDigits u) (by omega)
  have hfmt:=Go.Proofs.Tryz.internal_strconv_formatBase10 w.heap.size 0 24 u (Array.replicate (Lib.nDigits u) 0) (w.alloc (.cells Lib.zeros24 355)) hH0 (by rw[Array.size_replicate];exact Lib.lt_pow_nDigits u) hu64 (by rw[Array.size_replicate];omega)
  rw[Array.size_replicate]at hfmt
  have HH0:=Lib.hid hH0
  have HF:=Lib.hid hfmt
  have CN:=Lib.hid (Go.Proofs.Tryz.internal_strconv_numDigits u hu1 hu64 (w.alloc (.cells Lib.zeros24 355)) (Lib.tabIs_alloc htab.pow _))
  have iu:(100:Int)≤(u:Int):=by omega
  clear hH0 hlen hfmt
  go_enter Tryz.func269,Tryz.ntmps269
  go_wp2_with fail
  refine CN.out.mono ?_
  rintro e w' ⟨rfl,rfl⟩
  go_wp2_with fail
  refine HF.out.mono ?_
  rintro e w' ⟨rfl,k,v',dk,rfl,hF⟩
  have hcv:(convert 115 9 (.slice (some ⟨w.heap.size,0,none⟩) (Lib.nDigits u) 24)).run Tryz.prog ((putRow (fun (b:UInt8)=>Value.int .u8 (b.toNat:Int)) (w.alloc (.cells Lib.zeros24 355)) w.heap.size 0 dk).drewN k)=.ok (.string ⟨(Lib.decDigits u).toArray⟩) ((putRow (fun (b:UInt8)=>Value.int .u8 (b.toNat:Int)) (w.alloc (.cells Lib.zeros24 355)) w.heap.size 0 dk).drewN k):=by
   have h:=run_convert_bytes_back (P:=Tryz.prog) ((putRow (fun (b:UInt8)=>Value.int .u8 (b.toNat:Int)) (w.alloc (.cells Lib.zeros24 355)) w.heap.size 0 dk).drewN k) 115 9 5 ⟨w.heap.size,0,none⟩ 24 (Lib.decDigits u) (by kernel_rfl) (by kernel_rfl) (by kernel_rfl) (fun j hj=>by
    rw[Lib.row_is_numeral hF j hj,Lib.add_plain,World.cell?_drewN]
    exact cell?_putRow (fun (b:UInt8)=>Value.int .u8 (b.toNat:Int)) _ w.heap.size 0 _ dk HH0.out (by rw[hF.size,Array.size_replicate]) j (by rw[hF.size];rw[Lib.decDigits_length]at hj;exact hj))
   rw[Lib.decDigits_length]at h
   exact h
  obtain ⟨os,eo⟩:=Lib.fin_at w (.cells Lib.zeros24 355) dk k 0
  have hb:Below w.heap.size w ((putRow (fun (b:UInt8)=>Value.int .u8 (b.toNat:Int)) (w.alloc (.cells Lib.zeros24 355)) w.heap.size 0 dk).drewN k):=by rw[eo];exact Lib.below_grow _ w (Nat.le_refl _) k os
  generalize (putRow (fun (b:UInt8)=>Value.int .u8 (b.toNat:Int)) (w.alloc (.cells Lib.zeros24 355)) w.heap.size 0 dk).drewN k=W2 at *
  clear eo
  go_wp2_with fail
  go_ret
  exact ⟨rfl,hb⟩
theorem strconv_FormatUint (w:World) (u:Nat) (hu64:u<18446744073709551616) (htab:Tab w) :
 Calls Tryz.prog 222 #[.int .u64 u,.int .i64 10] w (Keeps (.string ⟨(Lib.decDigits u).toArray⟩) w):=by
 have CS:=Lib.hid (internal_FormatUint w u hu64 htab)
 go_enter Tryz.func222,Tryz.ntmps222
 go_wp2_with fail
 refine CS.out.mono ?_
 rintro e w' ⟨rfl,hb⟩
 go_wp2_with fail
 go_ret
 exact ⟨rfl,hb⟩
end Go.Proofs.YtbdfhnelmojbpaaGreatDoor
end
section
namespace Vic
open Go Go.RowKit
def sliceNat (w:World):Value→Nat
 | .slice (some q) l _=>val 4294967296 ((List.range l).map fun i=>match w.cell? ⟨q.block,q.off+i,none⟩with|some (.int _ d)=>d.toNat|_=>0)
 | _=>0
theorem sliceNat_eq {w:World}{v:Value}{l:List Nat}(h:U32s w v l):sliceNat w v=val 4294967296 l:=by
 obtain ⟨A,c,rfl,hlc,hcell⟩:=h
 rcases A with _|q
 ·rcases Nat.eq_zero_or_pos l.length with h0|h0
  ·obtain rfl:l = []:=List.eq_nil_of_length_eq_zero h0
   rfl
  ·obtain ⟨_,_,h1,_⟩:=hcell 0 h0
   cases h1
 ·have e:((List.range l.length).map fun i=>match w.cell? ⟨q.block,q.off+i,none⟩with|some (.int _ d)=>d.toNat|_=>0)=l:=by
   apply List.ext_getElem
   ·simp
   ·intro i h1 h2
    obtain ⟨b',o',hq,hi⟩:=hcell i h2
    injection hq with hq
    subst hq
    simp[hi,h2]
  show val 4294967296 _=_
  rw[e]
theorem dec_len9 {r:Nat}(h:r<1000000000):(Lib.decDigits r).length≤9:=dec_len (k:=8) (by omega)
end Vic
namespace Go.Proofs.YtbdfhnelmojbpaaGreatDoor
open Go.RowKit Vic
set_option maxRecDepth 100000 in
set_option maxHeartbeats 4000000 in
theorem nat_Text (w:World) (v:Value) (n:Nat) (h:NatAt w v n) (hl:(dgs n).length≤1000000) (ht:Tab w) :
 Calls Tryz.prog 149 #[v] w (Keeps (.string ⟨(Lib.decDigits n).toArray⟩) w):=by
 have CA:=Lib.hid (nat_digits w v n h)
 obtain ⟨i1,hi1,hz1,hsz1,hby1⟩:∃ i:TypeInfo,Tryz.prog.info? 291=some i∧i.zero=some (.int .u32 0)∧i.size=1∧i.bytes=4:=by
  have h:=info_u32
  cases hi:Tryz.prog.info? 291 with
  | none=>rw[hi]at h;simp at h
  | some i=>rw[hi]at h;simp at h;exact ⟨i,rfl,h.1,h.2.1,h.2.2⟩
 go_enter Tryz.func149,Tryz.ntmps149
 go_wp2_with fail
 refine CA.out.mono ?_
 rintro e w' ⟨A,c,rfl,hA,rfl⟩
 go_wp2_with (at_builtin;refine wpList_append_copy rfl (.const (.slice none 0 0)) (.tmp 9) 289 rfl 291 i1 (.int .u32 0) Tryz.underlying289 hi1 hz1 hsz1 rfl .u32 (dgs n) A _ c rfl rfl rfl hA (by rw[hby1];omega) (by unfold maxLen;omega) ?_;intro v1 w1 hv1 hb1)
 have DN:Hid (val 4294967296 (dgs n)=n):=val_digs (by omega) n
 have hdl:(Lib.decDigits n).length≤10000001:=by
  have h1:=dec_len_digs (lt_pow_digs_length (B:=4294967296) (by omega) n)
  have h2:(digs 4294967296 n).length≤1000000:=hl
  omega
 clear hA CA hi1
 go_loopw [3,4] (fun d s wr=>∃ m bs,U32s wr d (dgs m)∧s=.string ⟨bs.toArray⟩∧Hid (TextInv n m bs)∧Below w.heap.size w wr) (fun d _ wr=>sliceNat wr d)
 case atStart=>exact ⟨n,[],hv1,rfl,TextInv.start n,hb1⟩
 case round=>
  obtain ⟨m,bs,hd,rfl,hi,hbr⟩:=hrel
  have hmn:=hi.out.le
  have hM:=Lib.hid (sliceNat_eq hd)
  have VM:Hid (val 4294967296 (dgs m)=m):=val_digs (by omega) m
  have htr:=ht.keep hbr
  rcases Nat.eq_zero_or_pos m with h0|h0
  ·subst h0
   have hdn:=hi.out.done
   have hd':=hd
   rw[show dgs 0 = []from digs_zero _]at hd'
   obtain ⟨A1,c1,rfl,hlc1,_⟩:=hd'
   clear hM
   rcases bs with _|⟨b0,bs⟩
   ·have hdd:=hdn.1 rfl
    have HDD:=Lib.hid hdd
    clear hdn hdd
    go_wp2_with fail
    go_ret
    exact ⟨by rw[HDD.out];rfl,hbr⟩
   ·have hdd:=hdn.2 (by simp)
    have HDD:=Lib.hid hdd
    clear hdn hdd
    go_wp2_with fail
    go_ret
    exact ⟨by rw[← HDD.out];rfl,hbr⟩
  ·have hlm:(dgs m).length≤1000000:=Nat.le_trans (digs_length_mono (by omega) hmn) hl
   have hlp:0<(dgs m).length:=by
    rcases Nat.eq_zero_or_pos (dgs m).length with h1|h1
    ·have:=(digs_eq_nil (B:=4294967296) (by omega)).1 (List.eq_nil_of_length_eq_zero h1);omega
    ·exact h1
   have hd':=hd
   obtain ⟨A1,c1,rfl,hlc1,_⟩:=hd'
   have CS0:=nat_short wr A1 c1 (dgs m) 1000000000 hd (digs_dig (by omega) _) (by omega) (by omega) (by omega)
   unfold ShortPost at CS0
   rw[VM.out]at CS0
   have CS:=Lib.hid CS0
   have hqm:(dgs (m / 1000000000)).length≤1000000:=Nat.le_trans (digs_length_mono (by omega) (Nat.div_le_self _ _)) hlm
   have hr:m % 1000000000<1000000000:=Nat.mod_lt _ (by omega)
   have hrl:=dec_len9 hr
   have hlt:Hid (m / 1000000000<m):=Nat.div_lt_self h0 (by omega)
   have hgo:Hid (0<m / 1000000000→TextInv n (m / 1000000000) (List.replicate (9 - (Lib.decDigits (m % 1000000000)).length) 48 ++ Lib.decDigits (m % 1000000000) ++ bs)):=fun h=>hi.out.go h0 h
   have hlast:Hid (m / 1000000000=0→TextInv n 0 (Lib.decDigits (m % 1000000000) ++ bs)):=fun h=>hi.out.last h0 h
   clear CS0
   generalize hn4:(dgs m).length=n4 at *
   have HN4:=Lib.hid hn4;clear hn4
   generalize m / 1000000000=q at *
   generalize m % 1000000000=r at *
   go_wp2_with fail
   refine CS.out.mono ?_
   rintro e w2 ⟨b2,o2,rfl,hu2,hdo,hlo,hvo,hb2⟩
   have CO0:=nat_ofp w2 (.slice (some ⟨b2,0,none⟩) o2.length n4) o2 (by rw[hlo];exact hu2) hdo (by omega)
   rw[hvo,hlo]at CO0
   have CO:=Lib.hid CO0
   clear CO0
   go_wp2_with fail
   refine CO.out.mono ?_
   rintro e w3 ⟨x3,rfl,hx3,hb3⟩
   obtain ⟨p3,A3,c3,rfl,hc3,hl3⟩:=hx3.open_
   have hb13:=below_seq hb2 hb3
   have CF:=Lib.hid (strconv_FormatUint w3 r (by omega) (htr.keep hb13))
   go_wp2_with fail
   refine CF.out.mono ?_
   rintro e w4 ⟨rfl,hb4⟩
   have hl4:=U32s.keep hl3 hb4
   have hb14:=hbr.trans ((below_seq hb13 hb4).mono hbr.size)
   rcases Nat.eq_zero_or_pos q with hq0|hq0
   ·subst hq0
    have TI:=Lib.hid (hlast.out rfl)
    rw[show (dgs 0) = []from digs_zero _]at hl4 ⊢
    have hln:=TI.out.len
    rw[List.length_append]at hln
    have hln2:(Lib.decDigits r).length+bs.length≤10000001:=Nat.le_trans hln hdl
    clear hln
    go_wp2_with fail
    refine ⟨⟨0,Lib.decDigits r ++ bs,?_,congrArg Value.string (bytes_app _ _),TI.out,hb14⟩,?_⟩
    ·rw[show dgs 0 = []from digs_zero _];exact hl4
    ·have e1:sliceNat w4 (.slice A3 0 c3)=0:=sliceNat_eq hl4
     rw[e1,hM.out,VM.out];exact hlt.out
   ·have TI:=Lib.hid (hgo.out hq0)
    obtain ⟨k,hk⟩:∃ k,k=9 - (Lib.decDigits r).length:=⟨_,rfl⟩
    have CR0:∀ w,Calls Tryz.prog 223 #[.string ⟨#[48]⟩,.int .i64 k] w (Keeps (.string ⟨(List.replicate k (48:UInt8)).toArray⟩) w):=fun w=>by
     have h:=Go.Proofs.Tryz.strings_Repeat ⟨#[48]⟩ k w (by omega) (by show 1*k≤_;omega)
     rw[show Lib.repeatL (⟨#[48]⟩:ByteArray).data.toList k=List.replicate k 48 from rep_one 48 k]at h
     exact h
    have CR:=Lib.hid CR0
    have e9:(9:Int) - ((Lib.decDigits r).length:Int)=(k:Int):=by omega
    rw[← hk]at TI
    have hln:=TI.out.len
    rw[List.length_append,List.length_append,List.length_replicate]at hln
    have hln2:k+(Lib.decDigits r).length+bs.length≤10000001:=Nat.le_trans hln hdl
    clear hln
    have hqp:0<(dgs q).length:=by
     rcases Nat.eq_zero_or_pos (dgs q).length with h1|h1
     ·have:=(digs_eq_nil (B:=4294967296) (by omega)).1 (List.eq_nil_of_length_eq_zero h1);omega
     ·exact h1
    have VQ:Hid (val 4294967296 (dgs q)=q):=val_digs (by omega) q
    clear CR0 hk
    generalize hnq:(dgs q).length=nq at *
    go_wp2_with fail
    refine (CR.out _).mono ?_
    rintro e w5 ⟨rfl,hb5⟩
    go_wp2_with fail
    have hl5:=U32s.keep hl4 hb5
    refine ⟨⟨q,_,hl5,congrArg Value.string ?_,TI.out,hb14.trans (hb5.mono hb14.size)⟩,?_⟩
    ·apply ByteArray.ext
     simp
    ·rw[sliceNat_eq hl5,VQ.out,hM.out,VM.out];exact hlt.out
end Go.Proofs.YtbdfhnelmojbpaaGreatDoor
end
section
namespace Go.Proofs.YtbdfhnelmojbpaaGreatDoor
open Go.Shelf Go.RowKit Vic
theorem strings_CutPrefix (w:World) (s p:List UInt8) :
 Calls Tryz.prog 190 #[.string ⟨s.toArray⟩,.string ⟨p.toArray⟩] w (Rets (.tuple #[.string ⟨(Lib.trimPrefix s p).toArray⟩,.bool (Lib.hasPrefix s p)]) w):=by
 refine (Go.Proofs.Tryz.strings_CutPrefix ⟨s.toArray⟩ ⟨p.toArray⟩ w).mono ?_
 rintro e w' ⟨rfl,rfl⟩
 exact ⟨rfl,rfl⟩
theorem strings_Cut (w:World) (ht:Tab w) (s p:List UInt8) (hs:s.length<4294967281) :
 Calls Tryz.prog 54 #[.string ⟨s.toArray⟩,.string ⟨p.toArray⟩] w (Keeps (.tuple #[.string ⟨(Lib.cut s p).1.toArray⟩,.string ⟨(Lib.cut s p).2.1.toArray⟩,.bool (Lib.cut s p).2.2]) w):=by
 obtain ⟨m,hm⟩:=ht.maxLen
 refine (Go.Proofs.Tryz.strings_Cut ⟨s.toArray⟩ ⟨p.toArray⟩ m w (by show s.toArray.size<_;simpa using hs) hm).mono ?_
 rintro e w' ⟨rfl,n,rfl⟩
 exact ⟨rfl,Vic.Below.drewN_ (Below.refl _ _) _⟩
end Go.Proofs.YtbdfhnelmojbpaaGreatDoor
end
section
namespace Go.Proofs.YtbdfhnelmojbpaaGreatDoor
open Go.Shelf Go.RowKit Vic
theorem strings_Trim_digs (w:World) (s:List UInt8) (hs:s.length≤9223372036854775806) :
 Calls Tryz.prog 198 #[.string ⟨s.toArray⟩,.string ⟨#[48,49,50,51,52,53,54,55,56,57]⟩] w (Keeps (.string ⟨(Lib.trimS s tenDigs).toArray⟩) w):=
 Any.strings_Trim_laid Go.Proofs.Tryz.lays160 (by kernel_rfl) ⟨s.toArray⟩ ⟨#[48,49,50,51,52,53,54,55,56,57]⟩ w (by show s.toArray.size≤_;simp;omega) (by decide) (ascii_of_all (by decide))
theorem strconv_ParseUint_digs (w:World) (s:List UInt8) (h:∀ c∈s,isDig c=true) (h0:s≠[]) (h9:s.length≤9) :
 Calls Tryz.prog 200 #[.string ⟨s.toArray⟩,.int .i64 10,.int .i64 32] w (Keeps (.tuple #[.int .u64 (numOf 0 s:Nat),.nilIface]) w):=by
 refine (Go.Proofs.Tryz.strconv_ParseUint_10_at32_ok ⟨s.toArray⟩ (by show s.toArray.size≤_;simp;omega) (numOf 0 s) (parse32_ok s h h0 h9) w).mono ?_
 rintro e w' ⟨rfl,rfl|rfl⟩
 ·exact ⟨rfl,Below.refl _ _⟩
 ·exact ⟨rfl,Lib.bytesWorld_below _ _ _⟩
end Go.Proofs.YtbdfhnelmojbpaaGreatDoor
end
section
namespace Vic
open Go Go.RowKit
def GoodNat (l:List UInt8):Prop:=Canon l∧l.length≤2000
theorem digs_dec {n k:Nat}(h:n<10 ^ k) (hk:k≤1000000):(dgs n).length≤1000000:=by
 have h1:(10:Nat) ^ k≤4294967296 ^ k:=Nat.pow_le_pow_left (by omega) k
 exact Nat.le_trans (digs_length_le (B:=4294967296) (by omega) (Nat.lt_of_lt_of_le h h1)) hk
def GivesNo (w:World) (e:Ending) (w':World):Prop:=e=.returned (.tuple #[.pointer none,.bool false])∧Below w.heap.size w w'
end Vic
namespace Go.Proofs.YtbdfhnelmojbpaaGreatDoor
open Go.RowKit Vic
set_option maxRecDepth 100000 in
set_option maxHeartbeats 4000000 in
theorem nat_Get_no (w:World) (l:List UInt8) (hs:l.length≤9223372036854775806) (h:¬ GoodNat l) :
 Calls Tryz.prog 141 #[.string ⟨l.toArray⟩] w (GivesNo w):=by
 match l,hs,h with
 | [],_,_=>
   go_enter Tryz.func141,Tryz.ntmps141
   go_wp2_with fail
   go_ret2
   exact ⟨rfl,Below.refl _ _⟩
 | c :: r,hs,h=>
   by_cases hlong:2000<r.length+1
   ·go_enter Tryz.func141,Tryz.ntmps141
    go_wp2_with fail
    go_ret2
    exact ⟨rfl,Below.refl _ _⟩
   ·by_cases hz:1<r.length+1∧c=48
    ·obtain ⟨hz1,rfl⟩:=hz
     have hb:(((((⟨((48:UInt8) :: r).toArray⟩:ByteArray)[0]'(by show 0<((48:UInt8) :: r).toArray.size;simp)).toNat:Int)) == 48)=true:=rfl
     go_enter Tryz.func141,Tryz.ntmps141
     go_wp2_with fail
     go_ret2
     exact ⟨rfl,Below.refl _ _⟩
    ·have hno:Lib.trimS (c :: r) tenDigs≠[]:=fun e=>by
      refine h ⟨⟨by simp,(trim_digs _).1 e,?_⟩,by show r.length+1≤2000;omega⟩
      by_cases h1:1<r.length+1
      ·refine .inr fun e2=>hz ⟨h1,?_⟩
       simpa using e2
      ·left;show r.length+1=1;omega
     have CT0:=strings_Trim_digs w (c :: r) hs
     obtain ⟨t,ht⟩:∃ t,t=Lib.trimS (c :: r) tenDigs:=⟨_,rfl⟩
     rw[← ht]at CT0 hno
     have CT:=Lib.hid CT0
     obtain ⟨b0,t0,rfl⟩:∃ b0 t0,t=b0 :: t0:=by
      rcases t with _|⟨b0,t0⟩
      ·exact absurd rfl hno
      ·exact ⟨b0,t0,rfl⟩
     clear CT0 ht hno
     have hb:1<r.length+1→(((((⟨(c :: r).toArray⟩:ByteArray)[0]'(by show 0<(c :: r).toArray.size;simp)).toNat:Int)) == 48)=false:=fun h1=>by
      have:c≠48:=fun e=>hz ⟨h1,e⟩
      have h2:c.toNat≠48:=fun e=>this (UInt8.toNat_inj.1 e)
      show ((c.toNat:Int) == 48)=false
      rw[beq_eq_false_iff_ne];omega
     clear hz h
     by_cases h1:1<r.length+1
     ·have hb1:=hb h1
      clear hb
      go_enter Tryz.func141,Tryz.ntmps141
      go_wp2_with fail
      refine CT.out.mono ?_
      rintro e w1 ⟨rfl,hb1⟩
      go_wp2_with fail
      go_ret2
      exact ⟨rfl,hb1⟩
     ·clear hb
      go_enter Tryz.func141,Tryz.ntmps141
      go_wp2_with fail
      refine CT.out.mono ?_
      rintro e w1 ⟨rfl,hb1⟩
      go_wp2_with fail
      go_ret2
      exact ⟨rfl,hb1⟩
set_option maxRecDepth 100000 in
set_option maxHeartbeats 4000000 in
theorem nat_Get_yesN (w:World) (l:List UInt8) (h:GoodNat l) :
 Calls Tryz.prog 141 #[.string ⟨l.toArray⟩] w (GivesOk (fun x w'=>NatPtr w' x (numOf 0 l)∧NewPtr w.heap.size x) w):=by
 obtain ⟨⟨h0,hdig,hhead⟩,hlen⟩:=h
 obtain ⟨c,r,rfl⟩:∃ c r,l=c :: r:=by
  rcases l with _|⟨c,r⟩
  ·exact absurd rfl h0
  ·exact ⟨c,r,rfl⟩
 have hlen2:r.length+1≤2000:=hlen
 have CT0:=strings_Trim_digs w (c :: r) (by omega)
 rw[(trim_digs _).2 hdig]at CT0
 have CT:=Lib.hid CT0
 have HD:=Lib.hid hdig
 have CO:Hid (∀ wr,Calls Tryz.prog 199 #[.slice none 0 0] wr (Gives (fun x w'=>NatPtr w' x 0∧NewPtr wr.heap.size x) wr)):=fun wr=>nat_ofpN wr (.slice none 0 0) [] (Ints.nil_ _ _) (dig_nil _) (by simp)
 have hb:1<r.length+1→(((((⟨(c :: r).toArray⟩:ByteArray)[0]'(by show 0<(c :: r).toArray.size;simp)).toNat:Int)) == 48)=false:=fun h1=>by
  have h3:c≠48:=by
   rcases hhead with h4|h4
   ·have h4':r.length+1=1:=h4
    omega
   ·intro e;subst e;simp at h4
  have h2:c.toNat≠48:=fun e=>h3 (UInt8.toNat_inj.1 e)
  show ((c.toNat:Int) == 48)=false
  rw[beq_eq_false_iff_ne];omega
 have HB:=Lib.hid hb
 clear CT0 hdig hhead h0 hlen hb
 have HR:(((r.length:Int)+1) % 9)=(((r.length+1) % 9:Nat):Int):=by omega
 have HRR:=Lib.hid HR
 clear HR
 by_cases h1:1<r.length+1
 case' pos=>have hb1:=HB.out h1
 all_goals
  clear HB
  go_enter Tryz.func141,Tryz.ntmps141
  go_wp2_with fail
  refine CT.out.mono ?_
  rintro e w1 ⟨rfl,hb1⟩
  go_wp2_with fail
  refine (CO.out _).mono ?_
  rintro e w2 ⟨x2,rfl,⟨hx2,hn2⟩,hb2⟩
  go_wp2_with fail
  go_loopw [0,4,5] (fun s x t wr=>∃ (done rest:List UInt8) (k:Nat),s=.string ⟨rest.toArray⟩∧t=.int .i64 k∧NatPtr wr x (numOf 0 done)∧NewPtr w.heap.size x∧Hid (c :: r=done ++ rest)∧((done = []∧k=(r.length+1) % 9∧rest.length=r.length+1)∨(k=9∧rest.length % 9=0))∧rest.length≤2000∧Below w.heap.size w wr) (fun s _ t _=>2*strLen s+(1 - (intOf t).toNat))
  case atStart=>exact ⟨[],c :: r,_,rfl,congrArg (Value.int .i64) HRR.out,hx2,hn2.mono hb1.size,rfl,.inl ⟨rfl,rfl,rfl⟩,hlen2,below_seq hb1 hb2⟩
  case round=>
   obtain ⟨done,rest,k,rfl,rfl,hx,hnx,hsp,hk,hrl,hbr⟩:=hrel
   rcases rest with _|⟨c2,r2⟩
   ·have e0:c :: r=done:=by rw[hsp.out];simp
    have E0:=Lib.hid e0
    clear e0 hk hsp
    go_wp2_with fail
    go_ret2
    exact ⟨u4,rfl,⟨E0.out.symm▸hx,hnx⟩,hbr⟩
   ·rcases Nat.eq_zero_or_pos k with hk0|hk0
    ·subst hk0
     have hm:(r.length+1) % 9=0∧(c2 :: r2).length=r.length+1:=by
      rcases hk with ⟨_,h2,h3⟩|⟨h2,_⟩
      ·exact ⟨h2.symm,h3⟩
      ·omega
     have HM:=Lib.hid hm
     clear hm hk
     go_wp2_with fail
     go_roundw
     case rel=>
      have h5:=HM.out
      exact ⟨done,c2 :: r2,9,rfl,rfl,hx,hnx,hsp,.inr ⟨rfl,by omega⟩,hrl,hbr⟩
     case measure=>
      simp[intOf,strLen]
    ·have hkl:k≤r2.length+1:=by
      rcases hk with ⟨_,h2,h3⟩|⟨h2,h3⟩
      ·have h4:r2.length+1=r.length+1:=h3
       omega
      ·have h4:(r2.length+1) % 9=0:=h3
       omega
     have hk9:k≤9:=by rcases hk with ⟨_,h2,h3⟩|⟨h2,h3⟩<;>omega
     obtain ⟨p,hp⟩:∃ p,p=(c2 :: r2).take k:=⟨_,rfl⟩
     obtain ⟨q,hq⟩:∃ q,q=(c2 :: r2).drop k:=⟨_,rfl⟩
     have hpl:p.length=k:=by rw[hp,List.length_take];show min k (r2.length+1)=k;omega
     have hql:q.length=r2.length+1 - k:=by rw[hq,List.length_drop];rfl
     have hpq:c2 :: r2=p ++ q:=by rw[hp,hq,List.take_append_drop]
     have ep:(⟨(c2 :: r2).toArray⟩:ByteArray).extract 0 k=⟨p.toArray⟩:=by rw[hp];exact bytes_take _ _
     have eq_:(⟨(c2 :: r2).toArray⟩:ByteArray).extract k (r2.length+1)=⟨q.toArray⟩:=by rw[hq];exact bytes_drop _ _ _ rfl
     have CP:Hid (∀ w,Calls Tryz.prog 200 #[.string ⟨p.toArray⟩,.int .i64 10,.int .i64 32] w (Keeps (.tuple #[.int .u64 (numOf 0 p:Nat),.nilIface]) w)):=fun w=>
      strconv_ParseUint_digs w p (fun x hx=>HD.out x (by rw[hsp.out,hpq];simp[hx])) (fun e=>by rw[e]at hpl;simp at hpl;omega) (by omega)
     have hnum:Hid (numOf 0 (done ++ p)=numOf 0 done*1000000000+numOf 0 p):=by
      show _=_
      rw[numOf_append,numOf_acc (numOf 0 done) p,hpl]
      rcases hk with ⟨h2,_⟩|⟨h2,_⟩
      ·rw[h2];simp[numOf_nil]
      ·rw[h2]
     have hnp:Hid (numOf 0 p<10 ^ p.length):=numOf_lt p fun x hx=>HD.out x (by rw[hsp.out,hpq];simp[hx])
     have HK:=Lib.hid hk
     have HPQ:=Lib.hid hpq
     have HQL:=Lib.hid hql
     have HPL:=Lib.hid hpl
     clear hk hp hq hpl hql hpq
     go_wp2_with fail
     refine (CP.out _).mono ?_
     rintro e w3 ⟨rfl,hb3⟩
     have C1:=Lib.hid (nat_Of w3 1000000000 (by omega))
     go_wp2_with fail
     refine C1.out.mono ?_
     rintro e w4 ⟨x4,rfl,hx4,hb4⟩
     have HX:=Lib.hid hx
     clear hx C1
     obtain ⟨D,hD⟩:∃ D,D=numOf 0 done:=⟨_,rfl⟩
     obtain ⟨R,hR⟩:∃ R,R=numOf 0 p:=⟨_,rfl⟩
     have hDl:D<10 ^ done.length:=by rw[hD];exact numOf_lt done (fun x hx=>HD.out x (by rw[hsp.out];simp[hx]))
     have hdn:done.length≤2000:=by
      have:=congrArg List.length hsp.out
      rw[List.length_append]at this
      have h5:r.length+1=done.length+(r2.length+1):=this
      omega
     have hdl:(dgs D).length≤1000000:=digs_dec hDl (by omega)
     have hdl2:Hid ((dgs (D*1000000000)).length≤1000000):=digs_dec (k:=done.length+9) (by rw[Nat.pow_add];exact Nat.mul_lt_mul_of_pos_right hDl (by omega)) (by omega)
     clear hDl
     have hRR:R<18446744073709551616:=by
      have h5:=hnp.out
      rw[← hR]at h5
      exact Nat.lt_trans h5 (Nat.lt_of_le_of_lt (Nat.pow_le_pow_right (by omega) (by rw[HPL.out];exact hk9)) (by omega))
     have HN:=Lib.hid hnum.out
     rw[← hD,← hR]at HN
     rw[← hD]at HX
     have HRR2:=Lib.hid hRR
     have HR2:=Lib.hid hR
     rw[← hR]
     clear hRR hR hD hnum hnp
     have CM:=Lib.hid (nat_Mul w4 u4 x4 D 1000000000 (HX.out.at_.keep (below_seq hb3 hb4)) hx4 (by omega) (Nat.le_trans (digs_length_le (k:=1) (by omega) (by omega)) (by omega)))
     go_wp2_with fail
     refine CM.out.mono ?_
     rintro e w5 ⟨x5,rfl,hx5,hb5⟩
     have C2:=Lib.hid (nat_Of w5 R HRR2.out)
     go_wp2_with fail
     refine C2.out.mono ?_
     rintro e w6 ⟨x6,rfl,hx6,hb6⟩
     have CA:=Lib.hid (nat_AddpN w6 x5 x6 (D*1000000000) R (hx5.keep hb6) hx6 (by have:=hdl2.out;omega) (by have:=digs_length_le (B:=4294967296) (k:=2) (by omega) (show R<4294967296 ^ 2 from HRR2.out);exact Nat.le_trans this (by omega)))
     go_wp2_with fail
     refine CA.out.mono ?_
     rintro e w7 ⟨x7,rfl,⟨hx7,hn7⟩,hb7⟩
     go_wp2_with fail
     go_roundw
     case rel=>
      have h5:=HQL.out
      refine ⟨done ++ p,q,9,rfl,rfl,by rw[HN.out];exact hx7,hn7.mono (Nat.le_trans hbr.size (below_seq hb3 (below_seq hb4 (below_seq hb5 hb6))).size),?_,.inr ⟨rfl,?_⟩,?_,hbr.trans ((below_seq hb3 (below_seq hb4 (below_seq hb5 (below_seq hb6 hb7)))).mono hbr.size)⟩
      ·show _=_
       rw[hsp.out,HPQ.out,List.append_assoc]
      ·rcases HK.out with ⟨_,h2,h3⟩|⟨h2,h3⟩
       ·have h4:r2.length+1=r.length+1:=h3
        omega
       ·have h4:(r2.length+1) % 9=0:=h3
        omega
      ·have h4:r2.length+1≤2000:=hrl
       omega
     case measure=>
      have h5:=HQL.out
      have e1:strLen (.string ⟨q.toArray⟩)=q.length:=rfl
      have e2:strLen (.string ⟨(c2 :: r2).toArray⟩)=r2.length+1:=rfl
      show 2*strLen (.string ⟨q.toArray⟩)+(1 - (intOf (.int .i64 9)).toNat)<2*strLen (.string ⟨(c2 :: r2).toArray⟩)+(1 - (intOf (.int .i64 k)).toNat)
      rw[e1,e2]
      simp[intOf]
      omega
theorem nat_Get_yes (w:World) (l:List UInt8) (h:GoodNat l) :
 Calls Tryz.prog 141 #[.string ⟨l.toArray⟩] w (GivesOk (fun x w'=>NatPtr w' x (numOf 0 l)) w):=
 (nat_Get_yesN w l h).mono fun _ _ ⟨x,h1,h2,h3⟩=>⟨x,h1,h2.1,h3⟩
end Go.Proofs.YtbdfhnelmojbpaaGreatDoor
end
section
namespace Vic
open Go Go.RowKit
def FracPtr (w:World) (v:Value) (q:Rat):Prop:=
 ∃ b pn pd,v=.pointer (some ⟨b,0,none⟩)∧w.cell? ⟨b,0,none⟩=some (.bool (decide (q.num<0)))∧w.cell? ⟨b,1,none⟩=some pn∧w.cell? ⟨b,2,none⟩=some pd∧NatAt w pn q.num.natAbs∧NatPtr w pd q.den
def FracAt (w:World) (v:Value) (q:Rat):Prop:=
 (v=.pointer none∧q=0)∨(∃ b x y,v=.pointer (some ⟨b,0,none⟩)∧w.cell? ⟨b,0,none⟩=some x∧w.cell? ⟨b,1,none⟩=some y∧w.cell? ⟨b,2,none⟩=some (.pointer none)∧q=0)∨FracPtr w v q
theorem FracPtr.at_ {w:World}{v:Value}{q:Rat}(h:FracPtr w v q):FracAt w v q:=.inr (.inr h)
theorem FracPtr.keep {w w':World}{v:Value}{q:Rat}(h:FracPtr w v q) (hb:Below w.heap.size w w'):FracPtr w' v q:=by
 obtain ⟨b,pn,pd,h1,h2,h3,h4,h5,h6⟩:=h
 exact ⟨b,pn,pd,h1,cell_keep h2 hb,cell_keep h3 hb,cell_keep h4 hb,h5.keep hb,h6.keep hb⟩
theorem FracAt.keep {w w':World}{v:Value}{q:Rat}(h:FracAt w v q) (hb:Below w.heap.size w w'):FracAt w' v q:=by
 rcases h with h|⟨b,x,y,h1,h2,h3,h4,h5⟩|h
 ·exact .inl h
 ·exact .inr (.inl ⟨b,x,y,h1,cell_keep h2 hb,cell_keep h3 hb,cell_keep h4 hb,h5⟩)
 ·exact .inr (.inr (h.keep hb))
def PartsOf (q:Rat) (w:World) (e:Ending) (w':World):Prop:=
 ∃ pn pd,e=.returned (.tuple #[.bool (decide (q.num<0)),pn,pd])∧NatAt w' pn q.num.natAbs∧NatPtr w' pd q.den∧Below w.heap.size w w'
end Vic
namespace Go.Proofs.YtbdfhnelmojbpaaGreatDoor
open Go.RowKit Vic
theorem frac_zero (w:World) (v:Value) (n:Nat) (h:NatAt w v n) (hl:sz n≤1000000000000):Calls Tryz.prog 163 #[v] w (Rets (.bool (decide (n=0))) w):=by
 have CB:=Lib.hid (nat_Bits w v n h hl)
 by_cases h0:n=0
 ·subst h0
  rw[blen_zero]at CB
  go_enter Tryz.func163,Tryz.ntmps163
  go_wp2_with fail
  refine CB.out.mono ?_
  rintro e w' ⟨rfl,rfl⟩
  go_wp2_with fail
  go_ret
  exact ⟨rfl,rfl⟩
 ·have hb:=blen_pos h0
  rw[decide_eq_false h0]
  generalize blen n=k at *
  clear h0
  have hk:(((k:Nat):Int) == 0)=false:=by rw[beq_eq_false_iff_ne];omega
  go_enter Tryz.func163,Tryz.ntmps163
  go_wp2_with fail
  refine CB.out.mono ?_
  rintro e w' ⟨rfl,rfl⟩
  go_wp2_with fail
  go_ret
  exact ⟨rfl,rfl⟩
set_option maxRecDepth 100000 in
set_option maxHeartbeats 4000000 in
theorem frac_Parts (w:World) (v:Value) (q:Rat) (h:FracAt w v q):Calls Tryz.prog 162 #[v] w (PartsOf q w):=by
 have C0:Hid (∀ w,Calls Tryz.prog 201 #[.int .u64 0] w (Gives (fun x w'=>NatPtr w' x 0) w)):=fun w=>nat_Ofp w 0 (by omega)
 have C1:Hid (∀ w,Calls Tryz.prog 201 #[.int .u64 1] w (Gives (fun x w'=>NatPtr w' x 1) w)):=fun w=>nat_Ofp w 1 (by omega)
 rcases h with ⟨rfl,rfl⟩|⟨b,x,y,rfl,hx,hy,hd,rfl⟩|⟨b,pn,pd,rfl,hb,hn,hd,hpn,hpd⟩
 ·go_enter Tryz.func162,Tryz.ntmps162
  go_wp2_with fail
  refine (C0.out _).mono ?_
  rintro e w1 ⟨x1,rfl,hx1,hb1⟩
  go_wp2_with fail
  refine (C1.out _).mono ?_
  rintro e w2 ⟨x2,rfl,hx2,hb2⟩
  go_wp2_with fail
  go_ret3
  exact ⟨x1,x2,rfl,(hx1.keep hb2).at_,hx2,below_seq hb1 hb2⟩
 ·go_enter Tryz.func162,Tryz.ntmps162
  go_wp2_with fail
  refine (C0.out _).mono ?_
  rintro e w1 ⟨x1,rfl,hx1,hb1⟩
  go_wp2_with fail
  refine (C1.out _).mono ?_
  rintro e w2 ⟨x2,rfl,hx2,hb2⟩
  go_wp2_with fail
  go_ret3
  exact ⟨x1,x2,rfl,(hx1.keep hb2).at_,hx2,below_seq hb1 hb2⟩
 ·obtain ⟨bd,Ad,cd,rfl,_,_⟩:=hpd.open_
  have HPN:=Lib.hid hpn
  have HPD:=Lib.hid hpd
  clear hpn hpd
  obtain ⟨ng,hng⟩:∃ ng:Bool,ng=decide (q.num<0):=⟨_,rfl⟩
  rw[← hng]at hb
  have HNG:=Lib.hid hng
  clear hng
  go_enter Tryz.func162,Tryz.ntmps162
  go_wp2_with fail
  go_quiet (fail)
  go_wp2_with fail
  go_ret3
  have hb2:Below w.heap.size w (w.drewN nq):=Vic.Below.drewN_ (Below.refl _ _) _
  exact ⟨pn,_,by rw[HNG.out];rfl,HPN.out.keep hb2,HPD.out.keep hb2,hb2⟩
theorem frac_built (w:World) (ng:Bool) (pn pd:Value) (n d:Nat) (hn:NatAt w pn n) (hd:NatPtr w pd d) (q:Rat) (h1:q.num.natAbs=n) (h2:q.den=d) (h3:decide (q.num<0)=ng) :
 FracPtr (w.alloc (.cells #[.bool ng,pn,pd] 237)) (.pointer (some ⟨w.heap.size,0,none⟩)) q:=by
 have hb:=(Below.refl w.heap.size w).alloc (Nat.le_refl _) (.cells #[.bool ng,pn,pd] 237)
 exact ⟨w.heap.size,pn,pd,rfl,by rw[h3];simp,by simp,by simp,by rw[h1];exact hn.keep hb,by rw[h2];exact hd.keep hb⟩
set_option maxRecDepth 100000 in
set_option maxHeartbeats 4000000 in
theorem frac_New (w:World) (ng:Bool) (u v:Value) (n d:Nat) (hn:NatAt w u n) (hd:NatAt w v d) (h0:d≠0) (hnl:sz n≤10000000000) (hdl:sz d≤10000000000) :
 Calls Tryz.prog 209 #[.bool ng,u,v] w (GivesOk (fun x w'=>FracPtr w' x (quo ng n d)) w):=by
 have CZ0:=frac_zero w v d hd (by omega)
 rw[decide_eq_false h0]at CZ0
 have CZ:=Lib.hid CZ0
 have CG:=Lib.hid (nat_Gcd w u v n d hn hd hnl hdl)
 have q1:=Lib.hid (quo_natAbs (neg:=ng) (n:=n) h0)
 have q2:=Lib.hid (quo_den (neg:=ng) (n:=n) h0)
 have q3:=Lib.hid (quo_neg (neg:=ng) (n:=n) h0)
 have g0:Nat.gcd n d≠0:=fun e=>h0 (Nat.eq_zero_of_gcd_eq_zero_right e)
 have gl:sz (Nat.gcd n d)≤10000000000:=Nat.le_trans (sz_mono (Nat.gcd_le_right n (by omega))) hdl
 have hdg:Hid (d / Nat.gcd n d≠0):=by
  have:=Nat.div_pos (Nat.gcd_le_right n (Nat.pos_of_ne_zero h0)) (Nat.pos_of_ne_zero g0)
  show d / Nat.gcd n d≠0
  omega
 clear CZ0
 have HG0:=Lib.hid g0
 generalize hg:Nat.gcd n d=g at *
 have C1:Hid (∀ w,Calls Tryz.prog 201 #[.int .u64 1] w (Gives (fun x w'=>NatPtr w' x 1) w)):=fun w=>nat_Ofp w 1 (by omega)
 have C0:Hid (∀ w,Calls Tryz.prog 201 #[.int .u64 0] w (Gives (fun x w'=>NatPtr w' x 0) w)):=fun w=>nat_Ofp w 0 (by omega)
 have H0:=Lib.hid h0
 clear h0 g0 hg
 go_enter Tryz.func209,Tryz.ntmps209
 go_wp2_with fail
 refine CZ.out.mono ?_
 rintro e w' ⟨rfl,rfl⟩
 go_wp2_with fail
 refine CG.out.mono ?_
 rintro e w1 ⟨x1,rfl,hx1,hb1⟩
 go_wp2_with fail
 refine (C1.out _).mono ?_
 rintro e w2 ⟨x2,rfl,hx2,hb2⟩
 have CC0:=nat_Cmp w2 x1 x2 g 1 (hx1.keep hb2) hx2.at_ (Nat.le_trans gl (by omega)) (Nat.le_trans (sz_word (a:=1) (by omega)) (by omega))
 have hb12:=below_seq hb1 hb2
 have HX1:=Lib.hid (hx1.keep hb2)
 by_cases h1:g=1
 ·subst h1
  rw[cmpI_eq rfl]at CC0
  have CC:=Lib.hid CC0
  rw[Nat.div_one]at q1 q3
  rw[Nat.div_one]at q2
  have HN:=hn.keep hb12
  have HD:=(hd.ptr H0.out).keep hb12
  have HB:=hb12
  have hml:=hnl
  clear CC0 CZ CG hx1 hx2 hn hd hnl
  have HDD:=Lib.hid HD
  obtain ⟨b7,A7,c7,rfl,_,_⟩:=HD.open_
  clear HD
  rcases HN with ⟨rfl,rfl⟩|hp
  ·cases ng
   ·go_wp2_with fail
    refine CC.out.mono ?_
    rintro e w' ⟨rfl,rfl⟩
    go_wp2_with fail
    refine (C0.out _).mono ?_
    rintro e w8 ⟨x8,rfl,hx8,hb8⟩
    have HX8:=Lib.hid hx8
    obtain ⟨b9,A9,c9,rfl,_,_⟩:=hx8.open_
    go_wp2_with fail
    go_ret2
    exact ⟨_,rfl,frac_built w8 false _ _ _ _ HX8.out.at_ (HDD.out.keep hb8) _ q1.out q2.out q3.out,(HB.trans (hb8.mono HB.size)).alloc (HB.trans (hb8.mono HB.size)).size _⟩
   ·go_wp2_with fail
    refine CC.out.mono ?_
    rintro e w' ⟨rfl,rfl⟩
    go_wp2_with fail
    refine (C0.out _).mono ?_
    rintro e w8 ⟨x8,rfl,hx8,hb8⟩
    have HX8:=Lib.hid hx8
    have CY0:=frac_zero w8 x8 0 hx8.at_ (by rw[sz,show dgs 0 = []from digs_zero _];simp)
    rw[decide_eq_true rfl]at CY0
    have CY:=Lib.hid CY0
    obtain ⟨b9,A9,c9,rfl,_,_⟩:=hx8.open_
    clear CY0
    go_wp2_with fail
    refine CY.out.mono ?_
    rintro e w' ⟨rfl,rfl⟩
    go_wp2_with fail
    go_ret2
    exact ⟨_,rfl,frac_built w8 false _ _ _ _ HX8.out.at_ (HDD.out.keep hb8) _ q1.out q2.out q3.out,(HB.trans (hb8.mono HB.size)).alloc (HB.trans (hb8.mono HB.size)).size _⟩
  ·have HN:=Lib.hid (NatPtr.at_ hp)
   have CY0:=frac_zero w2 u n HN.out (by omega)
   obtain ⟨b8,A8,c8,rfl,_,_⟩:=NatPtr.open_ hp
   obtain ⟨z,hz⟩:∃ z,z=decide (n=0):=⟨_,rfl⟩
   rw[← hz]at CY0
   have CY:=Lib.hid CY0
   have HZ:=Lib.hid hz
   clear CY0 hz hp
   cases ng
   ·go_wp2_with fail
    refine CC.out.mono ?_
    rintro e w' ⟨rfl,rfl⟩
    go_wp2_with fail
    go_ret2
    exact ⟨_,rfl,frac_built w2 false _ _ _ _ HN.out HDD.out _ q1.out q2.out q3.out,HB.alloc HB.size _⟩
   ·go_wp2_with fail
    refine CC.out.mono ?_
    rintro e w' ⟨rfl,rfl⟩
    go_wp2_with fail
    refine CY.out.mono ?_
    rintro e w' ⟨rfl,rfl⟩
    go_wp2_with fail
    go_ret2
    exact ⟨_,rfl,frac_built w2 (!z) _ _ _ _ HN.out HDD.out _ q1.out q2.out (by rw[q3.out,HZ.out];simp),HB.alloc HB.size _⟩
 ·have hne:cmpI g 1≠0:=by
   rcases Nat.lt_or_gt_of_ne h1 with h2|h2
   ·rw[cmpI_lt h2];omega
   ·rw[cmpI_gt h2];omega
  generalize cmpI g 1=s0 at *
  have hs0:(s0 != 0)=true:=by rw[bne_iff_ne];exact hne
  have CC:=Lib.hid CC0
  have CD1:=Lib.hid (nat_Div w2 u x1 n g (hn.keep hb12) HX1.out (Nat.le_trans hnl (by omega)) (Nat.le_trans gl (by omega)) HG0.out)
  have hdv:=hd.keep hb12
  have hml:sz (n / g)≤10000000000:=Nat.le_trans (sz_div _ _) hnl
  clear CC0 CZ CG hx1 hx2 hn hd hnl hne h1
  go_wp2_with fail
  refine CC.out.mono ?_
  rintro e w' ⟨rfl,rfl⟩
  go_wp2_with fail
  refine CD1.out.mono ?_
  rintro e w3 ⟨pn,y3,rfl,hx3,_,hb3⟩
  have CD2:=Lib.hid (nat_Div w3 v x1 d g (hdv.keep hb3) (HX1.out.keep hb3) (Nat.le_trans hdl (by omega)) (Nat.le_trans gl (by omega)) HG0.out)
  go_wp2_with fail
  refine CD2.out.mono ?_
  rintro e W ⟨pd,y4,rfl,hx4,_,hb4⟩
  have HN:=hx3.keep hb4
  have HD:=hx4.ptr hdg.out
  have HB:=hb12.trans ((below_seq hb3 hb4).mono hb12.size)
  clear hx3 hx4 CD1 CD2 CC hdv
  generalize n / g=m at *
  generalize d / g=dd at *
  have HDD:=Lib.hid HD
  obtain ⟨b7,A7,c7,rfl,_,_⟩:=HD.open_
  clear HD
  rcases HN with ⟨rfl,rfl⟩|hp
  ·cases ng
   ·go_wp2_with fail
    refine (C0.out _).mono ?_
    rintro e w8 ⟨x8,rfl,hx8,hb8⟩
    have HX8:=Lib.hid hx8
    obtain ⟨b9,A9,c9,rfl,_,_⟩:=hx8.open_
    go_wp2_with fail
    go_ret2
    exact ⟨_,rfl,frac_built w8 false _ _ _ _ HX8.out.at_ (HDD.out.keep hb8) _ q1.out q2.out q3.out,(HB.trans (hb8.mono HB.size)).alloc (HB.trans (hb8.mono HB.size)).size _⟩
   ·go_wp2_with fail
    refine (C0.out _).mono ?_
    rintro e w8 ⟨x8,rfl,hx8,hb8⟩
    have HX8:=Lib.hid hx8
    have CY0:=frac_zero w8 x8 0 hx8.at_ (by rw[sz,show dgs 0 = []from digs_zero _];simp)
    rw[decide_eq_true rfl]at CY0
    have CY:=Lib.hid CY0
    obtain ⟨b9,A9,c9,rfl,_,_⟩:=hx8.open_
    clear CY0
    go_wp2_with fail
    refine CY.out.mono ?_
    rintro e w' ⟨rfl,rfl⟩
    go_wp2_with fail
    go_ret2
    exact ⟨_,rfl,frac_built w8 false _ _ _ _ HX8.out.at_ (HDD.out.keep hb8) _ q1.out q2.out q3.out,(HB.trans (hb8.mono HB.size)).alloc (HB.trans (hb8.mono HB.size)).size _⟩
  ·have HN:=Lib.hid (NatPtr.at_ hp)
   have CY0:=frac_zero W pn m HN.out (by omega)
   obtain ⟨b8,A8,c8,rfl,_,_⟩:=NatPtr.open_ hp
   obtain ⟨z,hz⟩:∃ z,z=decide (m=0):=⟨_,rfl⟩
   rw[← hz]at CY0
   have CY:=Lib.hid CY0
   have HZ:=Lib.hid hz
   clear CY0 hz hp
   cases ng
   ·go_wp2_with fail
    go_ret2
    exact ⟨_,rfl,frac_built W false _ _ _ _ HN.out HDD.out _ q1.out q2.out q3.out,HB.alloc HB.size _⟩
   ·go_wp2_with fail
    refine CY.out.mono ?_
    rintro e w' ⟨rfl,rfl⟩
    go_wp2_with fail
    go_ret2
    exact ⟨_,rfl,frac_built W (!z) _ _ _ _ HN.out HDD.out _ q1.out q2.out (by rw[q3.out,HZ.out];simp),HB.alloc HB.size _⟩
end Go.Proofs.YtbdfhnelmojbpaaGreatDoor
end
section
namespace Vic
open Go Go.RowKit
def fracText (q:Rat):List UInt8:=
 (if q.num<0 then [45]else []) ++ Lib.decDigits q.num.natAbs ++ (if q.den=1 then []else 47 :: Lib.decDigits q.den)
theorem dec_inj {a b:Nat}(h:Lib.decDigits a=Lib.decDigits b):a=b:=by
 have:=congrArg (numOf 0) h
 rwa [numOf_dec,numOf_dec]at this
theorem dec_one:Lib.decDigits 1 = [49]:=by rw[dec_small (by omega)];rfl
theorem dec_sz {n L:Nat}(h:sz n≤L):(Lib.decDigits n).length≤10*L+1:=by
 have h1:=dec_len_digs (lt_pow_digs_length (B:=4294967296) (by omega) n)
 have h2:(digs 4294967296 n).length≤L:=h
 omega
end Vic
namespace Go.Proofs.YtbdfhnelmojbpaaGreatDoor
open Go.RowKit Vic
theorem frac_sure (w:World) (ng:Bool) (u v:Value) (n d:Nat) (hn:NatAt w u n) (hd:NatAt w v d) (h0:d≠0) (hnl:sz n≤10000000000) (hdl:sz d≤10000000000) :
 Calls Tryz.prog 164 #[.bool ng,u,v] w (Gives (fun x w'=>FracPtr w' x (quo ng n d)) w):=by
 have CN:=Lib.hid (frac_New w ng u v n d hn hd h0 hnl hdl)
 clear hn hd h0 hnl hdl
 go_enter Tryz.func164,Tryz.ntmps164
 go_wp2_with fail
 refine CN.out.mono ?_
 rintro e w1 ⟨x1,rfl,hx1,hb1⟩
 go_wp2_with fail
 go_ret
 exact ⟨x1,rfl,hx1,hb1⟩
set_option maxRecDepth 100000 in
set_option maxHeartbeats 4000000 in
theorem frac_Text (w:World) (v:Value) (q:Rat) (h:FracAt w v q) (hf:Fits 1000000 q) (ht:Tab w) :
 Calls Tryz.prog 103 #[v] w (Keeps (.string ⟨(fracText q).toArray⟩) w):=by
 have CP:=Lib.hid (frac_Parts w v q h)
 obtain ⟨f1,f2⟩:=hf
 have l1:=dec_sz f1
 have l2:=dec_sz f2
 have F1:=Lib.hid f1;have F2:=Lib.hid f2
 have HT:=Lib.hid (show fracText q=(if q.num<0 then [45]else []) ++ Lib.decDigits q.num.natAbs ++ (if q.den=1 then []else 47 :: Lib.decDigits q.den)from rfl)
 have H1:Hid (q.den=1→Lib.decDigits q.den = [49]):=fun h=>by rw[h];exact dec_one
 have H2:Hid (q.den≠1→Lib.decDigits q.den≠[49]):=fun h e=>h (dec_inj (e.trans dec_one.symm))
 clear f1 f2 h
 unfold PartsOf at CP
 generalize fracText q=T at *
 generalize hng:decide (q.num<0)=ng at *
 have HNG:=Lib.hid hng
 clear hng
 generalize q.num.natAbs=n at *
 generalize hd:q.den=d at *
 clear hd
 generalize hsn:Lib.decDigits n=sn at *
 generalize hsd:Lib.decDigits d=sd at *
 have SN:=Lib.hid hsn;have SD:=Lib.hid hsd
 clear hsn hsd
 go_enter Tryz.func103,Tryz.ntmps103
 go_wp2_with fail
 refine CP.out.mono ?_
 rintro e w1 ⟨pn,pd,rfl,hn,hd,hb1⟩
 have CN0:=nat_Text w1 pn n hn F1.out (ht.keep hb1)
 rw[SN.out]at CN0
 have CN:=Lib.hid CN0
 have CD:Hid (∀ w2,Below w1.heap.size w1 w2→Calls Tryz.prog 149 #[pd] w2 (Keeps (.string ⟨sd.toArray⟩) w2)):=fun w2 h2=>by
  have:=nat_Text w2 pd d (hd.keep h2).at_ F2.out ((ht.keep hb1).keep h2)
  rwa [SD.out]at this
 clear CN0
 by_cases h1:d=1
 ·have e1:=H1.out h1
  have hTd:Hid ((if d=1 then []else 47 :: sd)=([]:List UInt8)):=if_pos h1
  rw[hTd.out]at HT
  subst e1
  cases ng
  ·have hT:Hid (T=sn):=by
    have h5:=of_decide_eq_false HNG.out
    show _=_
    rw[HT.out,if_neg h5]
    simp
   go_wp2_with fail
   refine CN.out.mono ?_
   rintro e w2 ⟨rfl,hb2⟩
   go_wp2_with fail
   refine (CD.out _ hb2).mono ?_
   rintro e w3 ⟨rfl,hb3⟩
   go_wp2_with fail
   go_ret
   exact ⟨by rw[hT.out];rfl,below_seq hb1 (below_seq hb2 hb3)⟩
  ·have hT:Hid (T = [45] ++ sn):=by
    have h5:=of_decide_eq_true HNG.out
    show _=_
    rw[HT.out,if_pos h5]
    simp
   go_wp2_with fail
   refine CN.out.mono ?_
   rintro e w2 ⟨rfl,hb2⟩
   go_wp2_with fail
   refine (CD.out _ hb2).mono ?_
   rintro e w3 ⟨rfl,hb3⟩
   go_wp2_with fail
   go_ret
   exact ⟨by rw[hT.out,← bytes_app];rfl,below_seq hb1 (below_seq hb2 hb3)⟩
 ·have hne:(sd == [49])=false:=beq_eq_false_iff_ne.2 (H2.out h1)
  have hTd:Hid ((if d=1 then []else 47 :: sd)=47 :: sd):=if_neg h1
  rw[hTd.out]at HT
  cases ng
  ·have hT:Hid (T=sn ++ ([47] ++ sd)):=by
    have h5:=of_decide_eq_false HNG.out
    show _=_
    rw[HT.out,if_neg h5]
    simp
   go_wp2_with fail
   refine CN.out.mono ?_
   rintro e w2 ⟨rfl,hb2⟩
   go_wp2_with fail
   refine (CD.out _ hb2).mono ?_
   rintro e w3 ⟨rfl,hb3⟩
   go_wp2_with fail
   go_ret
   exact ⟨by rw[hT.out,← bytes_app,← bytes_app];rfl,below_seq hb1 (below_seq hb2 hb3)⟩
  ·have hT:Hid (T = [45] ++ sn ++ ([47] ++ sd)):=by
    have h5:=of_decide_eq_true HNG.out
    show _=_
    rw[HT.out,if_pos h5]
    simp
   go_wp2_with fail
   refine CN.out.mono ?_
   rintro e w2 ⟨rfl,hb2⟩
   go_wp2_with fail
   refine (CD.out _ hb2).mono ?_
   rintro e w3 ⟨rfl,hb3⟩
   go_wp2_with fail
   go_ret
   exact ⟨by rw[hT.out,← bytes_app,← bytes_app,← bytes_app];rfl,below_seq hb1 (below_seq hb2 hb3)⟩
end Go.Proofs.YtbdfhnelmojbpaaGreatDoor
end
section
namespace Vic
open Go Go.RowKit
def fracNeg (l:List UInt8):Bool:=Lib.hasPrefix l [45]
def fracTop (l:List UInt8):List UInt8:=(Lib.cut (Lib.trimPrefix l [45]) [47]).1
def fracBelow (l:List UInt8):List UInt8:=if (Lib.cut (Lib.trimPrefix l [45]) [47]).2.2 then (Lib.cut (Lib.trimPrefix l [45]) [47]).2.1 else [49]
def fracOf (l:List UInt8):Rat:=quo (fracNeg l) (numOf 0 (fracTop l)) (numOf 0 (fracBelow l))
def FracGood (l:List UInt8):Prop:=GoodNat (fracTop l)∧GoodNat (fracBelow l)∧numOf 0 (fracBelow l)≠0∧fracText (fracOf l)=l
def GotFrac (l:List UInt8) (w:World) (e:Ending) (w':World):Prop:=
 (¬ FracGood l∧GivesNo w e w')∨(FracGood l∧∃ x,e=.returned (.tuple #[x,.bool true])∧FracPtr w' x (fracOf l)∧Fits 1000000 (fracOf l)∧Below w.heap.size w w')
def GotNat (l:List UInt8) (w:World) (e:Ending) (w':World):Prop:=
 ∃ x b,e=.returned (.tuple #[x,.bool b])∧Below w.heap.size w w'∧((b=false∧x=.pointer none∧¬ GoodNat l)∨(b=true∧GoodNat l∧NatPtr w' x (numOf 0 l)))
theorem trim_len (s p:List UInt8):(Lib.trimPrefix s p).length≤s.length:=by
 unfold Lib.trimPrefix;split
 ·simp
 ·exact Nat.le_refl _
theorem good_sz {l:List UInt8}(h:GoodNat l):sz (numOf 0 l)≤1000000:=digs_dec (numOf_lt l h.1.2.1) (by have:=h.2;omega)
end Vic
namespace Go.Proofs.YtbdfhnelmojbpaaGreatDoor
open Go.RowKit Vic
theorem nat_Get (w:World) (l:List UInt8) (hs:l.length≤9223372036854775806):Calls Tryz.prog 141 #[.string ⟨l.toArray⟩] w (GotNat l w):=by
 by_cases h:GoodNat l
 ·refine (nat_Get_yes w l h).mono ?_
  rintro e w' ⟨x,rfl,hx,hb⟩
  exact ⟨x,true,rfl,hb,.inr ⟨rfl,h,hx⟩⟩
 ·refine (nat_Get_no w l hs h).mono ?_
  rintro e w' ⟨rfl,hb⟩
  exact ⟨_,false,rfl,hb,.inl ⟨rfl,rfl,h⟩⟩
set_option maxRecDepth 100000 in
set_option maxHeartbeats 8000000 in
theorem frac_Get (w:World) (l:List UInt8) (hl:l.length≤1000000) (ht:Tab w):Calls Tryz.prog 133 #[.string ⟨l.toArray⟩] w (GotFrac l w):=by
 have C1:=Lib.hid (strings_CutPrefix w l [45])
 obtain ⟨t,htt⟩:∃ t,t=Lib.trimPrefix l [45]:=⟨_,rfl⟩
 have htl:t.length≤l.length:=by rw[htt];exact trim_len _ _
 obtain ⟨ng,hng⟩:∃ ng,ng=Lib.hasPrefix l [45]:=⟨_,rfl⟩
 rw[← htt,← hng]at C1
 have C2:=Lib.hid (strings_Cut w ht t [47] (by omega))
 obtain ⟨top,htop⟩:∃ top,top=(Lib.cut t [47]).1:=⟨_,rfl⟩
 obtain ⟨bel,hbel⟩:∃ bel,bel=(Lib.cut t [47]).2.1:=⟨_,rfl⟩
 obtain ⟨is,his⟩:∃ is,is=(Lib.cut t [47]).2.2:=⟨_,rfl⟩
 have htl1:top.length≤t.length:=by rw[htop];exact cut_len1 _ _
 have hbl1:bel.length≤t.length:=by rw[hbel];exact cut_len2 _ _
 rw[← htop,← hbel,← his]at C2
 have T1:Hid (fracNeg l=ng):=hng.symm
 have T2:Hid (fracTop l=top):=by show (Lib.cut (Lib.trimPrefix l [45]) [47]).1=_;rw[← htt,htop]
 have T3:Hid (fracBelow l=if is then bel else [49]):=by show (if (Lib.cut (Lib.trimPrefix l [45]) [47]).2.2 then (Lib.cut (Lib.trimPrefix l [45]) [47]).2.1 else [49])=_;rw[← htt,his,hbel]
 clear htt hng htop hbel his
 go_enter Tryz.func133,Tryz.ntmps133
 go_wp2_with fail
 refine C1.out.mono ?_
 rintro e w' ⟨rfl,rfl⟩
 go_wp2_with fail
 refine C2.out.mono ?_
 rintro e w1 ⟨rfl,hb1⟩
 have CT:Hid (∀ wr,Calls Tryz.prog 141 #[.string ⟨top.toArray⟩] wr (GotNat top wr)):=fun wr=>nat_Get wr top (by omega)
 have CB:Hid (∀ wr,Calls Tryz.prog 141 #[.string ⟨bel.toArray⟩] wr (GotNat bel wr)):=fun wr=>nat_Get wr bel (by omega)
 have C9:Hid (∀ wr,Calls Tryz.prog 141 #[.string ⟨#[49]⟩] wr (GotNat [49] wr)):=fun wr=>nat_Get wr [49] (by simp)
 have HT:=Lib.hid ht
 clear ht
 cases is
 ·rw[if_neg (by simp)]at T3
  obtain ⟨bl,hbl⟩:∃ bl:List UInt8,bl = [49]:=⟨_,rfl⟩
  rw[← hbl]at T3
  have CQ:Hid (∀ wr,Calls Tryz.prog 141 #[.string ⟨#[49]⟩] wr (GotNat bl wr)):=by rw[hbl];exact C9
  clear hbl CB C9
  go_wp2_with fail
  refine (CT.out _).mono ?_
  rintro e w2 ⟨x2,b2,rfl,hb2,h2⟩
  go_wp2_with fail
  refine (CQ.out _).mono ?_
  rintro e w3 ⟨x3,b3,rfl,hb3,h3⟩
  have hb13:=below_seq hb1 (below_seq hb2 hb3)
  rcases h2 with ⟨rfl,rfl,h2⟩|⟨rfl,h2,hx2⟩
  ·go_wp2_with fail
   go_ret2
   exact .inl ⟨fun h=>h2 (by have:=h.1;rwa [T2.out]at this),rfl,hb13⟩
  ·rcases h3 with ⟨rfl,rfl,h3⟩|⟨rfl,h3,hx3⟩
   ·go_wp2_with fail
    go_ret2
    exact .inl ⟨fun h=>h3 (by have:=h.2.1;rwa [T3.out]at this),rfl,hb13⟩
   ·have s2:=good_sz h2
    have s3:=good_sz h3
    have T4:Hid (fracOf l=quo ng (numOf 0 top) (numOf 0 bl)):=by show quo (fracNeg l) (numOf 0 (fracTop l)) (numOf 0 (fracBelow l))=_;rw[T1.out,T2.out,T3.out]
    have T5:Hid (numOf 0 (fracBelow l)=numOf 0 bl):=by show _=_;rw[T3.out]
    have T6:Hid (GoodNat (fracTop l)∧GoodNat (fracBelow l)):=by rw[T2.out,T3.out];exact ⟨h2,h3⟩
    have hx2':=hx2.keep hb3
    clear h2 h3 T1 T2 T3 CT CQ hx2
    generalize numOf 0 top=n at *
    generalize numOf 0 bl=d at *
    have CZ0:=frac_zero w3 x3 d hx3.at_ (by omega)
    by_cases hd0:d=0
    ·rw[decide_eq_true hd0]at CZ0
     have CZ:=Lib.hid CZ0
     clear CZ0
     go_wp2_with fail
     refine CZ.out.mono ?_
     rintro e w' ⟨rfl,rfl⟩
     go_wp2_with fail
     go_ret2
     exact .inl ⟨fun h=>h.2.2.1 (T5.out.trans hd0),rfl,hb13⟩
    ·rw[decide_eq_false hd0]at CZ0
     have CZ:=Lib.hid CZ0
     have CS:=Lib.hid (frac_sure w3 ng x2 x3 n d hx2'.at_ hx3.at_ hd0 (by omega) (by omega))
     have hfit:=fits_quo (neg:=ng) hd0 s2 s3
     rw[← T4.out]at hfit
     have HF:=Lib.hid hfit
     rw[← T4.out]at CS
     have H0:=Lib.hid hd0
     clear CZ0 hfit hd0 hx2' hx3 s2 s3
     obtain ⟨q,hq0⟩:∃ q,q=fracOf l:=⟨_,rfl⟩
     rw[← hq0]at CS HF
     have HQE:=Lib.hid hq0
     clear hq0
     go_wp2_with fail
     refine CZ.out.mono ?_
     rintro e w' ⟨rfl,rfl⟩
     go_wp2_with fail
     refine CS.out.mono ?_
     rintro e w4 ⟨x4,rfl,hx4,hb4⟩
     have hb14:=below_seq hb13 hb4
     have CX:=Lib.hid (frac_Text w4 x4 q hx4.at_ HF.out (HT.out.keep hb14))
     by_cases hq:fracText q=l
     ·have hbe:(fracText q == l)=true:=beq_iff_eq.2 hq
      have HQ:=Lib.hid hq
      clear hq
      obtain ⟨T,hT⟩:∃ T,T=fracText q:=⟨_,rfl⟩
      rw[← hT]at hbe CX HQ
      have HQT:=Lib.hid hT
      clear hT
      go_wp2_with fail
      refine CX.out.mono ?_
      rintro e w5 ⟨rfl,hb5⟩
      go_wp2_with fail
      go_ret2
      refine .inr ⟨⟨T6.out.1,T6.out.2,by rw[T5.out];exact H0.out,?_⟩,x4,rfl,?_,?_,below_seq hb14 hb5⟩
      ·rw[← HQE.out,← HQT.out];exact HQ.out
      ·exact HQE.out▸hx4.keep hb5
      ·exact HQE.out▸HF.out
     ·have hbe:(fracText q == l)=false:=beq_eq_false_iff_ne.2 hq
      have HQ:=Lib.hid hq
      clear hq
      obtain ⟨T,hT⟩:∃ T,T=fracText q:=⟨_,rfl⟩
      rw[← hT]at hbe CX HQ
      have HQT:=Lib.hid hT
      clear hT
      go_wp2_with fail
      refine CX.out.mono ?_
      rintro e w5 ⟨rfl,hb5⟩
      go_wp2_with fail
      go_ret2
      exact .inl ⟨fun h=>HQ.out (by have:=h.2.2.2;rwa [← HQE.out,← HQT.out]at this),rfl,below_seq hb14 hb5⟩
 ·rw[if_pos rfl]at T3
  obtain ⟨bl,hbl⟩:∃ bl:List UInt8,bl=bel:=⟨_,rfl⟩
  rw[← hbl]at T3
  have CQ:Hid (∀ wr,Calls Tryz.prog 141 #[.string ⟨bl.toArray⟩] wr (GotNat bl wr)):=by rw[hbl];exact CB
  rw[← hbl]
  clear hbl CB C9
  go_wp2_with fail
  refine (CT.out _).mono ?_
  rintro e w2 ⟨x2,b2,rfl,hb2,h2⟩
  go_wp2_with fail
  refine (CQ.out _).mono ?_
  rintro e w3 ⟨x3,b3,rfl,hb3,h3⟩
  have hb13:=below_seq hb1 (below_seq hb2 hb3)
  rcases h2 with ⟨rfl,rfl,h2⟩|⟨rfl,h2,hx2⟩
  ·go_wp2_with fail
   go_ret2
   exact .inl ⟨fun h=>h2 (by have:=h.1;rwa [T2.out]at this),rfl,hb13⟩
  ·rcases h3 with ⟨rfl,rfl,h3⟩|⟨rfl,h3,hx3⟩
   ·go_wp2_with fail
    go_ret2
    exact .inl ⟨fun h=>h3 (by have:=h.2.1;rwa [T3.out]at this),rfl,hb13⟩
   ·have s2:=good_sz h2
    have s3:=good_sz h3
    have T4:Hid (fracOf l=quo ng (numOf 0 top) (numOf 0 bl)):=by show quo (fracNeg l) (numOf 0 (fracTop l)) (numOf 0 (fracBelow l))=_;rw[T1.out,T2.out,T3.out]
    have T5:Hid (numOf 0 (fracBelow l)=numOf 0 bl):=by show _=_;rw[T3.out]
    have T6:Hid (GoodNat (fracTop l)∧GoodNat (fracBelow l)):=by rw[T2.out,T3.out];exact ⟨h2,h3⟩
    have hx2':=hx2.keep hb3
    clear h2 h3 T1 T2 T3 CT CQ hx2
    generalize numOf 0 top=n at *
    generalize numOf 0 bl=d at *
    have CZ0:=frac_zero w3 x3 d hx3.at_ (by omega)
    by_cases hd0:d=0
    ·rw[decide_eq_true hd0]at CZ0
     have CZ:=Lib.hid CZ0
     clear CZ0
     go_wp2_with fail
     refine CZ.out.mono ?_
     rintro e w' ⟨rfl,rfl⟩
     go_wp2_with fail
     go_ret2
     exact .inl ⟨fun h=>h.2.2.1 (T5.out.trans hd0),rfl,hb13⟩
    ·rw[decide_eq_false hd0]at CZ0
     have CZ:=Lib.hid CZ0
     have CS:=Lib.hid (frac_sure w3 ng x2 x3 n d hx2'.at_ hx3.at_ hd0 (by omega) (by omega))
     have hfit:=fits_quo (neg:=ng) hd0 s2 s3
     rw[← T4.out]at hfit
     have HF:=Lib.hid hfit
     rw[← T4.out]at CS
     have H0:=Lib.hid hd0
     clear CZ0 hfit hd0 hx2' hx3 s2 s3
     obtain ⟨q,hq0⟩:∃ q,q=fracOf l:=⟨_,rfl⟩
     rw[← hq0]at CS HF
     have HQE:=Lib.hid hq0
     clear hq0
     go_wp2_with fail
     refine CZ.out.mono ?_
     rintro e w' ⟨rfl,rfl⟩
     go_wp2_with fail
     refine CS.out.mono ?_
     rintro e w4 ⟨x4,rfl,hx4,hb4⟩
     have hb14:=below_seq hb13 hb4
     have CX:=Lib.hid (frac_Text w4 x4 q hx4.at_ HF.out (HT.out.keep hb14))
     by_cases hq:fracText q=l
     ·have hbe:(fracText q == l)=true:=beq_iff_eq.2 hq
      have HQ:=Lib.hid hq
      clear hq
      obtain ⟨T,hT⟩:∃ T,T=fracText q:=⟨_,rfl⟩
      rw[← hT]at hbe CX HQ
      have HQT:=Lib.hid hT
      clear hT
      go_wp2_with fail
      refine CX.out.mono ?_
      rintro e w5 ⟨rfl,hb5⟩
      go_wp2_with fail
      go_ret2
      refine .inr ⟨⟨T6.out.1,T6.out.2,by rw[T5.out];exact H0.out,?_⟩,x4,rfl,?_,?_,below_seq hb14 hb5⟩
      ·rw[← HQE.out,← HQT.out];exact HQ.out
      ·exact HQE.out▸hx4.keep hb5
      ·exact HQE.out▸HF.out
     ·have hbe:(fracText q == l)=false:=beq_eq_false_iff_ne.2 hq
      have HQ:=Lib.hid hq
      clear hq
      obtain ⟨T,hT⟩:∃ T,T=fracText q:=⟨_,rfl⟩
      rw[← hT]at hbe CX HQ
      have HQT:=Lib.hid hT
      clear hT
      go_wp2_with fail
      refine CX.out.mono ?_
      rintro e w5 ⟨rfl,hb5⟩
      go_wp2_with fail
      go_ret2
      exact .inl ⟨fun h=>HQ.out (by have:=h.2.2.2;rwa [← HQE.out,← HQT.out]at this),rfl,below_seq hb14 hb5⟩
end Go.Proofs.YtbdfhnelmojbpaaGreatDoor
end
section
namespace Vic
open Go
theorem dig_ne {c d:UInt8}(h:isDig c=true) (hd:isDig d=false):c≠d:=fun e=>by rw[e,hd]at h;cases h
theorem dec_no (n:Nat) {d:UInt8}(hd:isDig d=false):d∉Lib.decDigits n:=fun h=>by
 have:=dec_isDig n d h
 rw[hd]at this;cases this
theorem trim_neg (l:List UInt8):Lib.trimPrefix (45 :: l) [45]=l∧Lib.hasPrefix (45 :: l) [45]=true:=by
 constructor
 ·simp[Lib.trimPrefix,Lib.hasPrefix,pre_one]
 ·simp[Lib.hasPrefix,pre_one]
theorem trim_pos {c:UInt8}(l:List UInt8) (h:c≠45):Lib.trimPrefix (c :: l) [45]=c :: l∧Lib.hasPrefix (c :: l) [45]=false:=by
 constructor
 ·simp[Lib.trimPrefix,Lib.hasPrefix,pre_one,Ne.symm h]
 ·simp[Lib.hasPrefix,pre_one,Ne.symm h]
theorem fracGood_text (q:Rat) (hn:(Lib.decDigits q.num.natAbs).length≤2000) (hd:(Lib.decDigits q.den).length≤2000):FracGood (fracText q)∧fracOf (fracText q)=q:=by
 have hbody:∀ (body:List UInt8),body=Lib.decDigits q.num.natAbs ++ (if q.den=1 then []else 47 :: Lib.decDigits q.den)→(Lib.cut body [47]).1=Lib.decDigits q.num.natAbs∧(if (Lib.cut body [47]).2.2 then (Lib.cut body [47]).2.1 else [49])=Lib.decDigits q.den:=by
  rintro body rfl
  by_cases h1:q.den=1
  ·rw[if_pos h1,List.append_nil,cut_none (dec_no _ (by decide)),h1,dec_one]
   exact ⟨rfl,rfl⟩
  ·rw[if_neg h1,cut_app _ (dec_no _ (by decide))]
   exact ⟨rfl,rfl⟩
 have key:fracNeg (fracText q)=decide (q.num<0)∧fracTop (fracText q)=Lib.decDigits q.num.natAbs∧fracBelow (fracText q)=Lib.decDigits q.den:=by
  obtain ⟨b1,b2⟩:=hbody _ rfl
  by_cases h:q.num<0
  ·have e:fracText q=45 :: (Lib.decDigits q.num.natAbs ++ (if q.den=1 then []else 47 :: Lib.decDigits q.den)):=by
    unfold fracText;rw[if_pos h];simp
   obtain ⟨t1,t2⟩:=trim_neg (Lib.decDigits q.num.natAbs ++ (if q.den=1 then []else 47 :: Lib.decDigits q.den))
   unfold fracNeg fracTop fracBelow
   rw[e,t1,t2,decide_eq_true h]
   exact ⟨rfl,b1,b2⟩
  ·have e:fracText q=Lib.decDigits q.num.natAbs ++ (if q.den=1 then []else 47 :: Lib.decDigits q.den):=by
    unfold fracText;rw[if_neg h];simp
   obtain ⟨c,r,hcr⟩:∃ c r,Lib.decDigits q.num.natAbs=c :: r:=by
    rcases hx:Lib.decDigits q.num.natAbs with _|⟨c,r⟩
    ·exact absurd hx (dec_ne _)
    ·exact ⟨c,r,rfl⟩
   have hc:c≠45:=dig_ne (dec_isDig q.num.natAbs c (by rw[hcr];simp)) (by decide)
   have e2:fracText q=c :: (r ++ (if q.den=1 then []else 47 :: Lib.decDigits q.den)):=by rw[e,hcr];rfl
   obtain ⟨t1,t2⟩:=trim_pos (r ++ (if q.den=1 then []else 47 :: Lib.decDigits q.den)) hc
   unfold fracNeg fracTop fracBelow
   rw[e2,t1,t2,← e2,e,decide_eq_false h]
   exact ⟨rfl,b1,b2⟩
 obtain ⟨k1,k2,k3⟩:=key
 have hof:fracOf (fracText q)=q:=by
  unfold fracOf
  rw[k1,k2,k3,numOf_dec,numOf_dec]
  exact quo_self q
 refine ⟨⟨?_,?_,?_,?_⟩,hof⟩
 ·rw[k2];exact ⟨dec_canon _,hn⟩
 ·rw[k3];exact ⟨dec_canon _,hd⟩
 ·rw[k3,numOf_dec];exact q.den_nz
 ·rw[hof]
end Vic
end
