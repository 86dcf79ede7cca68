/- Package victuallerref1: quotients, the greatest measure, powers of two: the walks. -/
import Derived.Test.YtbdfhnelmojbpaaGreatDoorRay
import Derived.Test.YtbdfhnelmojbpaaGreatDoorRaw
import Derived.Test.YtbdfhnelmojbpaaGreatDoorRaq
import Derived.Test.YtbdfhnelmojbpaaGreatDoorRax
import Derived.Laws.Rows
import Derived.Laws.Tables
import Derived.Shelf.Strconv.AtoiAll
import Derived.Deep.QuietTactic
import Derived.BigQuiet
import Derived.Deep.RegionWith
set_option linter.unusedVariables false
set_option linter.unusedSimpArgs false
section
namespace Vic
open Go Go.RowKit
def RefParted (q r:Nat) (w:World) (e:Ending) (w':World):Prop:=∃ x y,e=.returned (.tuple #[x,y])∧RefN w' x q∧RefN w' y r∧Below w.heap.size w w'
theorem cmpI_le {a b:Nat}(h:a≤b):∃ c,cmpI a b=c∧c≤0:=by
 refine ⟨_,rfl,?_⟩
 unfold cmpI
 split
 ·omega
 ·rw[if_neg (by omega)];omega
theorem Half.low {b r low high mid:Nat}(h:Half b r low high) (h1:low<mid) (h2:mid<high) (h3:b*mid≤r):Half b r mid high:=⟨by rw[Nat.mul_comm];exact h3,h.2.1,by have:=h.2.2.1;omega,h.2.2.2⟩
theorem Half.high {b r low high mid:Nat}(h:Half b r low high) (h1:low<mid) (h2:mid<high) (h3:r<b*mid):Half b r low mid:=⟨h.1,by rw[Nat.mul_comm];exact h3,h.2.2.1,by have:=h.2.2.2;omega⟩
end Vic
namespace Go.Proofs.YtbdfhnelmojbpaaGreatDoor
open Go.RowKit Vic
set_option maxRecDepth 100000 in
set_option maxHeartbeats 8000000 in
theorem ref_Div (w:World) (u v:Value) (a b:Nat) (ha:RefN w u a) (hb:RefN w v b) (hal:(tdg a).length≤100000) (hbl:(tdg b).length≤100000) (h0:b≠0) :
 Calls Tryz.prog 107 #[u,v] w (RefParted (a / b) (a % b) w):=by
 obtain ⟨A,c,rfl,hA⟩:=ha.open_
 obtain ⟨A',c',rfl,hB⟩:=hb.open_
 clear ha
 obtain ⟨i1,hi1,hz1,hsz1,hby1⟩:=info_int
 have VA:Hid (val 10000 (tdg a)=a):=val_digs (by omega) a
 have da:dig 10000 (tdg a):=digs_dig (by omega) a
 obtain ⟨v,hv⟩:∃ v,v=Value.slice A' (tdg b).length c':=⟨_,rfl⟩
 rw[← hv]at hb ⊢
 have HB:=Lib.hid hb
 clear hv hB hb
 generalize tdg a=la at *
 have hmk:∀ w,(Instr.makeSlice 47 (.int .i64 la.length) (.int .i64 la.length)).run Tryz.prog w=.ok (.slice (some ⟨w.heap.size,0,none⟩) la.length la.length) (w.alloc (.cells (vals .i64 (List.replicate la.length 0)) 3)):=fun w=>mk_int _ _ rfl (by omega) w
 have DA:=Lib.hid da;have H0:=Lib.hid h0;have HBL:=Lib.hid hbl
 clear da h0 hbl
 go_enter Tryz.func107,Tryz.ntmps107
 go_wp2_with fail
 clear hmk
 go_loopw [8,7] (fun t s wr=>∃ (j:Nat) (q:List Nat) (r:Nat),t=.int .i64 ((j:Int) - 1)∧j≤la.length∧Below w.heap.size w wr∧Hid (Row wr w.heap.size 3 (vals .i64 q))∧Hid (RDiv 10000 b la q j r)∧Hid (RefN wr s r∧Above (w.heap.size+1) s)∧w.heap.size+1≤wr.heap.size) (fun t _ _=>(intOf t+1).toNat)
 case atStart=>exact ⟨la.length,_,0,rfl,by omega,(Below.refl _ _).alloc (Nat.le_refl _) _,Row.new _ _ _,RDiv.start (by omega) (by have:=H0.out;omega) la,⟨by show Ints _ _ _ (tdg 0);rw[show tdg 0 = []from digs_zero _];exact Ints.nil_ _ _,above_nil⟩,by simp⟩
 case round=>
  obtain ⟨j,q,r,rfl,hj,hbr,hrow,hdv,hr,hsz⟩:=hrel
  rcases Nat.eq_zero_or_pos j with hj0|hj0
  ·subst hj0
   obtain ⟨hq1,hq2⟩:=hdv.out.done
   rw[VA.out]at hq1 hq2
   have hlen:=hdv.out.len
   have hu:Ints .i64 wr (.slice (some ⟨w.heap.size,0,none⟩) q.length la.length) q:=hrow.out.ints (l:=q) la.length (by omega)
   have CT0:=ref_trim wr _ _ q hu hdv.out.dg (by omega)
   rw[hq1,hlen]at CT0
   have CT:=Lib.hid CT0
   have hr':=Lib.hid hr.out.1
   rw[hq2]at hr'
   clear CT0 hu hlen hr hdv
   go_wp2_with fail
   refine CT.out.mono ?_
   rintro e w' ⟨z,rfl,hz,hbz⟩
   go_wp2
   go_ret2
   exact ⟨z,_,rfl,hz,hr'.out.keep hbz,below_seq hbr hbz⟩
  ·obtain ⟨k,rfl⟩:∃ k,j=k+1:=⟨j - 1,by omega⟩
   obtain ⟨b1,o1,rfl,hc1⟩:=(Ints.keep hA hbr).at_ k (by omega)
   obtain ⟨hlt,hst⟩:=hdv.out.step (by omega) DA.out (by omega)
   have hdk:=dig_getD DA.out (by omega) k
   have hrb:=hdv.out.lt
   have hqlen:=hdv.out.len
   have HZ:Hid (q.getD k 0=0):=hdv.out.low k (by omega)
   generalize la.getD k 0=d at *
   have HDK:=Lib.hid hdk
   obtain ⟨r1,hr1⟩:∃ r1,r1=d+10000*r:=⟨_,rfl⟩
   rw[← hr1]at hlt hst
   have hr1b:r1<10000*b:=by omega
   have HST:=Lib.hid hst;have HLT:=Lib.hid hlt;have HR1:=Lib.hid hr1;have HR1B:=Lib.hid hr1b
   have hl1:(tdg r).length≤100000:=Nat.le_trans (tdg_le (Nat.le_of_lt hrb)) HBL.out
   have hl2:(tdg r1).length≤100001:=Nat.le_trans (tdg_len (Nat.lt_of_lt_of_le hr1b (by
    have:=lt_pow_digs_length (B:=10000) (by omega) b
    have e:10000 ^ ((tdg b).length+1)=10000*10000 ^ (tdg b).length:=by rw[Nat.pow_succ,Nat.mul_comm]
    rw[e]
    exact Nat.mul_le_mul_left _ (Nat.le_of_lt this)))) (by have:=HBL.out;omega)
   have h01:Below wr.heap.size wr (wr.alloc (.cells #[.int .i64 (d:Int)] 3)):=(Below.refl _ _).alloc (Nat.le_refl _) _
   have hra:=Lib.hid (hr.out.1.keep h01)
   clear hlt hst hdk hr1 hr1b hrb hdv
   go_wp2_with (at_builtin;refine wpList_append_ahead rfl (.tmp 26) (.tmp 27) 47 rfl wr.heap.size 3 i1 Tryz.underlying47 hi1 hz1 hsz1 hby1 wr.heap.size d rfl (Row.new _ _ _) (Nat.le_refl _) (by simp) _ (tdg r) rfl hra.out (by omega) ?_;intro v5 w5 hv5 hb5 hab5;refine Hid.out ?_)
   have hB5:Below wr.heap.size wr w5:=h01.trans hb5
   have hd5:dig 10000 (d :: tdg r):=dig_cons.2 ⟨HDK.out,digs_dig (by omega) r⟩
   have hv5v:val 10000 (d :: tdg r)=r1:=by rw[val_cons,val_digs (by omega),HR1.out]
   obtain ⟨A5,c5,rfl,_,_⟩:=id hv5
   have CT0:=ref_trimA w5 A5 c5 _ hv5 hd5 (by simp;omega)
   rw[hv5v]at CT0
   have CT:=Lib.hid CT0
   clear CT0 hv5 hd5 hv5v hra hr hb5
   have hlz:(d :: tdg r).length=(tdg r).length+1:=by simp
   refine Lib.hid ?_
   go_wp2_with fail
   refine CT.out.mono ?_
   rintro e w6 ⟨k6,rfl,hx6,hb6⟩
   have hab6:Above (w.heap.size+1) (.slice A5 k6 c5):=fun A l c h1 b o h2=>by
    injection h1 with h3 h4 h5
    exact Nat.le_trans hsz (hab5 A5 _ c5 rfl b o (h3.trans h2))
   obtain ⟨x6,hx6e⟩:∃ x6,x6=Value.slice A5 k6 c5:=⟨_,rfl⟩
   rw[← hx6e]at hx6 hab6 ⊢
   clear hx6e hab5
   have hB6:=below_seq hB5 hb6
   have HX6:=Lib.hid hx6
   have CC0:=ref_Cmp w6 x6 v r1 b hx6 (HB.out.keep (below_seq hbr hB6)) (by omega) (by have:=HBL.out;omega)
   have hbr6:Below w.heap.size w w6:=below_seq hbr hB6
   have hrow6:Hid (Row w6 w.heap.size 3 (vals .i64 q)):=Lib.hid (hrow.out.keep hB6)
   have hsz6:w.heap.size+1≤w6.heap.size:=Nat.le_trans hsz hB6.size
   have hrow7:=hrow6.out.free k
   clear CT hlz hx6 hrow hB5 hb6 hB6 hbr
   by_cases hlt:r1<b
   ·rw[cmpI_lt hlt]at CC0
    have CC:=Lib.hid CC0
    have hq0:r1 / b=0:=Nat.div_eq_of_lt hlt
    have hm0:r1 % b=r1:=Nat.mod_eq_of_lt hlt
    have hst:=HST.out
    rw[hq0,hm0]at hst
    have hz:q.getD k 0=0:=HZ.out
    rw[show q.set k 0=q by rw[← hz];exact set_self q k (by omega)]at hst
    have HST2:=Lib.hid hst
    clear hst hz CC0 hq0 hm0 HST HLT
    go_wp2_with fail
    refine CC.out.mono ?_
    rintro e w' ⟨rfl,rfl⟩
    go_wp2_with fail
    go_roundw
    case rel=>exact ⟨k,q,r1,by go_num,by omega,hbr6,hrow6,HST2,⟨HX6.out,hab6⟩,hsz6⟩
    case measure=>simp[intOf]
   ·have hcg:0≤cmpI r1 b:=by unfold cmpI;rw[if_neg hlt];split<;>omega
    generalize cmpI r1 b=cg at *
    have CC:=Lib.hid CC0
    clear CC0
    go_wp2_with fail
    refine CC.out.mono ?_
    rintro e w' ⟨rfl,rfl⟩
    go_wp2_with fail
    clear CC hcg
    go_loopw [9,10] (fun s t wi=>∃ (low high:Nat),s=.int .i64 low∧t=.int .i64 high∧low<high∧high≤10000∧1≤low∧Hid (Half b r1 low high)∧Below w6.heap.size w6 wi) (fun s t _=>(intOf t).toNat - (intOf s).toNat)
    case atStart=>exact ⟨1,10000,rfl,rfl,by omega,by omega,by omega,⟨by omega,HR1B.out,by omega,by omega⟩,Below.refl _ _⟩
    case round=>
     obtain ⟨low,high,rfl,rfl,hlh,hh4,hl1',hha,hbi⟩:=hrel
     by_cases hgo:low+1<high
     ·obtain ⟨mid,hmid⟩:∃ mid,mid=(low+high) / 2:=⟨_,rfl⟩
      have hm1:low<mid:=by omega
      have hm2:mid<high:=by omega
      have em:((low:Int)+(high:Int)) / 2=(mid:Int):=by omega
      have hgo':(1:Int)<(high:Int) - (low:Int):=by omega
      obtain ⟨w8,hw8⟩:∃ w8,w8=wr.alloc (.cells #[.int .i64 (mid:Int)] 3):=⟨_,rfl⟩
      have h68:Below w6.heap.size w6 w8:=by rw[hw8];exact hbi.alloc hbi.size _
      have hone:RefN w8 (.slice (some ⟨wr.heap.size,0,none⟩) 1 1) mid:=ref_one (by rw[hw8];exact Row.new _ _ _) (by omega) (by omega)
      have CM:=Lib.hid (ref_Mul w8 v _ b mid (HB.out.keep (below_seq hbr6 h68)) hone (by have:=HBL.out;omega) (by rw[tdg_small (by omega) (by omega)];simp))
      have HW8:=Lib.hid hw8
      clear hmid hw8 hone
      go_wp2_with fail
      rw[← HW8.out]
      refine CM.out.mono ?_
      rintro e w9 ⟨x9,rfl,hx9,hb9⟩
      have h69:=below_seq h68 hb9
      have CP0:=ref_Cmp w9 x9 x6 (b*mid) r1 hx9 (HX6.out.keep h69) (Nat.le_trans (tdg_mul_le b mid (by omega)) (by have:=HBL.out;omega)) (by omega)
      clear HW8 CM hx9
      by_cases hle:b*mid≤r1
      ·obtain ⟨cg,hcg,hcg2⟩:=cmpI_le hle
       rw[hcg]at CP0
       have CP:=Lib.hid CP0
       have HH:=Lib.hid (hha.out.low hm1 hm2 hle)
       clear CP0 hcg hle
       go_wp2_with fail
       refine CP.out.mono ?_
       rintro e w' ⟨rfl,rfl⟩
       go_wp2_with fail
       go_roundw
       case rel=>exact ⟨mid,high,rfl,rfl,hm2,hh4,by omega,HH,h69⟩
       case measure=>simp[intOf];omega
      ·have hcg:cmpI (b*mid) r1=1:=cmpI_gt (by omega)
       rw[hcg]at CP0
       have CP:=Lib.hid CP0
       have HH:=Lib.hid (hha.out.high hm1 hm2 (by omega))
       clear CP0 hcg hle
       go_wp2_with fail
       refine CP.out.mono ?_
       rintro e w' ⟨rfl,rfl⟩
       go_wp2_with fail
       go_roundw
       case rel=>exact ⟨low,mid,rfl,rfl,hm1,by omega,hl1',HH,h69⟩
       case measure=>simp[intOf];omega
     ·have hlow:low=r1 / b:=hha.out.done (by have:=H0.out;omega) (by omega)
      have hst:=HST.out
      rw[← hlow]at hst
      have hgo':¬ (1:Int)<(high:Int) - (low:Int):=by omega
      have hqk:=(hrow6.out.keep hbi).cell k
      rw[vals_get .i64 q k (by omega)]at hqk
      have hqf:=(hrow6.out.keep hbi).free k
      generalize q.getD k 0=q0 at hqk
      obtain ⟨w8,hw8⟩:∃ w8,w8=(wr.setCell ⟨w.heap.size,k,none⟩ (.int .i64 (low:Int))).alloc (.cells #[.int .i64 (low:Int)] 3):=⟨_,rfl⟩
      have hszr:w.heap.size+1≤wr.heap.size:=Nat.le_trans hsz6 hbi.size
      have hrow8:Hid (Row w8 w.heap.size 3 (vals .i64 (q.set k low))):=by
       rw[hw8,← vals_set]
       exact Lib.hid (((hrow6.out.keep hbi).set k _).alloc _)
      have hb8:Below w.heap.size w w8:=by
       rw[hw8]
       exact ((hbr6.trans (hbi.mono hbr6.size)).setCell (p:=⟨w.heap.size,k,none⟩) (Nat.le_refl _) _).alloc (by simp[World.setCell];omega) _
      have hsz8:w.heap.size+1≤w8.heap.size:=by rw[hw8];simp[World.setCell];omega
      have hx8:RefN w8 x6 r1:=Ints.aside (HX6.out.keep hbi) hab6 fun bb h1 h2=>by
       rw[hw8]
       exact (Below.heap_alloc _ _ bb (by simpa [World.setCell]using h2)).trans (Below.heap_setCell wr ⟨w.heap.size,k,none⟩ _ bb (by show bb≠w.heap.size;omega))
      have hlow4:low<10000:=by rw[hlow];exact HLT.out
      have hone:RefN w8 (.slice (some ⟨wr.heap.size,0,none⟩) 1 1) low:=ref_one (by
       rw[hw8]
       have:=Row.new (wr.setCell ⟨w.heap.size,k,none⟩ (.int .i64 (low:Int))) 3 #[.int .i64 (low:Int)]
       rwa [show (wr.setCell ⟨w.heap.size,k,none⟩ (.int .i64 (low:Int))).heap.size=wr.heap.size by simp[World.setCell]]at this) (by omega) hlow4
      have CM:=Lib.hid (ref_Mul w8 v _ b low (HB.out.keep hb8) hone (by have:=HBL.out;omega) (by rw[tdg_small (by omega) hlow4];simp))
      have hble:b*low≤r1:=by rw[hlow];exact Nat.mul_div_le r1 b
      have hr1n:r1≠0:=by
       intro e
       rw[e,Nat.zero_div]at hlow
       omega
      have hmod:r1 - b*low=r1 % b:=by
       rw[hlow]
       have:=Nat.div_add_mod r1 b
       omega
      have CS:Hid (∀ w9 x9,Below w8.heap.size w8 w9→RefN w9 x9 (b*low)→Calls Tryz.prog 110 #[x6,x9] w9 (Gives (fun x w'=>RefN w' x (r1 % b)∧Above w9.heap.size x) w9)):=Lib.hid fun w9 x9 h1 h2=>by
       have:=ref_SubA w9 x6 x9 r1 (b*low) (hx8.keep h1) h2 (by omega) hr1n hble
       rwa [hmod]at this
      have hm0:r1 % b % b=r1 % b:=Nat.mod_mod _ _
      have HSTT:=Lib.hid hst
      have HW8:=Lib.hid hw8
      have hlb:(low:Int)<10000:=by omega
      clear hlow hmod hble hone hx8 hw8 hst HST HLT hrow7 hm0 hr1n
      go_wp2_with fail
      rw[← HW8.out]
      refine CM.out.mono ?_
      rintro e w9 ⟨x9,rfl,hx9,hb9⟩
      have CSS:=Lib.hid (CS.out w9 x9 hb9 hx9)
      clear CS CM HW8 hx9
      go_wp2_with fail
      refine CSS.out.mono ?_
      rintro e w10 ⟨x10,rfl,⟨hx10,hab10⟩,hb10⟩
      have h810:=below_seq hb9 hb10
      have HX10:=Lib.hid hx10
      clear CSS hx10
      go_wp2_with fail
      go_roundw
      case rel=>exact ⟨k,q.set k low,r1 % b,by go_num,by omega,below_seq hb8 h810,Lib.hid (hrow8.out.keep h810),HSTT,⟨HX10.out,hab10.mono (Nat.le_trans hsz8 hb9.size)⟩,Nat.le_trans hsz8 h810.size⟩
      case measure=>simp[intOf]
end Go.Proofs.YtbdfhnelmojbpaaGreatDoor
end
section
namespace Vic
open Go Go.RowKit
def refOf (w:World):Value→Nat
 | .slice (some q) l _=>val 10000 ((List.range l).map fun i=>match w.cell? ⟨q.block,q.off+i,none⟩with|some (.int _ d)=>d.toNat|_=>0)
 | _=>0
theorem refOf_eq {w:World}{v:Value}{n:Nat}(h:RefN w v n):refOf w v=n:=by
 have hv:val 10000 (tdg n)=n:=val_digs (by omega) n
 obtain ⟨A,c,rfl,hlc,hcell⟩:=h
 rcases A with _|q
 ·rcases Nat.eq_zero_or_pos (tdg n).length with h0|h0
  ·have:tdg n = []:=List.eq_nil_of_length_eq_zero h0
   rw[this]at hv
   exact hv
  ·obtain ⟨_,_,h1,_⟩:=hcell 0 h0
   cases h1
 ·have e:((List.range (tdg n).length).map fun i=>match w.cell? ⟨q.block,q.off+i,none⟩with|some (.int _ d)=>d.toNat|_=>0)=tdg n:=by
   apply List.ext_getElem
   ·simp
   ·intro i h1 h2
    obtain ⟨b',o',hq,hi⟩:=hcell i h2
    injection hq with hq
    subst hq
    simp[hi,h2]
  show val 10000 _=_
  rw[e,hv]
theorem tdg_zero:tdg 0 = []:=digs_zero _
theorem tdg_pos {n:Nat}(h:n≠0):0<(tdg n).length:=by
 rcases Nat.eq_zero_or_pos (tdg n).length with h1|h1
 ·exact absurd ((digs_eq_nil (B:=10000) (by omega)).1 (List.eq_nil_of_length_eq_zero h1)) h
 ·exact h1
end Vic
namespace Go.Proofs.YtbdfhnelmojbpaaGreatDoor
open Go.RowKit Vic
set_option maxRecDepth 100000 in
set_option maxHeartbeats 4000000 in
theorem ref_Gcd (w:World) (u v:Value) (a b:Nat) (ha:RefN w u a) (hb:RefN w v b) (hal:(tdg a).length≤100000) (hbl:(tdg b).length≤100000) :
 Calls Tryz.prog 39 #[u,v] w (Gives (fun x w'=>RefN w' x (Nat.gcd a b)) w):=by
 have HA:=Lib.hid ha;have HB:=Lib.hid hb
 obtain ⟨G,hG⟩:∃ G,G=Nat.gcd a b:=⟨_,rfl⟩
 rw[← hG]
 have HG:=Lib.hid hG
 clear ha hb hG
 go_enter Tryz.func39,Tryz.ntmps39
 go_wp2_with fail
 go_loopw [0,1] (fun s t wr=>∃ (x y:Nat),Hid (RefN wr s x)∧RefN wr t y∧Hid (G=Nat.gcd x y)∧(tdg x).length≤100000∧(tdg y).length≤100000∧Below w.heap.size w wr) (fun _ t wr=>refOf wr t)
 case atStart=>exact ⟨a,b,HA,HB.out,HG,hal,hbl,Below.refl _ _⟩
 case round=>
  obtain ⟨x,y,hx,hy,hg,hxl,hyl,hbr⟩:=hrel
  have hy0:=hy
  have HY:=Lib.hid hy
  have hmo:=Lib.hid (refOf_eq hy)
  obtain ⟨A1,c1,he,_⟩:=hy.open_
  subst he
  clear hy hy0
  by_cases h0:y=0
  ·have hge:Hid (G=x):=by rw[hg.out,h0,Nat.gcd_zero_right];exact Lib.hid rfl
   subst h0
   rw[tdg_zero]at *
   clear hmo hg
   go_wp2_with fail
   go_ret
   exact ⟨_,rfl,by rw[hge.out];exact hx.out,hbr⟩
  ·have hp:=tdg_pos h0
   have CD:=Lib.hid (ref_Div wr u0 _ x y hx.out HY.out hxl hyl h0)
   have hge:Hid (G=Nat.gcd y (x % y)):=by rw[hg.out,Nat.gcd_comm,Nat.gcd_rec,Nat.gcd_comm];exact Lib.hid rfl
   have hml:Hid ((tdg (x % y)).length≤100000):=Lib.hid (Nat.le_trans (tdg_le (Nat.le_of_lt (Nat.mod_lt _ (by omega)))) hyl)
   have hlt:Hid (x % y<y):=Lib.hid (Nat.mod_lt _ (by omega))
   unfold RefParted at CD
   clear hg
   go_wp2_with fail
   refine CD.out.mono ?_
   rintro e w2 ⟨q2,r2,rfl,hq2,hr2,hb2⟩
   have HR2:=Lib.hid hr2
   clear hr2 hq2
   go_wp2_with fail
   go_roundw
   case rel=>exact ⟨y,x % y,Lib.hid (HY.out.keep hb2),HR2.out,hge,hyl,hml.out,hbr.trans (hb2.mono hbr.size)⟩
   case measure=>rw[refOf_eq HR2.out,hmo.out];exact hlt.out
end Go.Proofs.YtbdfhnelmojbpaaGreatDoor
end
section
namespace Vic
open Go Go.RowKit
def RefQ (w:World) (v:Value) (ng:Bool) (n d:Nat):Prop:=∃ x y,v=.agg #[.bool ng,x,y]∧RefN w x n∧RefN w y d∧(ng=true→n≠0)
theorem RefQ.keep {w w':World}{v:Value}{ng:Bool}{n d:Nat}(h:RefQ w v ng n d) (hb:Below w.heap.size w w'):RefQ w' v ng n d:=by
 obtain ⟨x,y,h1,h2,h3,h4⟩:=h
 exact ⟨x,y,h1,h2.keep hb,h3.keep hb,h4⟩
theorem Ints.rowfar {k:IntKind}{w:World}{v:Value}{l:List Nat}{g:Nat}{t:TypeId}{cs:Array Value}(h:Ints k w v l) (hr:Row w g t cs) (hc:∀ (i:Nat) (x:Int),cs[i]?≠some (.int k x)) {w':World}(hO:Only g w w'):Ints k w' v l:=by
 obtain ⟨A,c,h1,h2,h3⟩:=h
 refine ⟨A,c,h1,h2,fun i hi=>?_⟩
 obtain ⟨b,o,hA,hcl⟩:=h3 i hi
 refine ⟨b,o,hA,?_⟩
 by_cases e:b=g
 ·subst e
  rw[hr.cell]at hcl
  exact absurd hcl (hc _ _)
 ·rw[hO.cell e];exact hcl
end Vic
namespace Go.Proofs.YtbdfhnelmojbpaaGreatDoor
open Go.RowKit Vic
set_option maxRecDepth 100000 in
set_option maxHeartbeats 4000000 in
theorem ref_Frac (w:World) (ng:Bool) (u v:Value) (n d:Nat) (hn:RefN w u n) (hd:RefN w v d) :
 Calls Tryz.prog 37 #[.bool ng,u,v] w (Gives (fun x w'=>RefQ w' x (ng && decide (n≠0)) n d) w):=by
 obtain ⟨A,c,rfl,hA⟩:=hn.open_
 obtain ⟨A2,c2,rfl,hA2⟩:=hd.open_
 have hb:Hid ((0<(tdg n).length)↔n≠0):=Lib.hid ⟨fun h e=>by rw[e,tdg_zero]at h;simp at h,fun h=>tdg_pos h⟩
 clear hn hd
 have hsz:(Tryz.prog.info? 49).map (·.size)=some 3:=by kernel_rfl
 have h01:∀ cs,Below w.heap.size w (w.alloc (.cells cs 49)):=fun cs=>(Below.refl _ _).alloc (Nat.le_refl _) _
 have HA:=Lib.hid hA;have HA2:=Lib.hid hA2;have H01:=Lib.hid h01
 clear hA hA2 h01
 cases ng
 ·go_enter Tryz.func37,Tryz.ntmps37
  go_wp2_with fail
  refine bodyPost_ret (v:=.agg #[.bool false,.slice A (tdg n).length c,.slice A2 (tdg d).length c2]) (results_cell_row (p:=6) (ty:=49) Tryz.results37 _ _ w.heap.size 49 #[.bool false,.slice A (tdg n).length c,.slice A2 (tdg d).length c2] (0,0) _ (by simp[go_sem]) (heap_alloc_new _ _) Tryz.underlying49 rfl hsz) rfl ?_
  exact ⟨_,rfl,⟨_,_,rfl,Ints.keep HA.out (H01.out _),Ints.keep HA2.out (H01.out _),fun h=>by cases h⟩,H01.out _⟩
 ·obtain ⟨bb,hbb⟩:∃ bb,bb=decide (0<(tdg n).length):=⟨_,rfl⟩
  have hbn:Hid (bb=(true && decide (n≠0))):=Lib.hid (by rw[hbb,Bool.true_and];exact decide_eq_decide.2 hb.out)
  have hbq:=hbb.symm
  clear hbb
  go_enter Tryz.func37,Tryz.ntmps37
  go_wp2_with fail
  refine bodyPost_ret (v:=.agg #[.bool bb,.slice A (tdg n).length c,.slice A2 (tdg d).length c2]) (results_cell_row (p:=6) (ty:=49) Tryz.results37 _ _ w.heap.size 49 #[.bool bb,.slice A (tdg n).length c,.slice A2 (tdg d).length c2] (0,0) _ (by simp[go_sem]) (heap_alloc_new _ _) Tryz.underlying49 rfl hsz) rfl ?_
  exact ⟨_,rfl,⟨_,_,by rw[← hbn.out],Ints.keep HA.out (H01.out _),Ints.keep HA2.out (H01.out _),fun h=>by simpa using h⟩,H01.out _⟩
end Go.Proofs.YtbdfhnelmojbpaaGreatDoor
end
section
namespace Vic
open Go Go.RowKit
theorem tdg_top {n:Nat}(h:n≠0):0<(tdg n).getD ((tdg n).length - 1) 0:=by
 have h1:=digs_norm (B:=10000) (by omega) n
 have h2:=tdg_pos h
 rcases Nat.eq_zero_or_pos ((tdg n).getD ((tdg n).length - 1) 0)with h3|h3
 ·exfalso
  apply h1
  show (tdg n).getLast?=some 0
  rw[List.getLast?_eq_getElem?]
  rw[List.getD_eq_getElem?_getD,List.getElem?_eq_getElem (by omega),Option.getD_some]at h3
  rw[List.getElem?_eq_getElem (by omega),h3]
 ·exact h3
theorem txt_done (n i:Nat) (hi:i+1=(tdg n).length):Lib.decDigits n=Lib.decDigits ((tdg n).getD i 0) ++ txt ((tdg n).take i):=by
 have hn:n≠0:=fun e=>by rw[e,tdg_zero]at hi;simp at hi
 have h0:=tdg_top hn
 rw[show (tdg n).length - 1=i by omega]at h0
 have hd:=dig_take (digs_dig (B:=10000) (by omega) n) i
 have h1:=dec_txt ((tdg n).take i) hd _ h0
 have hlen:((tdg n).take i).length=i:=by rw[List.length_take];omega
 have h2:=val_take_step 10000 (tdg n) i
 rw[val_take_all _ _ _ (by omega),val_digs (by omega)]at h2
 rw[hlen,← h2]at h1
 exact h1
end Vic
namespace Go.Proofs.YtbdfhnelmojbpaaGreatDoor
open Go.RowKit Vic
set_option maxRecDepth 100000 in
set_option maxHeartbeats 4000000 in
theorem ref_N_Text (w:World) (v:Value) (n:Nat) (h:RefN w v n) (hl:(tdg n).length≤100000) :
 Calls Tryz.prog 90 #[v] w (Keeps (.string ⟨(Lib.decDigits n).toArray⟩) w):=by
 obtain ⟨A,c,rfl,hA⟩:=h.open_
 clear h
 by_cases hn:n=0
 ·subst hn
  rw[tdg_zero]at *
  have hd:Hid (Lib.decDigits 0 = [48]):=Lib.hid (by rw[dec_small (by omega)];rfl)
  go_enter Tryz.func90,Tryz.ntmps90
  go_wp2_with fail
  go_ret
  exact ⟨by rw[hd.out];rfl,Below.refl _ _⟩
 ·have hpos:=tdg_pos hn
  have HTD:Hid (∀ i,i+1=(tdg n).length→Lib.decDigits n=Lib.decDigits ((tdg n).getD i 0) ++ txt ((tdg n).take i)):=Lib.hid (txt_done n)
  have HTOP:=Lib.hid (tdg_top hn)
  have HDG:Hid (dig 10000 (tdg n)):=Lib.hid (digs_dig (by omega) n)
  have HTT:Hid (∀ i,i<(tdg n).length→txt ((tdg n).take (i+1))=pad 4 ((tdg n).getD i 0) ++ txt ((tdg n).take i)):=Lib.hid (txt_take (tdg n))
  generalize tdg n=l at *
  obtain ⟨T,hT⟩:∃ T,T=Lib.decDigits n:=⟨_,rfl⟩
  rw[← hT]at HTD ⊢
  clear hT hn
  go_enter Tryz.func90,Tryz.ntmps90
  go_wp2_with fail
  go_loopw [4,3] (fun t s wr=>∃ (i:Nat) (bs:List UInt8),t=.int .i64 i∧i≤l.length∧s=.string ⟨bs.toArray⟩∧Hid (bs=if i<l.length then txt (l.take i)else T)∧Below w.heap.size w wr) (fun t _ _=>l.length - (intOf t).toNat)
  case atStart=>exact ⟨0,[],rfl,by omega,rfl,by show _=_;rw[if_pos hpos];rfl,Below.refl _ _⟩
  case round=>
   obtain ⟨i,bs,rfl,hi,rfl,hbs,hbr⟩:=hrel
   by_cases hlt:i<l.length
   ·obtain ⟨b1,o1,rfl,hc1⟩:=(Ints.keep hA hbr).at_ i hlt
    have hD:=dig_getD HDG.out (by omega) i
    have hbs1:=Lib.hid hbs.out
    rw[if_pos hlt]at hbs1
    have hnext:Hid (∀ k,k≠0→(i+1=l.length→0<l.getD i 0 / 10 ^ (k - 1))→(i+1=l.length→l.getD i 0 / 10 ^ k=0)→(i+1<l.length→k=4)→pad k (l.getD i 0) ++ bs=if i+1<l.length then txt (l.take (i+1))else T):=Lib.hid fun k hk h1 h2 h3=>by
     rw[hbs1.out]
     by_cases h5:i+1<l.length
     ·rw[if_pos h5,h3 h5,HTT.out i hlt]
     ·rw[if_neg h5,HTD.out i (by omega)]
      obtain ⟨k',rfl⟩:∃ k',k=k'+1:=⟨k - 1,by omega⟩
      have h6:=h1 (by omega)
      simp only[Nat.add_sub_cancel]at h6
      rw[pad_top k' _ h6 (h2 (by omega))]
    have hD0:Hid (i+1=l.length→0<l.getD i 0):=Lib.hid fun h=>by
     have:=HTOP.out
     rwa [show l.length - 1=i by omega]at this
    have hbsl:bs.length≤400000:=by
     rw[hbs1.out,txt_length,List.length_take];omega
    generalize l.getD i 0=D at *
    clear hbs
    go_wp2_with fail
    go_loopw [6,5,3] (fun t u s wr=>∃ (k d:Nat) (cs:List UInt8),t=.int .i64 k∧k≤4∧u=.int .i64 d∧Hid (d=D / 10 ^ k)∧d<10000∧s=.string ⟨cs.toArray⟩∧Hid (cs=pad k D ++ bs)∧Hid (i+1=l.length→k≠0→0<D / 10 ^ (k - 1))∧Below w.heap.size w wr) (fun t _ _ _=>4 - (intOf t).toNat)
    case atStart=>exact ⟨0,D,bs,rfl,by omega,rfl,by show _=_;simp,hD,rfl,by show _=_;rfl,fun _ h=>absurd rfl h,hbr⟩
    case round=>
     clear hbr hc1
     obtain ⟨k,d,cs,rfl,hk,rfl,hd,hd4,rfl,hcs,hk0,hbr⟩:=hrel
     have hlast:Hid (i+1=l.length→k=4∨d=0→pad k D ++ bs=T):=Lib.hid fun h1 h2=>by
      have h0:=hD0.out h1
      have hk1:k≠0:=fun e=>by
       subst e
       have:=hd.out
       simp at this
       omega
      have h5:=hnext.out k hk1 (fun _=>hk0.out h1 hk1) (fun _=>by
       rcases h2 with h2|h2
       ·rw[h2];exact Nat.div_eq_of_lt (by omega)
       ·rw[← hd.out];exact h2) (fun h=>by omega)
      rwa [if_neg (by omega)]at h5
     have hcl:cs.length≤400004:=by rw[hcs.out,List.length_append,pad_length];omega
     by_cases hk4:k<4
     ·by_cases hbrk:i+1=l.length∧d=0
      ·have hb1:((i:Int) == (l.length:Int) - 1)=true:=by rw[beq_iff_eq];omega
       obtain ⟨hb2,hb3⟩:=hbrk
       have HL:=Lib.hid (hcs.out.trans (hlast.out hb2 (.inr hb3)))
       subst hb3
       clear hlast hnext hk0 hd hcs
       go_wp2_with fail
       go_roundw
       case rel=>exact ⟨i+1,cs,by go_num,by omega,rfl,by rw[if_neg (by omega)];exact HL,hbr⟩
       case measure=>simp[intOf];omega
      ·have hb1:Hid (((i:Int) == (l.length:Int) - 1)=true→((d:Int) == 0)=false):=Lib.hid fun h=>by
        rw[beq_iff_eq]at h
        rw[beq_eq_false_iff_ne]
        omega
       have hnz:Hid (i+1=l.length→d≠0):=Lib.hid fun h1 h2=>hbrk ⟨h1,h2⟩
       obtain ⟨b,hb⟩:∃ b:UInt8,b=UInt8.ofNat (48+d % 10):=⟨_,rfl⟩
       have hbn:((48:Int)+(d:Int) % 10)=(b.toNat:Int):=by
        rw[hb,byte_dig (Nat.mod_lt _ (by omega))];omega
       have hcs2:Hid (b :: cs=pad (k+1) D ++ bs):=Lib.hid (by rw[pad_front,← hd.out,← hb,hcs.out];rfl)
       obtain ⟨d2,hd2e⟩:∃ d2,d2=d / 10:=⟨_,rfl⟩
       have hd2:Hid (d2=D / 10 ^ (k+1)):=Lib.hid (by rw[hd2e,hd.out,Nat.div_div_eq_div_mul,Nat.pow_succ])
       have hk2:Hid (i+1=l.length→k+1≠0→0<D / 10 ^ (k+1 - 1)):=Lib.hid fun h _=>by
        rw[Nat.add_sub_cancel,← hd.out]
        have:=hnz.out h
        omega
       have hcv:(convert 115 9 (.slice (some ⟨wr.heap.size,0,none⟩) 1 1)).run Tryz.prog (wr.alloc (.cells #[.int .u8 (b.toNat:Int)] 5))=.ok (.string ⟨[b].toArray⟩) (wr.alloc (.cells #[.int .u8 (b.toNat:Int)] 5)):=by
        have:=run_convert_bytes_back (P:=Tryz.prog) (wr.alloc (.cells #[.int .u8 (b.toNat:Int)] 5)) 115 9 5 ⟨wr.heap.size,0,none⟩ 1 [b] (by kernel_rfl) (by kernel_rfl) (by kernel_rfl) (fun j hj=>by
         simp only[List.length_cons,List.length_nil]at hj
         obtain rfl:j=0:=by omega
         rw[show (⟨wr.heap.size,0,none⟩:Addr).add 0=⟨wr.heap.size,0,none⟩ by simp[Addr.add]]
         exact (Row.new _ _ _).cell 0)
        exact this
       have hba:Below w.heap.size w (wr.alloc (.cells #[.int .u8 (b.toNat:Int)] 5)):=hbr.alloc hbr.size _
       have hdd:((d:Int) / 10)=((d2:Nat):Int):=by omega
       have hd10:d2<10000:=by omega
       clear hb hd2e hlast hnext hk0 hd hcs
       by_cases hlst:((i:Int) == (l.length:Int) - 1)=true
       ·have hdz:=hb1.out hlst
        go_wp2_with fail
        go_roundw
        case rel=>exact ⟨k+1,d2,b :: cs,by go_num,by omega,rfl,hd2,hd10,congrArg Value.string (bytes_app [b] cs),hcs2,hk2,hba⟩
        case measure=>simp[intOf];omega
       ·have hlf:((i:Int) == (l.length:Int) - 1)=false:=by simpa using hlst
        clear hlst
        go_wp2_with fail
        go_roundw
        case rel=>exact ⟨k+1,d2,b :: cs,by go_num,by omega,rfl,hd2,hd10,congrArg Value.string (bytes_app [b] cs),hcs2,hk2,hba⟩
        case measure=>simp[intOf];omega
     ·obtain rfl:k=4:=by omega
      have HL:Hid (cs=if i+1<l.length then txt (l.take (i+1))else T):=Lib.hid (by
       rw[hcs.out]
       exact hnext.out 4 (by omega) (fun h=>hk0.out h (by omega)) (fun _=>Nat.div_eq_of_lt (by omega)) (fun _=>rfl))
      clear hlast hnext hk0 hd hcs
      go_wp2_with fail
      go_roundw
      case rel=>exact ⟨i+1,cs,by go_num,by omega,rfl,HL,hbr⟩
      case measure=>simp[intOf];omega
   ·obtain rfl:i=l.length:=by omega
    have hbs1:=Lib.hid hbs.out
    rw[if_neg (by omega)]at hbs1
    clear hbs
    go_wp2_with fail
    go_ret
    exact ⟨by rw[← hbs1.out];rfl,hbr⟩
end Go.Proofs.YtbdfhnelmojbpaaGreatDoor
end
section
namespace Vic
open Go Go.RowKit
theorem quo_text {ng:Bool}{n d:Nat}(hd:d≠0) (hs:ng=true→n≠0) :
 fracText (quo ng n d)=(if ng then [45]else []) ++ Lib.decDigits (n / Nat.gcd n d) ++ (if d / Nat.gcd n d=1 then []else 47 :: Lib.decDigits (d / Nat.gcd n d)):=by
 refine fracText_eq ng _ _ (quo_num hd) (fun h=>?_) (quo_den hd)
 intro e
 have h1:=Nat.gcd_dvd_left n d
 exact hs h (by rw[← Nat.div_mul_cancel h1,e,Nat.zero_mul])
theorem dec_len_tdg {n L:Nat}(h:(tdg n).length≤L):(Lib.decDigits n).length≤4*L+1:=by
 refine dec_len (Nat.lt_of_lt_of_le (lt_pow_digs_length (B:=10000) (by omega) n) ?_)
 have h1:(10000:Nat) ^ (tdg n).length≤10000 ^ L:=Nat.pow_le_pow_right (by omega) h
 have h2:(10000:Nat) ^ L=10 ^ (4*L):=by rw[show (10000:Nat)=10 ^ 4 by rfl,← Nat.pow_mul]
 have h3:(10:Nat) ^ (4*L)≤10 ^ (4*L+1):=Nat.pow_le_pow_right (by omega) (by omega)
 show 10000 ^ (tdg n).length≤_
 omega
theorem tdg_one:tdg 1 = [1]:=tdg_small (by omega) (by omega)
theorem RefQ.open_ {w:World}{v:Value}{ng:Bool}{n d:Nat}(h:RefQ w v ng n d) :
 ∃ A1 c1 A2 c2,v=.agg #[.bool ng,.slice A1 (tdg n).length c1,.slice A2 (tdg d).length c2]∧RefN w (.slice A1 (tdg n).length c1) n∧RefN w (.slice A2 (tdg d).length c2) d∧(ng=true→n≠0):=by
 obtain ⟨x,y,rfl,hx,hy,hs⟩:=h
 obtain ⟨A1,c1,rfl,h1⟩:=hx.open_
 obtain ⟨A2,c2,rfl,h2⟩:=hy.open_
 exact ⟨A1,c1,A2,c2,rfl,h1,h2,hs⟩
theorem qrow_far (ng:Bool) (a b:Value) (ha:∀ k x,a≠.int k x) (hb:∀ k x,b≠.int k x) (k:IntKind) (i:Nat) (x:Int):(#[.bool ng,a,b]:Array Value)[i]?≠some (.int k x):=by
 match i with
 | 0=>simp
 | 1=>simpa using ha k x
 | 2=>simpa using hb k x
 | i+3=>simp
end Vic
namespace Go.Proofs.YtbdfhnelmojbpaaGreatDoor
open Go.RowKit Vic
set_option maxRecDepth 100000 in
set_option maxHeartbeats 4000000 in
theorem ref_Q_Low (w:World) (v:Value) (ng:Bool) (n d:Nat) (h:RefQ w v ng n d) (hd:d≠0) (hnl:(tdg n).length≤100000) (hdl:(tdg d).length≤100000) :
 Calls Tryz.prog 89 #[v] w (Gives (fun x w'=>RefQ w' x ng (n / Nat.gcd n d) (d / Nat.gcd n d)) w):=by
 obtain ⟨A1,c1,A2,c2,rfl,hx,hy,hs⟩:=h.open_
 obtain ⟨G,hG⟩:∃ G,G=Nat.gcd n d:=⟨_,rfl⟩
 have hG0:G≠0:=by rw[hG];exact Nat.ne_of_gt (Nat.gcd_pos_of_pos_right _ (by omega))
 have hGl:(tdg G).length≤100000:=by rw[hG];exact Nat.le_trans (tdg_le (Nat.gcd_le_right _ (by omega))) hdl
 have CG:Hid (∀ W,Below w.heap.size w W→Calls Tryz.prog 39 #[.slice A1 (tdg n).length c1,.slice A2 (tdg d).length c2] W (Gives (fun x w'=>RefN w' x G) W)):=Lib.hid fun W hW=>by
  rw[hG];exact ref_Gcd W _ _ n d (hx.keep hW) (hy.keep hW) hnl hdl
 have hne:(ng && decide (n / G≠0))=ng:=by
  cases ng
  ·rfl
  ·have h1:=Nat.gcd_dvd_left n d
   rw[← hG]at h1
   have h2:n / G≠0:=fun e=>hs rfl (by rw[← Nat.div_mul_cancel h1,e,Nat.zero_mul])
   simp[h2]
 rw[← hG]
 have HX:=Lib.hid hx;have HY:=Lib.hid hy;have HN:=Lib.hid hne
 obtain ⟨w0,hw0⟩:∃ w0,w0=(w.alloc (.cells #[.bool ng,.slice A1 (tdg n).length c1,.slice A2 (tdg d).length c2] 49)).alloc (.cells #[.bool false,.slice none 0 0,.slice none 0 0] 49):=⟨_,rfl⟩
 have r1:Row w0 w.heap.size 49 #[.bool ng,.slice A1 (tdg n).length c1,.slice A2 (tdg d).length c2]:=by rw[hw0];exact (Row.new _ _ _).alloc _
 have r2:Row w0 (w.heap.size+1) 49 #[.bool false,.slice none 0 0,.slice none 0 0]:=by
  rw[hw0]
  have h:=Row.new (w.alloc (.cells #[.bool ng,.slice A1 (tdg n).length c1,.slice A2 (tdg d).length c2] 49)) 49 #[.bool false,.slice none 0 0,.slice none 0 0]
  simpa using h
 have b0:Below w.heap.size w w0:=by rw[hw0];exact ((Below.refl _ _).alloc (Nat.le_refl _) _).alloc (by simp) _
 have R1:=Lib.hid r1;have R2:=Lib.hid r2;have W0:=Lib.hid hw0
 clear hx hy hne hs hG h r1 r2 hw0
 go_enter Tryz.func89,Tryz.ntmps89
 go_wp2_with fail
 rw[← W0.out]
 refine (CG.out _ b0).mono ?_
 rintro e w1 ⟨g,rfl,hg,hb1⟩
 have B1:=below_seq b0 hb1
 have CD1:=Lib.hid (ref_Div w1 _ g n G (HX.out.keep B1) hg hnl hGl hG0)
 have HGv:=Lib.hid hg
 have k1:=(Row.keep R1.out hb1).cell 1
 clear CG hg
 go_wp2_with fail
 refine CD1.out.mono ?_
 rintro e w2 ⟨q2,r2,rfl,hq2,_,hb2⟩
 have B2:=below_seq B1 hb2
 have CD2:=Lib.hid (ref_Div w2 _ g d G (HY.out.keep B2) (HGv.out.keep hb2) hdl hGl hG0)
 have HQ2:=Lib.hid hq2
 have k2:=(Row.keep R1.out (below_seq hb1 hb2)).cell 2
 clear CD1 hq2 k1
 go_wp2_with fail
 refine CD2.out.mono ?_
 rintro e w3 ⟨q3,r3,rfl,hq3,_,hb3⟩
 have CF:=ref_Frac w3 ng q2 q3 (n / G) (d / G) (HQ2.out.keep hb3) hq3
 rw[HN.out]at CF
 have CF':=Lib.hid CF
 have B3:=below_seq B2 hb3
 have y3:=below_seq hb1 (below_seq hb2 hb3)
 have k3:=(Row.keep R1.out y3).cell 0
 clear CD2 hq3 CF k2
 go_wp2_with fail
 refine CF'.out.mono ?_
 rintro e w4 ⟨z,rfl,hz,hb4⟩
 obtain ⟨A3,c3,A4,c4,rfl,hx4,hy4,hs4⟩:=hz.open_
 have hrow:=Row.keep R2.out (below_seq y3 hb4)
 have B4:=below_seq B3 hb4
 obtain ⟨w9,hw9⟩:∃ w9,w9=((w4.setCell ⟨w.heap.size+1,0,none⟩ (.bool ng)).setCell ⟨w.heap.size+1,1,none⟩ (.slice A3 (tdg (n / G)).length c3)).setCell ⟨w.heap.size+1,2,none⟩ (.slice A4 (tdg (d / G)).length c4):=⟨_,rfl⟩
 have hO:Only (w.heap.size+1) w4 w9:=by rw[hw9];exact (((Only.refl _ _).setCell 0 _).setCell 1 _).setCell 2 _
 have hcs:=qrow_far false (.slice none 0 0) (.slice none 0 0) (fun _ _ h=>by cases h) (fun _ _ h=>by cases h)
 have K8:=Lib.hid (Ints.rowfar hx4 hrow (hcs _) hO)
 have K9:=Lib.hid (Ints.rowfar hy4 hrow (hcs _) hO)
 have KB:Below w.heap.size w w9:=B4.trans (hO.below (Nat.le_succ _))
 have KR:Hid (w9.heap[w.heap.size+1]?=some (.cells #[.bool ng,.slice A3 (tdg (n / G)).length c3,.slice A4 (tdg (d / G)).length c4] 49 (0,0))):=Lib.hid (by
  rw[hw9]
  exact Row.set (Row.set (Row.set hrow 0 (.bool ng)) 1 _) 2 _)
 have hsz:(Tryz.prog.info? 49).map (·.size)=some 3:=by kernel_rfl
 have q0:=hrow.cell 0;have q1:=hrow.cell 1;have q2:=hrow.cell 2
 have f0:=hrow.free 0;have f1:=hrow.free 1;have f2:=hrow.free 2
 have HW9:=Lib.hid hw9
 clear hx4 hy4 CF' hrow hcs hO hw9 k3 hz
 go_wp2_with fail
 rw[← HW9.out]
 refine bodyPost_ret (v:=.agg #[.bool ng,.slice A3 (tdg (n / G)).length c3,.slice A4 (tdg (d / G)).length c4]) (results_cell_row (p:=2) (ty:=49) Tryz.results89 _ _ (w.heap.size+1) 49 #[.bool ng,.slice A3 (tdg (n / G)).length c3,.slice A4 (tdg (d / G)).length c4] (0,0) _ (by simp[go_sem]) KR.out Tryz.underlying49 rfl hsz) rfl ?_
 exact ⟨_,rfl,⟨_,_,rfl,K8.out,K9.out,hs4⟩,KB⟩
set_option maxRecDepth 100000 in
set_option maxHeartbeats 4000000 in
theorem ref_Q_Text (w:World) (v:Value) (ng:Bool) (n d:Nat) (h:RefQ w v ng n d) (hd:d≠0) (hnl:(tdg n).length≤100000) (hdl:(tdg d).length≤100000) :
 Calls Tryz.prog 29 #[v] w (Keeps (.string ⟨(fracText (quo ng n d)).toArray⟩) w):=by
 obtain ⟨A1,c1,A2,c2,rfl,hx,hy,hs⟩:=h.open_
 rw[quo_text hd hs]
 have CL:Hid (∀ W,Below w.heap.size w W→Calls Tryz.prog 89 #[.agg #[.bool ng,.slice A1 (tdg n).length c1,.slice A2 (tdg d).length c2]] W (Gives (fun x w'=>RefQ w' x ng (n / Nat.gcd n d) (d / Nat.gcd n d)) W)):=Lib.hid fun W hW=>ref_Q_Low W _ ng n d (h.keep hW) hd (by omega) (by omega)
 obtain ⟨G,hG⟩:∃ G,G=Nat.gcd n d:=⟨_,rfl⟩
 rw[← hG]at CL ⊢
 have hN:(tdg (n / G)).length≤100000:=Nat.le_trans (tdg_le (Nat.div_le_self _ _)) hnl
 have hD:(tdg (d / G)).length≤100000:=Nat.le_trans (tdg_le (Nat.div_le_self _ _)) hdl
 have hd1:d / G≠0:=by
  have h1:=Nat.gcd_dvd_right n d
  rw[← hG]at h1
  exact fun e=>hd (by rw[← Nat.div_mul_cancel h1,e,Nat.zero_mul])
 obtain ⟨p,hp⟩:∃ p,p=n / G:=⟨_,rfl⟩
 obtain ⟨q,hq⟩:∃ q,q=d / G:=⟨_,rfl⟩
 rw[← hp]at CL hN ⊢
 rw[← hq]at CL hD hd1 ⊢
 obtain ⟨w0,hw0⟩:∃ w0,w0=w.alloc (.cells #[.bool ng,.slice A1 (tdg n).length c1,.slice A2 (tdg d).length c2] 49):=⟨_,rfl⟩
 have r1:Row w0 w.heap.size 49 #[.bool ng,.slice A1 (tdg n).length c1,.slice A2 (tdg d).length c2]:=by rw[hw0];exact Row.new _ _ _
 have b0:Below w.heap.size w w0:=by rw[hw0];exact (Below.refl _ _).alloc (Nat.le_refl _) _
 have hsz:(Tryz.prog.info? 49).map (·.size)=some 3:=by kernel_rfl
 have R1:=Lib.hid r1;have W0:=Lib.hid hw0;have HS:=Lib.hid hs
 obtain ⟨X,hX⟩:∃ X,X=(if ng then [45]else []) ++ Lib.decDigits p ++ (if q=1 then []else 47 :: Lib.decDigits q):=⟨_,rfl⟩
 rw[← hX]
 have HXX:=Lib.hid hX
 clear hs hG hp hq hx hy h r1 hw0 hX
 go_enter Tryz.func29,Tryz.ntmps29
 go_wp2_with fail
 rw[← W0.out]
 refine (CL.out _ b0).mono ?_
 rintro e w1 ⟨z,rfl,hz,hb1⟩
 obtain ⟨A3,c3,A4,c4,rfl,hx,hy,hs3⟩:=hz.open_
 have hrow:=Row.keep R1.out hb1
 obtain ⟨w2,hw2⟩:∃ w2,w2=((w1.setCell ⟨w.heap.size,0,none⟩ (.bool ng)).setCell ⟨w.heap.size,1,none⟩ (.slice A3 (tdg p).length c3)).setCell ⟨w.heap.size,2,none⟩ (.slice A4 (tdg q).length c4):=⟨_,rfl⟩
 have hO:Only w.heap.size w1 w2:=by rw[hw2];exact (((Only.refl _ _).setCell 0 _).setCell 1 _).setCell 2 _
 have hcs:=qrow_far ng (.slice A1 (tdg n).length c1) (.slice A2 (tdg d).length c2) (fun _ _ h=>by cases h) (fun _ _ h=>by cases h)
 have K8:=Lib.hid (Ints.rowfar hx hrow (hcs _) hO)
 have K9:=Lib.hid (Ints.rowfar hy hrow (hcs _) hO)
 have KB:Below w.heap.size w w2:=(below_seq b0 hb1).trans (hO.below (Nat.le_refl _))
 have KR0:Row w2 w.heap.size 49 #[.bool ng,.slice A3 (tdg p).length c3,.slice A4 (tdg q).length c4]:=by
  rw[hw2]
  exact Row.set (Row.set (Row.set hrow 0 (.bool ng)) 1 _) 2 _
 have KR:=Lib.hid KR0
 have q0:=hrow.cell 0;have q1:=hrow.cell 1;have q2:=hrow.cell 2
 have f0:=hrow.free 0;have f1:=hrow.free 1;have f2:=hrow.free 2
 have g0:=KR0.cell 0;have g1:=KR0.cell 1;have g2:=KR0.cell 2
 rw[hw2]at g0 g1 g2
 have HW2:=Lib.hid hw2
 have CT:=Lib.hid (ref_N_Text w2 _ p K8.out hN)
 clear hx hy CL hrow hcs hO hw2 hz KR0
 go_wp2_with fail
 rw[← HW2.out]
 refine CT.out.mono ?_
 rintro e w5 ⟨rfl,hb5⟩
 have row5:=Row.keep KR.out hb5
 have B5:=KB.trans (hb5.mono KB.size)
 obtain ⟨w6,hw6⟩:∃ w6,w6=w5.alloc (.cells #[.int .i64 1] 3):=⟨_,rfl⟩
 have h56:Below w5.heap.size w5 w6:=by rw[hw6];exact (Below.refl _ _).alloc (Nat.le_refl _) _
 have h26:=below_seq hb5 h56
 have hone:RefN w6 (.slice (some ⟨w5.heap.size,0,none⟩) 1 1) 1:=ref_one (d:=1) (by rw[hw6];exact Row.new _ _ _) (by omega) (by omega)
 have CC0:=ref_Cmp w6 _ _ q 1 (RefN.keep K9.out h26) hone (by omega) (by rw[tdg_one];simp)
 have CT2:=Lib.hid (ref_N_Text w6 _ q (RefN.keep K9.out h26) hD)
 have row6:=Row.keep row5 h56
 have B6:=B5.trans (h56.mono B5.size)
 have k50:=row5.cell 0;have k52:=row5.cell 2
 have k62:=row6.cell 2
 have HW6:=Lib.hid hw6
 clear q0 q1 q2 f0 f1 f2 g0 g1 g2 HW2 CT row5 row6 hone hw6 h26 K8 K9 KR KB R1 W0 hs3
 by_cases hq1:q=1
 case' pos=>
  rw[cmpI_eq hq1]at CC0
  have CC:=Lib.hid CC0
  have HX2:Hid (X=(if ng then [45]else []) ++ Lib.decDigits p):=Lib.hid (by rw[HXX.out,if_pos hq1,List.append_nil])
 case' neg=>
  rw[cmpI_gt (show 1<q by omega)]at CC0
  have CC:=Lib.hid CC0
  have HX2:Hid (X=(if ng then [45]else []) ++ Lib.decDigits p ++ 47 :: Lib.decDigits q):=Lib.hid (by rw[HXX.out,if_neg hq1])
 all_goals
  obtain ⟨P,hP⟩:∃ P,P=Lib.decDigits p:=⟨_,rfl⟩
  obtain ⟨D,hD2⟩:∃ D,D=Lib.decDigits q:=⟨_,rfl⟩
  have hPl:P.length≤400001:=by rw[hP];exact dec_len_tdg hN
  have hDl:D.length≤400001:=by rw[hD2];exact dec_len_tdg hD
  rw[← hP]at HX2 ⊢
  try rw[← hD2]at HX2
  rw[← hD2]at CT2
  clear CC0 HXX hP hD2 hq1
  have ea:∀ s:List UInt8,(⟨#[45]⟩ ++ ⟨s.toArray⟩:ByteArray)=⟨((45:UInt8) :: s).toArray⟩:=fun s=>bytes_app [45] s
  have eb:∀ s:List UInt8,(⟨#[47]⟩ ++ ⟨s.toArray⟩:ByteArray)=⟨((47:UInt8) :: s).toArray⟩:=fun s=>bytes_app [47] s
  cases ng
  all_goals
   go_wp2_with fail
   rw[← HW6.out]
   refine CC.out.mono ?_
   rintro e w' ⟨rfl,rfl⟩
   go_wp2_with fail
 all_goals first
  | (refine CT2.out.mono ?_
     rintro e w7 ⟨rfl,hb7⟩
     go_wp2_with fail
     go_ret
     exact ⟨by rw[HX2.out];simp[eb,bytes_app],below_seq B6 hb7⟩)
  | (go_ret
     exact ⟨by rw[HX2.out];simp,B6⟩)
set_option maxRecDepth 100000 in
set_option maxHeartbeats 4000000 in
theorem ref_Of (w:World) (x:Int) (h1 : -9223372036854775808≤x) (h2:x≤9223372036854775807) :
 Calls Tryz.prog 11 #[.int .i64 x] w (Gives (fun v w'=>RefQ w' v (decide (x<0)) x.natAbs 1) w):=by
 obtain ⟨a,ha⟩:∃ a,a=x.natAbs:=⟨_,rfl⟩
 rw[← ha]
 have ha2:a<18446744073709551616:=by omega
 have CU:=Lib.hid (fun wr=>ref_OfU wr a ha2)
 obtain ⟨w0,hw0⟩:∃ w0,w0=w.alloc (.cells #[.bool false,.slice none 0 0,.slice none 0 0] 49):=⟨_,rfl⟩
 have r1:Row w0 w.heap.size 49 #[.bool false,.slice none 0 0,.slice none 0 0]:=by rw[hw0];exact Row.new _ _ _
 have b0:Below w.heap.size w w0:=by rw[hw0];exact (Below.refl _ _).alloc (Nat.le_refl _) _
 have hsz:(Tryz.prog.info? 49).map (·.size)=some 3:=by kernel_rfl
 have R1:=Lib.hid r1;have W0:=Lib.hid hw0
 clear r1 hw0
 have hclose:∀ (ng:Bool) (w1:World) (v:Value),Below w0.heap.size w0 w1→RefN w1 v a→(ng=true→a≠0)→∃ A c w9,v=.slice A (tdg a).length c ∧
  w9=((((w1.alloc (.cells #[.int .i64 1] 3)).setCell ⟨w.heap.size,0,none⟩ (.bool ng)).setCell ⟨w.heap.size,1,none⟩ (.slice A (tdg a).length c)).setCell ⟨w.heap.size,2,none⟩ (.slice (some ⟨w1.heap.size,0,none⟩) 1 1)) ∧
  w9.heap[w.heap.size]?=some (.cells #[.bool ng,.slice A (tdg a).length c,.slice (some ⟨w1.heap.size,0,none⟩) 1 1] 49 (0,0)) ∧
  RefQ w9 (.agg #[.bool ng,.slice A (tdg a).length c,.slice (some ⟨w1.heap.size,0,none⟩) 1 1]) ng a 1∧Below w.heap.size w w9 ∧
  (w1.alloc (.cells #[.int .i64 1] 3)).cell? ⟨w.heap.size,0,none⟩=some (.bool false)∧(w1.alloc (.cells #[.int .i64 1] 3)).cell? ⟨w.heap.size,1,none⟩=some (.slice none 0 0)∧(w1.alloc (.cells #[.int .i64 1] 3)).cell? ⟨w.heap.size,2,none⟩=some (.slice none 0 0) ∧
  (∀ i,(w1.alloc (.cells #[.int .i64 1] 3)).frozen? ⟨w.heap.size,i,none⟩=false):=by
  intro ng w1 v hb1 hv hs
  obtain ⟨A,c,rfl,hA⟩:=hv.open_
  obtain ⟨w2,hw2⟩:∃ w2,w2=w1.alloc (.cells #[.int .i64 1] 3):=⟨_,rfl⟩
  have h12:Below w1.heap.size w1 w2:=by rw[hw2];exact (Below.refl _ _).alloc (Nat.le_refl _) _
  have hone:RefN w2 (.slice (some ⟨w1.heap.size,0,none⟩) 1 1) 1:=ref_one (d:=1) (by rw[hw2];exact Row.new _ _ _) (by omega) (by omega)
  have y2:=below_seq hb1 h12
  have hrow:=Row.keep R1.out y2
  rw[← hw2]
  obtain ⟨w9,hw9⟩:∃ w9,w9=((w2.setCell ⟨w.heap.size,0,none⟩ (.bool ng)).setCell ⟨w.heap.size,1,none⟩ (.slice A (tdg a).length c)).setCell ⟨w.heap.size,2,none⟩ (.slice (some ⟨w1.heap.size,0,none⟩) 1 1):=⟨_,rfl⟩
  have hO:Only w.heap.size w2 w9:=by rw[hw9];exact (((Only.refl _ _).setCell 0 _).setCell 1 _).setCell 2 _
  have hcs:=qrow_far false (.slice none 0 0) (.slice none 0 0) (fun _ _ h=>by cases h) (fun _ _ h=>by cases h)
  refine ⟨A,c,w9,rfl,hw9,by rw[hw9];exact Row.set (Row.set (Row.set hrow 0 (.bool ng)) 1 _) 2 _,⟨_,_,rfl,Ints.rowfar (Ints.keep hA h12) hrow (hcs _) hO,?_,hs⟩,(below_seq b0 y2).trans (hO.below (Nat.le_refl _)),hrow.cell 0,hrow.cell 1,hrow.cell 2,fun i=>hrow.free i⟩
  exact Ints.rowfar hone hrow (hcs _) hO
 have HC:=Lib.hid hclose
 clear hclose
 by_cases hx:x<0
 ·rw[decide_eq_true hx]
  have e1 : -(x+1)+1=(a:Int):=by omega
  have ha0:a≠0:=by omega
  clear ha
  go_enter Tryz.func11,Tryz.ntmps11
  go_wp2_with fail
  rw[← W0.out]
  refine (CU.out _).mono ?_
  rintro e w1 ⟨v,rfl,hv,hb1⟩
  obtain ⟨A,c,w9,rfl,hw9,hrow9,hq9,hb9,q0,q1,q2,fr⟩:=HC.out true w1 v hb1 hv (fun _=>ha0)
  have f0:=fr 0;have f1:=fr 1;have f2:=fr 2
  have HW9:=Lib.hid hw9;have HR9:=Lib.hid hrow9
  clear fr hw9 hrow9 hv
  go_wp2_with fail
  rw[← HW9.out]
  refine bodyPost_ret (v:=.agg #[.bool true,.slice A (tdg a).length c,.slice (some ⟨w1.heap.size,0,none⟩) 1 1]) (results_cell_row (p:=2) (ty:=49) Tryz.results11 _ _ w.heap.size 49 #[.bool true,.slice A (tdg a).length c,.slice (some ⟨w1.heap.size,0,none⟩) 1 1] (0,0) _ (by simp[go_sem]) HR9.out Tryz.underlying49 rfl hsz) rfl ?_
  exact ⟨_,rfl,hq9,hb9⟩
 ·rw[decide_eq_false hx]
  have e1:IntKind.u64.wrap x=(a:Int):=by simp only[IntKind.wrap_u64];omega
  clear ha
  go_enter Tryz.func11,Tryz.ntmps11
  go_wp2_with fail
  rw[← W0.out]
  refine (CU.out _).mono ?_
  rintro e w1 ⟨v,rfl,hv,hb1⟩
  obtain ⟨A,c,w9,rfl,hw9,hrow9,hq9,hb9,q0,q1,q2,fr⟩:=HC.out false w1 v hb1 hv (fun h=>by cases h)
  have f0:=fr 0;have f1:=fr 1;have f2:=fr 2
  have HW9:=Lib.hid hw9;have HR9:=Lib.hid hrow9
  clear fr hw9 hrow9 hv
  go_wp2_with fail
  rw[← HW9.out]
  refine bodyPost_ret (v:=.agg #[.bool false,.slice A (tdg a).length c,.slice (some ⟨w1.heap.size,0,none⟩) 1 1]) (results_cell_row (p:=2) (ty:=49) Tryz.results11 _ _ w.heap.size 49 #[.bool false,.slice A (tdg a).length c,.slice (some ⟨w1.heap.size,0,none⟩) 1 1] (0,0) _ (by simp[go_sem]) HR9.out Tryz.underlying49 rfl hsz) rfl ?_
  exact ⟨_,rfl,hq9,hb9⟩
end Go.Proofs.YtbdfhnelmojbpaaGreatDoor
end
section
namespace Vic
open Go Go.RowKit
def RefGotQ (l:List UInt8) (w:World) (e:Ending) (w':World):Prop:=
 ∃ v b,e=.returned (.tuple #[v,.bool b])∧Below w.heap.size w w' ∧
   ((b=false∧¬ FracGood l∧∃ g,v=.agg #[.bool false,.slice none 0 0,.slice (some ⟨g,0,none⟩) 1 1])∨(b=true∧FracGood l∧∃ ng n d,RefQ w' v ng n d∧d≠0∧quo ng n d=fracOf l∧(tdg n).length≤600∧(tdg d).length≤600))
theorem good_tdg' {l:List UInt8}(h:GoodNat l):(tdg (numOf 0 l)).length≤600:=by
 obtain ⟨K,hK⟩:∃ K,K=500:=⟨_,rfl⟩
 have h2:=h.2
 have h1:(10:Nat) ^ l.length≤10000 ^ K:=by
  rw[show (10000:Nat)=10 ^ 4 from rfl,← Nat.pow_mul]
  exact Nat.pow_le_pow_right (by omega) (by omega)
 exact Nat.le_trans (tdg_len (Nat.lt_of_lt_of_le (numOf_lt l h.1.2.1) h1)) (by omega)
theorem got_num {l:List UInt8}{w w':World}{e:Ending}(h:RefGot2 l w e w') :
 ∃ A c n b,e=.returned (.tuple #[.slice A (tdg n).length c,.bool b])∧Below w.heap.size w w'∧RefN w' (.slice A (tdg n).length c) n∧(tdg n).length≤600∧((b=false∧¬ GoodNat l)∨(b=true∧GoodNat l∧n=numOf 0 l)):=by
 obtain ⟨x,b,rfl,hb,h⟩:=h
 rcases h with ⟨rfl,hg,rfl⟩|⟨rfl,hg,hx⟩
 ·exact ⟨none,0,0,false,by rw[tdg_zero];rfl,hb,by rw[tdg_zero];exact (by unfold RefN;rw[tdg_zero];exact Ints.nil_ _ _),by rw[tdg_zero];simp,.inl ⟨rfl,hg⟩⟩
 ·obtain ⟨A,c,rfl,h1⟩:=hx.open_
  exact ⟨A,c,numOf 0 l,true,rfl,hb,h1,good_tdg' hg,.inr ⟨rfl,hg,rfl⟩⟩
theorem no_stroke {T:List UInt8}(h:∀ j,j<T.length→T[j]?≠some 47):(47:UInt8)∉T:=fun hm=>by
 obtain ⟨j,hj,e⟩:=List.getElem_of_mem hm
 exact h j hj (by rw[List.getElem?_eq_getElem hj,e])
theorem qno {T tI:TypeId}{w W:World}{b s:Nat}(hs:W.heap.size=s) (hr:Row W b T #[.bool false,.slice none 0 0,.slice none 0 0]) (hB:Below w.heap.size w W) (hb:w.heap.size≤b) :
 ∃ w9,w9=(((W.alloc (.cells #[.int .i64 1] tI)).setCell ⟨b,0,none⟩ (.bool false)).setCell ⟨b,1,none⟩ (.slice none 0 0)).setCell ⟨b,2,none⟩ (.slice (some ⟨s,0,none⟩) 1 1) ∧
   Row w9 b T #[.bool false,.slice none 0 0,.slice (some ⟨s,0,none⟩) 1 1]∧Below w.heap.size w w9 ∧
   (W.alloc (.cells #[.int .i64 1] tI)).cell? ⟨b,0,none⟩=some (.bool false)∧(W.alloc (.cells #[.int .i64 1] tI)).cell? ⟨b,1,none⟩=some (.slice none 0 0)∧(W.alloc (.cells #[.int .i64 1] tI)).cell? ⟨b,2,none⟩=some (.slice none 0 0) ∧
   (W.alloc (.cells #[.int .i64 1] tI)).frozen? ⟨b,0,none⟩=false∧(W.alloc (.cells #[.int .i64 1] tI)).frozen? ⟨b,1,none⟩=false∧(W.alloc (.cells #[.int .i64 1] tI)).frozen? ⟨b,2,none⟩=false:=by
 subst hs
 have h2:=hr.alloc (.cells #[.int .i64 1] tI)
 have hO:Only b (W.alloc (.cells #[.int .i64 1] tI)) ((((W.alloc (.cells #[.int .i64 1] tI)).setCell ⟨b,0,none⟩ (.bool false)).setCell ⟨b,1,none⟩ (.slice none 0 0)).setCell ⟨b,2,none⟩ (.slice (some ⟨W.heap.size,0,none⟩) 1 1)):=(((Only.refl _ _).setCell 0 _).setCell 1 _).setCell 2 _
 exact ⟨_,rfl,Row.set (Row.set (Row.set h2 0 (.bool false)) 1 _) 2 _,(hB.alloc hB.size _).trans (hO.below hb),h2.cell 0,h2.cell 1,h2.cell 2,h2.free 0,h2.free 1,h2.free 2⟩
theorem qyes {T:TypeId}{w W:World}{b g:Nat}{ng:Bool}{A A2:Option Addr}{n m c d m2 c2:Nat}(hr:Row W b T #[.bool false,.slice none 0 0,.slice none 0 0]) (hB:Below w.heap.size w W) (hb:w.heap.size≤b)
 (hg:Row W g T #[.bool ng,.slice A m c,.slice A2 m2 c2]) (hx:RefN W (.slice A m c) n) (hy:RefN W (.slice A2 m2 c2) d) (hs:ng=true→n≠0) :
 ∃ w9,w9=((W.setCell ⟨b,0,none⟩ (.bool ng)).setCell ⟨b,1,none⟩ (.slice A m c)).setCell ⟨b,2,none⟩ (.slice A2 m2 c2) ∧
   Row w9 b T #[.bool ng,.slice A m c,.slice A2 m2 c2]∧RefQ w9 (.agg #[.bool ng,.slice A m c,.slice A2 m2 c2]) ng n d∧Below w.heap.size w w9 ∧
   W.cell? ⟨b,0,none⟩=some (.bool false)∧W.cell? ⟨b,1,none⟩=some (.slice none 0 0)∧W.cell? ⟨b,2,none⟩=some (.slice none 0 0) ∧
   W.frozen? ⟨b,0,none⟩=false∧W.frozen? ⟨b,1,none⟩=false∧W.frozen? ⟨b,2,none⟩=false:=by
 have hO:Only b W (((W.setCell ⟨b,0,none⟩ (.bool ng)).setCell ⟨b,1,none⟩ (.slice A m c)).setCell ⟨b,2,none⟩ (.slice A2 m2 c2)):=(((Only.refl _ _).setCell 0 _).setCell 1 _).setCell 2 _
 have hcs:=qrow_far false (.slice none 0 0) (.slice none 0 0) (fun _ _ h=>by cases h) (fun _ _ h=>by cases h)
 exact ⟨_,rfl,Row.set (Row.set (Row.set hr 0 (.bool ng)) 1 _) 2 _,⟨_,_,rfl,Ints.rowfar hx hr (hcs _) hO,Ints.rowfar hy hr (hcs _) hO,hs⟩,hB.trans (hO.below hb),hr.cell 0,hr.cell 1,hr.cell 2,hr.free 0,hr.free 1,hr.free 2⟩
theorem tdg_len0 (n:Nat):((((tdg n).length:Nat):Int) == 0)=decide (n=0):=by
 by_cases h:n=0
 ·subst h;rw[tdg_zero];rfl
 ·rw[decide_eq_false h,beq_eq_false_iff_ne]
  have:=tdg_pos h
  omega
end Vic
namespace Go.Proofs.YtbdfhnelmojbpaaGreatDoor
open Go.RowKit Vic
theorem res_get (W:World) (b:Nat) (cs:Array Value) (v:Value) (hr:W.heap[b]?=some (.cells cs 49 (0,0))) (hs:cs.size=3) (fn:Func) (h:fn.results=#[.cell 2 49,.tmp 3]) (tm:Array Value)
 (h2:tm.getD 2 undef=.pointer (some ⟨b,0,none⟩)) (h3:tm.getD 3 undef=v):(results fn tm).run Tryz.prog W=.ok (.tuple #[.agg cs,v]) W:=by
 have hsz:(Tryz.prog.info? 49).map (·.size)=some cs.size:=by rw[hs];kernel_rfl
 have h2':tm[2]?.getD undef=.pointer (some ⟨b,0,none⟩):=by simpa using h2
 have h3':tm[3]?.getD undef=v:=by simpa using h3
 simp[results,h,h2',h3',asAddr,run_loadVar_row W b 49 49 _ (0,0) _ hr Tryz.underlying49 rfl hsz]
set_option maxRecDepth 100000 in
set_option maxHeartbeats 2000000 in
theorem ref_GetN3 (w:World) (l:List UInt8):Calls Tryz.prog 36 #[.string ⟨l.toArray⟩] w (RefGot2 l w):=by
 by_cases hlong:2000<l.length
 ·match l,hlong with
  | [],h=>simp at h
  | c :: r,hlong=>
    have hlong':2000<r.length+1:=by simpa using hlong
    go_enter Tryz.func36,Tryz.ntmps36
    go_wp2_with fail
    go_ret2
    exact ⟨_,false,rfl,Below.refl _ _,.inl ⟨rfl,fun h=>by have:=h.2;simp at this;omega,rfl⟩⟩
 ·exact ref_GetN2 w l (by omega)
end Go.Proofs.YtbdfhnelmojbpaaGreatDoor
end
section
namespace Vic
open Go Go.RowKit
theorem qput {T:TypeId}{w W:World}{b:Nat}(v0 v1 v2:Value) (hr:Row W b T #[.bool false,.slice none 0 0,.slice none 0 0]) (hB:Below w.heap.size w W) (hb:w.heap.size≤b) :
 ∃ w9,w9=((W.setCell ⟨b,0,none⟩ v0).setCell ⟨b,1,none⟩ v1).setCell ⟨b,2,none⟩ v2∧Row w9 b T #[v0,v1,v2]∧Below w.heap.size w w9 ∧
   W.cell? ⟨b,0,none⟩=some (.bool false)∧W.cell? ⟨b,1,none⟩=some (.slice none 0 0)∧W.cell? ⟨b,2,none⟩=some (.slice none 0 0) ∧
   W.frozen? ⟨b,0,none⟩=false∧W.frozen? ⟨b,1,none⟩=false∧W.frozen? ⟨b,2,none⟩=false:=by
 have hO:Only b W (((W.setCell ⟨b,0,none⟩ v0).setCell ⟨b,1,none⟩ v1).setCell ⟨b,2,none⟩ v2):=(((Only.refl _ _).setCell 0 _).setCell 1 _).setCell 2 _
 exact ⟨_,rfl,Row.set (Row.set (Row.set hr 0 v0) 1 v1) 2 v2,hB.trans (hO.below hb),hr.cell 0,hr.cell 1,hr.cell 2,hr.free 0,hr.free 1,hr.free 2⟩
end Vic
namespace Go.Proofs.YtbdfhnelmojbpaaGreatDoor
open Go.RowKit Vic
end Go.Proofs.YtbdfhnelmojbpaaGreatDoor
end
