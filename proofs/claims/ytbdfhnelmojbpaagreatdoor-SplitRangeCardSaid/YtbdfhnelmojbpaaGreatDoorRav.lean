/- Package victuallerref1: products. -/
import Derived.Test.YtbdfhnelmojbpaaGreatDoorRau
import Derived.Test.YtbdfhnelmojbpaaGreatDoorRar
import Derived.Deep.RegionHeld
set_option linter.unusedVariables false
set_option linter.unusedSimpArgs false
section
namespace Vic
theorem set_twice {α:Type}(o:List α) (a b:Nat) (s r y:α) (h:a≠b):((o.set a s).set b y).set a r=(o.set a r).set b y:=by
 rw[List.set_comm y r (Ne.symm h),List.set_set]
end Vic
namespace Go.Proofs.YtbdfhnelmojbpaaGreatDoor
open Go.RowKit Vic
set_option maxRecDepth 100000 in
set_option maxHeartbeats 8000000 in
theorem ref_Mul (w:World) (u v:Value) (a b:Nat) (ha:RefN w u a) (hb:RefN w v b) (hal:(tdg a).length≤500000) (hbl:(tdg b).length≤500000) :
 Calls Tryz.prog 108 #[u,v] w (Gives (fun x w'=>RefN w' x (a*b)) w):=by
 obtain ⟨A,c,rfl,hA⟩:=ha.open_
 obtain ⟨A',c',rfl,hB⟩:=hb.open_
 clear ha hb
 have VA:Hid (val 10000 (tdg a)=a):=val_digs (by omega) a
 have VB:Hid (val 10000 (tdg b)=b):=val_digs (by omega) b
 have da:dig 10000 (tdg a):=digs_dig (by omega) a
 have db:dig 10000 (tdg b):=digs_dig (by omega) b
 generalize tdg a=la at *
 generalize tdg b=lb at *
 have hmk:∀ w,(Instr.makeSlice 47 (.int .i64 (la.length+lb.length+1)) (.int .i64 (la.length+lb.length+1))).run Tryz.prog w=.ok (.slice (some ⟨w.heap.size,0,none⟩) (la.length+lb.length+1) (la.length+lb.length+1)) (w.alloc (.cells (vals .i64 (List.replicate (la.length+lb.length+1) 0)) 3)):=fun w=>mk_int _ _ (by omega) (by omega) w
 have DA:=Lib.hid da;have DB:=Lib.hid db
 clear da db
 go_enter Tryz.func108,Tryz.ntmps108
 go_wp2_with fail
 clear hmk
 go_loopw [18] (fun t wr=>∃ (i:Nat) (o:List Nat),t=.int .i64 i∧i≤la.length∧Below w.heap.size w wr∧Hid (Row wr w.heap.size 3 (vals .i64 o))∧Hid (RMul 10000 la lb o i 0)) (fun t _=>la.length - (intOf t).toNat)
 case atStart=>exact ⟨0,_,rfl,by omega,(Below.refl _ _).alloc (Nat.le_refl _) _,Row.new _ _ _,RMul.start 10000 la lb⟩
 case round=>
  obtain ⟨i,o,rfl,hi,hbr,hrow,hm⟩:=hrel
  by_cases hlt:i<la.length
  ·go_wp2_with fail
   obtain ⟨wo,hwo⟩:∃ wo:World,wo=wr:=⟨_,rfl⟩
   go_loopw [23] (fun t wi=>∃ (k:Nat) (o:List Nat),t=.int .i64 k∧k≤lb.length∧Below w.heap.size w wi∧Hid (Row wi w.heap.size 3 (vals .i64 o))∧Hid (RMul 10000 la lb o i k)) (fun t _=>lb.length - (intOf t).toNat)
   case atStart=>exact ⟨0,o,rfl,by omega,hbr,hrow,hm⟩
   case round=>
    clear hrow hm hbr hwo wo
    obtain ⟨k,o,rfl,hk,hbi,hri,hin⟩:=hrel
    by_cases hkl:k<lb.length
    ·have hlen:=hin.out.len
     have hst:=Lib.hid (hin.out.step (by omega) DA.out DB.out hlt hkl)
     obtain ⟨b1,o1,rfl,hc1⟩:=(Ints.keep hA hbi).at_ i hlt
     obtain ⟨b2,o2,rfl,hc2⟩:=(Ints.keep hB hbi).at_ k hkl
     have hp:=dig_getD DA.out (by omega) i
     have hq:=dig_getD DB.out (by omega) k
     have hx:=hin.out.here hkl
     have hy:=hin.out.rest (i+k+1) (fun _=>by omega)
     have hcx:=hri.out.cell (i+k)
     rw[vals_get .i64 o (i+k) (by omega)]at hcx
     have hfx:=hri.out.free (i+k)
     have hyn:Hid (o.getD (i+k+1) 0=(o.set (i+k) (o.getD (i+k) 0+la.getD i 0*lb.getD k 0)).getD (i+k+1) 0):=Lib.hid (set_getD_other _ _ _ _ (by omega)).symm
     generalize la.getD i 0=p at *
     generalize lb.getD k 0=q at *
     obtain ⟨y,hye⟩:∃ y,y=o.getD (i+k+1) 0:=⟨_,rfl⟩
     rw[← hye]at hst hy hyn
     generalize o.getD (i+k) 0=x at *
     have hm1:p*q≤9999*9999:=Nat.mul_le_mul (by omega) (by omega)
     obtain ⟨m,hme⟩:∃ m,m=p*q:=⟨_,rfl⟩
     rw[← hme]at hst hm1 hyn
     have em:((p:Int)*(q:Int))=(m:Int):=by rw[hme];exact (Int.natCast_mul _ _).symm
     have hm2:m≤99980001:=hm1
     obtain ⟨s,hs⟩:∃ s,x+m=s:=⟨_,rfl⟩
     rw[hs]at hst hyn
     have hs1:s≤100100001:=by omega
     have es:((x:Int)+(m:Int))=(s:Int):=by omega
     have hR1:Hid (Row wr w.heap.size 3 (vals .i64 o)→Row (wr.setCell ⟨w.heap.size,i+k,none⟩ (.int .i64 (s:Int))).drew w.heap.size 3 (vals .i64 (o.set (i+k) s))):=Lib.hid fun h=>by
      have:=h.set (i+k) (.int .i64 (s:Int))
      rw[vals_set]at this
      exact this
     clear hm1 hme hye hp hq hx
     go_wp2_with fail
     go_region
     obtain ⟨W1,hW1⟩:∃ W1:World,(wr.setCell ⟨w.heap.size,i+k,none⟩ (.int .i64 (s:Int))).drew=W1:=⟨_,rfl⟩
     rw[hW1]
     have hr1:=Lib.hid (hR1.out hri.out)
     rw[hW1]at hr1
     have hb1:Below w.heap.size w W1:=by rw[← hW1];exact Vic.Below.drewN_ (hbi.setCell (p:=⟨w.heap.size,i+k,none⟩) (Nat.le_refl _) _) 1
     have hcx1:=hr1.out.cell (i+k)
     rw[vals_get .i64 _ (i+k) (by simp;omega),set_getD_same _ _ _ (by omega)]at hcx1
     have hcy1:=hr1.out.cell (i+k+1)
     rw[vals_get .i64 _ (i+k+1) (by simp;omega),← hyn.out]at hcy1
     have hfy1:=hr1.out.free (i+k+1)
     have hfx1:=hr1.out.free (i+k)
     have hv1:=Lib.hid (vals_set .i64 (o.set (i+k) s))
     have hlen1:(o.set (i+k) s).length=la.length+lb.length+1:=by simp[hlen]
     clear hW1 hR1 hcx hfx hri hbi es em hc1 hc2
     obtain ⟨d,hd⟩:∃ d,d=s / 10000:=⟨_,rfl⟩
     obtain ⟨r,hr⟩:∃ r,r=s % 10000:=⟨_,rfl⟩
     obtain ⟨y2,hy2⟩:∃ y2,y2=y+d:=⟨_,rfl⟩
     rw[← hr,← hd,← hy2]at hst
     have ed:((s:Nat):Int) / 10000=((d:Nat):Int):=by omega
     have er:((s:Nat):Int) % 10000=((r:Nat):Int):=by omega
     have ey:((y:Nat):Int)+(d:Int)=((y2:Nat):Int):=by omega
     have hsz:d≤20000:=by omega
     clear hd hr hy2
     have hw0:IntKind.i64.wrap ((k:Int)+1)=((k+1:Nat):Int):=by rw[IntKind.wrap_i64];omega
     have HW0:=Lib.hid hw0
     clear hw0
     go_wp2_with fail
     go_region
     obtain ⟨W2,hW2⟩:∃ W2:World,(W1.setCell ⟨w.heap.size,i+k+1,none⟩ (.int .i64 (y2:Int))).drew=W2:=⟨_,rfl⟩
     rw[hW2]
     have hr2:Hid (Row W2 w.heap.size 3 (vals .i64 ((o.set (i+k) s).set (i+k+1) y2))):=by
      have:=hr1.out.set (i+k+1) (.int .i64 (y2:Int))
      rw[vals_set]at this
      rw[← hW2]
      exact Lib.hid this
     have hb2:Below w.heap.size w W2:=by rw[← hW2];exact Vic.Below.drewN_ (hb1.setCell (p:=⟨w.heap.size,i+k+1,none⟩) (Nat.le_refl _) _) 1
     have hcx2:=hr2.out.cell (i+k)
     rw[vals_get .i64 _ (i+k) (by simp;omega),set_getD_other _ _ _ _ (by omega),set_getD_same _ _ _ (by omega)]at hcx2
     have hfx2:=hr2.out.free (i+k)
     have hr3:Hid (Row (W2.setCell ⟨w.heap.size,i+k,none⟩ (.int .i64 (r:Int))) w.heap.size 3 (vals .i64 ((o.set (i+k) r).set (i+k+1) y2))):=by
      have:=hr2.out.set (i+k) (.int .i64 (r:Int))
      rw[vals_set,set_twice _ _ _ _ _ _ (by omega)]at this
      exact Lib.hid this
     have hb3:Below w.heap.size w (W2.setCell ⟨w.heap.size,i+k,none⟩ (.int .i64 (r:Int))):=hb2.setCell (p:=⟨w.heap.size,i+k,none⟩) (Nat.le_refl _) _
     clear hW2 hr1 hb1 hcx1 hcy1 hfy1 hfx1 hv1 ed ey
     have hw0:=HW0.out
     go_wp2_with fail
     go_roundw
     case rel=>exact ⟨k+1,_,by go_num,by omega,hb3,hr3,hst⟩
     case measure=>simp[intOf];omega
    ·obtain rfl:k=lb.length:=by omega
     have hn:=Lib.hid (hin.out.next hlt)
     have hw0:IntKind.i64.wrap ((i:Int)+1)=((i+1:Nat):Int):=by rw[IntKind.wrap_i64];omega
     go_wp2_with fail
     go_roundw
     case rel=>exact ⟨i+1,_,by go_num,by omega,hbi,hri,hn⟩
     case measure=>simp[intOf];omega
  ·obtain rfl:i=la.length:=by omega
   have hno:=Lib.hid hm.out.norm
   clear hm
   have htop:val 10000 la*val 10000 lb<10000 ^ (la.length+lb.length):=RMul.top (by omega) DA.out DB.out
   have HTOP:=Lib.hid htop
   clear htop hA hB
   go_wp2_with fail
   go_loopw [8] (fun t wi=>∃ (k:Nat) (o:List Nat),t=.int .i64 k∧k+1≤la.length+lb.length+1∧Below w.heap.size w wi∧Hid (Row wi w.heap.size 3 (vals .i64 o))∧Hid (RNorm 10000 (la.length+lb.length+1) o (val 10000 la*val 10000 lb) k)) (fun t _=>la.length+lb.length - (intOf t).toNat)
   case atStart=>exact ⟨0,o,rfl,by omega,hbr,hrow,hno⟩
   case round=>
    clear hrow hno hbr
    obtain ⟨k,o,rfl,hk,hbi,hri,hin⟩:=hrel
    by_cases hkl:k+1<la.length+lb.length+1
    ·have hlen:=hin.out.len
     have hst:=Lib.hid (hin.out.step (by omega) hkl)
     have hx:=hin.out.here
     have hy:=hin.out.high (k+1) (by omega)
     have hcx:=hri.out.cell k
     rw[vals_get .i64 o k (by omega)]at hcx
     have hcy:=hri.out.cell (k+1)
     rw[vals_get .i64 o (k+1) (by omega)]at hcy
     have hfx:=hri.out.free k
     have hfy:=hri.out.free (k+1)
     have hxe:Hid (∀ z,(o.set (k+1) z).getD k 0=o.getD k 0):=Lib.hid fun z=>set_getD_other _ _ _ _ (by omega)
     generalize o.getD (k+1) 0=y at *
     generalize o.getD k 0=x at *
     obtain ⟨d,hd⟩:∃ d,d=x / 10000:=⟨_,rfl⟩
     obtain ⟨r,hr⟩:∃ r,r=x % 10000:=⟨_,rfl⟩
     obtain ⟨y2,hy2⟩:∃ y2,y2=y+d:=⟨_,rfl⟩
     rw[← hr,← hd,← hy2]at hst
     have ed:((x:Nat):Int) / 10000=((d:Nat):Int):=by omega
     have er:((x:Nat):Int) % 10000=((r:Nat):Int):=by omega
     have ey:((y:Nat):Int)+(d:Int)=((y2:Nat):Int):=by omega
     have hsz:d≤20000:=by omega
     clear hd hr hy2
     have hw0:IntKind.i64.wrap ((k:Int)+1)=((k+1:Nat):Int):=by rw[IntKind.wrap_i64];omega
     have HW0:=Lib.hid hw0
     clear hw0
     go_wp2_with fail
     go_region
     obtain ⟨W2,hW2⟩:∃ W2:World,(wr.setCell ⟨w.heap.size,k+1,none⟩ (.int .i64 (y2:Int))).drew=W2:=⟨_,rfl⟩
     rw[hW2]
     have hr2:Hid (Row W2 w.heap.size 3 (vals .i64 (o.set (k+1) y2))):=by
      have:=hri.out.set (k+1) (.int .i64 (y2:Int))
      rw[vals_set]at this
      rw[← hW2]
      exact Lib.hid this
     have hb2:Below w.heap.size w W2:=by rw[← hW2];exact Vic.Below.drewN_ (hbi.setCell (p:=⟨w.heap.size,k+1,none⟩) (Nat.le_refl _) _) 1
     have hcx2:=hr2.out.cell k
     rw[vals_get .i64 _ k (by simp;omega),hxe.out]at hcx2
     have hfx2:=hr2.out.free k
     have hr3:Hid (Row (W2.setCell ⟨w.heap.size,k,none⟩ (.int .i64 (r:Int))) w.heap.size 3 (vals .i64 ((o.set (k+1) y2).set k r))):=by
      have:=hr2.out.set k (.int .i64 (r:Int))
      rw[vals_set]at this
      exact Lib.hid this
     have hb3:Below w.heap.size w (W2.setCell ⟨w.heap.size,k,none⟩ (.int .i64 (r:Int))):=hb2.setCell (p:=⟨w.heap.size,k,none⟩) (Nat.le_refl _) _
     clear hW2 hri hbi hcx hcy hfx hfy ed ey
     have hw0:=HW0.out
     go_wp2_with fail
     go_roundw
     case rel=>exact ⟨k+1,_,by go_num,by omega,hb3,hr3,hst⟩
     case measure=>simp[intOf];omega
    ·have hke:k+1=la.length+lb.length+1:=by omega
     have hke2:k=la.length+lb.length:=by omega
     obtain ⟨hd1,hd2⟩:=hin.out.done (by omega) hke (by rw[hke2];exact HTOP.out)
     rw[VA.out,VB.out]at hd2
     have hlen:=hin.out.len
     have hu:Ints .i64 wr (.slice (some ⟨w.heap.size,0,none⟩) o.length (la.length+lb.length+1)) o:=hri.out.ints (l:=o) (la.length+lb.length+1) (by omega)
     have CT0:=ref_trim wr _ _ o hu hd1 (by omega)
     rw[hd2,hlen]at CT0
     have CT:=Lib.hid CT0
     clear CT0 hd1 hd2 hu hlen
     subst hke2
     clear hke
     go_wp2_with fail
     refine CT.out.mono ?_
     rintro e w' ⟨z,rfl,hz,hbz⟩
     go_wp2
     go_ret
     exact ⟨z,rfl,hz,below_seq hbi hbz⟩
end Go.Proofs.YtbdfhnelmojbpaaGreatDoor
end
section
namespace Vic
open Go Go.RowKit
def Front (cur:Array Value) (o:List Int):Prop:=∀ j,j<o.length→cur[j]?=some (.int .i64 (o.getD j 0))
theorem Front.set {cur:Array Value}{o:List Int}(h:Front cur o) {k:Nat}(hk:k<o.length) (d:Int):Front (cur.setIfInBounds k (.int .i64 d)) (o.set k d):=fun j hj=>by
 rw[List.length_set]at hj
 have h1:=h k hk
 have hks:k<cur.size:=(Array.getElem?_eq_some_iff.1 h1).1
 by_cases e:j=k
 ·subst e
  rw[isetD_same _ _ _ hj]
  simp[hks]
 ·rw[isetD_other _ _ _ _ e,Array.getElem?_setIfInBounds_ne (Ne.symm e)]
  exact h j hj
theorem Front.ints {w:World}{g:Nat}{t:TypeId}{cur:Array Value}{l:List Nat}(h:Front cur (l.map fun (d:Nat)=>(d:Int))) (hr:Row w g t cur) {c:Nat}(hc:l.length≤c):Ints .i64 w (.slice (some ⟨g,0,none⟩) l.length c) l:=
 ⟨_,c,rfl,hc,fun i hi=>⟨g,0,rfl,by
  rw[Nat.zero_add,hr.cell,h i (by simpa using hi),map_getD_int]⟩⟩
end Vic
namespace Go.Proofs.YtbdfhnelmojbpaaGreatDoor
open Go.RowKit Vic
set_option maxRecDepth 100000 in
set_option maxHeartbeats 8000000 in
theorem ref_SubA (w:World) (u v:Value) (a b:Nat) (ha:RefN w u a) (hb:RefN w v b) (hal:(tdg a).length≤1000000) (h0:a≠0) (hle:b≤a) :
 Calls Tryz.prog 110 #[u,v] w (Gives (fun x w'=>RefN w' x (a - b)∧Above w.heap.size x) w):=by
 obtain ⟨A,c,rfl,hA⟩:=ha.open_
 obtain ⟨A',c',rfl,hB⟩:=hb.open_
 clear ha hb
 obtain ⟨i1,hi1,hz1,hsz1,hby1⟩:=info_int
 have VA:Hid (val 10000 (tdg a)=a):=val_digs (by omega) a
 have VB:Hid (val 10000 (tdg b)=b):=val_digs (by omega) b
 have da:dig 10000 (tdg a):=digs_dig (by omega) a
 have db:dig 10000 (tdg b):=digs_dig (by omega) b
 have hbl:(tdg b).length≤(tdg a).length:=digs_length_mono (by omega) hle
 have hpos:0<(tdg a).length:=by
  rcases Nat.eq_zero_or_pos (tdg a).length with h|h
  ·exact absurd ((digs_eq_nil (B:=10000) (by omega)).1 (List.eq_nil_of_length_eq_zero h)) h0
  ·exact h
 generalize tdg a=la at *
 generalize tdg b=lb at *
 have DA:=Lib.hid da;have DB:=Lib.hid db;have HLE:=Lib.hid hle
 clear da db hle
 obtain ⟨b1,o1,rfl,hc0⟩:=hA.at_ 0 hpos
 have hnews:Hid (∀ (j:Nat) u,(la.map fun (d:Nat)=>Value.int .i64 (d:Int))[j]?=some u→w.cell? ((⟨b1,o1,none⟩:Addr).add j)=some u):=Lib.hid fun j u hj=>by
  rw[List.getElem?_map]at hj
  cases hd:la[j]? with
  | none=>rw[hd]at hj;cases hj
  | some d=>
    rw[hd]at hj
    cases hj
    have hjl:=(List.getElem?_eq_some_iff.1 hd).1
    obtain ⟨b2,o2,he,hc2⟩:=hA.at_ j hjl
    injection he with he
    injection he with he1 he2
    subst he1;subst he2
    rw[show (⟨b1,o1,none⟩:Addr).add j=⟨b1,o1+j,none⟩ by simp[Addr.add],hc2]
    rw[List.getD_eq_getElem?_getD,hd];rfl
 clear hc0
 go_enter Tryz.func110,Tryz.ntmps110
 go_wp2_with (at_builtin;refine wpList_append_ownK (Kd:=intKind) rfl (.const (.slice none 0 0)) (.tmp 7) 47 rfl w.heap.size 3 i1 _ 1 Tryz.underlying47 hi1 hz1 hsz1 rfl (by omega) _ 0 [] rfl (OwnK.nil_ _ _ _ _ _) ⟨b1,o1,none⟩ la.length c (la.map fun (d:Nat)=>Value.int .i64 (d:Int)) rfl (by simp) hnews.out (by simp[Value.oneCell']) (by simp[intKind]) (by simp[intKind,Value.cells]) hpos (by unfold maxLen;omega) (by rw[hby1];omega) (Nat.le_refl _) ?_;intro v5 w5 hown5 hgr5 hloc5;refine Hid.out ?_)
 rw[Nat.zero_add,List.nil_append]at hown5
 obtain ⟨hl0,⟨_,h1⟩|⟨g,cap,cur,rfl,h2,h3,h4,h5,h6,h7,h8⟩⟩:=hown5
 ·omega
 have hb5:Below w.heap.size w w5:=below_grown hgr5
 have hfr:Hid (Front cur (la.map fun (d:Nat)=>(d:Int))):=Lib.hid fun j hj=>by
  have hjl:j<la.length:=by simpa using hj
  have e:=congrArg (fun l=>l[j]?) h7
  simp only[Nat.mul_one,List.getElem?_take,if_pos hjl,List.getElem?_map,List.getElem?_eq_getElem hjl,Option.map_some]at e
  rw[map_getD_int,List.getD_eq_getElem?_getD,List.getElem?_eq_getElem hjl]
  rw[Array.getElem?_toList]at e
  exact e
 have hrw:Hid (Row w5 g 3 cur):=Lib.hid h3
 clear hnews hgr5 hloc5 h7 h8 h6 h3 hl0 h5
 refine Lib.hid ?_
 go_wp2_with fail
 go_loopw [11] (fun t wr=>∃ (k:Nat) (o:List Int) (cur:Array Value),t=.int .i64 k∧k≤la.length∧Below w.heap.size w wr∧Hid (Row wr g 3 cur)∧Hid (Front cur o)∧Hid (RSub 10000 la lb o k)) (fun t _=>la.length - (intOf t).toNat)
 case atStart=>exact ⟨0,_,cur,rfl,by omega,hb5,hrw,hfr,RSub.start 10000 la lb⟩
 case round=>
  clear hrw hfr
  obtain ⟨k,o,cur,rfl,hk,hbr,hrow,hfro,hi⟩:=hrel
  by_cases hlt:k<la.length
  ·have hlen:=hi.out.len
   have hcell:wr.cell? ⟨g,k,none⟩=some (.int .i64 (o.getD k 0)):=by rw[hrow.out.cell];exact hfro.out k (by omega)
   have hfree:=hrow.out.free k
   have hh:=hi.out.here
   have b1':=dig_getD DA.out (by omega) k
   have b2':=dig_getD DB.out (by omega) k
   have hp:Hid (0≤o.getD k 0 - (lb.getD k 0:Nat)→RSub 10000 la lb (o.set k (o.getD k 0 - (lb.getD k 0:Nat))) (k+1)):=fun h=>hi.out.plain DA.out (by omega) hlt h
   have hcr:Hid (o.getD k 0 - (lb.getD k 0:Nat)<0→k+1<la.length∧o.getD (k+1) 0=la.getD (k+1) 0∧RSub 10000 la lb ((o.set k (o.getD k 0 - (lb.getD k 0:Nat)+10000)).set (k+1) (la.getD (k+1) 0 - 1)) (k+1)):=fun h=>hi.out.back (by omega) DA.out DB.out (by rw[VA.out,VB.out];exact HLE.out) hbl hlt h
   have hcb:Hid (k<lb.length→∃ b o,A'=some ⟨b,o,none⟩∧wr.cell? ⟨b,o+k,none⟩=some (.int .i64 ((lb.getD k 0:Nat):Int))):=(Ints.keep hB hbr).at_ k
   have hnb:Hid (lb.length≤k→lb.getD k 0=0):=getD_big lb k
   have hself:Hid (Front cur (o.set k (o.getD k 0))):=Lib.hid fun j hj=>by
    rw[List.length_set]at hj
    by_cases e:j=k
    ·subst e;rw[isetD_same _ _ _ hj];exact hfro.out j hj
    ·rw[isetD_other _ _ _ _ e];exact hfro.out j hj
   have hxb : -1≤o.getD k 0∧o.getD k 0≤9999:=by rcases hh with h|h<;>omega
   generalize lb.getD k 0=q at *
   obtain ⟨z,hz⟩:∃ z,z=la.getD (k+1) 0:=⟨_,rfl⟩
   rw[← hz]at hcr
   have hzb:z<10000:=by rw[hz];exact dig_getD DA.out (by omega) _
   clear hz hh b1'
   obtain ⟨s,hs⟩:∃ s:Int,o.getD k 0 - (q:Int)=s:=⟨_,rfl⟩
   have hsb : -10000≤s∧s≤9999:=by omega
   rw[hs]at hp hcr
   obtain ⟨x,hx⟩:∃ x,x=o.getD k 0:=⟨_,rfl⟩
   rw[← hx]at hcell hs hself hxb
   have hw0:IntKind.i64.wrap ((k:Int)+1)=((k+1:Nat):Int):=by rw[IntKind.wrap_i64];omega
   have HW0:=Lib.hid hw0
   have hz2:Hid (¬ k<lb.length→s=x):=Lib.hid fun h=>by have:=hnb.out (by omega);omega
   have hkl:k<o.length:=by omega
   clear hnb hw0
   by_cases kb:k<lb.length
   case' pos=>
    obtain ⟨b2,o2,rfl,hc2⟩:=hcb.out kb
    clear hcb hz2 hx
    go_wp2_with fail
    go_region
    obtain ⟨W2,hW2⟩:∃ W2:World,(wr.setCell ⟨g,k,none⟩ (.int .i64 s)).drew=W2:=⟨_,rfl⟩
    rw[hW2]
    have hR2:Hid (∃ cur2,Row W2 g 3 cur2∧Front cur2 (o.set k s)∧Below w.heap.size w W2):=by
     rw[← hW2]
     exact Lib.hid ⟨_,hrow.out.set k (.int .i64 s),hfro.out.set hkl s,Vic.Below.drewN_ (hbr.setCell (p:=⟨g,k,none⟩) h2 _) 1⟩
   case' neg=>
    obtain rfl:s=x:=hz2.out kb
    clear hcb hz2 hx
    obtain ⟨W2,hW2⟩:∃ W2:World,wr=W2:=⟨_,rfl⟩
    rw[hW2]
    have hR2:Hid (∃ cur2,Row W2 g 3 cur2∧Front cur2 (o.set k s)∧Below w.heap.size w W2):=by
     rw[← hW2]
     exact Lib.hid ⟨_,hrow.out,hself.out,hbr⟩
   all_goals
    clear hW2 hcell hfree hrow hfro hbr hself
    obtain ⟨cur2,hr2,hf2,hb2⟩:=hR2.out
    have HR2:=Lib.hid hr2;have HF2:=Lib.hid hf2
    clear hr2 hf2 hR2
    have hcell2:W2.cell? ⟨g,k,none⟩=some (.int .i64 s):=by rw[HR2.out.cell,HF2.out k (by simpa using hkl),isetD_same _ _ _ hkl]
    have hfree2:=HR2.out.free k
    by_cases hs0:s<0
    ·obtain ⟨hk1,hz0,hra⟩:=hcr.out hs0
     have HRA:=Lib.hid hra
     have hcell3:W2.cell? ⟨g,k+1,none⟩=some (.int .i64 ((z:Nat):Int)):=by
      rw[HR2.out.cell,HF2.out (k+1) (by rw[List.length_set];omega),isetD_other _ _ _ _ (by omega),hz0]
     have hfree3:=HR2.out.free (k+1)
     obtain ⟨s3,hs3⟩:∃ s3:Int,s+10000=s3:=⟨_,rfl⟩
     obtain ⟨z3,hz3⟩:∃ z3:Int,(z:Int) - 1=z3:=⟨_,rfl⟩
     rw[hs3,hz3]at HRA
     have hR4:Hid (Row ((W2.setCell ⟨g,k,none⟩ (.int .i64 s3)).setCell ⟨g,k+1,none⟩ (.int .i64 z3)) g 3 ((cur2.setIfInBounds k (.int .i64 s3)).setIfInBounds (k+1) (.int .i64 z3))):=Lib.hid ((HR2.out.set k _).set (k+1) _)
     have hF4:Hid (Front ((cur2.setIfInBounds k (.int .i64 s3)).setIfInBounds (k+1) (.int .i64 z3)) ((o.set k s3).set (k+1) z3)):=by
      have h5:=HF2.out.set (k:=k) (by simpa using hkl) s3
      rw[List.set_set]at h5
      exact Lib.hid (h5.set (by rw[List.length_set];omega) z3)
     have hb4:Below w.heap.size w ((W2.setCell ⟨g,k,none⟩ (.int .i64 s3)).setCell ⟨g,k+1,none⟩ (.int .i64 z3)):=(hb2.setCell (p:=⟨g,k,none⟩) h2 _).setCell (p:=⟨g,k+1,none⟩) h2 _
     clear hcr hp hra hz0 HR2 HF2 hs
     have hw0:=HW0.out
     go_wp2_with fail
     go_roundw
     case rel=>exact ⟨k+1,_,_,by go_num,by omega,hb4,hR4,hF4,HRA⟩
     case measure=>simp[intOf];omega
    ·have HP:=Lib.hid (hp.out (by omega))
     have hw0:=HW0.out
     clear hcr hp hs
     go_wp2_with fail
     go_roundw
     case rel=>exact ⟨k+1,_,_,by go_num,by omega,hb2,HR2,HF2,HP⟩
     case measure=>simp[intOf];omega
  ·obtain rfl:k=la.length:=by omega
   obtain ⟨l,rfl,hd1,hd2⟩:=hi.out.done (by rw[VA.out,VB.out];exact HLE.out) hbl
   rw[VA.out,VB.out]at hd2
   have hlen:l.length=la.length:=by have:=hi.out.len;simpa using this
   have hu:Ints .i64 wr (.slice (some ⟨g,0,none⟩) l.length cap) l:=hfro.out.ints hrow.out (by omega)
   have CT0:=ref_trimA wr _ _ l hu hd1 (by omega)
   rw[hd2,hlen]at CT0
   have CT:=Lib.hid CT0
   clear CT0 hd1 hd2 hu hlen
   go_wp2_with fail
   refine CT.out.mono ?_
   rintro e w' ⟨z,rfl,hz,hbz⟩
   go_wp2
   go_ret
   exact ⟨_,rfl,⟨hz,above_slice h2⟩,below_seq hbr hbz⟩
theorem ref_Sub (w:World) (u v:Value) (a b:Nat) (ha:RefN w u a) (hb:RefN w v b) (hal:(tdg a).length≤1000000) (h0:a≠0) (hle:b≤a) :
 Calls Tryz.prog 110 #[u,v] w (Gives (fun x w'=>RefN w' x (a - b)) w):=(ref_SubA w u v a b ha hb hal h0 hle).mono fun _ _ h=>h.mono fun _ _ h=>h.1
end Go.Proofs.YtbdfhnelmojbpaaGreatDoor
end
section
namespace Vic
open Go
section
variable {P:Program}{ops:Array Oper}{Q:Exit→Act→World→Prop}{md:Region.Mode}{S:World→Prop}{tl:Nat}
def waitsOn (md:Region.Mode) (ops:Array Oper) (i k:Nat):Bool:=((ops[k]?).map fun o=>o.after.toList.any fun e=>Region.binds md e && e.on == i).getD false
theorem waitsOn_not {i k:Nat}{listed:Array Bool}(ht:waitsOn md ops i k=true) (hi:listed.getD i true=false):k∉Region.ready md ops listed:=fun hj=>by
 obtain ⟨_,oj,hoj,hall⟩:=mem_ready.1 hj
 unfold waitsOn at ht
 rw[hoj]at ht
 simp only[Option.map_some,Option.getD_some]at ht
 obtain ⟨e,he,h2⟩:=List.any_eq_true.1 ht
 simp only[Bool.and_eq_true,beq_iff_eq]at h2
 have h3:=hall e (by simpa using he) h2.1
 rw[h2.2]at h3
 rcases Nat.lt_or_ge i listed.size with h'|h'
 ·simp[h']at hi h3;rw[hi]at h3;cases h3
 ·simp[Array.getElem?_eq_none h']at h3
def leads (md:Region.Mode) (ops:Array Oper) (listed:Array Bool) (tl:Nat):Nat→Nat→Bool
 | 0,_=>false
 | f+1,i=>(List.range ops.size).any fun k=>waitsOn md ops i k && (k == tl || (!(listed.getD k true) && leads md ops listed tl f k))
theorem leads_not {listed:Array Bool}:∀ (f i:Nat),leads md ops listed tl f i=true→listed.getD i true=false→tl∉Region.ready md ops listed
 | 0,_,h,_=>by simp[leads]at h
 | f+1,i,h,hi=>by
   unfold leads at h
   obtain ⟨k,_,h⟩:=List.any_eq_true.1 h
   simp only[Bool.and_eq_true,Bool.not_eq_true',Bool.or_eq_true,beq_iff_eq]at h
   rcases h.2 with h2|h2
   ·subst h2;exact waitsOn_not h.1 hi
   ·exact leads_not f k h2.2 h2.1
theorem leads_next {j:Nat}{listed:Array Bool}(hj:j∈Region.ready md ops listed):∀ (f i:Nat),leads md ops listed tl f i=true→listed.getD i true=false→j≠i→leads md ops (listed.setIfInBounds j true) tl f i=true
 | 0,_,h,_,_=>by simp[leads]at h
 | f+1,i,h,hi,hji=>by
   unfold leads at h ⊢
   obtain ⟨k,hk,h⟩:=List.any_eq_true.1 h
   refine List.any_eq_true.2 ⟨k,hk,?_⟩
   simp only[Bool.and_eq_true,Bool.not_eq_true',Bool.or_eq_true,beq_iff_eq]at h ⊢
   refine ⟨h.1,?_⟩
   rcases h.2 with h2|h2
   ·exact .inl h2
   ·have hjk:j≠k:=fun e=>waitsOn_not h.1 hi (e▸hj)
    exact .inr ⟨by rw[getD_set_ne true hjk];exact h2.1,leads_next hj f k h2.2 h2.1 hjk⟩
end
end Vic
end
section
namespace Vic
open Go
section
variable {P:Program}{ops:Array Oper}{Q:Exit→Act→World→Prop}{md:Region.Mode}{S:World→Prop}{tls:List Nat}
def wpAnyU (P:Program) (md:Region.Mode) (ops:Array Oper) (Q:Exit→Act→World→Prop) (S:World→Prop) (tls:List Nat):Nat→Array Bool→Act→World→Prop
 | 0,listed,a,w=>Region.ready md ops listed = []∧Q .normal a w
 | fuel+1,listed,a,w=>
   (Region.ready md ops listed = []→Q .normal a w) ∧
   ∀ i∈Region.ready md ops listed,wpOp P ops Q i (fun a' w'=>(i∉tls→S w→S w')∧wpAnyU P md ops Q S tls fuel (listed.setIfInBounds i true) a' w') a w
theorem wpAny_of_U:∀ (fuel:Nat) (listed:Array Bool) (a:Act) (w:World),wpAnyU P md ops Q S tls fuel listed a w→wpAny P md ops Q fuel listed a w
 | 0,_,_,_,h=>h
 | fuel+1,_,_,_,h=>⟨h.1,fun i hi=>wpOp_mono (fun a' w' h'=>wpAny_of_U fuel _ a' w' h'.2) (h.2 i hi)⟩
def tailedU (md:Region.Mode) (ops:Array Oper) (listed:Array Bool) (tls:List Nat) (i:Nat):Bool:=tls.all fun t=>leads md ops listed t ops.size i
theorem wpAnyU_first {i:Nat}{oi:Oper}{v:Value}{S0:World→Prop}{tl0:List Nat}(hi:ops[i]?=some oi) (hsel:∀ (j:Nat) (o:Oper) cs b,ops[j]?=some o→o.op≠.select cs b)
 (hQ:∀ c a w,Q (.panic c) (a.put oi.dst v) w→Q (.panic c) a w) (hS0:(∀ w,S0 w)∨(S0=S∧tl0=tls)) :
 ∀ (fuel:Nat) (listed:Array Bool) (a:Act) (w:World),
   (∀ j oj,ops[j]?=some oj→j≠i→listed.getD j true=false→(∀ e∈oj.after,Region.binds md e=true→e.on≠i)→oi.apart ops oj=true) →
   tailedU md ops listed tl0 i=true→i∈Region.ready md ops listed→YieldsIf P ops S0 oi v a→S0 w →
   wpAnyU P md ops Q S tls fuel (listed.setIfInBounds i true) (a.put oi.dst v) w→wpAnyU P md ops Q S tls (fuel+1) listed a w:=by
 intro fuel
 induction fuel with
 | zero=>
   intro listed a w _ ht hr hy hS H
   refine ⟨fun h=>(by rw[h]at hr;cases hr),fun j hj=>?_⟩
   by_cases hji:j=i
   ·subst hji;exact hy.wpOp hi hS ⟨fun _ h=>h,H⟩
   ·have:=ready_mono hj hji
    rw[H.1]at this
    cases this
 | succ fuel ih=>
   intro listed a w hfree ht hr hy hS H
   refine ⟨fun h=>(by rw[h]at hr;cases hr),fun j hj=>?_⟩
   by_cases hji:j=i
   ·subst hji;exact hy.wpOp hi hS ⟨fun _ h=>h,H⟩
   ·have h1:=H.2 j (ready_mono hj hji)
    obtain ⟨hjun,oj,hoj,hall⟩:=mem_ready.1 hj
    have hnot:∀ e∈oj.after,Region.binds md e=true→e.on≠i:=fun e he hb heq=>by
     have h1:=hall e he hb
     have h0:=(mem_ready.1 hr).1
     rw[heq]at h1
     rcases Nat.lt_or_ge i listed.size with h'|h'
     ·simp[h']at h0 h1;rw[h0]at h1;cases h1
     ·simp[Array.getElem?_eq_none h']at h1
    have h2:=wpOp_putIf hoj (hfree j oj hoj hji hjun hnot) (fun cs b=>hsel i oi cs b hi) (fun cs b=>hsel j oj cs b hoj) hQ hy h1
    have hfree':∀ k ok,ops[k]?=some ok→k≠i→(listed.setIfInBounds j true).getD k true=false →
     (∀ e∈ok.after,Region.binds md e=true→e.on≠i)→oi.apart ops ok=true:=fun k ok hk hki hun hno=>by
     refine hfree k ok hk hki ?_ hno
     by_cases hjk:j=k
     ·subst hjk;exact hjun
     ·rw[getD_set_ne true hjk]at hun;exact hun
    have ht':tailedU md ops (listed.setIfInBounds j true) tl0 i=true:=by
     unfold tailedU at ht ⊢
     rw[List.all_eq_true]at ht ⊢
     exact fun t htm=>leads_next hj _ _ (ht t htm) (mem_ready.1 hr).1 hji
    refine wpOp_mono (fun a' w' h3=>⟨fun hj' hS'=>h3.2.1 hj' hS',?_⟩) h2
    have hS0':S0 w':=by
     rcases hS0 with h0|⟨h0,h0t⟩
     ·exact h0 w'
     ·have hjt:j∉tls:=fun e=>by
       subst h0t
       unfold tailedU at ht
       rw[List.all_eq_true]at ht
       exact leads_not _ _ (ht j e) (mem_ready.1 hr).1 hj
      rw[h0]at hS ⊢
      exact h3.2.1 hjt hS
    refine ih (listed.setIfInBounds j true) a' w' hfree' ht' (ready_mono hr (Ne.symm hji)) h3.1 hS0' ?_
    rw[Array.setIfInBounds_comm _ _ hji]
    exact h3.2.2
theorem wpAnyU_take {i:Nat}{oi:Oper}{v:Value}{fuel:Nat}{listed:Array Bool}{a:Act}{w:World}(hi:ops[i]?=some oi) (ht:tailedU md ops listed tls i=true)
 (hs:Region.noSelect ops=true) (hf:Region.free md ops listed i=true) (hr:(Region.ready md ops listed).contains i=true)
 (hQ:∀ c a w,Q (.panic c) (a.put oi.dst v) w→Q (.panic c) a w) (hy:YieldsIf P ops S oi v a) (hS:S w)
 (h:wpAnyU P md ops Q S tls fuel (listed.setIfInBounds i true) (a.put oi.dst v) w):wpAnyU P md ops Q S tls (fuel+1) listed a w:=
 wpAnyU_first (S0:=S) (tl0:=tls) hi (Region.noSelect_spec hs) hQ (.inr ⟨rfl,rfl⟩) fuel listed a w (Region.free_spec hi hf) ht (by simpa using hr) hy hS h
theorem wpAnyU_pure {i:Nat}{oi:Oper}{v:Value}{fuel:Nat}{listed:Array Bool}{a:Act}{w:World}(hi:ops[i]?=some oi)
 (hs:Region.noSelect ops=true) (hf:Region.free md ops listed i=true) (hr:(Region.ready md ops listed).contains i=true)
 (hQ:∀ c a w,Q (.panic c) (a.put oi.dst v) w→Q (.panic c) a w) (hy:YieldsIf P ops (fun _=>True) oi v a)
 (h:wpAnyU P md ops Q S tls fuel (listed.setIfInBounds i true) (a.put oi.dst v) w):wpAnyU P md ops Q S tls (fuel+1) listed a w:=
 wpAnyU_first (S0:=fun _=>True) (tl0:=[]) hi (Region.noSelect_spec hs) hQ (.inl fun _=>trivial) fuel listed a w (Region.free_spec hi hf) rfl (by simpa using hr) hy trivial h
theorem wpAnyU_done {listed:Array Bool}{a:Act}{w:World}(hr:Region.ready md ops listed = []) (h:Q .normal a w) :
 ∀ fuel,wpAnyU P md ops Q S tls fuel listed a w
 | 0=>⟨hr,h⟩
 | _+1=>⟨fun _=>h,by rw[hr];simp⟩
def AllReadyU (P:Program) (md:Region.Mode) (ops:Array Oper) (Q:Exit→Act→World→Prop) (S:World→Prop) (tls:List Nat) (fuel:Nat) (listed:Array Bool) (a:Act) (w:World) (rs:List Nat):Prop:=
 ∀ i∈rs,wpOp P ops Q i (fun a' w'=>(i∉tls→S w→S w')∧wpAnyU P md ops Q S tls fuel (listed.setIfInBounds i true) a' w') a w
theorem AllReadyU.nil {fuel:Nat}{listed:Array Bool}{a:Act}{w:World}:AllReadyU P md ops Q S tls fuel listed a w []:=fun _ h=>by cases h
theorem AllReadyU.cons {fuel:Nat}{listed:Array Bool}{a:Act}{w:World}{i:Nat}{o:Oper}{rs:List Nat}(ho:ops[i]?=some o)
 (h:∀ K':Act→World→Prop,Shut (∀ a w',(i∉tls→S w→S w')→wpAnyU P md ops Q S tls fuel (listed.setIfInBounds i true) a w'→K' a w')→if Region.wanted o (yielded ops a.tmps)=true then Oper.wp P o a w K' Q else K' (a.put o.dst undef) w)
 (hs:AllReadyU P md ops Q S tls fuel listed a w rs):AllReadyU P md ops Q S tls fuel listed a w (i :: rs):=fun j hj=>by
 rcases List.mem_cons.1 hj with rfl|hj
 ·exact wpOp_step ho (fun K' hK=>h K' (fun a w hS hW=>hK a w ⟨hS,hW⟩))
 ·exact hs j hj
theorem wpAnyU_ready {rs:List Nat}{fuel:Nat}{listed:Array Bool}{a:Act}{w:World}(hr:Region.ready md ops listed=rs) (hne:rs≠[])
 (h:AllReadyU P md ops Q S tls fuel listed a w rs):wpAnyU P md ops Q S tls (fuel+1) listed a w:=
 ⟨fun h0=>absurd (hr▸h0) hne,fun j hj=>h j (hr▸hj)⟩
theorem wp_region_U {id:Nat}{a:Act}{w:World}(tls:List Nat) (S:World→Prop) (hm:P.follows .mixedOrders=true)
 (h:wpAnyU P .any ops Q S tls ops.size (Array.replicate ops.size false) a w.drew):(Code.region id ops true).wp P Q a w:=
 wp_region_any hm (wpAny_of_U _ _ _ _ h)
end
end Vic
end
