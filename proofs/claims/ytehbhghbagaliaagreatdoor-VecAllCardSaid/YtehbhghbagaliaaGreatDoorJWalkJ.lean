/- Package victuallerref1: quotients, the greatest measure, powers of two. And: Package victuallerref1: quotients, the greatest measure, powers of two: the walks. Package victuallerref1: the greatest measure, powers of two. Package victuallerref1: a number as a text. Packages victuallerref1 and victuallerlaw1: a number of a text; a text cut. -/
import Derived.Test.YtehbhghbagaliaaGreatDoorJWalkI
import Derived.Test.YtehbhghbagaliaaGreatDoorJWalkG
import Derived.Test.YtehbhghbagaliaaGreatDoorJWalkD
set_option linter.unusedVariables false
set_option linter.unusedSimpArgs false
namespace Vic
open Go Go.RowKit
theorem tdg_le {n m:Nat}(h:n≤m):(tdg n).length≤(tdg m).length:=digs_length_mono (by omega) h
theorem tdg_mul_le (b m:Nat) (hm:m<10000):(tdg (b*m)).length≤(tdg b).length+1:=by
 refine tdg_len ?_
 have h1:=lt_pow_digs_length (B:=10000) (by omega) b
 rw[Nat.pow_succ]
 rcases Nat.eq_zero_or_pos m with h|h
 ·subst h;rw[Nat.mul_zero];exact Nat.mul_pos (Nat.pow_pos (by omega)) (by omega)
 ·exact Nat.mul_lt_mul_of_lt_of_lt h1 hm
theorem ref_one {w:World}{g:Nat}{t:TypeId}{d:Nat}(hr:Row w g t #[.int .i64 (d:Int)]) (h0:0<d) (h:d<10000):RefN w (.slice (some ⟨g,0,none⟩) 1 1) d:=by
 show Ints .i64 w _ (tdg d)
 rw[tdg_small h0 h]
 exact hr.ints (k:=.i64) (l:=[d]) 1 (by simp)
theorem append_ahead {P:Program}{w:World}{t ty e:TypeId}{i:TypeInfo}(ht:P.underlying t=some (.slice e)) (hi:P.info? e=some i) (hz:i.zero=some (.int .i64 0)) (hsize:i.size=1) (hby:i.bytes=8)
 {B g d:Nat}(hr:Row w g e #[.int .i64 (d:Int)]) (hB:B≤g) (hBw:B≤w.heap.size) {X:Value}{l:List Nat}(hX:Ints .i64 w X l) (hl:l.length≤1000000) :
 ∃ v' w',(Builtin.append_ #[t,t] ty #[.slice (some ⟨g,0,none⟩) 1 1,X]).run P w=.ok v' w'∧Ints .i64 w' v' (d :: l)∧Below B w w'∧Above B v':=by
 obtain ⟨A,c,rfl,hlc,hcell⟩:=hX
 have hown:OwnK intKind w B e 1 (.slice (some ⟨g,0,none⟩) 1 1) 1 [.int .i64 (d:Int)]:=
  ⟨by simp,.inr ⟨g,1,_,rfl,hB,hr,Nat.le_refl _,by unfold maxLen;omega,by simp,by simp,fun u hu=>by simp at hu;exact ⟨d,hu⟩⟩⟩
 have hone:Ints .i64 w (.slice (some ⟨g,0,none⟩) 1 1) [d]:=hr.ints (k:=.i64) (l:=[d]) 1 (by simp)
 rcases Nat.eq_zero_or_pos l.length with h0|h0
 ·obtain rfl:l = []:=List.eq_nil_of_length_eq_zero h0
  rcases A with _|a
  ·refine ⟨_,_,?_,hone,Below.refl _ _,above_slice hB⟩
   simp[Builtin.append_,run_underlying ht,Go.sizeOf,typeInfo,hi,Builtin.lenOf,run_firstCells_none,hsize,storeCells]
  ·have hrun:=run_append_room (P:=P) w t ty e i ht hi g 1 1 #[.int .i64 (d:Int)] hr a 0 c [] (by simp) (by simp) (by simp) (by omega) (by rw[hsize];simp)
   refine ⟨_,_,hrun,?_,?_,above_slice hB⟩
   ·have hrow:Row (w.setRow g (List.take (1*i.size) [Value.int .i64 (d:Int)] ++ [] ++ List.drop (1*i.size+([]:List Value).length) [Value.int .i64 (d:Int)]).toArray) g e #[.int .i64 (d:Int)]:=by
     have:=setRow_heap w g #[.int .i64 (d:Int)] (List.take (1*i.size) [Value.int .i64 (d:Int)] ++ [] ++ List.drop (1*i.size+([]:List Value).length) [Value.int .i64 (d:Int)]).toArray e (0,0) hr
     rw[hsize]at this ⊢
     exact this
    exact hrow.ints (k:=.i64) (l:=[d]) 1 (by simp)
   ·exact ⟨rfl,rfl,rfl,by simp,fun k hk=>setRow_other w g k _ (by omega)⟩
 ·obtain ⟨b1,o1,rfl,_⟩:=hcell 0 h0
  have hnews:∀ (j:Nat) u,(l.map fun (d:Nat)=>Value.int .i64 (d:Int))[j]?=some u→w.cell? ((⟨b1,o1,none⟩:Addr).add j)=some u:=fun j u hj=>by
   rw[List.getElem?_map]at hj
   cases hd:l[j]? with
   | none=>rw[hd]at hj;cases hj
   | some d=>
     rw[hd]at hj
     cases hj
     have hjl:=(List.getElem?_eq_some_iff.1 hd).1
     obtain ⟨b2,o2,he,hc2⟩:=hcell j hjl
     injection he with he
     injection he with he1 he2
     subst he1;subst he2
     rw[show (⟨b1,o1,none⟩:Addr).add j=⟨b1,o1+j,none⟩ by simp[Addr.add],hc2]
     rw[List.getD_eq_getElem?_getD,hd];rfl
  obtain ⟨v',w',h1,h2,h3,_⟩:=OwnK.append (P:=P) (ty:=ty) ht hi hz hsize rfl (by omega) hown ⟨b1,o1,none⟩ l.length c (l.map fun (d:Nat)=>Value.int .i64 (d:Int)) (by simp) hnews (by simp[Value.oneCell']) (by simp[intKind]) (by simp[intKind,Value.cells]) h0 (by unfold maxLen;omega) (by rw[hby];omega) hBw
  obtain ⟨g2,c2,hv2⟩:=h2.shape (by omega)
  refine ⟨v',w',h1,?_,hown.below (Below.refl _ _) (Below.refl _ _) h3 hBw,?_⟩
  case refine_2=>rw[hv2];exact above_slice (h2.lt (by rw[hv2];rfl)).1
  have h4:OwnK intKind w' B e 1 v' (d :: l).length ((d :: l).map fun (d:Nat)=>Value.int .i64 (d:Int)):=by
   have e:(d :: l).length=1+l.length:=by simp;omega
   rw[e];exact h2
  exact h4.ints
theorem wpList_append_ahead {P:Program}{ops:Array Oper}{rest:List Oper}{o:Oper}{a:Act}{w:World}{Q:Exit→Act→World→Prop}(hgd:o.guard=none) (s x:Operand) (t:TypeId)
 (ho:o.op=.call { callee:=.builtin .append,args:=#[s,x],argTypes:=#[t,t] }) (B:Nat) (e:TypeId) (i:TypeInfo) (ht:P.underlying t=some (.slice e)) (hi:P.info? e=some i) (hz:i.zero=some (.int .i64 0)) (hsize:i.size=1) (hby:i.bytes=8)
 (g d:Nat) (hs:a.eval s=.slice (some ⟨g,0,none⟩) 1 1) (hr:Row w g e #[.int .i64 (d:Int)]) (hB:B≤g) (hBw:B≤w.heap.size) (X:Value) (l:List Nat) (hx:a.eval x=X) (hX:Ints .i64 w X l) (hl:l.length≤1000000)
 (h:∀ v' w',Ints .i64 w' v' (d :: l)→Below B w w'→Above B v'→wpList P ops Q rest (a.put o.dst v') w'):wpList P ops Q (o :: rest) a w:=by
 refine wpList_plain hgd fun K hK=>?_
 obtain ⟨v',w',hrun,h2,h3,h4⟩:=append_ahead (P:=P) (ty:=o.type) ht hi hz hsize hby hr hB hBw hX hl
 unfold Oper.wp execOp
 simp only[ho,resolve,invoke,builtin,Sem.run_bind,Sem.run_pure,Result.andThen_ok,List.map_toArray,List.map_cons,List.map_nil,hs,hx,hrun]
 exact hK _ _ (h v' w' h2 h3 h4)
end Vic
set_option linter.unusedVariables false
set_option linter.unusedSimpArgs false
namespace Vic
open Go Go.RowKit
def RefParted (q r:Nat) (w:World) (e:Ending) (w':World):Prop:=∃ x y,e=.returned (.tuple #[x,y])∧RefN w' x q∧RefN w' y r∧Below w.heap.size w w'
theorem cmpI_le {a b:Nat}(h:a≤b):∃ c,cmpI a b=c∧c≤0:=by
 refine ⟨_,rfl,?_⟩
 unfold cmpI
 split
 ·omega
 ·rw[if_neg (by omega)];omega
theorem Half.low {b r low high mid:Nat}(h:Half b r low high) (h1:low<mid) (h2:mid<high) (h3:b*mid≤r):Half b r mid high:=⟨by rw[Nat.mul_comm];exact h3,h.2.1,by have:=h.2.2.1;omega,h.2.2.2⟩
theorem Half.high {b r low high mid:Nat}(h:Half b r low high) (h1:low<mid) (h2:mid<high) (h3:r<b*mid):Half b r low mid:=⟨h.1,by rw[Nat.mul_comm];exact h3,h.2.2.1,by have:=h.2.2.2;omega⟩
end Vic
namespace Go.Proofs.YtehbhghbagaliaaGreatDoor
open Go.RowKit Vic
set_option maxRecDepth 100000 in
set_option maxHeartbeats 8000000 in
theorem ref_Div (w:World) (u v:Value) (a b:Nat) (ha:RefN w u a) (hb:RefN w v b) (hal:(tdg a).length≤100000) (hbl:(tdg b).length≤100000) (h0:b≠0) :
 Calls Tryz.prog 90 #[u,v] w (RefParted (a / b) (a % b) w):=by
 obtain ⟨A,c,rfl,hA⟩:=ha.open_
 obtain ⟨A',c',rfl,hB⟩:=hb.open_
 clear ha
 obtain ⟨i1,hi1,hz1,hsz1,hby1⟩:=info_int
 have VA:Hid (val 10000 (tdg a)=a):=val_digs (by omega) a
 have da:dig 10000 (tdg a):=digs_dig (by omega) a
 obtain ⟨v,hv⟩:∃ v,v=Value.slice A' (tdg b).length c':=⟨_,rfl⟩
 rw[← hv]at hb ⊢
 have HB:=Lib.hid hb
 clear hv hB hb
 generalize tdg a=la at *
 have hmk:∀ w,(Instr.makeSlice 33 (.int .i64 la.length) (.int .i64 la.length)).run Tryz.prog w=.ok (.slice (some ⟨w.heap.size,0,none⟩) la.length la.length) (w.alloc (.cells (vals .i64 (List.replicate la.length 0)) 3)):=fun w=>mk_int _ _ rfl (by omega) w
 have DA:=Lib.hid da;have H0:=Lib.hid h0;have HBL:=Lib.hid hbl
 clear da h0 hbl
 go_enter Tryz.func90,Tryz.ntmps90
 go_wp2_with fail
 clear hmk
 go_loopw [8,7] (fun t s wr=>∃ (j:Nat) (q:List Nat) (r:Nat),t=.int .i64 ((j:Int) - 1)∧j≤la.length∧Below w.heap.size w wr∧Hid (Row wr w.heap.size 3 (vals .i64 q))∧Hid (RDiv 10000 b la q j r)∧Hid (RefN wr s r∧Above (w.heap.size+1) s)∧w.heap.size+1≤wr.heap.size) (fun t _ _=>(intOf t+1).toNat)
 case atStart=>exact ⟨la.length,_,0,rfl,by omega,(Below.refl _ _).alloc (Nat.le_refl _) _,Row.new _ _ _,RDiv.start (by omega) (by have:=H0.out;omega) la,⟨by show Ints _ _ _ (tdg 0);rw[show tdg 0 = []from digs_zero _];exact Ints.nil_ _ _,above_nil⟩,by simp⟩
 case round=>
  obtain ⟨j,q,r,rfl,hj,hbr,hrow,hdv,hr,hsz⟩:=hrel
  rcases Nat.eq_zero_or_pos j with hj0|hj0
  ·subst hj0
   obtain ⟨hq1,hq2⟩:=hdv.out.done
   rw[VA.out]at hq1 hq2
   have hlen:=hdv.out.len
   have hu:Ints .i64 wr (.slice (some ⟨w.heap.size,0,none⟩) q.length la.length) q:=hrow.out.ints (l:=q) la.length (by omega)
   have CT0:=ref_trim wr _ _ q hu hdv.out.dg (by omega)
   rw[hq1,hlen]at CT0
   have CT:=Lib.hid CT0
   have hr':=Lib.hid hr.out.1
   rw[hq2]at hr'
   clear CT0 hu hlen hr hdv
   go_wp2_with fail
   refine CT.out.mono ?_
   rintro e w' ⟨z,rfl,hz,hbz⟩
   go_wp2
   go_ret2
   exact ⟨z,_,rfl,hz,hr'.out.keep hbz,below_seq hbr hbz⟩
  ·obtain ⟨k,rfl⟩:∃ k,j=k+1:=⟨j - 1,by omega⟩
   obtain ⟨b1,o1,rfl,hc1⟩:=(Ints.keep hA hbr).at_ k (by omega)
   obtain ⟨hlt,hst⟩:=hdv.out.step (by omega) DA.out (by omega)
   have hdk:=dig_getD DA.out (by omega) k
   have hrb:=hdv.out.lt
   have hqlen:=hdv.out.len
   have HZ:Hid (q.getD k 0=0):=hdv.out.low k (by omega)
   generalize la.getD k 0=d at *
   have HDK:=Lib.hid hdk
   obtain ⟨r1,hr1⟩:∃ r1,r1=d+10000*r:=⟨_,rfl⟩
   rw[← hr1]at hlt hst
   have hr1b:r1<10000*b:=by omega
   have HST:=Lib.hid hst;have HLT:=Lib.hid hlt;have HR1:=Lib.hid hr1;have HR1B:=Lib.hid hr1b
   have hl1:(tdg r).length≤100000:=Nat.le_trans (tdg_le (Nat.le_of_lt hrb)) HBL.out
   have hl2:(tdg r1).length≤100001:=Nat.le_trans (tdg_len (Nat.lt_of_lt_of_le hr1b (by
    have:=lt_pow_digs_length (B:=10000) (by omega) b
    have e:10000 ^ ((tdg b).length+1)=10000*10000 ^ (tdg b).length:=by rw[Nat.pow_succ,Nat.mul_comm]
    rw[e]
    exact Nat.mul_le_mul_left _ (Nat.le_of_lt this)))) (by have:=HBL.out;omega)
   have h01:Below wr.heap.size wr (wr.alloc (.cells #[.int .i64 (d:Int)] 3)):=(Below.refl _ _).alloc (Nat.le_refl _) _
   have hra:=Lib.hid (hr.out.1.keep h01)
   clear hlt hst hdk hr1 hr1b hrb hdv
   go_wp2_with (at_builtin;refine wpList_append_ahead rfl (.tmp 26) (.tmp 27) 33 rfl wr.heap.size 3 i1 Tryz.underlying33 hi1 hz1 hsz1 hby1 wr.heap.size d rfl (Row.new _ _ _) (Nat.le_refl _) (by simp) _ (tdg r) rfl hra.out (by omega) ?_;intro v5 w5 hv5 hb5 hab5;refine Hid.out ?_)
   have hB5:Below wr.heap.size wr w5:=h01.trans hb5
   have hd5:dig 10000 (d :: tdg r):=dig_cons.2 ⟨HDK.out,digs_dig (by omega) r⟩
   have hv5v:val 10000 (d :: tdg r)=r1:=by rw[val_cons,val_digs (by omega),HR1.out]
   obtain ⟨A5,c5,rfl,_,_⟩:=id hv5
   have CT0:=ref_trimA w5 A5 c5 _ hv5 hd5 (by simp;omega)
   rw[hv5v]at CT0
   have CT:=Lib.hid CT0
   clear CT0 hv5 hd5 hv5v hra hr hb5
   have hlz:(d :: tdg r).length=(tdg r).length+1:=by simp
   refine Lib.hid ?_
   go_wp2_with fail
   refine CT.out.mono ?_
   rintro e w6 ⟨k6,rfl,hx6,hb6⟩
   have hab6:Above (w.heap.size+1) (.slice A5 k6 c5):=fun A l c h1 b o h2=>by
    injection h1 with h3 h4 h5
    exact Nat.le_trans hsz (hab5 A5 _ c5 rfl b o (h3.trans h2))
   obtain ⟨x6,hx6e⟩:∃ x6,x6=Value.slice A5 k6 c5:=⟨_,rfl⟩
   rw[← hx6e]at hx6 hab6 ⊢
   clear hx6e hab5
   have hB6:=below_seq hB5 hb6
   have HX6:=Lib.hid hx6
   have CC0:=ref_Cmp w6 x6 v r1 b hx6 (HB.out.keep (below_seq hbr hB6)) (by omega) (by have:=HBL.out;omega)
   have hbr6:Below w.heap.size w w6:=below_seq hbr hB6
   have hrow6:Hid (Row w6 w.heap.size 3 (vals .i64 q)):=Lib.hid (hrow.out.keep hB6)
   have hsz6:w.heap.size+1≤w6.heap.size:=Nat.le_trans hsz hB6.size
   have hrow7:=hrow6.out.free k
   clear CT hlz hx6 hrow hB5 hb6 hB6 hbr
   by_cases hlt:r1<b
   ·rw[cmpI_lt hlt]at CC0
    have CC:=Lib.hid CC0
    have hq0:r1 / b=0:=Nat.div_eq_of_lt hlt
    have hm0:r1 % b=r1:=Nat.mod_eq_of_lt hlt
    have hst:=HST.out
    rw[hq0,hm0]at hst
    have hz:q.getD k 0=0:=HZ.out
    rw[show q.set k 0=q by rw[← hz];exact set_self q k (by omega)]at hst
    have HST2:=Lib.hid hst
    clear hst hz CC0 hq0 hm0 HST HLT
    go_wp2_with fail
    refine CC.out.mono ?_
    rintro e w' ⟨rfl,rfl⟩
    go_wp2_with fail
    go_roundw
    case rel=>exact ⟨k,q,r1,by go_num,by omega,hbr6,hrow6,HST2,⟨HX6.out,hab6⟩,hsz6⟩
    case measure=>simp[intOf]
   ·have hcg:0≤cmpI r1 b:=by unfold cmpI;rw[if_neg hlt];split<;>omega
    generalize cmpI r1 b=cg at *
    have CC:=Lib.hid CC0
    clear CC0
    go_wp2_with fail
    refine CC.out.mono ?_
    rintro e w' ⟨rfl,rfl⟩
    go_wp2_with fail
    clear CC hcg
    go_loopw [9,10] (fun s t wi=>∃ (low high:Nat),s=.int .i64 low∧t=.int .i64 high∧low<high∧high≤10000∧1≤low∧Hid (Half b r1 low high)∧Below w6.heap.size w6 wi) (fun s t _=>(intOf t).toNat - (intOf s).toNat)
    case atStart=>exact ⟨1,10000,rfl,rfl,by omega,by omega,by omega,⟨by omega,HR1B.out,by omega,by omega⟩,Below.refl _ _⟩
    case round=>
     obtain ⟨low,high,rfl,rfl,hlh,hh4,hl1',hha,hbi⟩:=hrel
     by_cases hgo:low+1<high
     ·obtain ⟨mid,hmid⟩:∃ mid,mid=(low+high) / 2:=⟨_,rfl⟩
      have hm1:low<mid:=by omega
      have hm2:mid<high:=by omega
      have em:((low:Int)+(high:Int)) / 2=(mid:Int):=by omega
      have hgo':(1:Int)<(high:Int) - (low:Int):=by omega
      obtain ⟨w8,hw8⟩:∃ w8,w8=wr.alloc (.cells #[.int .i64 (mid:Int)] 3):=⟨_,rfl⟩
      have h68:Below w6.heap.size w6 w8:=by rw[hw8];exact hbi.alloc hbi.size _
      have hone:RefN w8 (.slice (some ⟨wr.heap.size,0,none⟩) 1 1) mid:=ref_one (by rw[hw8];exact Row.new _ _ _) (by omega) (by omega)
      have CM:=Lib.hid (ref_Mul w8 v _ b mid (HB.out.keep (below_seq hbr6 h68)) hone (by have:=HBL.out;omega) (by rw[tdg_small (by omega) (by omega)];simp))
      have HW8:=Lib.hid hw8
      clear hmid hw8 hone
      go_wp2_with fail
      rw[← HW8.out]
      refine CM.out.mono ?_
      rintro e w9 ⟨x9,rfl,hx9,hb9⟩
      have h69:=below_seq h68 hb9
      have CP0:=ref_Cmp w9 x9 x6 (b*mid) r1 hx9 (HX6.out.keep h69) (Nat.le_trans (tdg_mul_le b mid (by omega)) (by have:=HBL.out;omega)) (by omega)
      clear HW8 CM hx9
      by_cases hle:b*mid≤r1
      ·obtain ⟨cg,hcg,hcg2⟩:=cmpI_le hle
       rw[hcg]at CP0
       have CP:=Lib.hid CP0
       have HH:=Lib.hid (hha.out.low hm1 hm2 hle)
       clear CP0 hcg hle
       go_wp2_with fail
       refine CP.out.mono ?_
       rintro e w' ⟨rfl,rfl⟩
       go_wp2_with fail
       go_roundw
       case rel=>exact ⟨mid,high,rfl,rfl,hm2,hh4,by omega,HH,h69⟩
       case measure=>simp[intOf];omega
      ·have hcg:cmpI (b*mid) r1=1:=cmpI_gt (by omega)
       rw[hcg]at CP0
       have CP:=Lib.hid CP0
       have HH:=Lib.hid (hha.out.high hm1 hm2 (by omega))
       clear CP0 hcg hle
       go_wp2_with fail
       refine CP.out.mono ?_
       rintro e w' ⟨rfl,rfl⟩
       go_wp2_with fail
       go_roundw
       case rel=>exact ⟨low,mid,rfl,rfl,hm1,by omega,hl1',HH,h69⟩
       case measure=>simp[intOf];omega
     ·have hlow:low=r1 / b:=hha.out.done (by have:=H0.out;omega) (by omega)
      have hst:=HST.out
      rw[← hlow]at hst
      have hgo':¬ (1:Int)<(high:Int) - (low:Int):=by omega
      have hqk:=(hrow6.out.keep hbi).cell k
      rw[vals_get .i64 q k (by omega)]at hqk
      have hqf:=(hrow6.out.keep hbi).free k
      generalize q.getD k 0=q0 at hqk
      obtain ⟨w8,hw8⟩:∃ w8,w8=(wr.setCell ⟨w.heap.size,k,none⟩ (.int .i64 (low:Int))).alloc (.cells #[.int .i64 (low:Int)] 3):=⟨_,rfl⟩
      have hszr:w.heap.size+1≤wr.heap.size:=Nat.le_trans hsz6 hbi.size
      have hrow8:Hid (Row w8 w.heap.size 3 (vals .i64 (q.set k low))):=by
       rw[hw8,← vals_set]
       exact Lib.hid (((hrow6.out.keep hbi).set k _).alloc _)
      have hb8:Below w.heap.size w w8:=by
       rw[hw8]
       exact ((hbr6.trans (hbi.mono hbr6.size)).setCell (p:=⟨w.heap.size,k,none⟩) (Nat.le_refl _) _).alloc (by simp[World.setCell];omega) _
      have hsz8:w.heap.size+1≤w8.heap.size:=by rw[hw8];simp[World.setCell];omega
      have hx8:RefN w8 x6 r1:=Ints.aside (HX6.out.keep hbi) hab6 fun bb h1 h2=>by
       rw[hw8]
       exact (Below.heap_alloc _ _ bb (by simpa [World.setCell]using h2)).trans (Below.heap_setCell wr ⟨w.heap.size,k,none⟩ _ bb (by show bb≠w.heap.size;omega))
      have hlow4:low<10000:=by rw[hlow];exact HLT.out
      have hone:RefN w8 (.slice (some ⟨wr.heap.size,0,none⟩) 1 1) low:=ref_one (by
       rw[hw8]
       have:=Row.new (wr.setCell ⟨w.heap.size,k,none⟩ (.int .i64 (low:Int))) 3 #[.int .i64 (low:Int)]
       rwa [show (wr.setCell ⟨w.heap.size,k,none⟩ (.int .i64 (low:Int))).heap.size=wr.heap.size by simp[World.setCell]]at this) (by omega) hlow4
      have CM:=Lib.hid (ref_Mul w8 v _ b low (HB.out.keep hb8) hone (by have:=HBL.out;omega) (by rw[tdg_small (by omega) hlow4];simp))
      have hble:b*low≤r1:=by rw[hlow];exact Nat.mul_div_le r1 b
      have hr1n:r1≠0:=by
       intro e
       rw[e,Nat.zero_div]at hlow
       omega
      have hmod:r1 - b*low=r1 % b:=by
       rw[hlow]
       have:=Nat.div_add_mod r1 b
       omega
      have CS:Hid (∀ w9 x9,Below w8.heap.size w8 w9→RefN w9 x9 (b*low)→Calls Tryz.prog 50 #[x6,x9] w9 (Gives (fun x w'=>RefN w' x (r1 % b)∧Above w9.heap.size x) w9)):=Lib.hid fun w9 x9 h1 h2=>by
       have:=ref_SubA w9 x6 x9 r1 (b*low) (hx8.keep h1) h2 (by omega) hr1n hble
       rwa [hmod]at this
      have hm0:r1 % b % b=r1 % b:=Nat.mod_mod _ _
      have HSTT:=Lib.hid hst
      have HW8:=Lib.hid hw8
      have hlb:(low:Int)<10000:=by omega
      clear hlow hmod hble hone hx8 hw8 hst HST HLT hrow7 hm0 hr1n
      go_wp2_with fail
      rw[← HW8.out]
      refine CM.out.mono ?_
      rintro e w9 ⟨x9,rfl,hx9,hb9⟩
      have CSS:=Lib.hid (CS.out w9 x9 hb9 hx9)
      clear CS CM HW8 hx9
      go_wp2_with fail
      refine CSS.out.mono ?_
      rintro e w10 ⟨x10,rfl,⟨hx10,hab10⟩,hb10⟩
      have h810:=below_seq hb9 hb10
      have HX10:=Lib.hid hx10
      clear CSS hx10
      go_wp2_with fail
      go_roundw
      case rel=>exact ⟨k,q.set k low,r1 % b,by go_num,by omega,below_seq hb8 h810,Lib.hid (hrow8.out.keep h810),HSTT,⟨HX10.out,hab10.mono (Nat.le_trans hsz8 hb9.size)⟩,Nat.le_trans hsz8 h810.size⟩
      case measure=>simp[intOf]
end Go.Proofs.YtehbhghbagaliaaGreatDoor
set_option linter.unusedVariables false
set_option linter.unusedSimpArgs false
namespace Vic
open Go Go.RowKit
def refOf (w:World):Value→Nat
 | .slice (some q) l _=>val 10000 ((List.range l).map fun i=>match w.cell? ⟨q.block,q.off+i,none⟩with|some (.int _ d)=>d.toNat|_=>0)
 | _=>0
theorem refOf_eq {w:World}{v:Value}{n:Nat}(h:RefN w v n):refOf w v=n:=by
 have hv:val 10000 (tdg n)=n:=val_digs (by omega) n
 obtain ⟨A,c,rfl,hlc,hcell⟩:=h
 rcases A with _|q
 ·rcases Nat.eq_zero_or_pos (tdg n).length with h0|h0
  ·have:tdg n = []:=List.eq_nil_of_length_eq_zero h0
   rw[this]at hv
   exact hv
  ·obtain ⟨_,_,h1,_⟩:=hcell 0 h0
   cases h1
 ·have e:((List.range (tdg n).length).map fun i=>match w.cell? ⟨q.block,q.off+i,none⟩with|some (.int _ d)=>d.toNat|_=>0)=tdg n:=by
   apply List.ext_getElem
   ·simp
   ·intro i h1 h2
    obtain ⟨b',o',hq,hi⟩:=hcell i h2
    injection hq with hq
    subst hq
    simp[hi,h2]
  show val 10000 _=_
  rw[e,hv]
theorem tdg_zero:tdg 0 = []:=digs_zero _
theorem tdg_pos {n:Nat}(h:n≠0):0<(tdg n).length:=by
 rcases Nat.eq_zero_or_pos (tdg n).length with h1|h1
 ·exact absurd ((digs_eq_nil (B:=10000) (by omega)).1 (List.eq_nil_of_length_eq_zero h1)) h
 ·exact h1
theorem two_len {x k:Nat}(h:x≤2 ^ k) (hk:k≤200):(tdg x).length≤100:=by
 have h1:(2:Nat) ^ k≤2 ^ 200:=Nat.pow_le_pow_right (by omega) hk
 have h2:(2:Nat) ^ 200<10000 ^ 100:=by decide +kernel
 exact tdg_len (Nat.lt_of_le_of_lt (Nat.le_trans h h1) h2)
end Vic
namespace Go.Proofs.YtehbhghbagaliaaGreatDoor
open Go.RowKit Vic
set_option maxRecDepth 100000 in
set_option maxHeartbeats 4000000 in
theorem ref_Gcd (w:World) (u v:Value) (a b:Nat) (ha:RefN w u a) (hb:RefN w v b) (hal:(tdg a).length≤100000) (hbl:(tdg b).length≤100000) :
 Calls Tryz.prog 43 #[u,v] w (Gives (fun x w'=>RefN w' x (Nat.gcd a b)) w):=by
 have HA:=Lib.hid ha;have HB:=Lib.hid hb
 obtain ⟨G,hG⟩:∃ G,G=Nat.gcd a b:=⟨_,rfl⟩
 rw[← hG]
 have HG:=Lib.hid hG
 clear ha hb hG
 go_enter Tryz.func43,Tryz.ntmps43
 go_wp2_with fail
 go_loopw [0,1] (fun s t wr=>∃ (x y:Nat),Hid (RefN wr s x)∧RefN wr t y∧Hid (G=Nat.gcd x y)∧(tdg x).length≤100000∧(tdg y).length≤100000∧Below w.heap.size w wr) (fun _ t wr=>refOf wr t)
 case atStart=>exact ⟨a,b,HA,HB.out,HG,hal,hbl,Below.refl _ _⟩
 case round=>
  obtain ⟨x,y,hx,hy,hg,hxl,hyl,hbr⟩:=hrel
  have hy0:=hy
  have HY:=Lib.hid hy
  have hmo:=Lib.hid (refOf_eq hy)
  obtain ⟨A1,c1,he,_⟩:=hy.open_
  subst he
  clear hy hy0
  by_cases h0:y=0
  ·have hge:Hid (G=x):=by rw[hg.out,h0,Nat.gcd_zero_right];exact Lib.hid rfl
   subst h0
   rw[tdg_zero]at *
   clear hmo hg
   go_wp2_with fail
   go_ret
   exact ⟨_,rfl,by rw[hge.out];exact hx.out,hbr⟩
  ·have hp:=tdg_pos h0
   have CD:=Lib.hid (ref_Div wr u0 _ x y hx.out HY.out hxl hyl h0)
   have hge:Hid (G=Nat.gcd y (x % y)):=by rw[hg.out,Nat.gcd_comm,Nat.gcd_rec,Nat.gcd_comm];exact Lib.hid rfl
   have hml:Hid ((tdg (x % y)).length≤100000):=Lib.hid (Nat.le_trans (tdg_le (Nat.le_of_lt (Nat.mod_lt _ (by omega)))) hyl)
   have hlt:Hid (x % y<y):=Lib.hid (Nat.mod_lt _ (by omega))
   unfold RefParted at CD
   clear hg
   go_wp2_with fail
   refine CD.out.mono ?_
   rintro e w2 ⟨q2,r2,rfl,hq2,hr2,hb2⟩
   have HR2:=Lib.hid hr2
   clear hr2 hq2
   go_wp2_with fail
   go_roundw
   case rel=>exact ⟨y,x % y,Lib.hid (HY.out.keep hb2),HR2.out,hge,hyl,hml.out,hbr.trans (hb2.mono hbr.size)⟩
   case measure=>rw[refOf_eq HR2.out,hmo.out];exact hlt.out
end Go.Proofs.YtehbhghbagaliaaGreatDoor
set_option linter.unusedVariables false
set_option linter.unusedSimpArgs false
namespace Vic
open Go Go.RowKit
theorem tdg_top {n:Nat}(h:n≠0):0<(tdg n).getD ((tdg n).length - 1) 0:=by
 have h1:=digs_norm (B:=10000) (by omega) n
 have h2:=tdg_pos h
 rcases Nat.eq_zero_or_pos ((tdg n).getD ((tdg n).length - 1) 0)with h3|h3
 ·exfalso
  apply h1
  show (tdg n).getLast?=some 0
  rw[List.getLast?_eq_getElem?]
  rw[List.getD_eq_getElem?_getD,List.getElem?_eq_getElem (by omega),Option.getD_some]at h3
  rw[List.getElem?_eq_getElem (by omega),h3]
 ·exact h3
theorem txt_done (n i:Nat) (hi:i+1=(tdg n).length):Lib.decDigits n=Lib.decDigits ((tdg n).getD i 0) ++ txt ((tdg n).take i):=by
 have hn:n≠0:=fun e=>by rw[e,tdg_zero]at hi;simp at hi
 have h0:=tdg_top hn
 rw[show (tdg n).length - 1=i by omega]at h0
 have hd:=dig_take (digs_dig (B:=10000) (by omega) n) i
 have h1:=dec_txt ((tdg n).take i) hd _ h0
 have hlen:((tdg n).take i).length=i:=by rw[List.length_take];omega
 have h2:=val_take_step 10000 (tdg n) i
 rw[val_take_all _ _ _ (by omega),val_digs (by omega)]at h2
 rw[hlen,← h2]at h1
 exact h1
end Vic
namespace Go.Proofs.YtehbhghbagaliaaGreatDoor
open Go.RowKit Vic
set_option maxRecDepth 100000 in
set_option maxHeartbeats 4000000 in
theorem ref_N_Text (w:World) (v:Value) (n:Nat) (h:RefN w v n) (hl:(tdg n).length≤100000) :
 Calls Tryz.prog 52 #[v] w (Keeps (.string ⟨(Lib.decDigits n).toArray⟩) w):=by
 obtain ⟨A,c,rfl,hA⟩:=h.open_
 clear h
 by_cases hn:n=0
 ·subst hn
  rw[tdg_zero]at *
  have hd:Hid (Lib.decDigits 0 = [48]):=Lib.hid (by rw[dec_small (by omega)];rfl)
  go_enter Tryz.func52,Tryz.ntmps52
  go_wp2_with fail
  go_ret
  exact ⟨by rw[hd.out];rfl,Below.refl _ _⟩
 ·have hpos:=tdg_pos hn
  have HTD:Hid (∀ i,i+1=(tdg n).length→Lib.decDigits n=Lib.decDigits ((tdg n).getD i 0) ++ txt ((tdg n).take i)):=Lib.hid (txt_done n)
  have HTOP:=Lib.hid (tdg_top hn)
  have HDG:Hid (dig 10000 (tdg n)):=Lib.hid (digs_dig (by omega) n)
  have HTT:Hid (∀ i,i<(tdg n).length→txt ((tdg n).take (i+1))=pad 4 ((tdg n).getD i 0) ++ txt ((tdg n).take i)):=Lib.hid (txt_take (tdg n))
  generalize tdg n=l at *
  obtain ⟨T,hT⟩:∃ T,T=Lib.decDigits n:=⟨_,rfl⟩
  rw[← hT]at HTD ⊢
  clear hT hn
  go_enter Tryz.func52,Tryz.ntmps52
  go_wp2_with fail
  go_loopw [4,3] (fun t s wr=>∃ (i:Nat) (bs:List UInt8),t=.int .i64 i∧i≤l.length∧s=.string ⟨bs.toArray⟩∧Hid (bs=if i<l.length then txt (l.take i)else T)∧Below w.heap.size w wr) (fun t _ _=>l.length - (intOf t).toNat)
  case atStart=>exact ⟨0,[],rfl,by omega,rfl,by show _=_;rw[if_pos hpos];rfl,Below.refl _ _⟩
  case round=>
   obtain ⟨i,bs,rfl,hi,rfl,hbs,hbr⟩:=hrel
   by_cases hlt:i<l.length
   ·obtain ⟨b1,o1,rfl,hc1⟩:=(Ints.keep hA hbr).at_ i hlt
    have hD:=dig_getD HDG.out (by omega) i
    have hbs1:=Lib.hid hbs.out
    rw[if_pos hlt]at hbs1
    have hnext:Hid (∀ k,k≠0→(i+1=l.length→0<l.getD i 0 / 10 ^ (k - 1))→(i+1=l.length→l.getD i 0 / 10 ^ k=0)→(i+1<l.length→k=4)→pad k (l.getD i 0) ++ bs=if i+1<l.length then txt (l.take (i+1))else T):=Lib.hid fun k hk h1 h2 h3=>by
     rw[hbs1.out]
     by_cases h5:i+1<l.length
     ·rw[if_pos h5,h3 h5,HTT.out i hlt]
     ·rw[if_neg h5,HTD.out i (by omega)]
      obtain ⟨k',rfl⟩:∃ k',k=k'+1:=⟨k - 1,by omega⟩
      have h6:=h1 (by omega)
      simp only[Nat.add_sub_cancel]at h6
      rw[pad_top k' _ h6 (h2 (by omega))]
    have hD0:Hid (i+1=l.length→0<l.getD i 0):=Lib.hid fun h=>by
     have:=HTOP.out
     rwa [show l.length - 1=i by omega]at this
    have hbsl:bs.length≤400000:=by
     rw[hbs1.out,txt_length,List.length_take];omega
    generalize l.getD i 0=D at *
    clear hbs
    go_wp2_with fail
    go_loopw [6,5,3] (fun t u s wr=>∃ (k d:Nat) (cs:List UInt8),t=.int .i64 k∧k≤4∧u=.int .i64 d∧Hid (d=D / 10 ^ k)∧d<10000∧s=.string ⟨cs.toArray⟩∧Hid (cs=pad k D ++ bs)∧Hid (i+1=l.length→k≠0→0<D / 10 ^ (k - 1))∧Below w.heap.size w wr) (fun t _ _ _=>4 - (intOf t).toNat)
    case atStart=>exact ⟨0,D,bs,rfl,by omega,rfl,by show _=_;simp,hD,rfl,by show _=_;rfl,fun _ h=>absurd rfl h,hbr⟩
    case round=>
     clear hbr hc1
     obtain ⟨k,d,cs,rfl,hk,rfl,hd,hd4,rfl,hcs,hk0,hbr⟩:=hrel
     have hlast:Hid (i+1=l.length→k=4∨d=0→pad k D ++ bs=T):=Lib.hid fun h1 h2=>by
      have h0:=hD0.out h1
      have hk1:k≠0:=fun e=>by
       subst e
       have:=hd.out
       simp at this
       omega
      have h5:=hnext.out k hk1 (fun _=>hk0.out h1 hk1) (fun _=>by
       rcases h2 with h2|h2
       ·rw[h2];exact Nat.div_eq_of_lt (by omega)
       ·rw[← hd.out];exact h2) (fun h=>by omega)
      rwa [if_neg (by omega)]at h5
     have hcl:cs.length≤400004:=by rw[hcs.out,List.length_append,pad_length];omega
     by_cases hk4:k<4
     ·by_cases hbrk:i+1=l.length∧d=0
      ·have hb1:((i:Int) == (l.length:Int) - 1)=true:=by rw[beq_iff_eq];omega
       obtain ⟨hb2,hb3⟩:=hbrk
       have HL:=Lib.hid (hcs.out.trans (hlast.out hb2 (.inr hb3)))
       subst hb3
       clear hlast hnext hk0 hd hcs
       go_wp2_with fail
       go_roundw
       case rel=>exact ⟨i+1,cs,by go_num,by omega,rfl,by rw[if_neg (by omega)];exact HL,hbr⟩
       case measure=>simp[intOf];omega
      ·have hb1:Hid (((i:Int) == (l.length:Int) - 1)=true→((d:Int) == 0)=false):=Lib.hid fun h=>by
        rw[beq_iff_eq]at h
        rw[beq_eq_false_iff_ne]
        omega
       have hnz:Hid (i+1=l.length→d≠0):=Lib.hid fun h1 h2=>hbrk ⟨h1,h2⟩
       obtain ⟨b,hb⟩:∃ b:UInt8,b=UInt8.ofNat (48+d % 10):=⟨_,rfl⟩
       have hbn:((48:Int)+(d:Int) % 10)=(b.toNat:Int):=by
        rw[hb,byte_dig (Nat.mod_lt _ (by omega))];omega
       have hcs2:Hid (b :: cs=pad (k+1) D ++ bs):=Lib.hid (by rw[pad_front,← hd.out,← hb,hcs.out];rfl)
       obtain ⟨d2,hd2e⟩:∃ d2,d2=d / 10:=⟨_,rfl⟩
       have hd2:Hid (d2=D / 10 ^ (k+1)):=Lib.hid (by rw[hd2e,hd.out,Nat.div_div_eq_div_mul,Nat.pow_succ])
       have hk2:Hid (i+1=l.length→k+1≠0→0<D / 10 ^ (k+1 - 1)):=Lib.hid fun h _=>by
        rw[Nat.add_sub_cancel,← hd.out]
        have:=hnz.out h
        omega
       have hcv:(convert 142 9 (.slice (some ⟨wr.heap.size,0,none⟩) 1 1)).run Tryz.prog (wr.alloc (.cells #[.int .u8 (b.toNat:Int)] 5))=.ok (.string ⟨[b].toArray⟩) (wr.alloc (.cells #[.int .u8 (b.toNat:Int)] 5)):=by
        have:=run_convert_bytes_back (P:=Tryz.prog) (wr.alloc (.cells #[.int .u8 (b.toNat:Int)] 5)) 142 9 5 ⟨wr.heap.size,0,none⟩ 1 [b] (by kernel_rfl) (by kernel_rfl) (by kernel_rfl) (fun j hj=>by
         simp only[List.length_cons,List.length_nil]at hj
         obtain rfl:j=0:=by omega
         rw[show (⟨wr.heap.size,0,none⟩:Addr).add 0=⟨wr.heap.size,0,none⟩ by simp[Addr.add]]
         exact (Row.new _ _ _).cell 0)
        exact this
       have hba:Below w.heap.size w (wr.alloc (.cells #[.int .u8 (b.toNat:Int)] 5)):=hbr.alloc hbr.size _
       have hdd:((d:Int) / 10)=((d2:Nat):Int):=by omega
       have hd10:d2<10000:=by omega
       clear hb hd2e hlast hnext hk0 hd hcs
       by_cases hlst:((i:Int) == (l.length:Int) - 1)=true
       ·have hdz:=hb1.out hlst
        go_wp2_with fail
        go_roundw
        case rel=>exact ⟨k+1,d2,b :: cs,by go_num,by omega,rfl,hd2,hd10,congrArg Value.string (bytes_app [b] cs),hcs2,hk2,hba⟩
        case measure=>simp[intOf];omega
       ·have hlf:((i:Int) == (l.length:Int) - 1)=false:=by simpa using hlst
        clear hlst
        go_wp2_with fail
        go_roundw
        case rel=>exact ⟨k+1,d2,b :: cs,by go_num,by omega,rfl,hd2,hd10,congrArg Value.string (bytes_app [b] cs),hcs2,hk2,hba⟩
        case measure=>simp[intOf];omega
     ·obtain rfl:k=4:=by omega
      have HL:Hid (cs=if i+1<l.length then txt (l.take (i+1))else T):=Lib.hid (by
       rw[hcs.out]
       exact hnext.out 4 (by omega) (fun h=>hk0.out h (by omega)) (fun _=>Nat.div_eq_of_lt (by omega)) (fun _=>rfl))
      clear hlast hnext hk0 hd hcs
      go_wp2_with fail
      go_roundw
      case rel=>exact ⟨i+1,cs,by go_num,by omega,rfl,HL,hbr⟩
      case measure=>simp[intOf];omega
   ·obtain rfl:i=l.length:=by omega
    have hbs1:=Lib.hid hbs.out
    rw[if_neg (by omega)]at hbs1
    clear hbs
    go_wp2_with fail
    go_ret
    exact ⟨by rw[← hbs1.out];rfl,hbr⟩
end Go.Proofs.YtehbhghbagaliaaGreatDoor
set_option linter.unusedVariables false
set_option linter.unusedSimpArgs false
namespace Vic
open Go Go.RowKit
def RefGot (l:List UInt8) (w:World) (e:Ending) (w':World):Prop:=
 ∃ x b,e=.returned (.tuple #[x,.bool b])∧Below w.heap.size w w'∧((b=false∧¬ GoodNat l)∨(b=true∧GoodNat l∧RefN w' x (numOf 0 l)))
def RefGot2 (l:List UInt8) (w:World) (e:Ending) (w':World):Prop:=
 ∃ x b,e=.returned (.tuple #[x,.bool b])∧Below w.heap.size w w'∧((b=false∧¬ GoodNat l∧x=.slice none 0 0)∨(b=true∧GoodNat l∧RefN w' x (numOf 0 l)))
theorem take_bytes (l:List UInt8) (k:Nat):(⟨l.toArray⟩:ByteArray).extract 0 k=⟨(l.take k).toArray⟩:=by
 apply ByteArray.ext
 simp[ByteArray.extract,ByteArray.copySlice]
theorem str_len {l:List UInt8}(h:(⟨l.toArray⟩:ByteArray).size≤maxLen):l.length≤9223372036854775807:=by
 have h2:l.length≤maxLen:=by simpa [ByteArray.size]using h
 unfold maxLen at h2;omega
end Vic
namespace Go.Proofs.YtehbhghbagaliaaGreatDoor
open Go.RowKit Vic
set_option maxRecDepth 100000 in
set_option maxHeartbeats 4000000 in
theorem law_Text (w:World) (l:List UInt8) (n:Nat) (hl:l.length≤9223372036854775807) (hn:n≤100000) :
 Calls Tryz.prog 8 #[.string ⟨l.toArray⟩,.int .i64 n] w (Keeps (.string ⟨(l.take n).toArray⟩) w):=by
 have HT:Hid ((⟨l.toArray⟩:ByteArray).extract 0 (min (l.length:Int) (n:Int)).toNat=⟨(l.take n).toArray⟩):=Lib.hid (by
  rw[show (min (l.length:Int) (n:Int)).toNat=min l.length n by omega,take_bytes]
  congr 2
  rcases Nat.le_total l.length n with h|h
  ·rw[Nat.min_eq_left h,List.take_of_length_le (Nat.le_refl _),List.take_of_length_le h]
  ·rw[Nat.min_eq_right h])
 go_enter Tryz.func8,Tryz.ntmps8
 go_wp2_with fail
 go_ret
 exact ⟨by rw[HT.out];rfl,Below.refl _ _⟩
set_option maxRecDepth 100000 in
set_option maxHeartbeats 4000000 in
theorem ref_GetN2 (w:World) (l:List UInt8) (hs:l.length≤9223372036854775806) :
 Calls Tryz.prog 40 #[.string ⟨l.toArray⟩] w (RefGot2 l w):=by
 obtain ⟨i1,hi1,hz1,hsz1,hby1⟩:=info_int
 match l,hs with
 | [],_=>
   go_enter Tryz.func40,Tryz.ntmps40
   go_wp2_with fail
   go_ret2
   exact ⟨_,false,rfl,Below.refl _ _,.inl ⟨rfl,fun h=>h.1.1 rfl,rfl⟩⟩
 | c :: r,hs=>
   by_cases hlong:2000<r.length+1
   ·go_enter Tryz.func40,Tryz.ntmps40
    go_wp2_with fail
    go_ret2
    exact ⟨_,false,rfl,Below.refl _ _,.inl ⟨rfl,fun h=>by have:=h.2;simp at this;omega,rfl⟩⟩
   ·by_cases hz:1<r.length+1∧c=48
    ·obtain ⟨hz1,rfl⟩:=hz
     have hb:(((((⟨((48:UInt8) :: r).toArray⟩:ByteArray)[0]'(by show 0<((48:UInt8) :: r).toArray.size;simp)).toNat:Int)) == 48)=true:=rfl
     go_enter Tryz.func40,Tryz.ntmps40
     go_wp2_with fail
     go_ret2
     exact ⟨_,false,rfl,Below.refl _ _,.inl ⟨rfl,fun h=>by have:=h.1.2.2;simp at this;rw[this]at hz1;simp at hz1,rfl⟩⟩
    ·have hb:1<r.length+1→(((((⟨(c :: r).toArray⟩:ByteArray)[0]'(by show 0<(c :: r).toArray.size;simp)).toNat:Int)) == 48)=false:=fun h1=>by
      have:c≠48:=fun e=>hz ⟨h1,e⟩
      have h2:c.toNat≠48:=fun e=>this (UInt8.toNat_inj.1 e)
      show ((c.toNat:Int) == 48)=false
      rw[beq_eq_false_iff_ne];omega
     have hcan:Hid (1<(c :: r).length→(c :: r).head?≠some 48):=Lib.hid fun h1 h2=>hz ⟨h1,by simpa using h2⟩
     have hl2:(c :: r).length≤2000:=by simp;omega
     obtain ⟨L,hL⟩:∃ L,L=c :: r:=⟨_,rfl⟩
     have hlen:r.length+1=L.length:=by rw[hL];rfl
     rw[hlen]at hlong
     have HL:=Lib.hid hL
     obtain ⟨hne,hh⟩:∃ hne:0<(⟨L.toArray⟩:ByteArray).size,1<L.length→(((((⟨L.toArray⟩:ByteArray)[0]'hne).toNat:Int)) == 48)=false:=by
      subst hL
      exact ⟨by show 0<(c :: r).toArray.size;simp,fun h=>hb h⟩
     have hne2:L.isEmpty=false:=by subst hL;rfl
     rw[← hL]at hcan hl2 ⊢
     clear hL hb hlen
     have hl0:0<L.length:=by have h:=hne;change 0<L.toArray.size at h;simpa using h
     by_cases h1:1<L.length
     case' pos=>have hb1:=hh h1
     all_goals
      clear hh
      go_enter Tryz.func40,Tryz.ntmps40
      go_wp2_with fail
     all_goals
      go_loopw [7,4,5,6] (fun t s u v wr=>∃ (m:Nat) (n:List Nat) (wt d:Nat),t=.int .i64 ((m:Int) - 1)∧u=.int .i64 wt∧v=.int .i64 d∧m≤L.length∧Hid (RGet L m n wt d)∧Hid (m=0→d=0)∧Hid (OwnK intKind wr w.heap.size 3 1 s n.length (n.map fun (d:Nat)=>Value.int .i64 (d:Int)))∧Below w.heap.size w wr) (fun t _ _ _ _=>(intOf t+1).toNat)
      case atStart=>exact ⟨L.length,[],1,0,by go_num,rfl,rfl,Nat.le_refl _,RGet.start L,fun _=>rfl,OwnK.nil_ _ _ _ _ _,Below.refl _ _⟩
      case round=>
       obtain ⟨m,n,wt,d,rfl,rfl,rfl,hm,hg,hdm,hown,hbr⟩:=hrel
       rcases Nat.eq_zero_or_pos m with h0|h0
       ·subst h0
        have hd0:d=0:=hdm.out rfl
        obtain ⟨g1,g2⟩:=hg.out.done hd0
        have hgood:Hid (GoodNat L):=Lib.hid ⟨⟨fun e=>by rw[e]at hl0;exact absurd hl0 (by simp),g1,by
         rcases Nat.lt_or_ge 1 L.length with h3|h3
         ·exact .inr (hcan.out h3)
         ·left;omega⟩,hl2⟩
        have hnl:n.length≤2000:=by have:=hg.out.nl;omega
        obtain ⟨A,cA,rfl,hcA,hA⟩:=hown.out.ints
        have CT0:=ref_trim wr A cA n ⟨A,cA,rfl,hcA,hA⟩ hg.out.dg (by omega)
        rw[g2]at CT0
        have CT:=Lib.hid CT0
        clear CT0 g1 g2 hg hown hA hcA
        go_wp2_with fail
        refine CT.out.mono ?_
        rintro e w' ⟨z,rfl,hz,hbz⟩
        go_wp2_with fail
        go_ret2
        exact ⟨z,true,rfl,below_seq hbr hbz,.inr ⟨rfl,hgood.out,hz⟩⟩
       ·obtain ⟨m,rfl⟩:∃ k,m=k+1:=⟨m - 1,by omega⟩
        have hget:m<(⟨L.toArray⟩:ByteArray).size:=by show m<L.toArray.size;simp;omega
        obtain ⟨b,hbe⟩:∃ b,b=(⟨L.toArray⟩:ByteArray)[m]'hget:=⟨_,rfl⟩
        have hLm:Hid (L[m]?=some b):=Lib.hid (by rw[hbe,List.getElem?_eq_getElem (by omega)];rfl)
        obtain ⟨x,hxe⟩:∃ x:Nat,x=b.toNat:=⟨_,rfl⟩
        have hx:((((⟨L.toArray⟩:ByteArray)[m]'hget).toNat:Nat):Int)=(x:Int):=by rw[hxe,hbe]
        have HX:=Lib.hid hxe
        have hnl:n.length+(m+1)≤L.length:=hg.out.nl
        clear hbe hxe
        by_cases hdig:48≤x∧x≤57
        ·obtain ⟨hd1,hd2⟩:=hdig
         have hdg:Hid (isDig b=true):=Lib.hid (isDig_iff.2 (by rw[← HX.out];exact ⟨hd1,hd2⟩))
         obtain ⟨y,hy⟩:∃ y,y=x - 48:=⟨_,rfl⟩
         have e0:(x:Int) - 48=(y:Int):=by omega
         have hsb:=hg.out.bound hdg.out
         rw[← HX.out,← hy]at hsb
         obtain ⟨z,hz⟩:∃ z,z=y*wt:=⟨_,rfl⟩
         rw[← hz]at hsb
         have hwt:=hg.out.wd
         have hwb:wt≤1000:=by omega
         have e1:(y:Int)*(wt:Int)=(z:Int):=by rw[hz];simp
         obtain ⟨s,hs⟩:∃ s,s=d+z:=⟨_,rfl⟩
         have e2:(d:Int)+(z:Int)=(s:Int):=by omega
         have hs4:s<10000:=by omega
         have hse:Hid (s=d+(b.toNat - 48)*wt):=Lib.hid (by rw[hs,hz,hy,HX.out])
         have hzb:z≤10000:=by omega
         have hyb:y≤9:=by omega
         clear hsb hs hz hy
         by_cases hput:wt=1000∨m=0
         ·have HP:=Lib.hid (hg.out.put hLm.out hdg.out (by omega))
          rw[← hse.out]at HP
          have hown1:=Lib.hid (hown.out.stay (w':=wr.alloc (.cells #[.int .i64 (s:Int)] 3)) (fun b hb=>((Below.refl wr.heap.size wr).alloc (Nat.le_refl _) _).block b (hown.out.lt hb).2))
          have hnew1:Hid (∀ (j:Nat) u,[Value.int .i64 (s:Int)][j]?=some u→(wr.alloc (.cells #[.int .i64 (s:Int)] 3)).cell? ((⟨wr.heap.size,0,none⟩:Addr).add j)=some u):=Lib.hid fun j u hj=>by
           rcases j with _|j
           ·cases hj
            exact (Row.new _ _ _).cell 0
           ·simp at hj
          have hk1:w.heap.size≤(wr.alloc (.cells #[.int .i64 (s:Int)] 3)).heap.size:=Nat.le_trans hbr.size (by simp)
          clear hg hwt hse
          by_cases hw:wt=1000
          case' pos=>
           have hwf:((wt:Int)*10 == 10000)=true:=by rw[beq_iff_eq];omega
           clear hw hput
          case' neg=>
           have hmt:((m:Int) == 0)=true:=by rw[beq_iff_eq];omega
           have hwf:((wt:Int)*10 == 10000)=false:=by rw[beq_eq_false_iff_ne];omega
           clear hw hput
          all_goals
           go_wp2_with (at_builtin;refine wpList_append_ownK (Kd:=intKind) rfl (.tmp 59) (.tmp 61) 33 rfl w.heap.size 3 i1 _ 1 Tryz.underlying33 hi1 hz1 hsz1 rfl (by omega) _ n.length _ rfl hown1.out ⟨wr.heap.size,0,none⟩ 1 1 [Value.int .i64 (s:Int)] rfl (by simp) hnew1.out (by simp[Value.oneCell']) (by simp[intKind]) (by simp[intKind,Value.cells]) (by omega) (by unfold maxLen;omega) (by rw[hby1];omega) hk1 ?_;intro v5 w5 hown5 hgr5 hloc5)
          all_goals
           have hb5:=hown.out.below hbr ((Below.refl wr.heap.size wr).alloc (Nat.le_refl _) _) hgr5 hbr.size
           refine ⟨⟨m,n ++ [s],1,0,?_,rfl,rfl,by omega,HP,fun _=>rfl,?_,hb5⟩,?_⟩
           ·rfl
           ·rw[List.length_append,List.map_append];exact hown5
           ·simp[intOf]
         ·have hm0:m≠0:=by omega
          have HP:=Lib.hid (hg.out.more hLm.out hdg.out (by omega) hm0)
          rw[← hse.out]at HP
          have hwf:((wt:Int)*10 == 10000)=false:=by rw[beq_eq_false_iff_ne];omega
          have hmf:((m:Int) == 0)=false:=by rw[beq_eq_false_iff_ne];omega
          clear hg hwt hse hput
          go_wp2_with fail
          all_goals
           go_roundw
           case rel=>exact ⟨m,n,wt*10,s,by go_num,by go_num,rfl,by omega,HP,fun h=>absurd h hm0,hown,hbr⟩
           case measure=>simp[intOf]
        ·have hno:Hid (¬ GoodNat L):=Lib.hid fun h=>hdig (by
          have h1:=h.1.2.1 b (List.mem_of_getElem? hLm.out)
          have h2:=isDig_iff.1 h1
          rw[HX.out]
          exact h2)
         have hor:x<48∨57<x:=by omega
         clear hg hown hdig
         rcases hor with hor|hor
         all_goals
          go_wp2_with fail
          go_ret2
          exact ⟨_,false,rfl,hbr,.inl ⟨rfl,hno.out,rfl⟩⟩
theorem ref_GetN (w:World) (l:List UInt8) (hs:l.length≤9223372036854775806) :
 Calls Tryz.prog 40 #[.string ⟨l.toArray⟩] w (RefGot l w):=
 (ref_GetN2 w l hs).mono fun e w' ⟨x,b,h1,h2,h3⟩=>⟨x,b,h1,h2,h3.imp (fun h=>⟨h.1,h.2.1⟩) id⟩
end Go.Proofs.YtehbhghbagaliaaGreatDoor
