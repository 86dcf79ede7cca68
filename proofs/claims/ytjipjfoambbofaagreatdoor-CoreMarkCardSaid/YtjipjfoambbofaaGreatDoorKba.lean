/- Package core's reader: what a pair lays. -/
import Derived.Test.YtjipjfoambbofaaGreatDoorKaz
import Derived.Deep.RegionHeld3
import Derived.Test.YtjipjfoambbofaaGreatDoorKay
import Derived.Deep.RegionWith
import Derived.Test.YtjipjfoambbofaaGreatDoorKav
set_option linter.unusedVariables false
set_option linter.unusedSimpArgs false
section
namespace Vic
open Go Go.RowKit
theorem modify_set {α:Type}{l:List α}{i:Nat}{x:α}{f:α→α}(h:l[i]?=some x):l.modify i f=l.set i (f x):=by
 apply List.ext_getElem?
 intro j
 rw[List.getElem?_modify,List.getElem?_set]
 by_cases hij:i=j
 ·subst hij
  have:=(List.getElem?_eq_some_iff.1 h).1
  have e:l[i]=x:=(List.getElem?_eq_some_iff.1 h).2
  simp[this,e]
 ·simp[hij]
def Boxed (bx r:Nat) (w:World):Prop:=w.heap[bx]?=some (.cells #[.pointer (some ⟨r,0,none⟩)] 87 (0,0))
theorem Boxed.fr {bx r:Nat}{w w':World}(h:Boxed bx r w) (hf:Fr w w'):Boxed bx r w':=hf _ _ _ _ h (by decide) (by decide) (by decide) (by decide)
theorem Boxed.cell {bx r:Nat}{w:World}(h:Boxed bx r w):w.cell? ⟨bx,0,none⟩=some (.pointer (some ⟨r,0,none⟩)):=by unfold Boxed at h;simp[World.cell?,h]
theorem rvs_len {B:Nat}{w:World}{r:Nat}{st:CSt}{rv cv lv:Value}{mr mc ms:Nat}{rvs:List RowV}(h:RD B w r st rv cv lv mr mc ms rvs):rvs.length=st.c.rows.length:=by
 have:=congrArg List.length h.rowsEq
 simpa using this
theorem RD.setRow {B:Nat}{w:World}{r:Nat}{st:CSt}{rv cv lv:Value}{mr mc ms:Nat}{rvs:List RowV}(h:RD B w r st rv cv lv mr mc ms rvs) {i k:Nat}{x:RowM}{y:RowM}{u:Value}(hi:st.c.rows[i]?=some x) (hk:k<5) (hy:∀ cv,encRow (y,cv)=(encRow (x,cv)).set k u) (hc:y.coef=x.coef) :
 ∃ g c cvi,rv=.slice (some ⟨g,0,none⟩) st.c.rows.length c∧st.c.rows.length≤c∧w.cell? ⟨g,i*5+k,none⟩=(encRow (x,cvi))[k]?∧w.frozen? ⟨g,i*5+k,none⟩=false∧B≤g∧(∃ cur,w.heap[g]?=some (.cells cur 45 (0,0)))∧RD B (w.setCell ⟨g,i*5+k,none⟩ u) r { st with c:={ st.c with rows:=st.c.rows.set i y } } rv cv lv mr mc ms (rvs.set i (y,cvi)):=by
 have hl:=rvs_len h
 have hil:i<rvs.length:=by rw[hl];exact (List.getElem?_eq_some_iff.1 hi).1
 obtain ⟨x',cvi,hv⟩:∃ x' cvi,rvs[i]?=some (x',cvi):=⟨rvs[i].1,rvs[i].2,by simp[hil]⟩
 have hx:x'=x:=by
  have:=congrArg (fun l=>l[i]?) h.rowsEq
  simp only[List.getElem?_map,hv,Option.map_some,hi,Option.some.injEq]at this
  exact this
 subst hx
 obtain ⟨g,c,rfl⟩:=OwnK.shape h.rows.rows (by omega)
 have hlt:=h.rows.rows.lt (g:=g) rfl
 obtain ⟨cur,hcur⟩:=h.rows.rows.typed (g:=g) rfl
 obtain ⟨A,c',hA,hc',hcells⟩:=h.rows.rows.sl
 injection hA with hA1 _ hA3
 subst hA1;subst hA3
 have hke:k<(encRow (x',cvi)).length:=hk
 obtain ⟨v0,hv0⟩:∃ v0,(encRow (x',cvi))[k]?=some v0:=⟨_,List.getElem?_eq_getElem hke⟩
 have hget:=fl_get (enc:=encRow) encRow_len hv hk
 rw[hv0]at hget
 obtain ⟨g',hg',hcell⟩:=hcells _ _ hget
 injection hg' with hg'
 injection hg' with hg'
 subst hg'
 have hset:=fl_set (enc:=encRow) (size:=5) encRow_len hv hk (hy cvi)
 have hsl:i*5+k<(rvs.flatMap encRow).length:=(List.getElem?_eq_some_iff.1 hget).1
 have hown:=h.rows.rows.store (g:=g) rfl (i*5+k) u hsl trivial
 rw[hset]at hown
 have hoth:∀ g2,g2≠g→(w.setCell ⟨g,i*5+k,none⟩ u).heap[g2]?=w.heap[g2]?:=set_other w g _ u
 have hty:∀ {g2:Nat}{cs:Array Value}{t:TypeId}{fr:Nat × Nat},w.heap[g2]?=some (.cells cs t fr)→t≠45→(w.setCell ⟨g,i*5+k,none⟩ u).heap[g2]?=w.heap[g2]?:=fun h2 ht=>hoth _ (ne_of_type h2 hcur ht)
 have hmap:∀ {m:Nat}{f:List UInt8→Option Value},StrMap w m f→StrMap (w.setCell ⟨g,i*5+k,none⟩ u) m f:=fun hm=>hm.stay (hoth _ fun e=>hm.ne hcur e.symm)
 refine ⟨g,c,cvi,by rw[hl],by rw[← hl];exact hc',by rw[hv0];exact hcell,Row.free (cs:=cur) (t:=45) hcur _,hlt.1,⟨cur,hcur⟩,(hty h.blk (by decide)).trans h.blk,h.rB,h.mrB,h.mcB,h.msB,h.mrc,h.mrs,h.mcs,hmap h.mapR,hmap h.mapC,hmap h.mapS,⟨?_,?_⟩,?_,?_,?_⟩
 ·rw[List.length_set];exact hown
 ·have h2:=h.rows.coefs.other (w':=w.setCell ⟨g,i*5+k,none⟩ u) fun g2 cur2 hc2=>hty hc2 (by decide)
  refine h2.sub fun j hj=>?_
  rw[List.length_set]at hj
  refine ⟨hj,?_⟩
  unfold rvV rvN rvX
  rw[List.getElem?_set]
  by_cases hij:i=j
  ·subst hij
   rw[if_pos rfl,if_pos hil,hv]
   simp[hc]
  ·simp[hij]
 ·simp[List.map_set,h.rowsEq]
 ·exact h.cols.stay fun g2 hg2=>by obtain ⟨cur2,hc2⟩:=h.cols.typed hg2;exact hty hc2 (by decide)
 ·exact h.words.imp fun g2 o s _ hs=>⟨hs.1,by
   show (w.setCell ⟨g,i*5+k,none⟩ u).cell? _=_
   rw[cell_same (hoth g2 (by have:=hs.1;have:=hlt.1;omega))]
   exact hs.2.1,hs.2.2⟩
theorem RD.setCol {B:Nat}{w:World}{r:Nat}{st:CSt}{rv cv lv:Value}{mr mc ms:Nat}{rvs:List RowV}(h:RD B w r st rv cv lv mr mc ms rvs) {i k:Nat}{x:ColM}{y:ColM}{u:Value}(hi:st.c.cols[i]?=some x) (hk:k<5) (hy:encCol y=(encCol x).set k u) :
 ∃ g c,cv=.slice (some ⟨g,0,none⟩) st.c.cols.length c∧st.c.cols.length≤c∧w.cell? ⟨g,i*5+k,none⟩=(encCol x)[k]?∧w.frozen? ⟨g,i*5+k,none⟩=false∧B≤g∧(∃ cur,w.heap[g]?=some (.cells cur 34 (0,0)))∧RD B (w.setCell ⟨g,i*5+k,none⟩ u) r { st with c:={ st.c with cols:=st.c.cols.set i y } } rv cv lv mr mc ms rvs:=by
 have hil:i<st.c.cols.length:=(List.getElem?_eq_some_iff.1 hi).1
 obtain ⟨g,c,rfl⟩:=OwnK.shape h.cols (by omega)
 have hlt:=h.cols.lt (g:=g) rfl
 obtain ⟨cur,hcur⟩:=h.cols.typed (g:=g) rfl
 obtain ⟨A,c',hA,hc',hcells⟩:=h.cols.sl
 injection hA with hA1 _ hA3
 subst hA1;subst hA3
 have hke:k<(encCol x).length:=hk
 obtain ⟨v0,hv0⟩:∃ v0,(encCol x)[k]?=some v0:=⟨_,List.getElem?_eq_getElem hke⟩
 have hget:=fl_get (enc:=encCol) encCol_len hi hk
 rw[hv0]at hget
 obtain ⟨g',hg',hcell⟩:=hcells _ _ hget
 injection hg' with hg'
 injection hg' with hg'
 subst hg'
 have hset:=fl_set (enc:=encCol) (size:=5) encCol_len hi hk hy
 have hsl:i*5+k<(st.c.cols.flatMap encCol).length:=(List.getElem?_eq_some_iff.1 hget).1
 have hown:=h.cols.store (g:=g) rfl (i*5+k) u hsl trivial
 rw[hset]at hown
 have hoth:∀ g2,g2≠g→(w.setCell ⟨g,i*5+k,none⟩ u).heap[g2]?=w.heap[g2]?:=set_other w g _ u
 have hty:∀ {g2:Nat}{cs:Array Value}{t:TypeId}{fr:Nat × Nat},w.heap[g2]?=some (.cells cs t fr)→t≠34→(w.setCell ⟨g,i*5+k,none⟩ u).heap[g2]?=w.heap[g2]?:=fun h2 ht=>hoth _ (ne_of_type h2 hcur ht)
 have hmap:∀ {m:Nat}{f:List UInt8→Option Value},StrMap w m f→StrMap (w.setCell ⟨g,i*5+k,none⟩ u) m f:=fun hm=>hm.stay (hoth _ fun e=>hm.ne hcur e.symm)
 refine ⟨g,c,rfl,hc',by rw[hv0];exact hcell,Row.free (cs:=cur) (t:=34) hcur _,hlt.1,⟨cur,hcur⟩,(hty h.blk (by decide)).trans h.blk,h.rB,h.mrB,h.mcB,h.msB,h.mrc,h.mrs,h.mcs,hmap h.mapR,hmap h.mapC,hmap h.mapS,?_,h.rowsEq,?_,?_⟩
 ·exact h.rows.stay fun g2 cur2 hc2=>by rcases hc2 with hc2|hc2<;>exact hty hc2 (by decide)
 ·show Own _ B 34 5 _ (st.c.cols.set i y).length _
  rw[List.length_set];exact hown
 ·exact h.words.imp fun g2 o s _ hs=>⟨hs.1,by
   show (w.setCell ⟨g,i*5+k,none⟩ u).cell? _=_
   rw[cell_same (hoth g2 (by have:=hs.1;have:=hlt.1;omega))]
   exact hs.2.1,hs.2.2⟩
theorem RD.addCoef {B:Nat}{w:World}{r:Nat}{st:CSt}{rv cv lv:Value}{mr mc ms:Nat}{rvs:List RowV}(h:RD B w r st rv cv lv mr mc ms rvs) {i:Nat}{x:RowM}{cvi:Value}(hv:rvs[i]?=some (x,cvi)) {z:CoefM}{w1:World}{v':Value}
 (ho:Own w1 B 83 2 v' (x.coef.length+1) (x.coef.flatMap encCf ++ encCf z)) (hg:w.grownBy w1 cvi.ownBlock) (hl:v'.ownBlock=cvi.ownBlock∨v'.ownBlock=some w.heap.size) {g c:Nat}(hrv:rv=.slice (some ⟨g,0,none⟩) rvs.length c) :
 RD B (w1.setCell ⟨g,i*5+2,none⟩ v') r { st with c:={ st.c with rows:=st.c.rows.set i { x with coef:=x.coef ++ [z] } } } rv cv lv mr mc ms (rvs.set i ({ x with coef:=x.coef ++ [z] },v')):=by
 have hil:i<rvs.length:=(List.getElem?_eq_some_iff.1 hv).1
 have hci:Own w B 83 2 cvi x.coef.length (x.coef.flatMap encCf):=by
  have:=h.rows.coefs.own i hil
  simpa [rvV,rvN,rvX,hv]using this
 obtain ⟨cur,hcur⟩:=h.rows.rows.typed (g:=g) (by rw[hrv];rfl)
 have hlt:=h.rows.rows.lt (g:=g) (by rw[hrv];rfl)
 have hk1:∀ {g2:Nat}{cs:Array Value}{t:TypeId}{fr:Nat × Nat},w.heap[g2]?=some (.cells cs t fr)→t≠83→w1.heap[g2]?=w.heap[g2]?:=fun h2 ht=>grown_other hci hg h2 ht
 have hcur1:w1.heap[g]?=some (.cells cur 45 (0,0)):=(hk1 hcur (by decide)).trans hcur
 have hoth:∀ g2,g2≠g→(w1.setCell ⟨g,i*5+2,none⟩ v').heap[g2]?=w1.heap[g2]?:=set_other w1 g _ v'
 have hty:∀ {g2:Nat}{cs:Array Value}{t:TypeId}{fr:Nat × Nat},w.heap[g2]?=some (.cells cs t fr)→t≠45→t≠83→(w1.setCell ⟨g,i*5+2,none⟩ v').heap[g2]?=w.heap[g2]?:=fun h2 ht ht2=>(hoth _ (ne_of_type h2 hcur ht)).trans (hk1 h2 ht2)
 have hmap:∀ {m:Nat}{f:List UInt8→Option Value},StrMap w m f→StrMap (w1.setCell ⟨g,i*5+2,none⟩ v') m f:=fun hm=>(grown_map hci hg hm).stay (hoth _ fun e=>hm.ne hcur e.symm)
 refine ⟨(hty h.blk (by decide) (by decide)).trans h.blk,h.rB,h.mrB,h.mcB,h.msB,h.mrc,h.mrs,h.mcs,hmap h.mapR,hmap h.mapC,hmap h.mapS,⟨?_,?_⟩,?_,?_,?_⟩
 ·have h1:Own w1 B 45 5 rv rvs.length (rvs.flatMap encRow):=h.rows.rows.stay fun g2 hg2=>by obtain ⟨c2,hc2⟩:=h.rows.rows.typed hg2;exact hk1 hc2 (by decide)
  have hget:=fl_get (enc:=encRow) encRow_len hv (k:=2) (by omega)
  have hset:=fl_set (enc:=encRow) (size:=5) (y:=(({ x with coef:=x.coef ++ [z] }:RowM),v')) (u:=v') encRow_len hv (k:=2) (by omega) rfl
  have hsl:i*5+2<(rvs.flatMap encRow).length:=by rw[fl_len encRow_len];omega
  have h2:=h1.store (g:=g) (by rw[hrv];rfl) (i*5+2) v' hsl trivial
  rw[hset]at h2
  rw[List.length_set];exact h2
 ·have h1:=h.rows.coefs.app i hil ho (by simpa [rvV,hv]using hg) (by simpa [rvV,hv]using hl)
  have h2:=h1.other (w':=w1.setCell ⟨g,i*5+2,none⟩ v') fun g2 cur2 hc2=>hoth g2 (ne_of_type hc2 hcur1 (by decide))
  refine h2.sub fun j hj=>?_
  rw[List.length_set]at hj
  refine ⟨hj,?_⟩
  unfold rvV rvN rvX
  rw[List.getElem?_set]
  by_cases hij:i=j
  ·subst hij
   rw[if_pos rfl,if_pos hil]
   simp
  ·rw[if_neg hij]
   have hji:¬ j=i:=fun e=>hij e.symm
   simp[hji]
 ·simp[List.map_set,h.rowsEq]
 ·exact h.cols.stay fun g2 hg2=>by obtain ⟨cur2,hc2⟩:=h.cols.typed hg2;exact hty hc2 (by decide) (by decide)
 ·have h1:=grown_words hci hg h.words
  exact h1.imp fun g2 o s _ hs=>⟨hs.1,by
   show (w1.setCell ⟨g,i*5+2,none⟩ v').cell? _=_
   rw[cell_same (hoth g2 (by have:=hs.1;have:=hlt.1;omega))]
   exact hs.2.1,hs.2.2⟩
end Vic
namespace Go.Proofs.YtjipjfoambbofaaGreatDoor
open Go.RowKit Vic
set_option maxRecDepth 100000 in
set_option maxHeartbeats 8000000 in
theorem core_side_c1 {B:Nat}{w:World}{r bx:Nat}{st:CSt}(h:CR B w r st) (hBw:B≤w.heap.size) (ht:Tab w) (hbx:Boxed bx r w) (row:Nat) (q:Rat) (x:Value) (hx:FracPtr w x q) (hq:Fits 1000000 q) (hrow:row<st.c.rows.length) (hat:st.at_=4) :
 Calls Tryz.prog 149 #[.int .i64 row,x,.pointer (some ⟨bx,0,none⟩)] w (Turns B r (.tuple #[]) (st.put row q) w):=by
 unfold Turns
 obtain ⟨b9,pn,pd,rfl,_⟩:=id hx
 obtain ⟨bq,hbq⟩:∃ bq,bq=(⟨b9,0,none⟩:Addr):=⟨_,rfl⟩
 rw[← hbq]at hx ⊢
 clear hbq
 have CT:Hid (∀ W,Below w.heap.size w W→Calls Tryz.prog 103 #[.pointer (some bq)] W (Keeps (.string ⟨(fracText q).toArray⟩) W)):=Lib.hid fun W hb=>frac_Text W _ q (hx.keep hb).at_ hq (ht.keep hb)
 have hbc:=hbx.cell
 have ha:=h.atC
 rw[hat]at ha
 obtain ⟨xr,hxr⟩:∃ xr,st.c.rows[row]?=some xr:=⟨st.c.rows[row],by simp[hrow]⟩
 obtain ⟨rv,cv,lv,mr,mc,ms,rvs,hd⟩:=id h
 have hset:∀ W,RD B W r st rv cv lv mr mc ms rvs→_:=fun W hW=>hW.setRow (i:=row) (k:=3) (x:=xr) (y:={ xr with rhs:=fracText q }) (u:=.string ⟨(fracText q).toArray⟩) hxr (by omega) (fun cv=>rfl) rfl
 obtain ⟨g,c,cvi,hrv,hlc,hcl,hfz,hgB,hgt,_⟩:=hset w hd
 have hrc:=hd.cells.2.2.1
 rw[hrv]at hrc
 have hcl':w.cell? ⟨g,row*5+3,none⟩=some (.string ⟨xr.rhs.toArray⟩):=hcl
 have HD:=Lib.hid hd
 have HSET:=Lib.hid hset
 have HRV:=Lib.hid hrv
 have hgr:g≠r:=by
  obtain ⟨cur,hcur⟩:=hgt
  exact ne_of_type hcur hd.blk (by decide)
 have hgb:g≠bx:=by
  obtain ⟨cur,hcur⟩:=hgt
  exact ne_of_type hcur hbx (by decide)
 have hr0:(0:Int)≤(row:Int):=by omega
 have hr1:(row:Int)<(st.c.rows.length:Int):=by omega
 have HRW:=Lib.hid hxr
 have HM:Hid (st.put row q={ st with c:={ st.c with rows:=st.c.rows.set row { xr with rhs:=fracText q } } }):=by
  show _=_
  unfold CSt.put
  rw[if_neg (by omega),if_pos hat]
  unfold setRowM
  rw[Int.toNat_natCast,modify_set hxr]
 clear hx h hbx hat hd hset hxr hcl hrv
 go_enter Tryz.func149,Tryz.ntmps149
 go_wp2_with fail
 go_region_held3 (fun w'=>w'.cell? ⟨bx,0,none⟩=some (.pointer (some ⟨r,0,none⟩))∧w'.cell? ⟨r,2,none⟩=some (.slice (some ⟨g,0,none⟩) st.c.rows.length c))
  (first|go_keep|(refine ⟨cell_keep (w:=w.drew) ?_ (by assumption),cell_keep (w:=w.drew) ?_ (by assumption)⟩<;>(simpa using (by assumption)))|(refine ⟨?_,?_⟩<;>(rw[World.cell?_setCell_other _ _ _ _ (by simp[hgb,hgr])];assumption)))
  (first|(go_at_call 103;refine (CT.out _ ((Below.refl _ _).drew)).mono ?_;rintro e w' ⟨rfl,hbz⟩;have hcz:w'.cell? ⟨g,row*5+3,none⟩=some (.string ⟨xr.rhs.toArray⟩):=cell_keep (w:=w.drew) hcl' hbz;have hfz2:w'.frozen? ⟨g,row*5+3,none⟩=false:=(hbz.frozen (p:=⟨g,row*5+3,none⟩) (block_lt (w:=w.drew) hcl')).trans hfz))
 have hb1:Below w.heap.size w w':=((Below.refl _ _).drew).trans hbz
 obtain ⟨g2,c2,cvi2,hrv2,_,_,_,_,⟨cur2,hcur2⟩,hfin⟩:=HSET.out w' (HD.out.keep hb1)
 rw[HRV.out]at hrv2
 injection hrv2 with hg2 _ _
 injection hg2 with hg2
 injection hg2 with hg2
 subst hg2
 have HF:Hid (Fr w (w'.setCell ⟨g,row*5+3,none⟩ (.string ⟨(fracText q).toArray⟩))):=(Fr.below hb1).trans (Fr.same hcur2 (.inr (.inl rfl)) fun g' _ hg'=>set_other w' g _ (.string ⟨(fracText q).toArray⟩) g' hg')
 have HFI:=Lib.hid hfin
 have HB:Hid (Below B w (w'.setCell ⟨g,row*5+3,none⟩ (.string ⟨(fracText q).toArray⟩))):=(hb1.mono hBw).trans (below_set hgB)
 clear hfin hcur2
 go_wp2_with fail
 go_end0
 exact ⟨rfl,by rw[HM.out];exact ⟨_,_,_,_,_,_,_,HFI.out⟩,HB.out,HB.out.size,HF.out⟩
set_option maxRecDepth 100000 in
set_option maxHeartbeats 8000000 in
theorem core_side_c1r {B:Nat}{w:World}{r bx:Nat}{st:CSt}(h:CR B w r st) (hBw:B≤w.heap.size) (ht:Tab w) (hbx:Boxed bx r w) (row:Nat) (q:Rat) (x:Value) (hx:FracPtr w x q) (hq:Fits 1000000 q) (hrow:row<st.c.rows.length) (hat:st.at_=5) :
 Calls Tryz.prog 149 #[.int .i64 row,x,.pointer (some ⟨bx,0,none⟩)] w (Turns B r (.tuple #[]) (st.put row q) w):=by
 unfold Turns
 obtain ⟨b9,pn,pd,rfl,_⟩:=id hx
 obtain ⟨bq,hbq⟩:∃ bq,bq=(⟨b9,0,none⟩:Addr):=⟨_,rfl⟩
 rw[← hbq]at hx ⊢
 clear hbq
 have CT:Hid (∀ W,Below w.heap.size w W→Calls Tryz.prog 103 #[.pointer (some bq)] W (Keeps (.string ⟨(fracText q).toArray⟩) W)):=Lib.hid fun W hb=>frac_Text W _ q (hx.keep hb).at_ hq (ht.keep hb)
 have hbc:=hbx.cell
 have ha:=h.atC
 rw[hat]at ha
 obtain ⟨xr,hxr⟩:∃ xr,st.c.rows[row]?=some xr:=⟨st.c.rows[row],by simp[hrow]⟩
 obtain ⟨rv,cv,lv,mr,mc,ms,rvs,hd⟩:=id h
 have hset:∀ W,RD B W r st rv cv lv mr mc ms rvs→_:=fun W hW=>hW.setRow (i:=row) (k:=4) (x:=xr) (y:={ xr with range:=fracText q }) (u:=.string ⟨(fracText q).toArray⟩) hxr (by omega) (fun cv=>rfl) rfl
 obtain ⟨g,c,cvi,hrv,hlc,hcl,hfz,hgB,hgt,_⟩:=hset w hd
 have hrc:=hd.cells.2.2.1
 rw[hrv]at hrc
 have hcl':w.cell? ⟨g,row*5+4,none⟩=some (.string ⟨xr.range.toArray⟩):=hcl
 have HD:=Lib.hid hd
 have HSET:=Lib.hid hset
 have HRV:=Lib.hid hrv
 have hgr:g≠r:=by
  obtain ⟨cur,hcur⟩:=hgt
  exact ne_of_type hcur hd.blk (by decide)
 have hgb:g≠bx:=by
  obtain ⟨cur,hcur⟩:=hgt
  exact ne_of_type hcur hbx (by decide)
 have hr0:(0:Int)≤(row:Int):=by omega
 have hr1:(row:Int)<(st.c.rows.length:Int):=by omega
 have HRW:=Lib.hid hxr
 have HM:Hid (st.put row q={ st with c:={ st.c with rows:=st.c.rows.set row { xr with range:=fracText q } } }):=by
  show _=_
  unfold CSt.put
  rw[if_neg (by omega),if_neg (by omega)]
  unfold setRowM
  rw[Int.toNat_natCast,modify_set hxr]
 clear hx h hbx hat hd hset hxr hcl hrv
 go_enter Tryz.func149,Tryz.ntmps149
 go_wp2_with fail
 go_region_held3 (fun w'=>w'.cell? ⟨bx,0,none⟩=some (.pointer (some ⟨r,0,none⟩))∧w'.cell? ⟨r,2,none⟩=some (.slice (some ⟨g,0,none⟩) st.c.rows.length c))
  (first|go_keep|(refine ⟨cell_keep (w:=w.drew) ?_ (by assumption),cell_keep (w:=w.drew) ?_ (by assumption)⟩<;>(simpa using (by assumption)))|(refine ⟨?_,?_⟩<;>(rw[World.cell?_setCell_other _ _ _ _ (by simp[hgb,hgr])];assumption)))
  (first|(go_at_call 103;refine (CT.out _ ((Below.refl _ _).drew)).mono ?_;rintro e w' ⟨rfl,hbz⟩;have hcz:w'.cell? ⟨g,row*5+4,none⟩=some (.string ⟨xr.range.toArray⟩):=cell_keep (w:=w.drew) hcl' hbz;have hfz2:w'.frozen? ⟨g,row*5+4,none⟩=false:=(hbz.frozen (p:=⟨g,row*5+4,none⟩) (block_lt (w:=w.drew) hcl')).trans hfz))
 have hb1:Below w.heap.size w w':=((Below.refl _ _).drew).trans hbz
 obtain ⟨g2,c2,cvi2,hrv2,_,_,_,_,⟨cur2,hcur2⟩,hfin⟩:=HSET.out w' (HD.out.keep hb1)
 rw[HRV.out]at hrv2
 injection hrv2 with hg2 _ _
 injection hg2 with hg2
 injection hg2 with hg2
 subst hg2
 have HF:Hid (Fr w (w'.setCell ⟨g,row*5+4,none⟩ (.string ⟨(fracText q).toArray⟩))):=(Fr.below hb1).trans (Fr.same hcur2 (.inr (.inl rfl)) fun g' _ hg'=>set_other w' g _ (.string ⟨(fracText q).toArray⟩) g' hg')
 have HFI:=Lib.hid hfin
 have HB:Hid (Below B w (w'.setCell ⟨g,row*5+4,none⟩ (.string ⟨(fracText q).toArray⟩))):=(hb1.mono hBw).trans (below_set hgB)
 clear hfin hcur2
 go_wp2_with fail
 go_end0
 exact ⟨rfl,by rw[HM.out];exact ⟨_,_,_,_,_,_,_,HFI.out⟩,HB.out,HB.out.size,HF.out⟩
end Go.Proofs.YtjipjfoambbofaaGreatDoor
end
section
namespace Vic
open Go Go.RowKit
end Vic
namespace Go.Proofs.YtjipjfoambbofaaGreatDoor
open Go.RowKit Vic
theorem info_coef0:(Tryz.prog.info? 83).map (fun i=>(i.zero,i.size,i.bytes))=some (some (.agg #[.int .i64 0,.string ⟨#[]⟩]),2,24):=by kernel_rfl
theorem info_coef:∃ i:TypeInfo,Tryz.prog.info? 83=some i∧i.zero=some (.agg #[.int .i64 0,.string ⟨#[]⟩])∧i.size=2∧i.bytes=24:=by
 have h:=info_coef0
 cases hi:Tryz.prog.info? 83 with
 | none=>rw[hi]at h;simp at h
 | some i=>rw[hi]at h;simp at h;exact ⟨i,rfl,h.1,h.2.1,h.2.2⟩
end Go.Proofs.YtjipjfoambbofaaGreatDoor
end
section
namespace Vic
open Go Go.RowKit
theorem RD.rowAt {B:Nat}{w:World}{r:Nat}{st:CSt}{rv cv lv:Value}{mr mc ms:Nat}{rvs:List RowV}(h:RD B w r st rv cv lv mr mc ms rvs) {i:Nat}{x:RowM}(hi:st.c.rows[i]?=some x) :
 ∃ g c cvi,rv=.slice (some ⟨g,0,none⟩) rvs.length c∧rvs.length≤c∧rvs[i]?=some (x,cvi)∧(∀ k u,(encRow (x,cvi))[k]?=some u→w.cell? ⟨g,i*5+k,none⟩=some u)∧(∀ o,w.frozen? ⟨g,o,none⟩=false)∧B≤g∧(∃ cur,w.heap[g]?=some (.cells cur 45 (0,0)))∧Own w B 83 2 cvi x.coef.length (x.coef.flatMap encCf):=by
 have hl:=rvs_len h
 have hil:i<rvs.length:=by rw[hl];exact (List.getElem?_eq_some_iff.1 hi).1
 obtain ⟨x',cvi,hv⟩:∃ x' cvi,rvs[i]?=some (x',cvi):=⟨rvs[i].1,rvs[i].2,by simp[hil]⟩
 have hx:x'=x:=by
  have:=congrArg (fun l=>l[i]?) h.rowsEq
  simp only[List.getElem?_map,hv,Option.map_some,hi,Option.some.injEq]at this
  exact this
 subst hx
 obtain ⟨g,c,rfl⟩:=OwnK.shape h.rows.rows (by omega)
 have hlt:=h.rows.rows.lt (g:=g) rfl
 obtain ⟨cur,hcur⟩:=h.rows.rows.typed (g:=g) rfl
 obtain ⟨A,c',hA,hc',hcells⟩:=h.rows.rows.sl
 injection hA with hA1 _ hA3
 subst hA1;subst hA3
 refine ⟨g,c,cvi,rfl,hc',hv,fun k u hk=>?_,fun o=>Row.free (cs:=cur) (t:=45) hcur _,hlt.1,⟨cur,hcur⟩,?_⟩
 ·have hk5:k<5:=by
   have:=(List.getElem?_eq_some_iff.1 hk).1
   rw[encRow_len]at this;exact this
  have hget:=fl_get (enc:=encRow) encRow_len hv hk5
  rw[hk]at hget
  obtain ⟨g',hg',hcell⟩:=hcells _ _ hget
  injection hg' with hg'
  injection hg' with hg'
  subst hg'
  exact hcell
 ·have:=h.rows.coefs.own i hil
  simpa [rvV,rvN,rvX,hv]using this
theorem blk_keep {w w':World}{k:Nat}{o:Obj}(h:w.heap[k]?=some o) (hb:Below w.heap.size w w'):w'.heap[k]?=w.heap[k]?:=
 hb.block k (by
  rcases Nat.lt_or_ge k w.heap.size with h1|h1
  ·exact h1
  ·rw[Array.getElem?_eq_none h1]at h;cases h)
theorem one_cf {w:World}{b:Nat}{z:CoefM}(h:Row w b 83 #[.int .i64 z.1,.string ⟨z.2.toArray⟩]) (j:Nat) (u:Value) (hj:(encCf z)[j]?=some u):w.cell? ((⟨b,0,none⟩:Addr).add j)=some u:=by
 rcases j with _|_|j
 ·simp[encCf]at hj;subst hj;exact h.cell 0
 ·simp[encCf]at hj;subst hj;exact h.cell 1
 ·simp[encCf]at hj
theorem Fr.grown_ {w w':World}{B:Nat}{size:Nat}{v:Value}{n:Nat}{xs:List Value}(ho:Own w B 83 size v n xs) (hg:w.grownBy w' v.ownBlock):Fr w w':=fun g cs t fr h _ _ h3 _=>(grown_other ho hg h h3).trans h
end Vic
namespace Go.Proofs.YtjipjfoambbofaaGreatDoor
open Go.RowKit Vic
abbrev vcol4_0:Oper:={ dst:=some 30,op:=Go.Op.load 87 (Go.Operand.tmp 2),type:=87,pos:="read.go:141",after:=#[],guard:=none }
abbrev vcol4_1:Oper:={ dst:=some 31,op:=Go.Op.nilCheck (Go.Operand.tmp 30),type:=0,pos:="read.go:141",after:=#[{ on:=0,ground:=Go.Ground.data }],guard:=none }
abbrev vcol4_2:Oper:={ dst:=some 32,op:=Go.Op.fieldAddr 91 (Go.Operand.tmp 31) 0,type:=0,pos:="read.go:141",after:=#[{ on:=1,ground:=Go.Ground.data }],guard:=none }
abbrev vcol4_3:Oper:={ dst:=some 33,op:=Go.Op.fieldAddr 29 (Go.Operand.tmp 32) 2,type:=0,pos:="read.go:141",after:=#[{ on:=2,ground:=Go.Ground.data }],guard:=none }
abbrev vcol4_4:Oper:={ dst:=some 34,op:=Go.Op.load 26 (Go.Operand.tmp 33),type:=26,pos:="read.go:141",after:=#[{ on:=3,ground:=Go.Ground.data }],guard:=none }
abbrev vcol4_5:Oper:={ dst:=some 35,op:=Go.Op.move (Go.Operand.tmp 0),type:=3,pos:="read.go:141",after:=#[],guard:=none }
abbrev vcol4_6:Oper:={ dst:=some 36,op:=Go.Op.load 87 (Go.Operand.tmp 2),type:=87,pos:="read.go:141",after:=#[],guard:=none }
abbrev vcol4_7:Oper:={ dst:=some 37,op:=Go.Op.nilCheck (Go.Operand.tmp 36),type:=0,pos:="read.go:141",after:=#[{ on:=6,ground:=Go.Ground.data }],guard:=none }
abbrev vcol4_8:Oper:={ dst:=some 38,op:=Go.Op.fieldAddr 91 (Go.Operand.tmp 37) 0,type:=0,pos:="read.go:141",after:=#[{ on:=7,ground:=Go.Ground.data }],guard:=none }
abbrev vcol4_9:Oper:={ dst:=some 39,op:=Go.Op.fieldAddr 29 (Go.Operand.tmp 38) 2,type:=0,pos:="read.go:141",after:=#[{ on:=8,ground:=Go.Ground.data }],guard:=none }
abbrev vcol4_10:Oper:={ dst:=some 40,op:=Go.Op.load 26 (Go.Operand.tmp 39),type:=26,pos:="read.go:141",after:=#[{ on:=9,ground:=Go.Ground.data }],guard:=none }
abbrev vcol4_11:Oper:={ dst:=some 41,op:=Go.Op.move (Go.Operand.tmp 0),type:=3,pos:="read.go:141",after:=#[],guard:=none }
abbrev vcol4_12:Oper:={ dst:=some 42,op:=Go.Op.indexAddr 26 (Go.Operand.tmp 40) (Go.Operand.tmp 41),type:=0,pos:="read.go:141",after:=#[{ on:=10,ground:=Go.Ground.data },{ on:=11,ground:=Go.Ground.data }],guard:=none }
abbrev vcol4_13:Oper:={ dst:=some 43,op:=Go.Op.fieldAddr 45 (Go.Operand.tmp 42) 2,type:=0,pos:="read.go:141",after:=#[{ on:=12,ground:=Go.Ground.data }],guard:=none }
abbrev vcol4_14:Oper:={ dst:=some 44,op:=Go.Op.load 43 (Go.Operand.tmp 43),type:=43,pos:="read.go:141",after:=#[{ on:=13,ground:=Go.Ground.data }],guard:=none }
abbrev vcol4_15:Oper:={ dst:=some 45,op:=Go.Op.move (Go.Operand.tmp 5),type:=3,pos:="read.go:141",after:=#[],guard:=none }
abbrev vcol4_16:Oper:={ dst:=some 46,op:=Go.Op.move (Go.Operand.tmp 1),type:=181,pos:="read.go:141",after:=#[],guard:=none }
abbrev vcol4_17:Oper:={ dst:=some 47,op:=Go.Op.call { callee:=Go.Callee.value (Go.Operand.func 103),args:=#[Go.Operand.tmp 46],argTypes:=#[181] },type:=9,pos:="read.go:141",after:=#[{ on:=16,ground:=Go.Ground.data }],guard:=none }
abbrev vcol4_18:Oper:={ dst:=some 48,op:=Go.Op.build 83 #[(0,Go.Operand.tmp 45),(1,Go.Operand.tmp 47)],type:=83,pos:="read.go:141",after:=#[{ on:=15,ground:=Go.Ground.data },{ on:=17,ground:=Go.Ground.data }],guard:=none }
abbrev vcol4_19:Oper:={ dst:=some 49,op:=Go.Op.buildSlice 43 1 #[(0,Go.Operand.tmp 48)],type:=43,pos:="read.go:141",after:=#[{ on:=18,ground:=Go.Ground.data }],guard:=none }
abbrev vcol4_20:Oper:={ dst:=some 50,op:=Go.Op.call { callee:=Go.Callee.builtin Go.Builtin.append,args:=#[Go.Operand.tmp 44,Go.Operand.tmp 49],argTypes:=#[43,43] },type:=43,pos:="read.go:141",after:=#[{ on:=14,ground:=Go.Ground.data },{ on:=19,ground:=Go.Ground.data },{ on:=17,ground:=Go.Ground.chain }],guard:=none }
abbrev vcol4_21:Oper:={ dst:=some 51,op:=Go.Op.indexAddr 26 (Go.Operand.tmp 34) (Go.Operand.tmp 35),type:=0,pos:="read.go:141",after:=#[{ on:=4,ground:=Go.Ground.data },{ on:=5,ground:=Go.Ground.data },{ on:=0,ground:=Go.Ground.phase },{ on:=1,ground:=Go.Ground.phase },{ on:=2,ground:=Go.Ground.phase },{ on:=3,ground:=Go.Ground.phase },{ on:=4,ground:=Go.Ground.phase },{ on:=5,ground:=Go.Ground.phase },{ on:=6,ground:=Go.Ground.phase },{ on:=7,ground:=Go.Ground.phase },{ on:=8,ground:=Go.Ground.phase },{ on:=9,ground:=Go.Ground.phase },{ on:=10,ground:=Go.Ground.phase },{ on:=11,ground:=Go.Ground.phase },{ on:=12,ground:=Go.Ground.phase },{ on:=13,ground:=Go.Ground.phase },{ on:=14,ground:=Go.Ground.phase },{ on:=15,ground:=Go.Ground.phase },{ on:=16,ground:=Go.Ground.phase },{ on:=17,ground:=Go.Ground.phase },{ on:=18,ground:=Go.Ground.phase },{ on:=19,ground:=Go.Ground.phase },{ on:=20,ground:=Go.Ground.phase }],guard:=none }
abbrev vcol4_22:Oper:={ dst:=some 52,op:=Go.Op.fieldAddr 45 (Go.Operand.tmp 51) 2,type:=0,pos:="read.go:141",after:=#[{ on:=21,ground:=Go.Ground.data },{ on:=0,ground:=Go.Ground.phase },{ on:=1,ground:=Go.Ground.phase },{ on:=2,ground:=Go.Ground.phase },{ on:=3,ground:=Go.Ground.phase },{ on:=4,ground:=Go.Ground.phase },{ on:=5,ground:=Go.Ground.phase },{ on:=6,ground:=Go.Ground.phase },{ on:=7,ground:=Go.Ground.phase },{ on:=8,ground:=Go.Ground.phase },{ on:=9,ground:=Go.Ground.phase },{ on:=10,ground:=Go.Ground.phase },{ on:=11,ground:=Go.Ground.phase },{ on:=12,ground:=Go.Ground.phase },{ on:=13,ground:=Go.Ground.phase },{ on:=14,ground:=Go.Ground.phase },{ on:=15,ground:=Go.Ground.phase },{ on:=16,ground:=Go.Ground.phase },{ on:=17,ground:=Go.Ground.phase },{ on:=18,ground:=Go.Ground.phase },{ on:=19,ground:=Go.Ground.phase },{ on:=20,ground:=Go.Ground.phase }],guard:=none }
abbrev vcol4_23:Oper:={ dst:=none,op:=Go.Op.store 43 (Go.Operand.tmp 52) (Go.Operand.tmp 50),type:=0,pos:="read.go:141",after:=#[{ on:=22,ground:=Go.Ground.data },{ on:=20,ground:=Go.Ground.data },{ on:=20,ground:=Go.Ground.chain },{ on:=0,ground:=Go.Ground.phase },{ on:=1,ground:=Go.Ground.phase },{ on:=2,ground:=Go.Ground.phase },{ on:=3,ground:=Go.Ground.phase },{ on:=4,ground:=Go.Ground.phase },{ on:=5,ground:=Go.Ground.phase },{ on:=6,ground:=Go.Ground.phase },{ on:=7,ground:=Go.Ground.phase },{ on:=8,ground:=Go.Ground.phase },{ on:=9,ground:=Go.Ground.phase },{ on:=10,ground:=Go.Ground.phase },{ on:=11,ground:=Go.Ground.phase },{ on:=12,ground:=Go.Ground.phase },{ on:=13,ground:=Go.Ground.phase },{ on:=14,ground:=Go.Ground.phase },{ on:=15,ground:=Go.Ground.phase },{ on:=16,ground:=Go.Ground.phase },{ on:=17,ground:=Go.Ground.phase },{ on:=18,ground:=Go.Ground.phase },{ on:=19,ground:=Go.Ground.phase },{ on:=20,ground:=Go.Ground.phase }],guard:=none }
set_option maxRecDepth 100000 in
set_option maxHeartbeats 8000000 in
theorem core_column_c1 {B:Nat}{w:World}{r bx:Nat}{st:CSt}(h:CR B w r st) (hBw:B≤w.heap.size) (ht:Tab w) (hbx:Boxed bx r w) (row:Int) (q:Rat) (x:Value) (hx:FracPtr w x q) (hq:Fits 1000000 q) (hrow:row<(st.c.rows.length:Int)) (hat:st.at_=3) {m:Nat}(hcols:st.c.cols.length=m+1) (hm:m≤1000000000) (hfat:st.Fat 1000000000) :
 Calls Tryz.prog 148 #[.int .i64 row,x,.pointer (some ⟨bx,0,none⟩)] w (Turns B r (.tuple #[]) (st.put row q) w):=by
 unfold Turns
 obtain ⟨b9,pn,pd,rfl,_⟩:=id hx
 obtain ⟨bq,hbq⟩:∃ bq,bq=(⟨b9,0,none⟩:Addr):=⟨_,rfl⟩
 rw[← hbq]at hx ⊢
 clear hbq
 have CT:Hid (∀ W,Below w.heap.size w W→Calls Tryz.prog 103 #[.pointer (some bq)] W (Keeps (.string ⟨(fracText q).toArray⟩) W)):=Lib.hid fun W hb=>frac_Text W _ q (hx.keep hb).at_ hq (ht.keep hb)
 have CS:Hid (∀ W,Below w.heap.size w W→Calls Tryz.prog 114 #[.pointer (some bq)] W (Keeps (.int .i64 (signI q)) W)):=Lib.hid fun W hb=>frac_Sign W _ q (hx.keep hb).at_ (hq.mono (by omega))
 have hbc:=hbx.cell
 obtain ⟨T,hT⟩:∃ T,T=fracText q:=⟨_,rfl⟩
 rw[← hT]at CT
 obtain ⟨rv,cv,lv,mr,mc,ms,rvs,hd⟩:=id h
 obtain ⟨xc,hxc⟩:∃ xc,st.c.cols[m]?=some xc:=⟨st.c.cols[m],by simp[hcols]⟩
 have hset:∀ W,RD B W r st rv cv lv mr mc ms rvs→_:=fun W hW=>hW.setCol (i:=m) (k:=3) (x:=xc) (y:={ xc with cost:=T }) (u:=.string ⟨T.toArray⟩) hxc (by omega) rfl
 obtain ⟨gc,cc,hcv,hlc,hcl,hfz,hgB,hgt,_⟩:=hset w hd
 rw[hcols]at hcv hlc
 have hcc:=hd.cells.2.2.2.1
 rw[hcv]at hcc
 have HD:=Lib.hid hd
 have HSET:=Lib.hid hset
 have HCV:=Lib.hid hcv
 have hgr:gc≠r:=by
  obtain ⟨cur,hcur⟩:=hgt
  exact ne_of_type hcur hd.blk (by decide)
 have hgb:gc≠bx:=by
  obtain ⟨cur,hcur⟩:=hgt
  exact ne_of_type hcur hbx (by decide)
 have hm0:(0:Int)≤(m:Int):=by omega
 have hm1:(m:Int)<(m:Int)+1:=by omega
 have HBX:=Lib.hid hbx
 have HFAT:=Lib.hid hfat
 have hcl':w.cell? ⟨gc,m*5+3,none⟩=some (.string ⟨xc.cost.toArray⟩):=hcl
 rcases Int.lt_or_le row 0 with hr0|hr0
 ·have hr1:decide (row<0)=true:=decide_eq_true hr0
  have HM:Hid (st.put row q={ st with c:={ st.c with cols:=st.c.cols.set m { xc with cost:=T } } }):=by
   show _=_
   unfold CSt.put
   rw[if_pos hat,if_pos hr0]
   unfold setColM
   rw[hcols,Nat.add_sub_cancel,modify_set hxc,hT]
  clear hx h hbx hat hd hset hxc hcl hcv hT hfat hcols
  go_enter Tryz.func148,Tryz.ntmps148
  go_wp2_with fail
  go_region_held3 (fun w'=>w'.cell? ⟨bx,0,none⟩=some (.pointer (some ⟨r,0,none⟩))∧w'.cell? ⟨r,3,none⟩=some (.slice (some ⟨gc,0,none⟩) (m+1) cc))
   (first|go_keep|(refine ⟨cell_keep (w:=w.drew) ?_ (by assumption),cell_keep (w:=w.drew) ?_ (by assumption)⟩<;>(simpa using (by assumption)))|(refine ⟨?_,?_⟩<;>(rw[World.cell?_setCell_other _ _ _ _ (by simp[hgb,hgr])];assumption)))
   (first|(go_at_call 103;refine (CT.out _ ((Below.refl _ _).drew)).mono ?_;rintro e w' ⟨rfl,hbz⟩;have hcz:w'.cell? ⟨gc,m*5+3,none⟩=some (.string ⟨xc.cost.toArray⟩):=cell_keep (w:=w.drew) hcl' hbz;have hfz2:w'.frozen? ⟨gc,m*5+3,none⟩=false:=(hbz.frozen (p:=⟨gc,m*5+3,none⟩) (block_lt (w:=w.drew) hcl')).trans hfz))
  have hb1:Below w.heap.size w w':=((Below.refl _ _).drew).trans hbz
  obtain ⟨g2,c2,hrv2,_,_,_,_,⟨cur2,hcur2⟩,hfin⟩:=HSET.out w' (HD.out.keep hb1)
  rw[HCV.out]at hrv2
  injection hrv2 with hg2 _ _
  injection hg2 with hg2
  injection hg2 with hg2
  subst hg2
  have HF:Hid (Fr w (w'.setCell ⟨gc,m*5+3,none⟩ (.string ⟨T.toArray⟩))):=(Fr.below hb1).trans (Fr.same hcur2 (.inr (.inr (.inr rfl))) fun g' _ hg'=>set_other w' gc _ (.string ⟨T.toArray⟩) g' hg')
  have HFI:=Lib.hid hfin
  have HB:Hid (Below B w (w'.setCell ⟨gc,m*5+3,none⟩ (.string ⟨T.toArray⟩))):=(hb1.mono hBw).trans (below_set hgB)
  clear hfin hcur2
  go_wp2_with fail
  go_end0
  exact ⟨rfl,by rw[HM.out];exact ⟨_,_,_,_,_,_,_,HFI.out⟩,HB.out,HB.out.size,HF.out⟩
 ·have hr1:decide (row<0)=false:=decide_eq_false (by omega)
  obtain ⟨i,rfl⟩:=Int.eq_ofNat_of_zero_le hr0
  clear hset HSET hxc hcl hcl' hfz hgB hgt hgr hgb
  by_cases hq0:q=0
  ·have hs:(signI q != 0)=false:=by rw[hq0];rfl
   have HM:Hid (st.put (i:Int) q=st):=by
    show _=_
    unfold CSt.put
    rw[if_pos hat,if_neg (by omega),if_pos hq0]
   clear hx hbx hat hd hcv hT hfat hcols hq0 HD HCV
   have H:=Lib.hid h
   clear h
   go_enter Tryz.func148,Tryz.ntmps148
   go_wp2_with fail
   refine (CS.out _ (Below.refl _ _)).mono ?_
   rintro e w1 ⟨rfl,hb1⟩
   go_wp2_with fail
   go_end0
   exact ⟨rfl,by rw[HM.out];exact H.out.keep hb1,hb1.mono hBw,hb1.size,Fr.below hb1⟩
  ·have hs:(signI q != 0)=true:=by
    have h1:q.num≠0:=fun h=>hq0 (Rat.num_eq_zero.1 h)
    unfold signI
    split
    ·rfl
    ·rfl
   obtain ⟨xr,hxr⟩:∃ xr,st.c.rows[i]?=some xr:=⟨st.c.rows[i]'(by omega),by simp⟩
   obtain ⟨g,c,cvi,hrv,hlr,hrvi,hcells,hfz,hgB,hgt,hown⟩:=hd.rowAt hxr
   have hrc:=hd.cells.2.2.1
   rw[hrv]at hrc
   have hcf:=hcells 2 cvi rfl
   have hgr:g≠r:=by
    obtain ⟨cur,hcur⟩:=hgt
    exact ne_of_type hcur hd.blk (by decide)
   have hgb:g≠bx:=by
    obtain ⟨cur,hcur⟩:=hgt
    exact ne_of_type hcur hbx (by decide)
   obtain ⟨i1,hi1,hz1,hsz1,hby1⟩:=info_coef
   have hl:=rvs_len hd
   have hn0:(0:Int)≤(i:Int):=by omega
   have hn1:(i:Int)<(rvs.length:Int):=by omega
   have HM:Hid (st.put (i:Int) q={ st with c:={ st.c with rows:=st.c.rows.set i { xr with coef:=xr.coef ++ [(((m:Int),T):CoefM)] } } }):=by
    show _=_
    unfold CSt.put
    rw[if_pos hat,if_neg (by omega),if_neg hq0]
    unfold setRowM
    have:(((m+1:Nat):Int) - 1)=(m:Int):=by omega
    rw[Int.toNat_natCast,modify_set hxr,hcols,this,hT]
   have HNC:Hid (xr.coef.length≤1000000000):=Lib.hid (hfat xr (List.mem_of_getElem? hxr))
   have HOWN:=Lib.hid hown
   have HRVI:=Lib.hid hrvi
   have HRV:=Lib.hid hrv
   have HGT:=Lib.hid hgt
   have hcl5:=hcells
   clear hx hbx hat hcv hT hfat hcols hq0 h hd hown hrvi hrv hgt hcells hxr hl hcl5 HFAT
   go_enter Tryz.func148,Tryz.ntmps148
   go_wp2_with fail
   refine (CS.out _ (Below.refl _ _)).mono ?_
   rintro e w1 ⟨rfl,hb1⟩
   have hbc1:=cell_keep hbc hb1
   have hrc1:=cell_keep hrc hb1
   have hcf1:=cell_keep hcf hb1
   have HB1:=Lib.hid hb1
   have HC1:=Lib.hid (show Below w.heap.size w w1 from hb1)
   clear hb1 CS
   go_upto_region 4 with fail
   refine wp_region_T 23 ((fun W=>W.cell? ⟨bx,0,none⟩=some (.pointer (some ⟨r,0,none⟩))∧W.cell? ⟨r,2,none⟩=some (.slice (some ⟨g,0,none⟩) rvs.length c)∧W.cell? ⟨g,i*5+2,none⟩=some cvi)) (by kernel_rfl) ?_
   change wpAnyT _ _ _ _ _ _ _ _ _ (World.drew _)
   obtain ⟨W0,hW0⟩:∃ X,X=(w1).drew:=⟨_,rfl⟩
   rw[← hW0]
   have z0:Below (w1).heap.size (w1) W0:=by rw[hW0];exact Below.drewN_ (Below.refl _ _) 1
   clear hW0
   refine wpAnyT_take (i:=0) (oi:=vcol4_0) (v:=.pointer (some ⟨r,0,none⟩)) rfl (by kernel_rfl) (by kernel_rfl) (by kernel_rfl) (by kernel_rfl) (fun _ _ _ h=>h) (Or.inl ⟨by kernel_rfl,?_⟩) (⟨cell_keep hbc1 z0,cell_keep hrc1 z0,cell_keep hcf1 z0⟩) ?_
   ·intro w hSw;obtain ⟨e0,e1,e2⟩:=hSw;go_simp<;>first|omega|(intro hh;exfalso;omega)|rfl
   try simp only[Act.put,List.setIfInBounds_toArray,List.set_cons_zero,List.set_cons_succ,vcol4_0]
   refine wpAnyT_take (i:=1) (oi:=vcol4_1) (v:=.pointer (some ⟨r,0,none⟩)) rfl (by kernel_rfl) (by kernel_rfl) (by kernel_rfl) (by kernel_rfl) (fun _ _ _ h=>h) (Or.inl ⟨by kernel_rfl,?_⟩) (⟨cell_keep hbc1 z0,cell_keep hrc1 z0,cell_keep hcf1 z0⟩) ?_
   ·intro w hSw;go_simp<;>first|omega|(intro hh;exfalso;omega)|rfl
   try simp only[Act.put,List.setIfInBounds_toArray,List.set_cons_zero,List.set_cons_succ,vcol4_1]
   refine wpAnyT_take (i:=2) (oi:=vcol4_2) (v:=.pointer (some ⟨r,0,none⟩)) rfl (by kernel_rfl) (by kernel_rfl) (by kernel_rfl) (by kernel_rfl) (fun _ _ _ h=>h) (Or.inl ⟨by kernel_rfl,?_⟩) (⟨cell_keep hbc1 z0,cell_keep hrc1 z0,cell_keep hcf1 z0⟩) ?_
   ·intro w hSw;go_simp<;>first|omega|(intro hh;exfalso;omega)|rfl
   try simp only[Act.put,List.setIfInBounds_toArray,List.set_cons_zero,List.set_cons_succ,vcol4_2]
   refine wpAnyT_take (i:=3) (oi:=vcol4_3) (v:=.pointer (some ⟨r,2,none⟩)) rfl (by kernel_rfl) (by kernel_rfl) (by kernel_rfl) (by kernel_rfl) (fun _ _ _ h=>h) (Or.inl ⟨by kernel_rfl,?_⟩) (⟨cell_keep hbc1 z0,cell_keep hrc1 z0,cell_keep hcf1 z0⟩) ?_
   ·intro w hSw;go_simp<;>first|omega|(intro hh;exfalso;omega)|rfl
   try simp only[Act.put,List.setIfInBounds_toArray,List.set_cons_zero,List.set_cons_succ,vcol4_3]
   refine wpAnyT_take (i:=4) (oi:=vcol4_4) (v:=.slice (some ⟨g,0,none⟩) rvs.length c) rfl (by kernel_rfl) (by kernel_rfl) (by kernel_rfl) (by kernel_rfl) (fun _ _ _ h=>h) (Or.inl ⟨by kernel_rfl,?_⟩) (⟨cell_keep hbc1 z0,cell_keep hrc1 z0,cell_keep hcf1 z0⟩) ?_
   ·intro w hSw;obtain ⟨e0,e1,e2⟩:=hSw;go_simp<;>first|omega|(intro hh;exfalso;omega)|rfl
   try simp only[Act.put,List.setIfInBounds_toArray,List.set_cons_zero,List.set_cons_succ,vcol4_4]
   refine wpAnyT_take (i:=5) (oi:=vcol4_5) (v:=.int .i64 (i:Int)) rfl (by kernel_rfl) (by kernel_rfl) (by kernel_rfl) (by kernel_rfl) (fun _ _ _ h=>h) (Or.inl ⟨by kernel_rfl,?_⟩) (⟨cell_keep hbc1 z0,cell_keep hrc1 z0,cell_keep hcf1 z0⟩) ?_
   ·intro w hSw;go_simp<;>first|omega|(intro hh;exfalso;omega)|rfl
   try simp only[Act.put,List.setIfInBounds_toArray,List.set_cons_zero,List.set_cons_succ,vcol4_5]
   refine wpAnyT_take (i:=6) (oi:=vcol4_6) (v:=.pointer (some ⟨r,0,none⟩)) rfl (by kernel_rfl) (by kernel_rfl) (by kernel_rfl) (by kernel_rfl) (fun _ _ _ h=>h) (Or.inl ⟨by kernel_rfl,?_⟩) (⟨cell_keep hbc1 z0,cell_keep hrc1 z0,cell_keep hcf1 z0⟩) ?_
   ·intro w hSw;obtain ⟨e0,e1,e2⟩:=hSw;go_simp<;>first|omega|(intro hh;exfalso;omega)|rfl
   try simp only[Act.put,List.setIfInBounds_toArray,List.set_cons_zero,List.set_cons_succ,vcol4_6]
   refine wpAnyT_take (i:=7) (oi:=vcol4_7) (v:=.pointer (some ⟨r,0,none⟩)) rfl (by kernel_rfl) (by kernel_rfl) (by kernel_rfl) (by kernel_rfl) (fun _ _ _ h=>h) (Or.inl ⟨by kernel_rfl,?_⟩) (⟨cell_keep hbc1 z0,cell_keep hrc1 z0,cell_keep hcf1 z0⟩) ?_
   ·intro w hSw;go_simp<;>first|omega|(intro hh;exfalso;omega)|rfl
   try simp only[Act.put,List.setIfInBounds_toArray,List.set_cons_zero,List.set_cons_succ,vcol4_7]
   refine wpAnyT_take (i:=8) (oi:=vcol4_8) (v:=.pointer (some ⟨r,0,none⟩)) rfl (by kernel_rfl) (by kernel_rfl) (by kernel_rfl) (by kernel_rfl) (fun _ _ _ h=>h) (Or.inl ⟨by kernel_rfl,?_⟩) (⟨cell_keep hbc1 z0,cell_keep hrc1 z0,cell_keep hcf1 z0⟩) ?_
   ·intro w hSw;go_simp<;>first|omega|(intro hh;exfalso;omega)|rfl
   try simp only[Act.put,List.setIfInBounds_toArray,List.set_cons_zero,List.set_cons_succ,vcol4_8]
   refine wpAnyT_take (i:=9) (oi:=vcol4_9) (v:=.pointer (some ⟨r,2,none⟩)) rfl (by kernel_rfl) (by kernel_rfl) (by kernel_rfl) (by kernel_rfl) (fun _ _ _ h=>h) (Or.inl ⟨by kernel_rfl,?_⟩) (⟨cell_keep hbc1 z0,cell_keep hrc1 z0,cell_keep hcf1 z0⟩) ?_
   ·intro w hSw;go_simp<;>first|omega|(intro hh;exfalso;omega)|rfl
   try simp only[Act.put,List.setIfInBounds_toArray,List.set_cons_zero,List.set_cons_succ,vcol4_9]
   refine wpAnyT_take (i:=10) (oi:=vcol4_10) (v:=.slice (some ⟨g,0,none⟩) rvs.length c) rfl (by kernel_rfl) (by kernel_rfl) (by kernel_rfl) (by kernel_rfl) (fun _ _ _ h=>h) (Or.inl ⟨by kernel_rfl,?_⟩) (⟨cell_keep hbc1 z0,cell_keep hrc1 z0,cell_keep hcf1 z0⟩) ?_
   ·intro w hSw;obtain ⟨e0,e1,e2⟩:=hSw;go_simp<;>first|omega|(intro hh;exfalso;omega)|rfl
   try simp only[Act.put,List.setIfInBounds_toArray,List.set_cons_zero,List.set_cons_succ,vcol4_10]
   refine wpAnyT_take (i:=11) (oi:=vcol4_11) (v:=.int .i64 (i:Int)) rfl (by kernel_rfl) (by kernel_rfl) (by kernel_rfl) (by kernel_rfl) (fun _ _ _ h=>h) (Or.inl ⟨by kernel_rfl,?_⟩) (⟨cell_keep hbc1 z0,cell_keep hrc1 z0,cell_keep hcf1 z0⟩) ?_
   ·intro w hSw;go_simp<;>first|omega|(intro hh;exfalso;omega)|rfl
   try simp only[Act.put,List.setIfInBounds_toArray,List.set_cons_zero,List.set_cons_succ,vcol4_11]
   refine wpAnyT_take (i:=12) (oi:=vcol4_12) (v:=.pointer (some ⟨g,i*5,none⟩)) rfl (by kernel_rfl) (by kernel_rfl) (by kernel_rfl) (by kernel_rfl) (fun _ _ _ h=>h) (Or.inl ⟨by kernel_rfl,?_⟩) (⟨cell_keep hbc1 z0,cell_keep hrc1 z0,cell_keep hcf1 z0⟩) ?_
   ·intro w hSw;go_simp<;>first|omega|(intro hh;exfalso;omega)|rfl
   try simp only[Act.put,List.setIfInBounds_toArray,List.set_cons_zero,List.set_cons_succ,vcol4_12]
   refine wpAnyT_take (i:=13) (oi:=vcol4_13) (v:=.pointer (some ⟨g,i*5+2,none⟩)) rfl (by kernel_rfl) (by kernel_rfl) (by kernel_rfl) (by kernel_rfl) (fun _ _ _ h=>h) (Or.inl ⟨by kernel_rfl,?_⟩) (⟨cell_keep hbc1 z0,cell_keep hrc1 z0,cell_keep hcf1 z0⟩) ?_
   ·intro w hSw;go_simp<;>first|omega|(intro hh;exfalso;omega)|rfl
   try simp only[Act.put,List.setIfInBounds_toArray,List.set_cons_zero,List.set_cons_succ,vcol4_13]
   refine wpAnyT_take (i:=14) (oi:=vcol4_14) (v:=cvi) rfl (by kernel_rfl) (by kernel_rfl) (by kernel_rfl) (by kernel_rfl) (fun _ _ _ h=>h) (Or.inl ⟨by kernel_rfl,?_⟩) (⟨cell_keep hbc1 z0,cell_keep hrc1 z0,cell_keep hcf1 z0⟩) ?_
   ·intro w hSw;obtain ⟨e0,e1,e2⟩:=hSw;go_simp<;>first|omega|(intro hh;exfalso;omega)|rfl
   try simp only[Act.put,List.setIfInBounds_toArray,List.set_cons_zero,List.set_cons_succ,vcol4_14]
   refine wpAnyT_take (i:=15) (oi:=vcol4_15) (v:=.int .i64 (m:Int)) rfl (by kernel_rfl) (by kernel_rfl) (by kernel_rfl) (by kernel_rfl) (fun _ _ _ h=>h) (Or.inl ⟨by kernel_rfl,?_⟩) (⟨cell_keep hbc1 z0,cell_keep hrc1 z0,cell_keep hcf1 z0⟩) ?_
   ·intro w hSw;go_simp<;>first|omega|(intro hh;exfalso;omega)|rfl
   try simp only[Act.put,List.setIfInBounds_toArray,List.set_cons_zero,List.set_cons_succ,vcol4_15]
   refine wpAnyT_take (i:=16) (oi:=vcol4_16) (v:=.pointer (some bq)) rfl (by kernel_rfl) (by kernel_rfl) (by kernel_rfl) (by kernel_rfl) (fun _ _ _ h=>h) (Or.inl ⟨by kernel_rfl,?_⟩) (⟨cell_keep hbc1 z0,cell_keep hrc1 z0,cell_keep hcf1 z0⟩) ?_
   ·intro w hSw;go_simp<;>first|omega|(intro hh;exfalso;omega)|rfl
   try simp only[Act.put,List.setIfInBounds_toArray,List.set_cons_zero,List.set_cons_succ,vcol4_16]
   refine wpAnyT_one (i:=17) (o:=vcol4_17) rfl (by kernel_rfl) ?_
   intro K hK
   simp only[vcol4_17]
   go_simp
   go_at_call 103
   refine (CT.out _ (HC1.out.trans (z0.mono HC1.out.size))).mono ?_
   rintro e W4 ⟨rfl,b4⟩
   have z4:=below_seq z0 b4
   clear b4
   refine hK.out _ _ (fun _=>⟨cell_keep hbc1 z4,cell_keep hrc1 z4,cell_keep hcf1 z4⟩) ?_
   clear hK K
   try simp only[Act.put,List.setIfInBounds_toArray,List.set_cons_zero,List.set_cons_succ]
   refine wpAnyT_take (i:=18) (oi:=vcol4_18) (v:=.agg #[.int .i64 (m:Int),.string ⟨T.toArray⟩]) rfl (by kernel_rfl) (by kernel_rfl) (by kernel_rfl) (by kernel_rfl) (fun _ _ _ h=>h) (Or.inl ⟨by kernel_rfl,?_⟩) (⟨cell_keep hbc1 z4,cell_keep hrc1 z4,cell_keep hcf1 z4⟩) ?_
   ·intro w hSw;go_simp<;>first|omega|(intro hh;exfalso;omega)|rfl
   try simp only[Act.put,List.setIfInBounds_toArray,List.set_cons_zero,List.set_cons_succ,vcol4_18]
   refine wpAnyT_one (i:=19) (o:=vcol4_19) rfl (by kernel_rfl) ?_
   intro K hK
   simp only[vcol4_19]
   go_simp
   obtain ⟨W5,h5⟩:∃ X,X=W4.alloc (.cells #[.int .i64 m,.string ⟨T.toArray⟩] 83):=⟨_,rfl⟩
   rw[← h5]
   have y5:Below W4.heap.size W4 W5:=by rw[h5];exact (Below.refl _ _).alloc (Nat.le_refl _) _
   have z5:=below_seq z4 y5
   have NN5:=Lib.hid (show Row W5 W4.heap.size 83 #[.int .i64 m,.string ⟨T.toArray⟩] by rw[h5];exact Row.new _ _ _)
   clear h5 y5
   refine hK.out _ _ (fun _=>⟨cell_keep hbc1 z5,cell_keep hrc1 z5,cell_keep hcf1 z5⟩) ?_
   clear hK K
   try simp only[Act.put,List.setIfInBounds_toArray,List.set_cons_zero,List.set_cons_succ]
   refine wpAnyT_one (i:=20) (o:=vcol4_20) rfl (by kernel_rfl) ?_
   intro K hK
   have hb5:Below w.heap.size w W5:=HC1.out.trans (z5.mono HC1.out.size)
   refine step_append_ownK (Kd:=fun _=>True) rfl (.tmp 44) (.tmp 49) 43 rfl B 83 i1 _ 2 Tryz.underlying43 hi1 hz1 hsz1 rfl (by omega) cvi xr.coef.length (xr.coef.flatMap encCf) rfl (HOWN.out.keep hb5) ⟨W4.heap.size,0,none⟩ 1 1 (encCf ((m:Int),T)) rfl rfl (one_cf (z:=((m:Int),T)) NN5.out) (by simp[Value.oneCell',encCf]) (by simp) (by simp) (by omega) (by have:=HNC.out;unfold maxLen;omega) (by have:=HNC.out;rw[hby1];omega) (Nat.le_trans hBw hb5.size) ?_
   intro v6 W6 own6 gr6 lc6
   obtain ⟨g6,cp6,rfl⟩:=OwnK.shape own6 (by omega)
   have HRD5:=HD.out.keep hb5
   have ow5:=HOWN.out.keep hb5
   obtain ⟨cur,hcur⟩:=HGT.out
   have bl:∀ {k:Nat}{cs:Array Value}{t:TypeId}{fr:Nat × Nat},w.heap[k]?=some (.cells cs t fr)→t≠83→W6.heap[k]?=w.heap[k]?:=fun {k _ _ _} hk ht=>by
    have h5:W5.heap[k]?=w.heap[k]?:=blk_keep hk hb5
    exact (grown_other ow5 gr6 (h5.trans hk) ht).trans h5
   have S6:((fun W=>W.cell? ⟨bx,0,none⟩=some (.pointer (some ⟨r,0,none⟩))∧W.cell? ⟨r,2,none⟩=some (.slice (some ⟨g,0,none⟩) rvs.length c)∧W.cell? ⟨g,i*5+2,none⟩=some cvi)) W6:=⟨((cell_same (bl HBX.out (by decide))) _).trans hbc,((cell_same (bl HD.out.blk (by decide))) _).trans hrc,((cell_same (bl hcur (by decide))) _).trans hcf⟩
   have hf6:W6.frozen? ⟨g,i*5+2,none⟩=false:=Row.free (cs:=cur) (t:=45) ((bl hcur (by decide)).trans hcur) _
   have hc6:=S6.2.2
   have HFI:=Lib.hid (HRD5.addCoef HRVI.out (z:=((m:Int),T)) own6 gr6 lc6 HRV.out)
   have HF:Hid (Fr w (W6.setCell ⟨g,i*5+2,none⟩ (.slice (some ⟨g6,0,none⟩) (xr.coef.length+1) cp6))):=Lib.hid (((Fr.below hb5).trans (Fr.grown_ ow5 gr6)).trans (Fr.same ((bl hcur (by decide)).trans hcur) (.inr (.inl rfl)) fun g' _ hg'=>set_other W6 g _ _ g' hg'))
   have HB:Hid (Below B w (W6.setCell ⟨g,i*5+2,none⟩ (.slice (some ⟨g6,0,none⟩) (xr.coef.length+1) cp6))):=Lib.hid ((Below.grown (hb5.mono hBw) gr6 (Nat.le_trans hBw hb5.size) (fun j hj=>(ow5.lt hj).1)).trans (below_set hgB))
   clear own6 gr6 lc6 HRD5 ow5 bl hcur
   refine hK.out _ _ (fun _=>S6) ?_
   clear hK K
   try simp only[Act.put,List.setIfInBounds_toArray,List.set_cons_zero,List.set_cons_succ]
   refine wpAnyT_take (i:=21) (oi:=vcol4_21) (v:=.pointer (some ⟨g,i*5,none⟩)) rfl (by kernel_rfl) (by kernel_rfl) (by kernel_rfl) (by kernel_rfl) (fun _ _ _ h=>h) (Or.inl ⟨by kernel_rfl,?_⟩) (S6) ?_
   ·intro w hSw;go_simp<;>first|omega|(intro hh;exfalso;omega)|rfl
   try simp only[Act.put,List.setIfInBounds_toArray,List.set_cons_zero,List.set_cons_succ,vcol4_21]
   refine wpAnyT_take (i:=22) (oi:=vcol4_22) (v:=.pointer (some ⟨g,i*5+2,none⟩)) rfl (by kernel_rfl) (by kernel_rfl) (by kernel_rfl) (by kernel_rfl) (fun _ _ _ h=>h) (Or.inl ⟨by kernel_rfl,?_⟩) (S6) ?_
   ·intro w hSw;go_simp<;>first|omega|(intro hh;exfalso;omega)|rfl
   try simp only[Act.put,List.setIfInBounds_toArray,List.set_cons_zero,List.set_cons_succ,vcol4_22]
   refine wpAnyT_one (i:=23) (o:=vcol4_23) rfl (by kernel_rfl) ?_
   intro K hK
   simp only[vcol4_23]
   go_simp
   refine hK.out _ _ (fun h=>absurd rfl h) ?_
   clear hK K
   try simp only[Act.put,List.setIfInBounds_toArray,List.set_cons_zero,List.set_cons_succ]
   refine wpAnyT_done (by kernel_rfl) ?_ _
   go_wp2_with fail
   go_end0
   exact ⟨rfl,by rw[HM.out];exact ⟨_,_,_,_,_,_,_,HFI.out⟩,HB.out,HB.out.size,HF.out⟩
end Go.Proofs.YtjipjfoambbofaaGreatDoor
end
