/- Package vec: what a vector tells; the sum of the products. -/
import Derived.Test.YtehbhghbagaliaaGreatDoorJWalkF
import Derived.Test.YtehbhghbagaliaaGreatDoorJMergeLaw
import Derived.Deep.RegionWith
set_option linter.unusedVariables false
set_option linter.unusedSimpArgs false
namespace Vic
open Go Go.RowKit
def encCoef (x:VCoef):List Value:=[.int .i64 x.1,.string ⟨x.2.toArray⟩]
def coefKind (u:Value):Prop:=(∃ n,u=.int .i64 n)∨(∃ s,u=.string s)
theorem encCoef_kind (x:VCoef):∀ u∈encCoef x,coefKind u:=by
 intro u hu
 simp[encCoef]at hu
 rcases hu with rfl|rfl
 ·exact .inl ⟨_,rfl⟩
 ·exact .inr ⟨_,rfl⟩
def coefsOf (ps:List (Int × Rat)):List VCoef:=ps.map fun p=>(p.1,fracText p.2)
def OwnCoefs (w:World) (base:Nat) (T:TypeId) (v:Value) (cs:List VCoef):Prop:=OwnK coefKind w base T 2 v cs.length (cs.flatMap encCoef)
theorem OwnCoefs.keep {w w':World}{base:Nat}{T:TypeId}{v:Value}{cs:List VCoef}(h:OwnCoefs w base T v cs) (hb:Below w.heap.size w w'):OwnCoefs w' base T v cs:=OwnK.keep h hb
theorem flat_coef:∀ (fs:List VCoef) (i:Nat) (x:VCoef),fs[i]?=some x→(fs.flatMap encCoef)[i*2]?=some (.int .i64 x.1)∧(fs.flatMap encCoef)[i*2+1]?=some (.string ⟨x.2.toArray⟩)
 | [],i,x,h=>by simp at h
 | y :: fs,0,x,h=>by simp at h;subst h;simp[encCoef]
 | y :: fs,i+1,x,h=>by
   have ih:=flat_coef fs i x (by simpa using h)
   have e1:(i+1)*2=i*2+2:=by omega
   have e2:(i+1)*2+1=i*2+1+2:=by omega
   rw[List.flatMap_cons,e1]
   constructor
   ·rw[List.getElem?_append_right (by simp[encCoef])];simpa [encCoef]using ih.1
   ·rw[show i*2+2+1=i*2+1+2 by omega,List.getElem?_append_right (by simp[encCoef])];simpa [encCoef]using ih.2
theorem OwnCoefs.in_ {w:World}{base:Nat}{T:TypeId}{v:Value}{cs:List VCoef}(h:OwnCoefs w base T v cs):CoefsIn w v cs:=by
 obtain ⟨h1,⟨rfl,h2⟩|⟨g,cap,cur,rfl,a2,a3,a4,a5,a6,a7,a8⟩⟩:=h
 ·have:cs = []:=List.eq_nil_of_length_eq_zero h2
  subst this
  exact ⟨none,0,rfl,Nat.le_refl _,fun i x hx=>by simp at hx⟩
 ·refine ⟨_,cap,rfl,a4,fun i x hx=>⟨g,0,rfl,?_⟩⟩
  have hi:i<cs.length:=(List.getElem?_eq_some_iff.1 hx).1
  obtain ⟨f1,f2⟩:=flat_coef cs i x hx
  have hc:∀ j u,j<cs.length*2→(cs.flatMap encCoef)[j]?=some u→w.cell? ⟨g,0+j,none⟩=some u:=fun j u hj hu=>by
   rw[← a7,List.getElem?_take,if_pos hj]at hu
   simp only[World.cell?,a3,Nat.zero_add]
   rw[← Array.getElem?_toList];exact hu
  exact ⟨hc _ _ (by omega) f1,by rw[Nat.add_assoc];exact hc _ _ (by omega) f2⟩
def CoefsGot (T:TypeId) (ps:List (Int × Rat)) (w:World) (e:Ending) (w':World):Prop:=∃ sv,e=.returned sv∧OwnCoefs w' w.heap.size T sv (coefsOf ps)∧Below w.heap.size w w'
theorem atOf_fits {L:Nat}{ps:List (Int × Rat)}(hL:2≤L) (h:∀ p∈ps,Fits L p.2) (i:Int):Fits L (atOf ps i):=by
 induction ps with
 | nil=>exact (fits_of (n:=0) (by omega) (by omega)).mono hL
 | cons p ps ih=>
   rw[atOf_cons]
   split
   ·exact h p List.mem_cons_self
   ·exact ih fun q hq=>h q (List.mem_cons_of_mem _ hq)
theorem OwnCoefs.shape {w:World}{base:Nat}{T:TypeId}{v:Value}{cs:List VCoef}(h:OwnCoefs w base T v cs):∃ A c,v=.slice A cs.length c:=by
 obtain ⟨h1,⟨rfl,h2⟩|⟨g,cap,cur,rfl,_⟩⟩:=h
 ·exact ⟨none,0,by rw[h2]⟩
 ·exact ⟨_,_,rfl⟩
end Vic
namespace Go.Proofs.YtehbhghbagaliaaGreatDoor
open Go.RowKit Vic
theorem info_coef0:(Tryz.prog.info? 46).map (fun i=>(i.zero,i.size,i.bytes))=some (some (.agg #[.int .i64 0,.string ⟨#[]⟩]),2,24):=by kernel_rfl
theorem info_coef:∃ i:TypeInfo,Tryz.prog.info? 46=some i∧i.zero=some (.agg #[.int .i64 0,.string ⟨#[]⟩])∧i.size=2∧i.bytes=24:=by
 have h:=info_coef0
 cases hi:Tryz.prog.info? 46 with
 | none=>rw[hi]at h;simp at h
 | some i=>rw[hi]at h;simp at h;exact ⟨i,rfl,h.1,h.2.1,h.2.2⟩
set_option maxRecDepth 100000 in
set_option maxHeartbeats 8000000 in
theorem vec_Coefs (w:World) (v:Value) (ps:List (Int × Rat)) (h:VecAt w v ps) (hl:ps.length≤1000) (hf:∀ p∈ps,Fits 1000000 p.2) (ht:Tab w):Calls Tryz.prog 19 #[v] w (CoefsGot 46 ps w):=by
 have CP:=Lib.hid (vec_parts w v ps h)
 unfold PartsGot at CP
 have HT:=Lib.hid ht
 have HFT:=Lib.hid hf
 have HL:=Lib.hid hl
 clear h hl hf ht
 go_enter Tryz.func19,Tryz.ntmps19
 go_wp2_with fail
 refine CP.out.mono ?_
 rintro e w' ⟨sv0,fs,rfl,hp,hps,rfl⟩
 obtain ⟨A,c,rfl,hlc,hcell⟩:=hp
 have hfl:fs.length≤1000:=by have:=HL.out;rw[hps]at this;simpa [unpart]using this
 have HPS:=Lib.hid hps
 have HC:=Lib.hid hcell
 clear hps hcell HL CP
 go_wp2_with fail
 go_loopw [9,3] (fun t sv wr=>∃ k:Nat,t=.int .i64 k∧k≤fs.length∧Hid (OwnCoefs wr w.heap.size 46 sv (coefsOf (unpart (fs.take k))))∧Below w.heap.size w wr) (fun t _ _=>fs.length - (intOf t).toNat)
 case atStart=>exact ⟨0,rfl,Nat.zero_le _,Lib.hid (OwnK.nil_ _ _ _ _ _),Below.refl _ _⟩
 case round=>
  obtain ⟨k,rfl,hk,hown,hbr⟩:=hrel
  by_cases hlt:k<fs.length
  ·obtain ⟨x,hx⟩:∃ x,fs[k]?=some x:=⟨fs[k],by simp[hlt]⟩
   obtain ⟨g,o,rfl,hc1,hc2,hf⟩:=HC.out k x hx
   have hc1':=cell_keep hc1 hbr
   have hc2':=cell_keep hc2 hbr
   have hfr:=hf.keep hbr
   have hxf:Fits 1000000 x.2.2:=HFT.out (x.1,x.2.2) (by rw[HPS.out];exact List.mem_map.2 ⟨x,List.mem_of_getElem? hx,rfl⟩)
   have hnext:coefsOf (unpart (fs.take (k+1)))=coefsOf (unpart (fs.take k)) ++ [(x.1,fracText x.2.2)]:=by
    rw[List.take_add_one,hx];simp[coefsOf,unpart]
   obtain ⟨at_,ad,q⟩:=x
   simp only at hc1' hc2' hf hfr hxf hnext
   obtain ⟨tx,htx⟩:∃ tx,tx=fracText q:=⟨_,rfl⟩
   rw[← htx]at hnext
   have HNX:=Lib.hid hnext
   obtain ⟨cs,hcs⟩:∃ cs,cs=coefsOf (unpart (fs.take k)):=⟨_,rfl⟩
   rw[← hcs]at hown HNX
   have hcsl:cs.length=k:=by rw[hcs];simp[coefsOf,unpart];omega
   obtain ⟨A3,c3,hsv⟩:=hown.out.shape
   rw[hcsl]at hsv
   subst hsv
   obtain ⟨w1,hw1⟩:∃ w1,w1=wr.alloc (.cells #[.int .i64 at_,.pointer ad] 75):=⟨_,rfl⟩
   have hb1:Below wr.heap.size wr w1:=by rw[hw1];exact (Below.refl _ _).alloc (Nat.le_refl _) _
   have hr1:Row w1 wr.heap.size 75 #[.int .i64 at_,.pointer ad]:=by rw[hw1];exact Row.new _ _ _
   have KP:Hid (∀ W,Below w1.heap.size w1 W→W.cell? ⟨wr.heap.size,0,none⟩=some (.int .i64 at_)∧W.cell? ⟨wr.heap.size,1,none⟩=some (.pointer ad)):=Lib.hid fun W h=>⟨(hr1.keep h).cell 0,(hr1.keep h).cell 1⟩
   have KT:Hid (∀ W,Below w1.heap.size w1 W→Calls Tryz.prog 10 #[.pointer ad] W (fun e w'=>e=.returned (.string ⟨tx.toArray⟩)∧Below w1.heap.size w1 w')):=Lib.hid fun W h=>by
    rw[htx]
    refine (frac_Text W _ q ((hfr.keep hb1).keep h).at_ hxf (HT.out.keep (below_seq hbr (below_seq hb1 h)))).mono ?_
    rintro e w' ⟨rfl,hb⟩
    exact ⟨rfl,below_seq h hb⟩
   have KO:Hid (∀ W,Below w1.heap.size w1 W→OwnK coefKind W w.heap.size 46 2 (.slice A3 k c3) k (cs.flatMap encCoef)):=Lib.hid fun W h=>by
    have h1:=hown.out.keep (below_seq hb1 h)
    unfold OwnCoefs at h1
    rwa [hcsl]at h1
   have hwb:w.heap.size≤wr.heap.size:=hbr.size
   have HB1:=Lib.hid hb1
   have HW1:=Lib.hid hw1
   have HCS:=Lib.hid hcsl
   obtain ⟨i1,hi1,hz1,hsz1,hby1⟩:=info_coef
   clear hx hc1 hc2 hf hfr hxf hnext htx hcs hown hb1 hr1 hw1 hcsl
   go_wp2_with fail
   rw[← HW1.out]
   refine wp_region_any (by kernel_rfl) ?_
   change wpAny _ _ _ _ _ _ _ (World.drew _)
   obtain ⟨W0,hW0⟩:∃ X,X=(w1).drew:=⟨_,rfl⟩
   rw[← hW0]
   have z0:Below (w1).heap.size (w1) W0:=by rw[hW0];exact Below.drewN_ (Below.refl _ _) 1
   clear hW0
   refine wpAny_take (i:=0) (v:=.slice A3 k c3) rfl (by kernel_rfl) (by kernel_rfl) (by kernel_rfl) (fun _ _ _ h=>h) (Or.inl ⟨by kernel_rfl,?_⟩) ?_
   ·intro w;go_simp<;>first|omega|(intro hh;exfalso;omega)|rfl
   refine wpAny_take (i:=1) (v:=.pointer (some ⟨wr.heap.size,0,none⟩)) rfl (by kernel_rfl) (by kernel_rfl) (by kernel_rfl) (fun _ _ _ h=>h) (Or.inl ⟨by kernel_rfl,?_⟩) ?_
   ·intro w;go_simp<;>first|omega|(intro hh;exfalso;omega)|rfl
   refine wpAny_take (i:=3) (v:=.pointer (some ⟨wr.heap.size,1,none⟩)) rfl (by kernel_rfl) (by kernel_rfl) (by kernel_rfl) (fun _ _ _ h=>h) (Or.inl ⟨by kernel_rfl,?_⟩) ?_
   ·intro w;go_simp<;>first|omega|(intro hh;exfalso;omega)|rfl
   refine wpAny_ready (rs:=[2,4]) (by kernel_rfl) (by simp) ?_
   refine AllReady.cons rfl (fun K hK=>?_) (AllReady.cons rfl (fun K hK=>?_) AllReady.nil)
   ·obtain ⟨k0_1,k1_1⟩:=KP.out _ z0
    go_simp
    clear k0_1 k1_1
    refine hK _ _ ?_
    clear hK K
    refine wpAny_ready (rs:=[4]) (by kernel_rfl) (by simp) ?_
    refine AllReady.cons rfl (fun K hK=>?_) AllReady.nil
    obtain ⟨k0_2,k1_2⟩:=KP.out _ z0
    go_simp
    clear k0_2 k1_2
    refine hK _ _ ?_
    clear hK K
    refine wpAny_ready (rs:=[5]) (by kernel_rfl) (by simp) ?_
    refine AllReady.cons rfl (fun K hK=>?_) AllReady.nil
    go_simp
    go_at_call 10
    refine (KT.out _ z0).mono ?_
    rintro e W3 ⟨rfl,z3⟩
    refine hK _ _ ?_
    clear hK K
    refine wpAny_take (i:=6) (v:=.agg #[.int .i64 at_,.string ⟨tx.toArray⟩]) rfl (by kernel_rfl) (by kernel_rfl) (by kernel_rfl) (fun _ _ _ h=>h) (Or.inl ⟨by kernel_rfl,?_⟩) ?_
    ·intro w;go_simp<;>first|omega|(intro hh;exfalso;omega)|rfl
    refine wpAny_ready (rs:=[7]) (by kernel_rfl) (by simp) ?_
    refine AllReady.cons rfl (fun K hK=>?_) AllReady.nil
    go_simp
    obtain ⟨W4,hW4⟩:∃ X,X=W3.alloc (.cells #[.int .i64 at_,.string ⟨tx.toArray⟩] 46):=⟨_,rfl⟩
    rw[← hW4]
    have y4:Below W3.heap.size W3 W4:=by rw[hW4];exact (Below.refl _ _).alloc (Nat.le_refl _) _
    have z4:=below_seq z3 y4
    have r4:Row W4 W3.heap.size 46 #[.int .i64 at_,.string ⟨tx.toArray⟩]:=by rw[hW4];exact Row.new _ _ _
    have n4:∀ (j:Nat) u,(encCoef (at_,tx))[j]?=some u→W4.cell? ((⟨W3.heap.size,0,none⟩:Addr).add j)=some u:=fun j u hj=>by
     match j,hj with
     | 0,hj=>exact (r4.cell 0).trans (by simpa [encCoef]using hj)
     | 1,hj=>exact (r4.cell 1).trans (by simpa [encCoef]using hj)
     | j+2,hj=>simp[encCoef]at hj
    have NN4:=Lib.hid n4
    clear hW4 r4 n4 y4
    refine hK _ _ ?_
    clear hK K
    refine wpAny_ready (rs:=[8]) (by kernel_rfl) (by simp) ?_
    refine AllReady.cons rfl (fun K hK=>?_) AllReady.nil
    refine step_append_ownK (Kd:=coefKind) rfl (.tmp 13) (.tmp 20) 25 rfl w.heap.size 46 i1 _ 2 Tryz.underlying25 hi1 hz1 hsz1 rfl (by omega) (.slice A3 k c3) k (cs.flatMap encCoef) rfl (KO.out _ z4) ⟨W3.heap.size,0,none⟩ 1 1 (encCoef (at_,tx)) rfl rfl NN4.out (by simp[Value.oneCell',encCoef]) (encCoef_kind _) (by simp[coefKind,Value.cells]) (by omega) (by unfold maxLen;omega) (by rw[hby1];omega) (Nat.le_trans hwb (Nat.le_trans HB1.out.size z4.size)) ?_
    intro v5 X5 o5 gr5 lc5
    obtain ⟨g5,cap5,rfl⟩:=o5.shape (Nat.succ_pos _)
    refine hK _ _ ?_
    clear hK K
    refine wpAny_take (i:=9) (v:=.slice (some ⟨g5,0,none⟩) (k+1) cap5) rfl (by kernel_rfl) (by kernel_rfl) (by kernel_rfl) (fun _ _ _ h=>h) (Or.inl ⟨by kernel_rfl,?_⟩) ?_
    ·intro w;go_simp<;>first|omega|(intro hh;exfalso;omega)|rfl
    refine wpAny_done (by kernel_rfl) ?_ _
    have OO5:=Lib.hid o5
    have GG5:=Lib.hid gr5
    have ZZ5:=Lib.hid z4
    clear o5 gr5 lc5
    go_wp2_with fail
    go_roundw
    case rel=>
     refine ⟨k+1,by go_num,by omega,Lib.hid ?_,?_⟩
     ·rw[HNX.out]
      unfold OwnCoefs
      rw[List.length_append,HCS.out,List.flatMap_append]
      have h:=OO5.out
      simpa using h
     ·have h1:=below_seq hbr (below_seq HB1.out ZZ5.out)
      exact h1.grown GG5.out h1.size (fun j hj=>((KO.out _ ZZ5.out).lt hj).1)
    case measure=>simp[intOf];omega
   ·obtain ⟨k0_6,k1_6⟩:=KP.out _ z0
    go_simp
    clear k0_6 k1_6
    refine hK _ _ ?_
    clear hK K
    refine wpAny_ready (rs:=[2,5]) (by kernel_rfl) (by simp) ?_
    refine AllReady.cons rfl (fun K hK=>?_) (AllReady.cons rfl (fun K hK=>?_) AllReady.nil)
    ·obtain ⟨k0_7,k1_7⟩:=KP.out _ z0
     go_simp
     clear k0_7 k1_7
     refine hK _ _ ?_
     clear hK K
     refine wpAny_ready (rs:=[5]) (by kernel_rfl) (by simp) ?_
     refine AllReady.cons rfl (fun K hK=>?_) AllReady.nil
     go_simp
     go_at_call 10
     refine (KT.out _ z0).mono ?_
     rintro e W8 ⟨rfl,z8⟩
     refine hK _ _ ?_
     clear hK K
     refine wpAny_take (i:=6) (v:=.agg #[.int .i64 at_,.string ⟨tx.toArray⟩]) rfl (by kernel_rfl) (by kernel_rfl) (by kernel_rfl) (fun _ _ _ h=>h) (Or.inl ⟨by kernel_rfl,?_⟩) ?_
     ·intro w;go_simp<;>first|omega|(intro hh;exfalso;omega)|rfl
     refine wpAny_ready (rs:=[7]) (by kernel_rfl) (by simp) ?_
     refine AllReady.cons rfl (fun K hK=>?_) AllReady.nil
     go_simp
     obtain ⟨W9,hW9⟩:∃ X,X=W8.alloc (.cells #[.int .i64 at_,.string ⟨tx.toArray⟩] 46):=⟨_,rfl⟩
     rw[← hW9]
     have y9:Below W8.heap.size W8 W9:=by rw[hW9];exact (Below.refl _ _).alloc (Nat.le_refl _) _
     have z9:=below_seq z8 y9
     have r9:Row W9 W8.heap.size 46 #[.int .i64 at_,.string ⟨tx.toArray⟩]:=by rw[hW9];exact Row.new _ _ _
     have n9:∀ (j:Nat) u,(encCoef (at_,tx))[j]?=some u→W9.cell? ((⟨W8.heap.size,0,none⟩:Addr).add j)=some u:=fun j u hj=>by
      match j,hj with
      | 0,hj=>exact (r9.cell 0).trans (by simpa [encCoef]using hj)
      | 1,hj=>exact (r9.cell 1).trans (by simpa [encCoef]using hj)
      | j+2,hj=>simp[encCoef]at hj
     have NN9:=Lib.hid n9
     clear hW9 r9 n9 y9
     refine hK _ _ ?_
     clear hK K
     refine wpAny_ready (rs:=[8]) (by kernel_rfl) (by simp) ?_
     refine AllReady.cons rfl (fun K hK=>?_) AllReady.nil
     refine step_append_ownK (Kd:=coefKind) rfl (.tmp 13) (.tmp 20) 25 rfl w.heap.size 46 i1 _ 2 Tryz.underlying25 hi1 hz1 hsz1 rfl (by omega) (.slice A3 k c3) k (cs.flatMap encCoef) rfl (KO.out _ z9) ⟨W8.heap.size,0,none⟩ 1 1 (encCoef (at_,tx)) rfl rfl NN9.out (by simp[Value.oneCell',encCoef]) (encCoef_kind _) (by simp[coefKind,Value.cells]) (by omega) (by unfold maxLen;omega) (by rw[hby1];omega) (Nat.le_trans hwb (Nat.le_trans HB1.out.size z9.size)) ?_
     intro v10 X10 o10 gr10 lc10
     obtain ⟨g10,cap10,rfl⟩:=o10.shape (Nat.succ_pos _)
     refine hK _ _ ?_
     clear hK K
     refine wpAny_take (i:=9) (v:=.slice (some ⟨g10,0,none⟩) (k+1) cap10) rfl (by kernel_rfl) (by kernel_rfl) (by kernel_rfl) (fun _ _ _ h=>h) (Or.inl ⟨by kernel_rfl,?_⟩) ?_
     ·intro w;go_simp<;>first|omega|(intro hh;exfalso;omega)|rfl
     refine wpAny_done (by kernel_rfl) ?_ _
     have OO10:=Lib.hid o10
     have GG10:=Lib.hid gr10
     have ZZ10:=Lib.hid z9
     clear o10 gr10 lc10
     go_wp2_with fail
     go_roundw
     case rel=>
      refine ⟨k+1,by go_num,by omega,Lib.hid ?_,?_⟩
      ·rw[HNX.out]
       unfold OwnCoefs
       rw[List.length_append,HCS.out,List.flatMap_append]
       have h:=OO10.out
       simpa using h
      ·have h1:=below_seq hbr (below_seq HB1.out ZZ10.out)
       exact h1.grown GG10.out h1.size (fun j hj=>((KO.out _ ZZ10.out).lt hj).1)
     case measure=>simp[intOf];omega
    ·go_simp
     go_at_call 10
     refine (KT.out _ z0).mono ?_
     rintro e W11 ⟨rfl,z11⟩
     refine hK _ _ ?_
     clear hK K
     refine wpAny_ready (rs:=[2]) (by kernel_rfl) (by simp) ?_
     refine AllReady.cons rfl (fun K hK=>?_) AllReady.nil
     obtain ⟨k0_12,k1_12⟩:=KP.out _ z11
     go_simp
     clear k0_12 k1_12
     refine hK _ _ ?_
     clear hK K
     refine wpAny_take (i:=6) (v:=.agg #[.int .i64 at_,.string ⟨tx.toArray⟩]) rfl (by kernel_rfl) (by kernel_rfl) (by kernel_rfl) (fun _ _ _ h=>h) (Or.inl ⟨by kernel_rfl,?_⟩) ?_
     ·intro w;go_simp<;>first|omega|(intro hh;exfalso;omega)|rfl
     refine wpAny_ready (rs:=[7]) (by kernel_rfl) (by simp) ?_
     refine AllReady.cons rfl (fun K hK=>?_) AllReady.nil
     go_simp
     obtain ⟨W13,hW13⟩:∃ X,X=W11.alloc (.cells #[.int .i64 at_,.string ⟨tx.toArray⟩] 46):=⟨_,rfl⟩
     rw[← hW13]
     have y13:Below W11.heap.size W11 W13:=by rw[hW13];exact (Below.refl _ _).alloc (Nat.le_refl _) _
     have z13:=below_seq z11 y13
     have r13:Row W13 W11.heap.size 46 #[.int .i64 at_,.string ⟨tx.toArray⟩]:=by rw[hW13];exact Row.new _ _ _
     have n13:∀ (j:Nat) u,(encCoef (at_,tx))[j]?=some u→W13.cell? ((⟨W11.heap.size,0,none⟩:Addr).add j)=some u:=fun j u hj=>by
      match j,hj with
      | 0,hj=>exact (r13.cell 0).trans (by simpa [encCoef]using hj)
      | 1,hj=>exact (r13.cell 1).trans (by simpa [encCoef]using hj)
      | j+2,hj=>simp[encCoef]at hj
     have NN13:=Lib.hid n13
     clear hW13 r13 n13 y13
     refine hK _ _ ?_
     clear hK K
     refine wpAny_ready (rs:=[8]) (by kernel_rfl) (by simp) ?_
     refine AllReady.cons rfl (fun K hK=>?_) AllReady.nil
     refine step_append_ownK (Kd:=coefKind) rfl (.tmp 13) (.tmp 20) 25 rfl w.heap.size 46 i1 _ 2 Tryz.underlying25 hi1 hz1 hsz1 rfl (by omega) (.slice A3 k c3) k (cs.flatMap encCoef) rfl (KO.out _ z13) ⟨W11.heap.size,0,none⟩ 1 1 (encCoef (at_,tx)) rfl rfl NN13.out (by simp[Value.oneCell',encCoef]) (encCoef_kind _) (by simp[coefKind,Value.cells]) (by omega) (by unfold maxLen;omega) (by rw[hby1];omega) (Nat.le_trans hwb (Nat.le_trans HB1.out.size z13.size)) ?_
     intro v14 X14 o14 gr14 lc14
     obtain ⟨g14,cap14,rfl⟩:=o14.shape (Nat.succ_pos _)
     refine hK _ _ ?_
     clear hK K
     refine wpAny_take (i:=9) (v:=.slice (some ⟨g14,0,none⟩) (k+1) cap14) rfl (by kernel_rfl) (by kernel_rfl) (by kernel_rfl) (fun _ _ _ h=>h) (Or.inl ⟨by kernel_rfl,?_⟩) ?_
     ·intro w;go_simp<;>first|omega|(intro hh;exfalso;omega)|rfl
     refine wpAny_done (by kernel_rfl) ?_ _
     have OO14:=Lib.hid o14
     have GG14:=Lib.hid gr14
     have ZZ14:=Lib.hid z13
     clear o14 gr14 lc14
     go_wp2_with fail
     go_roundw
     case rel=>
      refine ⟨k+1,by go_num,by omega,Lib.hid ?_,?_⟩
      ·rw[HNX.out]
       unfold OwnCoefs
       rw[List.length_append,HCS.out,List.flatMap_append]
       have h:=OO14.out
       simpa using h
      ·have h1:=below_seq hbr (below_seq HB1.out ZZ14.out)
       exact h1.grown GG14.out h1.size (fun j hj=>((KO.out _ ZZ14.out).lt hj).1)
     case measure=>simp[intOf];omega
  ·obtain rfl:k=fs.length:=by omega
   rw[List.take_length]at hown
   have hps:Hid (unpart fs=ps):=Lib.hid HPS.out.symm
   rw[hps.out]at hown
   obtain ⟨A3,c3,hsv⟩:=hown.out.shape
   subst hsv
   go_wp2_with fail
   go_ret
   exact ⟨_,rfl,hown.out,hbr⟩
set_option maxRecDepth 100000 in
set_option maxHeartbeats 8000000 in
theorem vec_Dot (w:World) (v u:Value) (ps qs:List (Int × Rat)) (L:Nat) (h:VecAt w v ps) (h2:VecAt w u qs) (hl:ps.length≤400) (hl2:qs.length≤1000000) (hL:2≤L) (hL2:L≤1000000) (hf:∀ p∈ps,Fits L p.2) (hf2:∀ p∈qs,Fits L p.2) :
 Calls Tryz.prog 20 #[v,u] w (Gives (fun x w'=>FracPtr w' x (dotV ps qs)) w):=by
 have CP:Hid (∀ wr,Below w.heap.size w wr→Calls Tryz.prog 45 #[v] wr (PartsGot ps wr)):=Lib.hid fun wr hb=>vec_parts wr v ps (h.keep hb)
 unfold PartsGot at CP
 have CO:Hid (Calls Tryz.prog 29 #[.int .i64 0] w (Gives (fun z w'=>FracPtr w' z 0) w)):=by
  have h:=frac_Of w 0 (by omega) (by omega)
  exact h
 have HU:Hid (∀ wr,Below w.heap.size w wr→VecAt wr u qs):=Lib.hid fun wr hb=>h2.keep hb
 have HFT:=Lib.hid hf;have HFT2:=Lib.hid hf2
 have HL:=Lib.hid hl;have HL2:=Lib.hid hl2
 obtain ⟨bu,hbu⟩:∃ bu,u=.pointer bu:=by
  rcases h2 with ⟨rfl,_⟩|⟨b,_,_,rfl,_⟩
  ·exact ⟨none,rfl⟩
  ·exact ⟨_,rfl⟩
 subst hbu
 clear h h2 hl hf hl2 hf2
 go_enter Tryz.func20,Tryz.ntmps20
 go_wp2_with fail
 refine CO.out.mono ?_
 rintro e w0 ⟨z0,rfl,hz0,hb0⟩
 have HZ0:=Lib.hid hz0
 obtain ⟨bz0,hz0e⟩:∃ bz,z0=.pointer bz:=by
  obtain ⟨bz,_,_,h,_⟩:=hz0
  exact ⟨_,h⟩
 subst hz0e
 clear hz0 CO
 go_wp2_with fail
 refine (CP.out _ hb0).mono ?_
 rintro e w' ⟨sv0,fs,rfl,hp,hps,rfl⟩
 obtain ⟨A,c,rfl,hlc,hcell⟩:=hp
 have hfl:fs.length≤400:=by have:=HL.out;rw[hps]at this;simpa [unpart]using this
 have HPS:=Lib.hid hps
 have HC:=Lib.hid hcell
 clear hps hcell HL CP
 go_wp2_with fail
 go_loopw [12,5] (fun t s wr=>∃ (k:Nat) (bz:Option Addr),t=.int .i64 k∧s=.pointer bz∧k≤fs.length∧Hid (FracPtr wr (.pointer bz) (dotGo qs 0 (unpart (fs.take k))))∧Hid (Fits (k*(2*L+1)+2) (dotGo qs 0 (unpart (fs.take k))))∧Below w0.heap.size w0 wr) (fun t _ _=>fs.length - (intOf t).toNat)
 case atStart=>exact ⟨0,bz0,rfl,rfl,Nat.zero_le _,HZ0,Lib.hid ((fits_of (n:=0) (by omega) (by omega)).mono (by omega)),Below.refl _ _⟩
 case round=>
  obtain ⟨k,bz,rfl,rfl,hk,hsum,hsf,hbr⟩:=hrel
  by_cases hlt:k<fs.length
  ·obtain ⟨x,hx⟩:∃ x,fs[k]?=some x:=⟨fs[k],by simp[hlt]⟩
   obtain ⟨g,o,rfl,hc1,hc2,hf⟩:=HC.out k x hx
   have hc1':=cell_keep hc1 hbr
   have hc2':=cell_keep hc2 hbr
   have hfr:=hf.keep hbr
   have hxf:Fits L x.2.2:=HFT.out (x.1,x.2.2) (by rw[HPS.out];exact List.mem_map.2 ⟨x,List.mem_of_getElem? hx,rfl⟩)
   have hnext:dotGo qs 0 (unpart (fs.take (k+1)))=dotGo qs 0 (unpart (fs.take k))+x.2.2*atOf qs x.1:=by
    rw[List.take_add_one,hx];simp[dotGo,unpart]
   obtain ⟨at_,ad,q⟩:=x
   simp only at hc1' hc2' hf hfr hxf hnext
   have hqf:Fits L (atOf qs at_):=atOf_fits hL HFT2.out at_
   obtain ⟨r,hr⟩:∃ r,r=atOf qs at_:=⟨_,rfl⟩
   obtain ⟨S,hS⟩:∃ S,S=dotGo qs 0 (unpart (fs.take k)):=⟨_,rfl⟩
   rw[← hr,← hS]at hnext
   rw[← hr]at hqf
   rw[← hS]at hsum hsf
   have hmf:Fits (L+L) (q*r):=fits_mul hxf hqf
   have hk400:k*(2*L+1)+2≤900000402:=by
    have h1:k*(2*L+1)≤400*(2*1000000+1):=Nat.mul_le_mul (by omega) (by omega)
    omega
   have haf:Fits ((k+1)*(2*L+1)+2) (S+q*r):=(fits_add hsf.out hmf).mono (by rw[Nat.add_mul];omega)
   have HNX:=Lib.hid hnext;have HAF:=Lib.hid haf
   obtain ⟨w1,hw1⟩:∃ w1,w1=wr.alloc (.cells #[.int .i64 at_,.pointer ad] 75):=⟨_,rfl⟩
   have hb1:Below wr.heap.size wr w1:=by rw[hw1];exact (Below.refl _ _).alloc (Nat.le_refl _) _
   have hr1:Row w1 wr.heap.size 75 #[.int .i64 at_,.pointer ad]:=by rw[hw1];exact Row.new _ _ _
   have B1:=below_seq hbr hb1
   have KP:Hid (∀ W,Below w1.heap.size w1 W→W.cell? ⟨wr.heap.size,0,none⟩=some (.int .i64 at_)∧W.cell? ⟨wr.heap.size,1,none⟩=some (.pointer ad)):=Lib.hid fun W h=>⟨(hr1.keep h).cell 0,(hr1.keep h).cell 1⟩
   have KAt:Hid (∀ W,Below w1.heap.size w1 W→Calls Tryz.prog 16 #[.pointer bu,.int .i64 at_] W (Gives (fun x w'=>FracPtr w' x r) W)):=Lib.hid fun W h=>by
    rw[hr];exact vec_At W _ qs (HU.out W (below_seq hb0 (below_seq B1 h))) HL2.out at_
   have KM:Hid (∀ W z,Below w1.heap.size w1 W→FracPtr W z r→Calls Tryz.prog 46 #[.pointer ad,z] W (Gives (fun x w'=>FracPtr w' x (q*r)) W)):=Lib.hid fun W z h hz=>frac_Mul W _ z q r ((hfr.keep hb1).keep h).at_ hz.at_ (hxf.mono (by omega)) (hqf.mono (by omega))
   have KA:Hid (∀ W z,Below w1.heap.size w1 W→FracPtr W z (q*r)→Calls Tryz.prog 47 #[.pointer bz,z] W (Gives (fun x w'=>FracPtr w' x (S+q*r)) W)):=Lib.hid fun W z h hz=>frac_Add W _ z S (q*r) ((hsum.out.keep hb1).keep h).at_ hz.at_ (hsf.out.mono (by omega)) (hmf.mono (by omega))
   have HB1:=Lib.hid B1
   have HW1:=Lib.hid hw1
   clear hx hc1 hc2 hf hfr hxf hnext hr hS hqf hmf haf hk400 hsum hsf hb1 hr1 hw1 B1
   go_wp2_with fail
   rw[← HW1.out]
   refine wp_region_any (by kernel_rfl) ?_
   change wpAny _ _ _ _ _ _ _ (World.drew _)
   obtain ⟨W0,hW0⟩:∃ X,X=(w1).drew:=⟨_,rfl⟩
   rw[← hW0]
   have z0:Below (w1).heap.size (w1) W0:=by rw[hW0];exact Below.drewN_ (Below.refl _ _) 1
   clear hW0
   refine wpAny_take (i:=0) (v:=.pointer bz) rfl (by kernel_rfl) (by kernel_rfl) (by kernel_rfl) (fun _ _ _ h=>h) (Or.inl ⟨by kernel_rfl,?_⟩) ?_
   ·intro w;go_simp<;>first|omega|(intro hh;exfalso;omega)|rfl
   refine wpAny_take (i:=1) (v:=.pointer (some ⟨wr.heap.size,1,none⟩)) rfl (by kernel_rfl) (by kernel_rfl) (by kernel_rfl) (fun _ _ _ h=>h) (Or.inl ⟨by kernel_rfl,?_⟩) ?_
   ·intro w;go_simp<;>first|omega|(intro hh;exfalso;omega)|rfl
   refine wpAny_take (i:=3) (v:=.pointer bu) rfl (by kernel_rfl) (by kernel_rfl) (by kernel_rfl) (fun _ _ _ h=>h) (Or.inl ⟨by kernel_rfl,?_⟩) ?_
   ·intro w;go_simp<;>first|omega|(intro hh;exfalso;omega)|rfl
   refine wpAny_take (i:=4) (v:=.pointer (some ⟨wr.heap.size,0,none⟩)) rfl (by kernel_rfl) (by kernel_rfl) (by kernel_rfl) (fun _ _ _ h=>h) (Or.inl ⟨by kernel_rfl,?_⟩) ?_
   ·intro w;go_simp<;>first|omega|(intro hh;exfalso;omega)|rfl
   refine wpAny_ready (rs:=[2,5]) (by kernel_rfl) (by simp) ?_
   refine AllReady.cons rfl (fun K hK=>?_) (AllReady.cons rfl (fun K hK=>?_) AllReady.nil)
   ·obtain ⟨k0_1,k1_1⟩:=KP.out _ z0
    go_simp
    clear k0_1 k1_1
    refine hK _ _ ?_
    clear hK K
    refine wpAny_ready (rs:=[5]) (by kernel_rfl) (by simp) ?_
    refine AllReady.cons rfl (fun K hK=>?_) AllReady.nil
    obtain ⟨k0_2,k1_2⟩:=KP.out _ z0
    go_simp
    clear k0_2 k1_2
    refine hK _ _ ?_
    clear hK K
    refine wpAny_ready (rs:=[6]) (by kernel_rfl) (by simp) ?_
    refine AllReady.cons rfl (fun K hK=>?_) AllReady.nil
    go_simp
    go_at_call 16
    refine (KAt.out _ z0).mono ?_
    rintro e W3 ⟨x3,rfl,hx3,b3⟩
    obtain ⟨p3,e3⟩:∃ bz,x3=.pointer bz:=by
     obtain ⟨bz,_,_,h,_⟩:=hx3
     exact ⟨_,h⟩
    subst e3
    have z3:=below_seq z0 b3
    refine hK _ _ ?_
    clear hK K
    refine wpAny_ready (rs:=[7]) (by kernel_rfl) (by simp) ?_
    refine AllReady.cons rfl (fun K hK=>?_) AllReady.nil
    go_simp
    go_at_call 46
    refine (KM.out _ _ z3 hx3).mono ?_
    rintro e W4 ⟨x4,rfl,hx4,b4⟩
    obtain ⟨p4,e4⟩:∃ bz,x4=.pointer bz:=by
     obtain ⟨bz,_,_,h,_⟩:=hx4
     exact ⟨_,h⟩
    subst e4
    have z4:=below_seq z3 b4
    refine hK _ _ ?_
    clear hK K
    refine wpAny_ready (rs:=[8]) (by kernel_rfl) (by simp) ?_
    refine AllReady.cons rfl (fun K hK=>?_) AllReady.nil
    go_simp
    go_at_call 47
    refine (KA.out _ _ z4 hx4).mono ?_
    rintro e W5 ⟨x5,rfl,hx5,b5⟩
    obtain ⟨p5,e5⟩:∃ bz,x5=.pointer bz:=by
     obtain ⟨bz,_,_,h,_⟩:=hx5
     exact ⟨_,h⟩
    subst e5
    have z5:=below_seq z4 b5
    refine hK _ _ ?_
    clear hK K
    refine wpAny_take (i:=9) (v:=.pointer p5) rfl (by kernel_rfl) (by kernel_rfl) (by kernel_rfl) (fun _ _ _ h=>h) (Or.inl ⟨by kernel_rfl,?_⟩) ?_
    ·intro w;go_simp<;>first|omega|(intro hh;exfalso;omega)|rfl
    refine wpAny_done (by kernel_rfl) ?_ _
    have HF:=Lib.hid hx5
    have ZZ:=Lib.hid z5
    clear hx5
    go_wp2_with fail
    go_roundw
    case rel=>exact ⟨k+1,_,by go_num,rfl,by omega,Lib.hid (by rw[HNX.out];exact HF.out),Lib.hid (by rw[HNX.out];exact HAF.out),below_seq HB1.out ZZ.out⟩
    case measure=>simp[intOf];omega
   ·obtain ⟨k0_6,k1_6⟩:=KP.out _ z0
    go_simp
    clear k0_6 k1_6
    refine hK _ _ ?_
    clear hK K
    refine wpAny_ready (rs:=[2,6]) (by kernel_rfl) (by simp) ?_
    refine AllReady.cons rfl (fun K hK=>?_) (AllReady.cons rfl (fun K hK=>?_) AllReady.nil)
    ·obtain ⟨k0_7,k1_7⟩:=KP.out _ z0
     go_simp
     clear k0_7 k1_7
     refine hK _ _ ?_
     clear hK K
     refine wpAny_ready (rs:=[6]) (by kernel_rfl) (by simp) ?_
     refine AllReady.cons rfl (fun K hK=>?_) AllReady.nil
     go_simp
     go_at_call 16
     refine (KAt.out _ z0).mono ?_
     rintro e W8 ⟨x8,rfl,hx8,b8⟩
     obtain ⟨p8,e8⟩:∃ bz,x8=.pointer bz:=by
      obtain ⟨bz,_,_,h,_⟩:=hx8
      exact ⟨_,h⟩
     subst e8
     have z8:=below_seq z0 b8
     refine hK _ _ ?_
     clear hK K
     refine wpAny_ready (rs:=[7]) (by kernel_rfl) (by simp) ?_
     refine AllReady.cons rfl (fun K hK=>?_) AllReady.nil
     go_simp
     go_at_call 46
     refine (KM.out _ _ z8 hx8).mono ?_
     rintro e W9 ⟨x9,rfl,hx9,b9⟩
     obtain ⟨p9,e9⟩:∃ bz,x9=.pointer bz:=by
      obtain ⟨bz,_,_,h,_⟩:=hx9
      exact ⟨_,h⟩
     subst e9
     have z9:=below_seq z8 b9
     refine hK _ _ ?_
     clear hK K
     refine wpAny_ready (rs:=[8]) (by kernel_rfl) (by simp) ?_
     refine AllReady.cons rfl (fun K hK=>?_) AllReady.nil
     go_simp
     go_at_call 47
     refine (KA.out _ _ z9 hx9).mono ?_
     rintro e W10 ⟨x10,rfl,hx10,b10⟩
     obtain ⟨p10,e10⟩:∃ bz,x10=.pointer bz:=by
      obtain ⟨bz,_,_,h,_⟩:=hx10
      exact ⟨_,h⟩
     subst e10
     have z10:=below_seq z9 b10
     refine hK _ _ ?_
     clear hK K
     refine wpAny_take (i:=9) (v:=.pointer p10) rfl (by kernel_rfl) (by kernel_rfl) (by kernel_rfl) (fun _ _ _ h=>h) (Or.inl ⟨by kernel_rfl,?_⟩) ?_
     ·intro w;go_simp<;>first|omega|(intro hh;exfalso;omega)|rfl
     refine wpAny_done (by kernel_rfl) ?_ _
     have HF:=Lib.hid hx10
     have ZZ:=Lib.hid z10
     clear hx10
     go_wp2_with fail
     go_roundw
     case rel=>exact ⟨k+1,_,by go_num,rfl,by omega,Lib.hid (by rw[HNX.out];exact HF.out),Lib.hid (by rw[HNX.out];exact HAF.out),below_seq HB1.out ZZ.out⟩
     case measure=>simp[intOf];omega
    ·go_simp
     go_at_call 16
     refine (KAt.out _ z0).mono ?_
     rintro e W11 ⟨x11,rfl,hx11,b11⟩
     obtain ⟨p11,e11⟩:∃ bz,x11=.pointer bz:=by
      obtain ⟨bz,_,_,h,_⟩:=hx11
      exact ⟨_,h⟩
     subst e11
     have z11:=below_seq z0 b11
     refine hK _ _ ?_
     clear hK K
     refine wpAny_ready (rs:=[2]) (by kernel_rfl) (by simp) ?_
     refine AllReady.cons rfl (fun K hK=>?_) AllReady.nil
     obtain ⟨k0_12,k1_12⟩:=KP.out _ z11
     go_simp
     clear k0_12 k1_12
     refine hK _ _ ?_
     clear hK K
     refine wpAny_ready (rs:=[7]) (by kernel_rfl) (by simp) ?_
     refine AllReady.cons rfl (fun K hK=>?_) AllReady.nil
     go_simp
     go_at_call 46
     refine (KM.out _ _ z11 hx11).mono ?_
     rintro e W13 ⟨x13,rfl,hx13,b13⟩
     obtain ⟨p13,e13⟩:∃ bz,x13=.pointer bz:=by
      obtain ⟨bz,_,_,h,_⟩:=hx13
      exact ⟨_,h⟩
     subst e13
     have z13:=below_seq z11 b13
     refine hK _ _ ?_
     clear hK K
     refine wpAny_ready (rs:=[8]) (by kernel_rfl) (by simp) ?_
     refine AllReady.cons rfl (fun K hK=>?_) AllReady.nil
     go_simp
     go_at_call 47
     refine (KA.out _ _ z13 hx13).mono ?_
     rintro e W14 ⟨x14,rfl,hx14,b14⟩
     obtain ⟨p14,e14⟩:∃ bz,x14=.pointer bz:=by
      obtain ⟨bz,_,_,h,_⟩:=hx14
      exact ⟨_,h⟩
     subst e14
     have z14:=below_seq z13 b14
     refine hK _ _ ?_
     clear hK K
     refine wpAny_take (i:=9) (v:=.pointer p14) rfl (by kernel_rfl) (by kernel_rfl) (by kernel_rfl) (fun _ _ _ h=>h) (Or.inl ⟨by kernel_rfl,?_⟩) ?_
     ·intro w;go_simp<;>first|omega|(intro hh;exfalso;omega)|rfl
     refine wpAny_done (by kernel_rfl) ?_ _
     have HF:=Lib.hid hx14
     have ZZ:=Lib.hid z14
     clear hx14
     go_wp2_with fail
     go_roundw
     case rel=>exact ⟨k+1,_,by go_num,rfl,by omega,Lib.hid (by rw[HNX.out];exact HF.out),Lib.hid (by rw[HNX.out];exact HAF.out),below_seq HB1.out ZZ.out⟩
     case measure=>simp[intOf];omega
  ·obtain rfl:k=fs.length:=by omega
   rw[List.take_length,← HPS.out]at hsum
   go_wp2_with fail
   go_ret
   exact ⟨_,rfl,hsum.out,below_seq hb0 hbr⟩
end Go.Proofs.YtehbhghbagaliaaGreatDoor
