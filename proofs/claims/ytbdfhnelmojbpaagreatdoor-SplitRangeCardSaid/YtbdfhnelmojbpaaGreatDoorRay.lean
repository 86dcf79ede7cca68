/- Package core's reader, as it lies in memory. -/
import Derived.Test.YtbdfhnelmojbpaaGreatDoorRax
import Derived.Test.YtbdfhnelmojbpaaGreatDoorRat
import Derived.Deep.DeepCutAuto
import Derived.Deep.CutBlock
import Derived.Deep.RegionHeld3
import Derived.Test.YtbdfhnelmojbpaaGreatDoorRar
import Derived.Shelf.Strconv.AtoiAll
import Derived.Test.YtbdfhnelmojbpaaGreatDoorRap
import Derived.MapKept
import Derived.Shelf.SlSortCmp.SmallK
import Derived.Test.YtbdfhnelmojbpaaGreatDoorShelf
import Derived.Deep.QuietTactic
import Derived.BigQuiet
import Derived.BigRegion
import Derived.Lib.SliceRun
import Derived.Test.YtbdfhnelmojbpaaGreatDoorRav
import Derived.Test.YtbdfhnelmojbpaaGreatDoorRaw
import Derived.Test.YtbdfhnelmojbpaaGreatDoorProg
import Derived.WalkKit
import Derived.Test.YtbdfhnelmojbpaaGreatDoorRaq
import Derived.Laws.RangeString
import Derived.Lib.IndexAny
import Derived.Deep.LoopGhost
import Derived.Test.YtbdfhnelmojbpaaGreatDoorRau
import Derived.StillTailTactics
set_option linter.unusedVariables false
set_option linter.unusedSimpArgs false
section
namespace Vic
open Go Go.RowKit
abbrev RowV:=RowM × Value
def encRow (x:RowV):List Value:=[.string ⟨x.1.name.toArray⟩,.int .i64 x.1.kind,x.2,.string ⟨x.1.rhs.toArray⟩,.string ⟨x.1.range.toArray⟩]
def encCol (x:ColM):List Value:=[.string ⟨x.name.toArray⟩,.string ⟨x.low.toArray⟩,.string ⟨x.up.toArray⟩,.string ⟨x.cost.toArray⟩,.bool x.int]
def encCf (x:CoefM):List Value:=[.int .i64 x.1,.string ⟨x.2.toArray⟩]
theorem encCol_len (x:ColM):(encCol x).length=5:=rfl
theorem encCf_len (x:CoefM):(encCf x).length=2:=rfl
def rvV (rvs:List RowV) (i:Nat):Value:=((rvs[i]?).map (·.2)).getD (.slice none 0 0)
def rvN (rvs:List RowV) (i:Nat):Nat:=((rvs[i]?).map (·.1.coef.length)).getD 0
def rvX (rvs:List RowV) (i:Nat):List Value:=((rvs[i]?).map (fun x=>x.1.coef.flatMap encCf)).getD []
structure RowsOwn (w:World) (B:Nat) (rv:Value) (rvs:List RowV):Prop where
 rows:Own w B 28 5 rv rvs.length (rvs.flatMap encRow)
 coefs:OwnF w B 24 2 (fun i=>i<rvs.length) (rvV rvs) (rvN rvs) (rvX rvs)
abbrev ColsOwn (w:World) (B:Nat) (cv:Value) (cols:List ColM):Prop:=Own w B 31 5 cv cols.length (cols.flatMap encCol)
def OkWord (s:Txt):Prop:=s.length≤200∧∀ c∈s,c.toNat<128
def StrLow (B:Nat) (w:World) (g o:Nat) (s:Txt):Prop:=g<B∧StrR w g o s∧OkWord s
abbrev StrsLow (B:Nat) (w:World) (v:Value) (l:List Txt):Prop:=SlIn (StrLow B) 1 w v l
theorem StrsLow.keep {B:Nat}{w w':World}{v:Value}{l:List Txt}(h:StrsLow B w v l) (hb:Below B w w'):StrsLow B w' v l:=
 h.imp fun g o x _ hx=>⟨hx.1,(hb.cell (p:=⟨g,o,none⟩) hx.1).trans hx.2.1,hx.2.2⟩
def intOfT (l:List (Txt × Int)) (s:Txt):Option Value:=(atT l s).map (Value.int .i64)
structure RD (B:Nat) (w:World) (r:Nat) (st:CSt) (rv cv lv:Value) (mr mc ms:Nat) (rvs:List RowV):Prop where
 blk:Row w r 133 #[.string ⟨st.c.name.toArray⟩,.string ⟨st.c.obj.toArray⟩,rv,cv,.int .i64 st.at_,.map (some mr),.map (some mc),.map (some ms),.bool st.integer,lv,.int .i64 st.e]
 rB:B≤r
 mrB:B≤mr
 mcB:B≤mc
 msB:B≤ms
 mrc:mr≠mc
 mrs:mr≠ms
 mcs:mc≠ms
 mapR:StrMap w mr (intOfT st.rows)
 mapC:StrMap w mc (intOfT st.cols)
 mapS:StrMap w ms (inSet st.seen)
 rows:RowsOwn w B rv rvs
 rowsEq:rvs.map (·.1)=st.c.rows
 cols:ColsOwn w B cv st.c.cols
 words:StrsLow B w lv st.l
def CR (B:Nat) (w:World) (r:Nat) (st:CSt):Prop:=∃ rv cv lv mr mc ms rvs,RD B w r st rv cv lv mr mc ms rvs
def Fr (w w':World):Prop:=∀ (g:Nat) (cs:Array Value) (t:TypeId) (fr:Nat × Nat),w.heap[g]?=some (.cells cs t fr)→t≠133→t≠28→t≠24→t≠31→w'.heap[g]?=some (.cells cs t fr)
theorem Fr.refl (w:World):Fr w w:=fun _ _ _ _ h _ _ _ _=>h
theorem Fr.trans {u v w:World}(h:Fr u v) (k:Fr v w):Fr u w:=fun g cs t fr h0 a b c d=>k g cs t fr (h g cs t fr h0 a b c d) a b c d
theorem RD.keep {B:Nat}{w w':World}{r:Nat}{st:CSt}{rv cv lv:Value}{mr mc ms:Nat}{rvs:List RowV}(h:RD B w r st rv cv lv mr mc ms rvs) (hb:Below w.heap.size w w'):RD B w' r st rv cv lv mr mc ms rvs:=
 ⟨h.blk.keep hb,h.rB,h.mrB,h.mcB,h.msB,h.mrc,h.mrs,h.mcs,h.mapR.keep hb,h.mapC.keep hb,h.mapS.keep hb,⟨h.rows.rows.keep hb,h.rows.coefs.keep hb⟩,h.rowsEq,h.cols.keep hb,
  h.words.imp fun g o x _ hx=>⟨hx.1,cell_keep hx.2.1 hb,hx.2.2⟩⟩
theorem CR.keep {B:Nat}{w w':World}{r:Nat}{st:CSt}(h:CR B w r st) (hb:Below w.heap.size w w'):CR B w' r st:=by
 obtain ⟨rv,cv,lv,mr,mc,ms,rvs,h⟩:=h
 exact ⟨rv,cv,lv,mr,mc,ms,rvs,h.keep hb⟩
end Vic
end
section
namespace Vic
open Go Go.RowKit
theorem RD.cells {B:Nat}{w:World}{r:Nat}{st:CSt}{rv cv lv:Value}{mr mc ms:Nat}{rvs:List RowV}(h:RD B w r st rv cv lv mr mc ms rvs) :
 w.cell? ⟨r,0,none⟩=some (.string ⟨st.c.name.toArray⟩)∧w.cell? ⟨r,1,none⟩=some (.string ⟨st.c.obj.toArray⟩)∧w.cell? ⟨r,2,none⟩=some rv∧w.cell? ⟨r,3,none⟩=some cv∧w.cell? ⟨r,4,none⟩=some (.int .i64 st.at_) ∧
 w.cell? ⟨r,5,none⟩=some (.map (some mr))∧w.cell? ⟨r,6,none⟩=some (.map (some mc))∧w.cell? ⟨r,7,none⟩=some (.map (some ms))∧w.cell? ⟨r,8,none⟩=some (.bool st.integer)∧w.cell? ⟨r,9,none⟩=some lv∧w.cell? ⟨r,10,none⟩=some (.int .i64 st.e):=
 ⟨h.blk.cell 0,h.blk.cell 1,h.blk.cell 2,h.blk.cell 3,h.blk.cell 4,h.blk.cell 5,h.blk.cell 6,h.blk.cell 7,h.blk.cell 8,h.blk.cell 9,h.blk.cell 10⟩
theorem set_other (w:World) (r i:Nat) (u:Value) (g:Nat) (h:g≠r):(w.setCell ⟨r,i,none⟩ u).heap[g]?=w.heap[g]?:=Below.heap_setCell w ⟨r,i,none⟩ u g h
end Vic
namespace Go.Proofs.YtbdfhnelmojbpaaGreatDoor
open Go.RowKit Vic
end Go.Proofs.YtbdfhnelmojbpaaGreatDoor
end
section
namespace Vic
open Go Go.RowKit
theorem FracPtr.ptr {w:World}{v:Value}{q:Rat}(h:FracPtr w v q):∃ a,v=.pointer a:=by
 obtain ⟨b,_,_,h1,_⟩:=h
 exact ⟨_,h1⟩
end Vic
end
section
namespace Vic
open Go Go.RowKit
theorem OwnK.empty {Kd:Value→Prop}{w:World}{B g:Nat}{e:TypeId}{size:Nat}(h:Row w g e #[]) (hB:B≤g):OwnK Kd w B e size (.slice (some ⟨g,0,none⟩) 0 0) 0 []:=
 ⟨by simp,.inr ⟨g,0,#[],rfl,hB,h,Nat.le_refl _,Nat.zero_le _,by simp,by simp,fun u hu=>by simp at hu⟩⟩
end Vic
namespace Go.Proofs.YtbdfhnelmojbpaaGreatDoor
open Go.RowKit Vic
end Go.Proofs.YtbdfhnelmojbpaaGreatDoor
end
section
namespace Vic
open Go Go.RowKit
theorem tdg_le {n m:Nat}(h:n≤m):(tdg n).length≤(tdg m).length:=digs_length_mono (by omega) h
theorem tdg_mul_le (b m:Nat) (hm:m<10000):(tdg (b*m)).length≤(tdg b).length+1:=by
 refine tdg_len ?_
 have h1:=lt_pow_digs_length (B:=10000) (by omega) b
 rw[Nat.pow_succ]
 rcases Nat.eq_zero_or_pos m with h|h
 ·subst h;rw[Nat.mul_zero];exact Nat.mul_pos (Nat.pow_pos (by omega)) (by omega)
 ·exact Nat.mul_lt_mul_of_lt_of_lt h1 hm
theorem ref_one {w:World}{g:Nat}{t:TypeId}{d:Nat}(hr:Row w g t #[.int .i64 (d:Int)]) (h0:0<d) (h:d<10000):RefN w (.slice (some ⟨g,0,none⟩) 1 1) d:=by
 show Ints .i64 w _ (tdg d)
 rw[tdg_small h0 h]
 exact hr.ints (k:=.i64) (l:=[d]) 1 (by simp)
theorem append_ahead {P:Program}{w:World}{t ty e:TypeId}{i:TypeInfo}(ht:P.underlying t=some (.slice e)) (hi:P.info? e=some i) (hz:i.zero=some (.int .i64 0)) (hsize:i.size=1) (hby:i.bytes=8)
 {B g d:Nat}(hr:Row w g e #[.int .i64 (d:Int)]) (hB:B≤g) (hBw:B≤w.heap.size) {X:Value}{l:List Nat}(hX:Ints .i64 w X l) (hl:l.length≤1000000) :
 ∃ v' w',(Builtin.append_ #[t,t] ty #[.slice (some ⟨g,0,none⟩) 1 1,X]).run P w=.ok v' w'∧Ints .i64 w' v' (d :: l)∧Below B w w'∧Above B v':=by
 obtain ⟨A,c,rfl,hlc,hcell⟩:=hX
 have hown:OwnK intKind w B e 1 (.slice (some ⟨g,0,none⟩) 1 1) 1 [.int .i64 (d:Int)]:=
  ⟨by simp,.inr ⟨g,1,_,rfl,hB,hr,Nat.le_refl _,by unfold maxLen;omega,by simp,by simp,fun u hu=>by simp at hu;exact ⟨d,hu⟩⟩⟩
 have hone:Ints .i64 w (.slice (some ⟨g,0,none⟩) 1 1) [d]:=hr.ints (k:=.i64) (l:=[d]) 1 (by simp)
 rcases Nat.eq_zero_or_pos l.length with h0|h0
 ·obtain rfl:l = []:=List.eq_nil_of_length_eq_zero h0
  rcases A with _|a
  ·refine ⟨_,_,?_,hone,Below.refl _ _,above_slice hB⟩
   simp[Builtin.append_,run_underlying ht,Go.sizeOf,typeInfo,hi,Builtin.lenOf,run_firstCells_none,hsize,storeCells]
  ·have hrun:=run_append_room (P:=P) w t ty e i ht hi g 1 1 #[.int .i64 (d:Int)] hr a 0 c [] (by simp) (by simp) (by simp) (by omega) (by rw[hsize];simp)
   refine ⟨_,_,hrun,?_,?_,above_slice hB⟩
   ·have hrow:Row (w.setRow g (List.take (1*i.size) [Value.int .i64 (d:Int)] ++ [] ++ List.drop (1*i.size+([]:List Value).length) [Value.int .i64 (d:Int)]).toArray) g e #[.int .i64 (d:Int)]:=by
     have:=setRow_heap w g #[.int .i64 (d:Int)] (List.take (1*i.size) [Value.int .i64 (d:Int)] ++ [] ++ List.drop (1*i.size+([]:List Value).length) [Value.int .i64 (d:Int)]).toArray e (0,0) hr
     rw[hsize]at this ⊢
     exact this
    exact hrow.ints (k:=.i64) (l:=[d]) 1 (by simp)
   ·exact ⟨rfl,rfl,rfl,by simp,fun k hk=>setRow_other w g k _ (by omega)⟩
 ·obtain ⟨b1,o1,rfl,_⟩:=hcell 0 h0
  have hnews:∀ (j:Nat) u,(l.map fun (d:Nat)=>Value.int .i64 (d:Int))[j]?=some u→w.cell? ((⟨b1,o1,none⟩:Addr).add j)=some u:=fun j u hj=>by
   rw[List.getElem?_map]at hj
   cases hd:l[j]? with
   | none=>rw[hd]at hj;cases hj
   | some d=>
     rw[hd]at hj
     cases hj
     have hjl:=(List.getElem?_eq_some_iff.1 hd).1
     obtain ⟨b2,o2,he,hc2⟩:=hcell j hjl
     injection he with he
     injection he with he1 he2
     subst he1;subst he2
     rw[show (⟨b1,o1,none⟩:Addr).add j=⟨b1,o1+j,none⟩ by simp[Addr.add],hc2]
     rw[List.getD_eq_getElem?_getD,hd];rfl
  obtain ⟨v',w',h1,h2,h3,_⟩:=OwnK.append (P:=P) (ty:=ty) ht hi hz hsize rfl (by omega) hown ⟨b1,o1,none⟩ l.length c (l.map fun (d:Nat)=>Value.int .i64 (d:Int)) (by simp) hnews (by simp[Value.oneCell']) (by simp[intKind]) (by simp[intKind,Value.cells]) h0 (by unfold maxLen;omega) (by rw[hby];omega) hBw
  obtain ⟨g2,c2,hv2⟩:=h2.shape (by omega)
  refine ⟨v',w',h1,?_,hown.below (Below.refl _ _) (Below.refl _ _) h3 hBw,?_⟩
  case refine_2=>rw[hv2];exact above_slice (h2.lt (by rw[hv2];rfl)).1
  have h4:OwnK intKind w' B e 1 v' (d :: l).length ((d :: l).map fun (d:Nat)=>Value.int .i64 (d:Int)):=by
   have e:(d :: l).length=1+l.length:=by simp;omega
   rw[e];exact h2
  exact h4.ints
theorem wpList_append_ahead {P:Program}{ops:Array Oper}{rest:List Oper}{o:Oper}{a:Act}{w:World}{Q:Exit→Act→World→Prop}(hgd:o.guard=none) (s x:Operand) (t:TypeId)
 (ho:o.op=.call { callee:=.builtin .append,args:=#[s,x],argTypes:=#[t,t] }) (B:Nat) (e:TypeId) (i:TypeInfo) (ht:P.underlying t=some (.slice e)) (hi:P.info? e=some i) (hz:i.zero=some (.int .i64 0)) (hsize:i.size=1) (hby:i.bytes=8)
 (g d:Nat) (hs:a.eval s=.slice (some ⟨g,0,none⟩) 1 1) (hr:Row w g e #[.int .i64 (d:Int)]) (hB:B≤g) (hBw:B≤w.heap.size) (X:Value) (l:List Nat) (hx:a.eval x=X) (hX:Ints .i64 w X l) (hl:l.length≤1000000)
 (h:∀ v' w',Ints .i64 w' v' (d :: l)→Below B w w'→Above B v'→wpList P ops Q rest (a.put o.dst v') w'):wpList P ops Q (o :: rest) a w:=by
 refine wpList_plain hgd fun K hK=>?_
 obtain ⟨v',w',hrun,h2,h3,h4⟩:=append_ahead (P:=P) (ty:=o.type) ht hi hz hsize hby hr hB hBw hX hl
 unfold Oper.wp execOp
 simp only[ho,resolve,invoke,builtin,Sem.run_bind,Sem.run_pure,Result.andThen_ok,List.map_toArray,List.map_cons,List.map_nil,hs,hx,hrun]
 exact hK _ _ (h v' w' h2 h3 h4)
end Vic
end
section
namespace Vic
open Go Go.RowKit
def RefGot2 (l:List UInt8) (w:World) (e:Ending) (w':World):Prop:=
 ∃ x b,e=.returned (.tuple #[x,.bool b])∧Below w.heap.size w w'∧((b=false∧¬ GoodNat l∧x=.slice none 0 0)∨(b=true∧GoodNat l∧RefN w' x (numOf 0 l)))
end Vic
namespace Go.Proofs.YtbdfhnelmojbpaaGreatDoor
open Go.RowKit Vic
set_option maxRecDepth 100000 in
set_option maxHeartbeats 4000000 in
theorem ref_GetN2 (w:World) (l:List UInt8) (hs:l.length≤9223372036854775806) :
 Calls Tryz.prog 36 #[.string ⟨l.toArray⟩] w (RefGot2 l w):=by
 obtain ⟨i1,hi1,hz1,hsz1,hby1⟩:=info_int
 match l,hs with
 | [],_=>
   go_enter Tryz.func36,Tryz.ntmps36
   go_wp2_with fail
   go_ret2
   exact ⟨_,false,rfl,Below.refl _ _,.inl ⟨rfl,fun h=>h.1.1 rfl,rfl⟩⟩
 | c :: r,hs=>
   by_cases hlong:2000<r.length+1
   ·go_enter Tryz.func36,Tryz.ntmps36
    go_wp2_with fail
    go_ret2
    exact ⟨_,false,rfl,Below.refl _ _,.inl ⟨rfl,fun h=>by have:=h.2;simp at this;omega,rfl⟩⟩
   ·by_cases hz:1<r.length+1∧c=48
    ·obtain ⟨hz1,rfl⟩:=hz
     have hb:(((((⟨((48:UInt8) :: r).toArray⟩:ByteArray)[0]'(by show 0<((48:UInt8) :: r).toArray.size;simp)).toNat:Int)) == 48)=true:=rfl
     go_enter Tryz.func36,Tryz.ntmps36
     go_wp2_with fail
     go_ret2
     exact ⟨_,false,rfl,Below.refl _ _,.inl ⟨rfl,fun h=>by have:=h.1.2.2;simp at this;rw[this]at hz1;simp at hz1,rfl⟩⟩
    ·have hb:1<r.length+1→(((((⟨(c :: r).toArray⟩:ByteArray)[0]'(by show 0<(c :: r).toArray.size;simp)).toNat:Int)) == 48)=false:=fun h1=>by
      have:c≠48:=fun e=>hz ⟨h1,e⟩
      have h2:c.toNat≠48:=fun e=>this (UInt8.toNat_inj.1 e)
      show ((c.toNat:Int) == 48)=false
      rw[beq_eq_false_iff_ne];omega
     have hcan:Hid (1<(c :: r).length→(c :: r).head?≠some 48):=Lib.hid fun h1 h2=>hz ⟨h1,by simpa using h2⟩
     have hl2:(c :: r).length≤2000:=by simp;omega
     obtain ⟨L,hL⟩:∃ L,L=c :: r:=⟨_,rfl⟩
     have hlen:r.length+1=L.length:=by rw[hL];rfl
     rw[hlen]at hlong
     have HL:=Lib.hid hL
     obtain ⟨hne,hh⟩:∃ hne:0<(⟨L.toArray⟩:ByteArray).size,1<L.length→(((((⟨L.toArray⟩:ByteArray)[0]'hne).toNat:Int)) == 48)=false:=by
      subst hL
      exact ⟨by show 0<(c :: r).toArray.size;simp,fun h=>hb h⟩
     have hne2:L.isEmpty=false:=by subst hL;rfl
     rw[← hL]at hcan hl2 ⊢
     clear hL hb hlen
     have hl0:0<L.length:=by have h:=hne;change 0<L.toArray.size at h;simpa using h
     by_cases h1:1<L.length
     case' pos=>have hb1:=hh h1
     all_goals
      clear hh
      go_enter Tryz.func36,Tryz.ntmps36
      go_wp2_with fail
     all_goals
      go_loopw [7,4,5,6] (fun t s u v wr=>∃ (m:Nat) (n:List Nat) (wt d:Nat),t=.int .i64 ((m:Int) - 1)∧u=.int .i64 wt∧v=.int .i64 d∧m≤L.length∧Hid (RGet L m n wt d)∧Hid (m=0→d=0)∧Hid (OwnK intKind wr w.heap.size 3 1 s n.length (n.map fun (d:Nat)=>Value.int .i64 (d:Int)))∧Below w.heap.size w wr) (fun t _ _ _ _=>(intOf t+1).toNat)
      case atStart=>exact ⟨L.length,[],1,0,by go_num,rfl,rfl,Nat.le_refl _,RGet.start L,fun _=>rfl,OwnK.nil_ _ _ _ _ _,Below.refl _ _⟩
      case round=>
       obtain ⟨m,n,wt,d,rfl,rfl,rfl,hm,hg,hdm,hown,hbr⟩:=hrel
       rcases Nat.eq_zero_or_pos m with h0|h0
       ·subst h0
        have hd0:d=0:=hdm.out rfl
        obtain ⟨g1,g2⟩:=hg.out.done hd0
        have hgood:Hid (GoodNat L):=Lib.hid ⟨⟨fun e=>by rw[e]at hl0;exact absurd hl0 (by simp),g1,by
         rcases Nat.lt_or_ge 1 L.length with h3|h3
         ·exact .inr (hcan.out h3)
         ·left;omega⟩,hl2⟩
        have hnl:n.length≤2000:=by have:=hg.out.nl;omega
        obtain ⟨A,cA,rfl,hcA,hA⟩:=hown.out.ints
        have CT0:=ref_trim wr A cA n ⟨A,cA,rfl,hcA,hA⟩ hg.out.dg (by omega)
        rw[g2]at CT0
        have CT:=Lib.hid CT0
        clear CT0 g1 g2 hg hown hA hcA
        go_wp2_with fail
        refine CT.out.mono ?_
        rintro e w' ⟨z,rfl,hz,hbz⟩
        go_wp2_with fail
        go_ret2
        exact ⟨z,true,rfl,below_seq hbr hbz,.inr ⟨rfl,hgood.out,hz⟩⟩
       ·obtain ⟨m,rfl⟩:∃ k,m=k+1:=⟨m - 1,by omega⟩
        have hget:m<(⟨L.toArray⟩:ByteArray).size:=by show m<L.toArray.size;simp;omega
        obtain ⟨b,hbe⟩:∃ b,b=(⟨L.toArray⟩:ByteArray)[m]'hget:=⟨_,rfl⟩
        have hLm:Hid (L[m]?=some b):=Lib.hid (by rw[hbe,List.getElem?_eq_getElem (by omega)];rfl)
        obtain ⟨x,hxe⟩:∃ x:Nat,x=b.toNat:=⟨_,rfl⟩
        have hx:((((⟨L.toArray⟩:ByteArray)[m]'hget).toNat:Nat):Int)=(x:Int):=by rw[hxe,hbe]
        have HX:=Lib.hid hxe
        have hnl:n.length+(m+1)≤L.length:=hg.out.nl
        clear hbe hxe
        by_cases hdig:48≤x∧x≤57
        ·obtain ⟨hd1,hd2⟩:=hdig
         have hdg:Hid (isDig b=true):=Lib.hid (isDig_iff.2 (by rw[← HX.out];exact ⟨hd1,hd2⟩))
         obtain ⟨y,hy⟩:∃ y,y=x - 48:=⟨_,rfl⟩
         have e0:(x:Int) - 48=(y:Int):=by omega
         have hsb:=hg.out.bound hdg.out
         rw[← HX.out,← hy]at hsb
         obtain ⟨z,hz⟩:∃ z,z=y*wt:=⟨_,rfl⟩
         rw[← hz]at hsb
         have hwt:=hg.out.wd
         have hwb:wt≤1000:=by omega
         have e1:(y:Int)*(wt:Int)=(z:Int):=by rw[hz];simp
         obtain ⟨s,hs⟩:∃ s,s=d+z:=⟨_,rfl⟩
         have e2:(d:Int)+(z:Int)=(s:Int):=by omega
         have hs4:s<10000:=by omega
         have hse:Hid (s=d+(b.toNat - 48)*wt):=Lib.hid (by rw[hs,hz,hy,HX.out])
         have hzb:z≤10000:=by omega
         have hyb:y≤9:=by omega
         clear hsb hs hz hy
         by_cases hput:wt=1000∨m=0
         ·have HP:=Lib.hid (hg.out.put hLm.out hdg.out (by omega))
          rw[← hse.out]at HP
          have hown1:=Lib.hid (hown.out.stay (w':=wr.alloc (.cells #[.int .i64 (s:Int)] 3)) (fun b hb=>((Below.refl wr.heap.size wr).alloc (Nat.le_refl _) _).block b (hown.out.lt hb).2))
          have hnew1:Hid (∀ (j:Nat) u,[Value.int .i64 (s:Int)][j]?=some u→(wr.alloc (.cells #[.int .i64 (s:Int)] 3)).cell? ((⟨wr.heap.size,0,none⟩:Addr).add j)=some u):=Lib.hid fun j u hj=>by
           rcases j with _|j
           ·cases hj
            exact (Row.new _ _ _).cell 0
           ·simp at hj
          have hk1:w.heap.size≤(wr.alloc (.cells #[.int .i64 (s:Int)] 3)).heap.size:=Nat.le_trans hbr.size (by simp)
          clear hg hwt hse
          by_cases hw:wt=1000
          case' pos=>
           have hwf:((wt:Int)*10 == 10000)=true:=by rw[beq_iff_eq];omega
           clear hw hput
          case' neg=>
           have hmt:((m:Int) == 0)=true:=by rw[beq_iff_eq];omega
           have hwf:((wt:Int)*10 == 10000)=false:=by rw[beq_eq_false_iff_ne];omega
           clear hw hput
          all_goals
           go_wp2_with (at_builtin;refine wpList_append_ownK (Kd:=intKind) rfl (.tmp 59) (.tmp 61) 47 rfl w.heap.size 3 i1 _ 1 Tryz.underlying47 hi1 hz1 hsz1 rfl (by omega) _ n.length _ rfl hown1.out ⟨wr.heap.size,0,none⟩ 1 1 [Value.int .i64 (s:Int)] rfl (by simp) hnew1.out (by simp[Value.oneCell']) (by simp[intKind]) (by simp[intKind,Value.cells]) (by omega) (by unfold maxLen;omega) (by rw[hby1];omega) hk1 ?_;intro v5 w5 hown5 hgr5 hloc5)
          all_goals
           have hb5:=hown.out.below hbr ((Below.refl wr.heap.size wr).alloc (Nat.le_refl _) _) hgr5 hbr.size
           refine ⟨⟨m,n ++ [s],1,0,?_,rfl,rfl,by omega,HP,fun _=>rfl,?_,hb5⟩,?_⟩
           ·rfl
           ·rw[List.length_append,List.map_append];exact hown5
           ·simp[intOf]
         ·have hm0:m≠0:=by omega
          have HP:=Lib.hid (hg.out.more hLm.out hdg.out (by omega) hm0)
          rw[← hse.out]at HP
          have hwf:((wt:Int)*10 == 10000)=false:=by rw[beq_eq_false_iff_ne];omega
          have hmf:((m:Int) == 0)=false:=by rw[beq_eq_false_iff_ne];omega
          clear hg hwt hse hput
          go_wp2_with fail
          all_goals
           go_roundw
           case rel=>exact ⟨m,n,wt*10,s,by go_num,by go_num,rfl,by omega,HP,fun h=>absurd h hm0,hown,hbr⟩
           case measure=>simp[intOf]
        ·have hno:Hid (¬ GoodNat L):=Lib.hid fun h=>hdig (by
          have h1:=h.1.2.1 b (List.mem_of_getElem? hLm.out)
          have h2:=isDig_iff.1 h1
          rw[HX.out]
          exact h2)
         have hor:x<48∨57<x:=by omega
         clear hg hown hdig
         rcases hor with hor|hor
         all_goals
          go_wp2_with fail
          go_ret2
          exact ⟨_,false,rfl,hbr,.inl ⟨rfl,hno.out,rfl⟩⟩
end Go.Proofs.YtbdfhnelmojbpaaGreatDoor
end
section
namespace Vic
open Go Go.RowKit
def ErrCell (w:World) (g:Nat):Prop:=∃ ev,w.cell? ⟨g,0,none⟩=some ev∧(ev=.nilIface∨∃ te pe,ev=.iface te pe)
theorem ErrCell.keep {w w':World}{g:Nat}(h:ErrCell w g) (hb:Below w.heap.size w w'):ErrCell w' g:=by
 obtain ⟨ev,h1,h2⟩:=h;exact ⟨ev,cell_keep h1 hb,h2⟩
end Vic
namespace Go.Proofs.YtbdfhnelmojbpaaGreatDoor
open Go.RowKit Vic
structure TabE (w:World):Prop where
 tab:Tab w
 es:ErrCell w 1
 er:ErrCell w 2
theorem TabE.keep {w w':World}(h:TabE w) (hb:Below w.heap.size w w'):TabE w':=⟨h.tab.keep hb,h.es.keep hb,h.er.keep hb⟩
end Go.Proofs.YtbdfhnelmojbpaaGreatDoor
end
section
namespace Vic
open Go Go.RowKit
theorem OwnK.low {Kd:Value→Prop}{w:World}{base base':Nat}{e:TypeId}{size:Nat}{v:Value}{n:Nat}{xs:List Value}(h:OwnK Kd w base e size v n xs) (hb:base'≤base):OwnK Kd w base' e size v n xs:=by
 obtain ⟨h1,h2|⟨g,cap,cur,rfl,a2,a3⟩⟩:=h
 ·exact ⟨h1,.inl h2⟩
 ·exact ⟨h1,.inr ⟨g,cap,cur,rfl,Nat.le_trans hb a2,a3⟩⟩
end Vic
namespace Go.Proofs.YtbdfhnelmojbpaaGreatDoor
open Go.RowKit Vic
end Go.Proofs.YtbdfhnelmojbpaaGreatDoor
end
section
namespace Vic
open Go Go.RowKit
theorem map_cells {w w':World}{m:Nat}{f:List UInt8→Option Value}(hm:StrMap w m f) (hg:w.grownBy w' (some m)) {g:Nat}{cs:Array Value}{t:TypeId}{fr:Nat × Nat}(h:w.heap[g]?=some (.cells cs t fr)):w'.heap[g]?=w.heap[g]?:=
 hg.block g (by
  rcases Nat.lt_or_ge g w.heap.size with h1|h1
  ·exact h1
  ·rw[Array.getElem?_eq_none h1]at h;cases h) fun e=>hm.ne h (Option.some.inj e)
theorem RowsOwn.lt {w:World}{B:Nat}{rv:Value}{rvs:List RowV}(h:RowsOwn w B rv rvs) {g:Nat}(hg:rv.ownBlock=some g):B≤g∧g<w.heap.size:=h.rows.lt hg
theorem grown_other {w w':World}{B:Nat}{e:TypeId}{size:Nat}{v:Value}{n:Nat}{xs:List Value}(ho:Own w B e size v n xs) (hg:w.grownBy w' v.ownBlock) {g:Nat}{cs:Array Value}{t:TypeId}{fr:Nat × Nat}(h:w.heap[g]?=some (.cells cs t fr)) (ht:t≠e):w'.heap[g]?=w.heap[g]?:=
 hg.block g (by
  rcases Nat.lt_or_ge g w.heap.size with h1|h1
  ·exact h1
  ·rw[Array.getElem?_eq_none h1]at h;cases h) fun eq=>by
  obtain ⟨cur,hc⟩:=ho.typed eq.symm
  rw[hc]at h
  injection h with h
  injection h with _ h2 _
  exact ht h2.symm
end Vic
namespace Go.Proofs.YtbdfhnelmojbpaaGreatDoor
open Go.RowKit Vic
theorem zero_bool:∀ w:World,(zeroValue 4).run Tryz.prog w=.ok (.bool false) w:=fun _=>by kernel_rfl
theorem look_seen {w:World}{m:Nat}{l:List Txt}(h:StrMap w m (inSet l)) (s:Txt):(Instr.lookup 131 (.map (some m)) (.string ⟨s.toArray⟩) false).run Tryz.prog w=.ok (.bool (l.contains s)) w:=by
 rw[(h.lookup Tryz.underlying131 Tryz.underlying9 zero_bool s).1,inSet_get]
 congr 2
 rw[Bool.eq_iff_iff];simp
theorem grown_below {B:Nat}{w w':World}{m:Nat}(hg:w.grownBy w' (some m)) (hB:B≤m) (hm:m<w.heap.size):Below B w w':=
 ⟨hg.os,hg.tape,hg.output,hg.size,fun j hj=>hg.block j (by omega) (fun e=>by have:=Option.some.inj e;omega)⟩
end Go.Proofs.YtbdfhnelmojbpaaGreatDoor
end
section
namespace Vic
open Go Go.RowKit
end Vic
namespace Go.Proofs.YtbdfhnelmojbpaaGreatDoor
open Go.RowKit Vic
theorem set_upd {w:World}{m:Nat}{ks:List Txt}(h:StrMap w m (inSet ks)) (s:Txt):∃ w2,(Instr.mapUpdate 131 (.map (some m)) (.string ⟨s.toArray⟩) (.bool true)).run Tryz.prog w=.ok () w2∧StrMap w2 m (inSet (s :: ks))∧w.grownBy w2 (some m)∧w2.heap.size=w.heap.size:=by
 obtain ⟨w2,h1,h3,h4,h5⟩:=h.update Tryz.underlying131 Tryz.underlying9 s (.bool true)
 exact ⟨w2,h1,h3.congr fun x=>inSet_add ks s x,h4,h5⟩
theorem set_clear {w:World}{m:Nat}{ks:List Txt}(h:StrMap w m (inSet ks)) (ty:TypeId):∃ w2,(Builtin.clear_ #[131] ty #[.map (some m)]).run Tryz.prog w=.ok (.tuple #[]) w2∧StrMap w2 m (inSet [])∧w.grownBy w2 (some m)∧w2.heap.size=w.heap.size:=by
 obtain ⟨w2,h1,h3,h4,h5⟩:=h.clear (ty:=ty) Tryz.underlying131
 exact ⟨w2,h1,h3.congr fun x=>inSet_nil x,h4,h5⟩
theorem row_grown {w w2:World}{m b:Nat}{t:TypeId}{cs:Array Value}{f:List UInt8→Option Value}(hm:StrMap w m f) (hg:w.grownBy w2 (some m)) (h:Row w b t cs):Row w2 b t cs:=(map_cells hm hg h).trans h
set_option maxRecDepth 100000 in
set_option maxHeartbeats 8000000 in
theorem core_named (w:World) (v:Value) (c:CoreM) (hv:CoreIn w v c) (hf:FitCore c):Calls Tryz.prog 79 #[v] w (Keeps (.bool (namedM c)) w):=by
 obtain ⟨rv,cv,rfl,⟨rA,rc,rfl,hrc,hrow⟩,⟨cA,cc,rfl,hcc,hcol⟩⟩:=hv
 have HR:=Lib.hid hrow
 have HC:=Lib.hid hcol
 have HF:=Lib.hid hf
 have hM:Hid (namedM c=(nameB c.name && goodNames markerM (c.obj :: c.rows.map (·.name)) [] && goodNames rhsM (c.cols.map (·.name)) [])):=rfl
 have hrl:c.rows.length≤1000000:=hf.rl
 have hcl:c.cols.length≤1000000:=hf.cl
 have hnl:=hf.name
 clear hrow hcol hf
 obtain ⟨w1,hw1⟩:∃ X,X=w.alloc (.cells #[.string ⟨c.name.toArray⟩,.string ⟨c.obj.toArray⟩,.slice rA c.rows.length rc,.slice cA c.cols.length cc] 34):=⟨_,rfl⟩
 have hb1:Below w.heap.size w w1:=by rw[hw1];exact (Below.refl _ _).alloc (Nat.le_refl _) _
 have hbx:Row w1 w.heap.size 34 #[.string ⟨c.name.toArray⟩,.string ⟨c.obj.toArray⟩,.slice rA c.rows.length rc,.slice cA c.cols.length cc]:=by rw[hw1];exact Row.new _ _ _
 obtain ⟨m,hm⟩:∃ m,m=w1.heap.size:=⟨_,rfl⟩
 obtain ⟨w2,hw2⟩:∃ X,X=w1.alloc (.map #[] 0):=⟨_,rfl⟩
 have hb2:Below w1.heap.size w1 w2:=by rw[hw2];exact (Below.refl _ _).alloc (Nat.le_refl _) _
 have hmap:StrMap w2 m (inSet []):=by rw[hw2,hm];exact (StrMap.made w1).congr fun s=>inSet_nil s
 have hbx2:=hbx.keep hb2
 have hB2:=below_seq hb1 hb2
 have hmw:w.heap.size<m:=by rw[hm];exact hbx.lt
 have c0:w2.cell? ⟨w.heap.size,0,none⟩=some (.string ⟨c.name.toArray⟩):=hbx2.cell 0
 have CN:=Lib.hid (words_Name w2 c.name (by omega))
 obtain ⟨bx,hbq⟩:∃ b,b=w.heap.size:=⟨_,rfl⟩
 have HBX2:=Lib.hid hbx2
 have HMAP:=Lib.hid hmap
 have HB2:=Lib.hid hB2
 have hmm:=@run_makeMap Tryz.prog
 clear hbx hb1 hb2 hbx2 hmap hB2
 go_enter Tryz.func79,Tryz.ntmps79
 go_upto_region 2 with fail
 have hm':w.heap.size+1=m:=by rw[hm,hw1];simp
 rw[← hw1,← hw2,hm',← hbq]
 rw[← hbq]at c0 HBX2 hmw
 have hbw:Hid (w.heap.size≤m):=Lib.hid (by omega)
 clear hmm hm' hm hw1 hw2 hbq
 go_wp2_with fail
 refine CN.out.mono ?_
 rintro e w3 ⟨rfl,hb3⟩
 obtain ⟨N,hN⟩:∃ N,N=c.obj :: c.rows.map (·.name):=⟨_,rfl⟩
 have hNl:N.length=c.rows.length+1:=by rw[hN];simp
 obtain ⟨ok0,hok0⟩:∃ b,b=nameB c.name:=⟨_,rfl⟩
 obtain ⟨G,hG⟩:∃ b,b=(ok0 && goodNames markerM N []):=⟨_,rfl⟩
 have HG0:Hid (G=(ok0 && goodNames markerM (N.drop 0) [])):=Lib.hid hG
 have HM:Hid (namedM c=(G && goodNames rhsM (c.cols.map (·.name)) [])):=Lib.hid (by rw[hM.out,hG,hN,hok0])
 have HBX3:=Lib.hid (HBX2.out.keep hb3)
 have HMAP3:=Lib.hid (HMAP.out.keep hb3)
 have HB3:=Lib.hid (below_seq HB2.out hb3)
 have HNQ:=Lib.hid hN
 rw[← hok0]
 clear hb3 HMAP HBX2 HB2 c0 CN hN hG hM hok0
 go_wp2_with fail
 go_loopg [5,4] N.length (fun g t okv wr=>∃ (j:Nat) (i:Int) (ok:Bool) (seen:List Txt),t=.int .i64 i∧i+1=(j:Int)∧j+g=N.length∧okv=.bool ok∧Hid (StrMap wr m (inSet seen))∧Hid (Row wr bx 34 #[.string ⟨c.name.toArray⟩,.string ⟨c.obj.toArray⟩,.slice rA c.rows.length rc,.slice cA c.cols.length cc])∧Hid (G=(ok && goodNames markerM (N.drop j) seen))∧Hid (Below w.heap.size w wr))
 case atStart=>exact ⟨0,-1,ok0,[],rfl,by omega,by omega,rfl,HMAP3,HBX3,HG0,HB3⟩
 case round=>
  obtain ⟨j,i,ok,seen,rfl,hij,hj,rfl,HMr,HRr,HGr,HBr⟩:=hrel
  have c1:wr.cell? ⟨bx,1,none⟩=some (.string ⟨c.obj.toArray⟩):=HRr.out.cell 1
  have c2:wr.cell? ⟨bx,2,none⟩=some (.slice rA c.rows.length rc):=HRr.out.cell 2
  by_cases hlt:j<N.length
  ·obtain ⟨s,hs⟩:∃ s,N[j]?=some s:=⟨N[j],by simp[hlt]⟩
   have HD:Hid (N.drop j=s :: N.drop (j+1)):=Lib.hid (by rw[List.drop_eq_getElem_cons hlt,show N[j]=s from (List.getElem?_eq_some_iff.1 hs).2])
   have HG2:Hid (G=(ok && (nameB s && s != markerM && !seen.contains s && goodNames markerM (N.drop (j+1)) (s :: seen)))):=Lib.hid (by rw[HGr.out,HD.out];rfl)
   have hsl:s.length≤1000000:=by
    have h1:=List.mem_of_getElem? hs
    rw[HNQ.out]at h1
    rcases List.mem_cons.1 h1 with rfl|h1
    ·exact HF.out.obj
    ·obtain ⟨r,hr,rfl⟩:=List.mem_map.1 h1
     exact (HF.out.rows r hr).1
   have hi1:i<(c.rows.length:Int):=by omega
   have hir : -1≤i:=by omega
   have HJ:=Lib.hid hj
   have hcase:(i=-1∧s=c.obj)∨(∃ (n:Nat) (g o:Nat),i=(n:Int)∧n<c.rows.length∧rA=some ⟨g,o,none⟩∧wr.cell? ⟨g,o+n*5,none⟩=some (.string ⟨s.toArray⟩)):=by
    rcases j with _|j
    ·refine .inl ⟨by omega,?_⟩
     rw[HNQ.out]at hs
     simpa using hs.symm
    ·have hn:j<c.rows.length:=by omega
     refine .inr ⟨j,?_⟩
     rw[HNQ.out,List.getElem?_cons_succ,List.getElem?_map]at hs
     obtain ⟨r,hr⟩:∃ r,c.rows[j]?=some r:=⟨c.rows[j],by simp[hn]⟩
     rw[hr]at hs
     simp only[Option.map_some,Option.some.injEq]at hs
     obtain ⟨g,o,hA,cvv,h0,_⟩:=HR.out j r hr
     exact ⟨g,o,by omega,hn,hA,by rw[← hs];exact cell_keep h0 HBr.out⟩
   have fin:∀ (ok':Bool) (W:World),Below wr.heap.size wr W→ok'=(ok && (nameB s && s != markerM && !seen.contains s))→∃ W2,(Instr.mapUpdate 131 (.map (some m)) (.string ⟨s.toArray⟩) (.bool true)).run Tryz.prog W=.ok () W2∧StrMap W2 m (inSet (s :: seen))∧Row W2 bx 34 #[.string ⟨c.name.toArray⟩,.string ⟨c.obj.toArray⟩,.slice rA c.rows.length rc,.slice cA c.cols.length cc]∧G=(ok' && goodNames markerM (N.drop (j+1)) (s :: seen))∧Below w.heap.size w W2:=fun ok' W hW he=>by
    obtain ⟨W2,u1,u2,u3,u4⟩:=set_upd (HMr.out.keep hW) s
    refine ⟨W2,u1,u2,row_grown (HMr.out.keep hW) u3 (HRr.out.keep hW),?_,(HBr.out.trans (hW.mono HBr.out.size)).trans (grown_below u3 hbw.out (HMr.out.keep hW).lt)⟩
    rw[HG2.out,he]
    simp only[Bool.and_assoc]
   have FIN:=Lib.hid fin
   have CN:=Lib.hid (words_Name wr s (by omega))
   clear fin hs HGr hj HD
   obtain ⟨b1,hb1⟩:∃ b,b=nameB s:=⟨_,rfl⟩
   rw[← hb1]at CN FIN
   clear hb1
   have HMK:=Lib.hid HMr.out
   have hlk:Hid (∀ W,Below wr.heap.size wr W→(Instr.lookup 131 (.map (some m)) (.string ⟨s.toArray⟩) false).run Tryz.prog W=.ok (.bool (seen.contains s)) W):=Lib.hid fun W hW=>look_seen (HMr.out.keep hW) s
   have HIJ:=Lib.hid hij
   have hmkq:(s != markerM) = !(s == [39,77,65,82,75,69,82,39]):=rfl
   rcases hcase with ⟨rfl,hso⟩|⟨n,g,o,rfl,hn,rfl,hc⟩
   rw[← hso]at c1
   clear hso
   all_goals
    try (have hn0:(0:Int)≤(n:Int):=by omega)
    go_upto_region 9 with fail
    try clear hc
    clear c1 c2
    go_cut [4] (fun t wc=>∃ ok':Bool,t=.bool ok'∧Hid (ok'=(ok && (b1 && !(s == [39,77,65,82,75,69,82,39]) && !seen.contains s)))∧Hid (Below wr.heap.size wr wc))
    case first=>
     cases ok
     ·go_wp2_with fail
      go_meet
      exact ⟨false,rfl,Lib.hid rfl,Lib.hid (Below.refl _ _)⟩
     ·go_wp2_with fail
      refine CN.out.mono ?_
      rintro e w4 ⟨rfl,hb4⟩
      have HB4:=Lib.hid hb4
      have hl4:=hlk.out w4 hb4
      clear hb4
      cases b1
      ·go_wp2_with fail
       go_meet
       exact ⟨false,rfl,Lib.hid rfl,HB4⟩
      ·by_cases hmk:s = [39,77,65,82,75,69,82,39]
       ·have hmk1:(s == [39,77,65,82,75,69,82,39])=true:=beq_iff_eq.2 hmk
        clear hmk
        go_wp2_with fail
        go_meet
        exact ⟨false,rfl,Lib.hid (by rw[hmk1];rfl),HB4⟩
       ·have hmk1:(s == [39,77,65,82,75,69,82,39])=false:=beq_eq_false_iff_ne.2 hmk
        clear hmk
        go_wp2_with fail
        go_meet
        exact ⟨!seen.contains s,by simp,Lib.hid (by rw[hmk1];rfl),HB4⟩
    case rest=>
     obtain ⟨ok',rfl,HO,HBC⟩:=hcut
     obtain ⟨W2,u1,u2,u3,u4,u5⟩:=FIN.out ok' wc HBC.out (by rw[HO.out,hmkq])
     have U2:=Lib.hid u2;have U3:=Lib.hid u3;have U4:=Lib.hid u4;have U5:=Lib.hid u5
     clear u2 u3 u4 u5
     go_wp2_with fail
     go_roundg (gk - 1)
     case measure=>have:=HJ.out;omega
     case rel=>exact ⟨j+1,_,ok',s :: seen,rfl,by have:=HIJ.out;omega,by have:=HJ.out;omega,rfl,U2,U3,U4,U5⟩
  ·obtain rfl:j=N.length:=by omega
   have HGk:Hid (G=ok):=Lib.hid (by rw[HGr.out,List.drop_length];simp[goodNames])
   have hil:¬ i<(c.rows.length:Int):=by omega
   obtain ⟨W2,u1,u2,u3,u4⟩:=set_clear HMr.out 0
   have c3:W2.cell? ⟨bx,3,none⟩=some (.slice cA c.cols.length cc):=(row_grown HMr.out u3 HRr.out).cell 3
   have HR2:=Lib.hid (row_grown HMr.out u3 HRr.out)
   have HB2:=Lib.hid (HBr.out.trans (grown_below u3 hbw.out HMr.out.lt))
   have HM2:=Lib.hid u2
   obtain ⟨L,hL⟩:∃ L,L=c.cols.map (·.name):=⟨_,rfl⟩
   have hLl:L.length=c.cols.length:=by rw[hL];simp
   have HG0:Hid (namedM c=(ok && goodNames rhsM (L.drop 0) [])):=Lib.hid (by rw[HM.out,HGk.out,hL];rfl)
   have HLQ:=Lib.hid hL
   clear u2 u3 u4 HGr HMr HRr HBr hij hj hlt HGk hL
   go_wp2_with fail
   clear u1 c1 c2
   go_loopg [51,4] c.cols.length (fun g t okv wr=>∃ (k:Nat) (ok:Bool) (seen:List Txt),t=.int .i64 k∧k+g=c.cols.length∧okv=.bool ok∧Hid (StrMap wr m (inSet seen))∧Hid (namedM c=(ok && goodNames rhsM (L.drop k) seen))∧Hid (Below w.heap.size w wr))
   case atStart=>exact ⟨0,ok,[],rfl,by omega,rfl,HM2,HG0,HB2⟩
   case round=>
    obtain ⟨k,ok,seen,rfl,hk,rfl,HMr,HGr,HBr⟩:=hrel
    by_cases hlt:k<c.cols.length
    ·obtain ⟨x,hx⟩:∃ x,c.cols[k]?=some x:=⟨c.cols[k],by simp[hlt]⟩
     obtain ⟨g,o,rfl,d0,d1,d2,d3,d4⟩:=HC.out k x hx
     have e0:=cell_keep d0 HBr.out;have e1:=cell_keep d1 HBr.out;have e2:=cell_keep d2 HBr.out;have e3:=cell_keep d3 HBr.out;have e4:=cell_keep d4 HBr.out
     have hLk:k<L.length:=by omega
     have HD:Hid (L.drop k=x.name :: L.drop (k+1)):=Lib.hid (by
      rw[List.drop_eq_getElem_cons hLk]
      congr 1
      have:L[k]?=some x.name:=by rw[HLQ.out,List.getElem?_map,hx];rfl
      exact (List.getElem?_eq_some_iff.1 this).2)
     have hsl:=(HF.out.cols x (List.mem_of_getElem? hx)).1
     obtain ⟨s,lo,up,co,it⟩:=x
     dsimp only at e0 e1 e2 e3 e4 hsl HD
     have HG2:Hid (namedM c=(ok && (nameB s && s != rhsM && !seen.contains s && goodNames rhsM (L.drop (k+1)) (s :: seen)))):=Lib.hid (by rw[HGr.out,HD.out];rfl)
     have HK:=Lib.hid hk
     obtain ⟨wl,hwl⟩:∃ X,X=wr.alloc (.cells #[.string ⟨s.toArray⟩,.string ⟨lo.toArray⟩,.string ⟨up.toArray⟩,.string ⟨co.toArray⟩,.bool it] 31):=⟨_,rfl⟩
     have hbl:Below wr.heap.size wr wl:=by rw[hwl];exact (Below.refl _ _).alloc (Nat.le_refl _) _
     have hrow:Row wl wr.heap.size 31 #[.string ⟨s.toArray⟩,.string ⟨lo.toArray⟩,.string ⟨up.toArray⟩,.string ⟨co.toArray⟩,.bool it]:=by rw[hwl];exact Row.new _ _ _
     have n0:wl.cell? ⟨wr.heap.size,0,none⟩=some (.string ⟨s.toArray⟩):=hrow.cell 0
     have HMl:=Lib.hid (HMr.out.keep hbl)
     have HBl:=Lib.hid (HBr.out.trans (hbl.mono HBr.out.size))
     have fin:∀ (ok':Bool) (W:World),Below wl.heap.size wl W→ok'=(ok && (nameB s && s != rhsM && !seen.contains s))→∃ W2,(Instr.mapUpdate 131 (.map (some m)) (.string ⟨s.toArray⟩) (.bool true)).run Tryz.prog W=.ok () W2∧StrMap W2 m (inSet (s :: seen))∧namedM c=(ok' && goodNames rhsM (L.drop (k+1)) (s :: seen))∧Below w.heap.size w W2:=fun ok' W hW he=>by
      obtain ⟨W2,u1,u2,u3,u4⟩:=set_upd (HMl.out.keep hW) s
      refine ⟨W2,u1,u2,?_,(HBl.out.trans (hW.mono HBl.out.size)).trans (grown_below u3 hbw.out (HMl.out.keep hW).lt)⟩
      rw[HG2.out,he]
      simp only[Bool.and_assoc]
     have FIN:=Lib.hid fin
     have CN:=Lib.hid (words_Name wl s (by omega))
     have hlk:Hid (∀ W,Below wl.heap.size wl W→(Instr.lookup 131 (.map (some m)) (.string ⟨s.toArray⟩) false).run Tryz.prog W=.ok (.bool (seen.contains s)) W):=Lib.hid fun W hW=>look_seen (HMl.out.keep hW) s
     clear fin hx HGr hk HD d0 d1 d2 d3 d4 hrow hbl hsl
     obtain ⟨b1,hb1⟩:∃ b,b=nameB s:=⟨_,rfl⟩
     rw[← hb1]at CN FIN
     clear hb1
     have hmkq:(s != rhsM) = !(s == [82,72,83]):=rfl
     go_upto_region 15 with fail
     rw[← hwl]
     clear hwl e0 e1 e2 e3 e4
     obtain ⟨bl,hblq⟩:∃ b,b=wr.heap.size:=⟨_,rfl⟩
     rw[← hblq]at n0 ⊢
     clear hblq
     go_cut [4] (fun t wc=>∃ ok':Bool,t=.bool ok'∧Hid (ok'=(ok && (b1 && !(s == [82,72,83]) && !seen.contains s)))∧Hid (Below wl.heap.size wl wc))
     case first=>
      cases ok
      ·go_wp2_with fail
       go_meet
       exact ⟨false,rfl,Lib.hid rfl,Lib.hid (Below.refl _ _)⟩
      ·go_wp2_with fail
       refine CN.out.mono ?_
       rintro e w4 ⟨rfl,hb4⟩
       have HB4:=Lib.hid hb4
       have hl4:=hlk.out w4 hb4
       have n4:=cell_keep n0 hb4
       clear hb4
       cases b1
       ·go_wp2_with fail
        go_meet
        exact ⟨false,rfl,Lib.hid rfl,HB4⟩
       ·by_cases hmk:s = [82,72,83]
        ·have hmk1:(s == [82,72,83])=true:=beq_iff_eq.2 hmk
         clear hmk
         go_wp2_with fail
         go_meet
         exact ⟨false,rfl,Lib.hid (by rw[hmk1];rfl),HB4⟩
        ·have hmk1:(s == [82,72,83])=false:=beq_eq_false_iff_ne.2 hmk
         clear hmk
         go_wp2_with fail
         go_meet
         exact ⟨!seen.contains s,by simp,Lib.hid (by rw[hmk1];rfl),HB4⟩
     case rest=>
      obtain ⟨ok',rfl,HO,HBC⟩:=hcut
      have n5:=cell_keep n0 HBC.out
      obtain ⟨W2,u1,u2,u4,u5⟩:=FIN.out ok' wc HBC.out (by rw[HO.out,hmkq])
      have U2:=Lib.hid u2;have U4:=Lib.hid u4;have U5:=Lib.hid u5
      clear u2 u4 u5
      go_wp2_with fail
      go_roundg (gk - 1)
      case measure=>have:=HK.out;omega
      case rel=>exact ⟨k+1,ok',s :: seen,by go_num,by have:=HK.out;omega,rfl,U2,U4,U5⟩
    ·obtain rfl:k=c.cols.length:=by omega
     have HZ:Hid (namedM c=ok):=Lib.hid (by rw[HGr.out,← hLl,List.drop_length];simp[goodNames])
     clear hk HGr
     go_wp2_with fail
     go_ret
     exact ⟨by rw[HZ.out];rfl,HBr.out⟩
end Go.Proofs.YtbdfhnelmojbpaaGreatDoor
end
section
namespace Go.Proofs.YtbdfhnelmojbpaaGreatDoor
open Go.RowKit Vic
set_option maxRecDepth 100000 in
set_option maxHeartbeats 8000000 in
theorem core_May (w:World) (v:Value) (c:CoreM) (hv:CoreIn w v c) (hf:FitCore c) (ht:Tab w):Calls Tryz.prog 27 #[v] w (Keeps (.int .i64 (mayCore c)) w):=by
 have hM:Hid (mayCore c=if !namedM c then 4 else if 40<c.rows.length∨40<c.cols.length then 6 else if c.rows.any badKind then 7 else if c.rows.any (badRow c.cols.length) || c.cols.any badCol then 1 else 0):=rfl
 have HV:=Lib.hid hv
 obtain ⟨rv,cv,rfl,hrs,hcs⟩:=hv
 have HRS:=Lib.hid hrs
 have HCS:=Lib.hid hcs
 obtain ⟨rA,rc,rfl,hrc,_⟩:=hrs
 obtain ⟨cA,cc,rfl,hcc,_⟩:=hcs
 have hrl:c.rows.length≤1000000:=hf.rl
 have hcl:c.cols.length≤1000000:=hf.cl
 have HF:=Lib.hid hf
 have HT:=Lib.hid ht
 clear hf ht
 obtain ⟨w1,hw1⟩:∃ X,X=w.alloc (.cells #[.string ⟨c.name.toArray⟩,.string ⟨c.obj.toArray⟩,.slice rA c.rows.length rc,.slice cA c.cols.length cc] 34):=⟨_,rfl⟩
 have hb1:Below w.heap.size w w1:=by rw[hw1];exact (Below.refl _ _).alloc (Nat.le_refl _) _
 have hrow:Row w1 w.heap.size 34 #[.string ⟨c.name.toArray⟩,.string ⟨c.obj.toArray⟩,.slice rA c.rows.length rc,.slice cA c.cols.length cc]:=by rw[hw1];exact Row.new _ _ _
 have c0:w1.cell? ⟨w.heap.size,0,none⟩=some (.string ⟨c.name.toArray⟩):=hrow.cell 0
 have c1:w1.cell? ⟨w.heap.size,1,none⟩=some (.string ⟨c.obj.toArray⟩):=hrow.cell 1
 have c2:w1.cell? ⟨w.heap.size,2,none⟩=some (.slice rA c.rows.length rc):=hrow.cell 2
 have c3:w1.cell? ⟨w.heap.size,3,none⟩=some (.slice cA c.cols.length cc):=hrow.cell 3
 have CN:=Lib.hid (core_named w1 _ c (HV.out.keep hb1) HF.out)
 obtain ⟨bx,hbq⟩:∃ b,b=w.heap.size:=⟨_,rfl⟩
 have CK:Hid (∀ W,Below w1.heap.size w1 W→Calls Tryz.prog 80 #[.slice rA c.rows.length rc,.func (.func 78) #[] #[]] W (Keeps (.bool (c.rows.any badKind)) W)):=Lib.hid fun W hW=>anyf_row W _ c.rows (HRS.out.keep RowR.firm (below_seq hb1 hW)) hrl enter_may3 fun W2 r cv hr _ hc=>may_c3 W2 r cv hc (HF.out.rows r hr).2.2.2.2.2.1 (HF.out.rows r hr).2.2.2.2.2.2
 have CR:Hid (∀ W,Below w1.heap.size w1 W→Calls Tryz.prog 80 #[.slice rA c.rows.length rc,.func (.func 73) #[] #[.pointer (some ⟨bx,0,none⟩)]] W (Keeps (.bool (c.rows.any (badRow c.cols.length))) W)):=Lib.hid fun W hW=>anyf_row W _ c.rows (HRS.out.keep RowR.firm (below_seq hb1 hW)) hrl enter_may1 fun W2 r cv hr hW2 hc=>may_c1 W2 r cv bx c.cols.length cA cc (by rw[hbq];exact cell_keep (cell_keep c3 hW) hW2) (by omega) hc (HT.out.keep (below_seq (below_seq hb1 hW) hW2)) (HF.out.rows r hr)
 have CC:Hid (∀ W,Below w1.heap.size w1 W→Calls Tryz.prog 81 #[.slice cA c.cols.length cc,.func (.func 77) #[] #[]] W (Keeps (.bool (c.cols.any badCol)) W)):=Lib.hid fun W hW=>anyf_col W _ c.cols (HCS.out.keep ColR.firm (below_seq hb1 hW)) hcl enter_may2 fun W2 x hx hW2=>may_c2 W2 x (HT.out.keep (below_seq (below_seq hb1 hW) hW2)) (HF.out.cols x hx)
 obtain ⟨k1,hk1⟩:∃ x,x=namedM c:=⟨_,rfl⟩
 obtain ⟨k2,hk2⟩:∃ x,x=c.rows.any badKind:=⟨_,rfl⟩
 obtain ⟨k3,hk3⟩:∃ x,x=c.rows.any (badRow c.cols.length):=⟨_,rfl⟩
 obtain ⟨k4,hk4⟩:∃ x,x=c.cols.any badCol:=⟨_,rfl⟩
 rw[← hk1]at CN hM
 rw[← hk2]at CK hM
 rw[← hk3]at CR hM
 rw[← hk4]at CC hM
 rw[← hbq]at c0 c1 c2 c3
 have HB1:=Lib.hid hb1
 clear hk1 hk2 hk3 hk4 hrow hb1 HV
 obtain ⟨e,he⟩:∃ e,e=mayCore c:=⟨_,rfl⟩
 rw[← he]at hM ⊢
 clear he
 go_enter Tryz.func27,Tryz.ntmps27
 go_upto_region 1 with fail
 rw[← hw1,← hbq]
 clear hw1 hbq
 go_wp2_with fail
 refine CN.out.mono ?_
 rintro e' w2 ⟨rfl,h2⟩
 have d2:=cell_keep c2 h2
 have d3:=cell_keep c3 h2
 have H2:=Lib.hid h2
 have C2:=Lib.hid (CK.out w2 h2)
 clear c0 c1 c2 c3 h2 CN CK
 cases k1
 ·go_wp2_with fail
  go_ret
  exact ⟨by rw[hM.out];rfl,below_seq HB1.out H2.out⟩
 ·have HM2:Hid (e=if 40<c.rows.length∨40<c.cols.length then 6 else if k2=true then 7 else if (k3 || k4)=true then 1 else 0):=hM
  clear hM
  by_cases hr40:(40:Int)<(c.rows.length:Int)
  ·go_wp2_with fail
   go_ret
   exact ⟨by rw[HM2.out,if_pos (.inl (by omega))];rfl,below_seq HB1.out H2.out⟩
  ·by_cases hc40:(40:Int)<(c.cols.length:Int)
   ·go_wp2_with fail
    go_ret
    exact ⟨by rw[HM2.out,if_pos (.inr (by omega))];rfl,below_seq HB1.out H2.out⟩
   ·have HM3:Hid (e=if k2=true then 7 else if (k3 || k4)=true then 1 else 0):=Lib.hid (by rw[HM2.out,if_neg (by omega)])
    clear HM2
    go_wp2_with fail
    refine C2.out.mono ?_
    rintro e' w3 ⟨rfl,h3⟩
    have f2:=cell_keep d2 h3
    have f3:=cell_keep d3 h3
    have H3:=Lib.hid (below_seq H2.out h3)
    have C3:=Lib.hid (CR.out w3 H3.out)
    clear d2 d3 h3 C2 CR H2
    cases k2
    ·go_wp2_with fail
     refine C3.out.mono ?_
     rintro e' w4 ⟨rfl,h4⟩
     have g3:=cell_keep f3 h4
     have H4:=Lib.hid (below_seq H3.out h4)
     have C4:=Lib.hid (CC.out w4 H4.out)
     clear f2 f3 h4 C3 CC H3
     cases k3
     ·go_wp2_with fail
      refine C4.out.mono ?_
      rintro e' w5 ⟨rfl,h5⟩
      have H5:=Lib.hid (below_seq HB1.out (below_seq H4.out h5))
      clear h5 g3
      cases k4
      ·go_wp2_with fail
       go_ret
       exact ⟨by rw[HM3.out];rfl,H5.out⟩
      ·go_wp2_with fail
       go_ret
       exact ⟨by rw[HM3.out];rfl,H5.out⟩
     ·go_wp2_with fail
      go_ret
      exact ⟨by rw[HM3.out];rfl,below_seq HB1.out H4.out⟩
    ·go_wp2_with fail
     go_ret
     exact ⟨by rw[HM3.out];rfl,below_seq HB1.out H3.out⟩
end Go.Proofs.YtbdfhnelmojbpaaGreatDoor
end
section
namespace Vic
open Go Go.RowKit
theorem idxT_ge (l:List Txt) (s:Txt) : -1≤idxT l s∧idxT l s<l.length:=by
 unfold idxT
 cases h:l.findIdx? (fun x=>x == s)with
 | none=>simp;omega
 | some i=>
   obtain ⟨hi,_⟩:=List.findIdx?_eq_some_iff_getElem.1 h
   constructor<;>simp<;>omega
theorem CR.lt {B:Nat}{w:World}{r:Nat}{st:CSt}(h:CR B w r st):r<w.heap.size:=by
 obtain ⟨rv,cv,lv,mr,mc,ms,rvs,h⟩:=h;exact h.blk.lt
end Vic
namespace Go.Proofs.YtbdfhnelmojbpaaGreatDoor
open Go.RowKit Vic
end Go.Proofs.YtbdfhnelmojbpaaGreatDoor
end
section
namespace Vic
open Go Go.RowKit
theorem anyIdx_map {α:Type}(f:α→Txt) (l:List α) (s:Txt):anyIdx (fun x=>f x == s) l=idxT (l.map f) s:=by
 unfold anyIdx idxT
 rw[List.findIdx?_map]
 rfl
theorem rowAt_ge (c:CoreM) (s:Txt) (h:c.rows.length≤1000000) : -1≤Vic.rowAt c s∧Vic.rowAt c s≤1000000:=by
 have h1:=idxT_ge (c.rows.map (·.name)) s
 rw[List.length_map]at h1
 unfold Vic.rowAt rowIx
 split
 ·omega
 ·split<;>omega
end Vic
namespace Go.Proofs.YtbdfhnelmojbpaaGreatDoor
open Go.RowKit Vic
theorem enter_pcol:∀ args w,(callFunc 111 args).run Tryz.prog w=.ok (.enter 111 args) w:=fun _ _=>by kernel_rfl
theorem enter_prow:∀ args w,(callFunc 112 args).run Tryz.prog w=.ok (.enter 112 args) w:=fun _ _=>by kernel_rfl
theorem pcol_c1 (w:World) (x:ColM) (b:Nat) (s:Txt) (hb:w.cell? ⟨b,0,none⟩=some (.string ⟨s.toArray⟩)):Calls Tryz.prog 111 (#[.agg #[.string ⟨x.name.toArray⟩,.string ⟨x.low.toArray⟩,.string ⟨x.up.toArray⟩,.string ⟨x.cost.toArray⟩,.bool x.int]] ++ #[.pointer (some ⟨b,0,none⟩)]) w (Keeps (.bool (x.name == s)) w):=by
 have hb':∀ ob,(w.alloc ob).cell? ⟨b,0,none⟩=some (.string ⟨s.toArray⟩):=fun ob=>cell_keep hb ((Below.refl _ _).alloc (Nat.le_refl _) _)
 obtain ⟨name,low,up,cost,int⟩:=x
 go_enter Tryz.func111,Tryz.ntmps111
 go_wp2_with fail
 go_ret
 exact ⟨by first|rfl|simp,(Below.refl _ _).alloc (Nat.le_refl _) _⟩
theorem prow_c1 (w:World) (r:RowM) (cv:Value) (hcs:CsIn w cv r.coef) (b:Nat) (s:Txt) (hb:w.cell? ⟨b,0,none⟩=some (.string ⟨s.toArray⟩)):Calls Tryz.prog 112 (#[.agg #[.string ⟨r.name.toArray⟩,.int .i64 r.kind,cv,.string ⟨r.rhs.toArray⟩,.string ⟨r.range.toArray⟩]] ++ #[.pointer (some ⟨b,0,none⟩)]) w (Keeps (.bool (r.name == s)) w):=by
 have hb':∀ ob,(w.alloc ob).cell? ⟨b,0,none⟩=some (.string ⟨s.toArray⟩):=fun ob=>cell_keep hb ((Below.refl _ _).alloc (Nat.le_refl _) _)
 obtain ⟨name,kind,coef,rhs,range⟩:=r
 obtain ⟨cA,cc,rfl,_,_⟩:=hcs
 go_enter Tryz.func112,Tryz.ntmps112
 go_wp2_with fail
 go_ret
 exact ⟨by first|rfl|simp,(Below.refl _ _).alloc (Nat.le_refl _) _⟩
theorem period_col (w:World) (v:Value) (c:CoreM) (s:Txt) (hv:CoreIn w v c) (hcl:c.cols.length≤1000000):Calls Tryz.prog 44 #[v,.string ⟨s.toArray⟩] w (Keeps (.int .i64 (colAt c s)) w):=by
 obtain ⟨rv,cv,rfl,⟨rA,rc,rfl,hrc,_⟩,hcs⟩:=hv
 have HCS:=Lib.hid hcs
 obtain ⟨cA,cc,rfl,hcc,_⟩:=hcs
 obtain ⟨w1,hw1⟩:∃ X,X=(w.alloc (.cells #[.string ⟨c.name.toArray⟩,.string ⟨c.obj.toArray⟩,.slice rA c.rows.length rc,.slice cA c.cols.length cc] 34)).alloc (.cells #[.string ⟨s.toArray⟩] 9):=⟨_,rfl⟩
 have hb1:Below w.heap.size w w1:=by rw[hw1];exact ((Below.refl _ _).alloc (Nat.le_refl _) _).alloc (by simp) _
 have c3:w1.cell? ⟨w.heap.size,3,none⟩=some (.slice cA c.cols.length cc):=by
  rw[hw1];exact cell_keep ((Row.new w 34 #[.string ⟨c.name.toArray⟩,.string ⟨c.obj.toArray⟩,.slice rA c.rows.length rc,.slice cA c.cols.length cc]).cell 3) ((Below.refl _ _).alloc (Nat.le_refl _) _)
 have s0:w1.cell? ⟨w.heap.size+1,0,none⟩=some (.string ⟨s.toArray⟩):=by
  have:=(Row.new (w.alloc (.cells #[.string ⟨c.name.toArray⟩,.string ⟨c.obj.toArray⟩,.slice rA c.rows.length rc,.slice cA c.cols.length cc] 34)) 9 #[.string ⟨s.toArray⟩]).cell 0
  rw[World.size_alloc,← hw1]at this
  exact this
 have CI:Hid (Calls Tryz.prog 66 #[.slice cA c.cols.length cc,.func (.func 111) #[] #[.pointer (some ⟨w.heap.size+1,0,none⟩)]] w1 (Keeps (.int .i64 (colAt c s)) w1)):=Lib.hid (by
  have:=idxf_col (p:=fun x=>x.name == s) w1 _ c.cols (HCS.out.keep ColR.firm hb1) hcl enter_pcol (lb:=#[.pointer (some ⟨w.heap.size+1,0,none⟩)]) fun W x _ hW=>pcol_c1 W x _ s (cell_keep s0 hW)
  rwa [show anyIdx (fun x:ColM=>x.name == s) c.cols=colAt c s from anyIdx_map (·.name) c.cols s]at this)
 have HB1:=Lib.hid hb1
 clear hb1 HCS
 go_enter Tryz.func44,Tryz.ntmps44
 go_upto_region 1 with fail
 rw[← hw1]
 clear hw1
 go_wp2_with fail
 refine CI.out.mono ?_
 rintro e w2 ⟨rfl,h2⟩
 go_wp2_with fail
 go_ret
 exact ⟨rfl,below_seq HB1.out h2⟩
theorem period_row (w:World) (v:Value) (c:CoreM) (s:Txt) (hv:CoreIn w v c) (hrl:c.rows.length≤1000000):Calls Tryz.prog 45 #[v,.string ⟨s.toArray⟩] w (Keeps (.int .i64 (Vic.rowAt c s)) w):=by
 have hM:Hid (Vic.rowAt c s=if s=c.obj then 0 else if rowIx c s<0 then rowIx c s else rowIx c s+1):=rfl
 obtain ⟨rv,cv,rfl,hrs,⟨cA,cc,rfl,hcc,_⟩⟩:=hv
 have HRS:=Lib.hid hrs
 obtain ⟨rA,rc,rfl,hrc,_⟩:=hrs
 obtain ⟨w1,hw1⟩:∃ X,X=(w.alloc (.cells #[.string ⟨c.name.toArray⟩,.string ⟨c.obj.toArray⟩,.slice rA c.rows.length rc,.slice cA c.cols.length cc] 34)).alloc (.cells #[.string ⟨s.toArray⟩] 9):=⟨_,rfl⟩
 have hb1:Below w.heap.size w w1:=by rw[hw1];exact ((Below.refl _ _).alloc (Nat.le_refl _) _).alloc (by simp) _
 have hrow:=(Row.new w 34 #[.string ⟨c.name.toArray⟩,.string ⟨c.obj.toArray⟩,.slice rA c.rows.length rc,.slice cA c.cols.length cc]).alloc (.cells #[.string ⟨s.toArray⟩] 9)
 rw[← hw1]at hrow
 have c1:w1.cell? ⟨w.heap.size,1,none⟩=some (.string ⟨c.obj.toArray⟩):=hrow.cell 1
 have c2:w1.cell? ⟨w.heap.size,2,none⟩=some (.slice rA c.rows.length rc):=hrow.cell 2
 have s0:w1.cell? ⟨w.heap.size+1,0,none⟩=some (.string ⟨s.toArray⟩):=by
  have:=(Row.new (w.alloc (.cells #[.string ⟨c.name.toArray⟩,.string ⟨c.obj.toArray⟩,.slice rA c.rows.length rc,.slice cA c.cols.length cc] 34)) 9 #[.string ⟨s.toArray⟩]).cell 0
  rw[World.size_alloc,← hw1]at this
  exact this
 have CI:Hid (Calls Tryz.prog 64 #[.slice rA c.rows.length rc,.func (.func 112) #[] #[.pointer (some ⟨w.heap.size+1,0,none⟩)]] w1 (Keeps (.int .i64 (rowIx c s)) w1)):=Lib.hid (by
  have:=idxf_row (p:=fun x=>x.name == s) w1 _ c.rows (HRS.out.keep RowR.firm hb1) hrl enter_prow (lb:=#[.pointer (some ⟨w.heap.size+1,0,none⟩)]) fun W x cv _ hW hc=>prow_c1 W x cv hc _ s (cell_keep s0 hW)
  rwa [show anyIdx (fun x:RowM=>x.name == s) c.rows=rowIx c s from anyIdx_map (·.name) c.rows s]at this)
 have hix : -1≤rowIx c s∧rowIx c s<c.rows.length:=by
  have:=idxT_ge (c.rows.map (·.name)) s
  rw[List.length_map]at this
  exact this
 obtain ⟨hi1,hi2⟩:=hix
 generalize rowIx c s=i at *
 generalize Vic.rowAt c s=res at *
 have HB1:=Lib.hid hb1
 clear hb1 HRS hrow
 go_enter Tryz.func45,Tryz.ntmps45
 go_upto_region 1 with fail
 rw[← hw1]
 clear hw1
 by_cases h0:s=c.obj
 ·have h1:(s == c.obj)=true:=beq_iff_eq.2 h0
  have HZ:Hid (res=0):=Lib.hid (by rw[hM.out,if_pos h0])
  clear hM h0
  go_wp2_with fail
  go_ret
  exact ⟨by rw[HZ.out];rfl,HB1.out⟩
 ·have h1:(s == c.obj)=false:=beq_eq_false_iff_ne.2 h0
  have HZ:Hid (res=if i<0 then i else i+1):=Lib.hid (by rw[hM.out,if_neg h0])
  clear hM h0
  go_wp2_with fail
  refine CI.out.mono ?_
  rintro e w2 ⟨rfl,h2⟩
  have H2:=Lib.hid (below_seq HB1.out h2)
  clear h2
  by_cases hneg:i<0
  ·go_wp2_with fail
   go_ret
   exact ⟨by rw[HZ.out,if_pos hneg];rfl,H2.out⟩
  ·go_wp2_with fail
   go_ret
   exact ⟨by rw[HZ.out,if_neg (by omega)];rfl,H2.out⟩
end Go.Proofs.YtbdfhnelmojbpaaGreatDoor
end
