/- Package vec: the sum of a vector and so many times another one. -/
import Derived.Test.YtehbhghbagaliaaGreatDoorJVecD
import Derived.Deep.QuietTactic
import Derived.BigQuiet
import Derived.Deep.DeepCutAuto
import Derived.Deep.CutBlock
set_option linter.unusedVariables false
set_option linter.unusedSimpArgs false
namespace Vic
open Go Go.RowKit
theorem PartsIn.head {w:World}{sv:Value}{x:VPart}{fs:List VPart}(h:PartsIn w sv (x :: fs)) :
 ∃ g o c A2,sv=.slice (some ⟨g,o,none⟩) (fs.length+1) c∧fs.length+1≤c∧w.cell? ⟨g,o,none⟩=some (.int .i64 x.1)∧w.cell? ⟨g,o+1,none⟩=some (.pointer x.2.1)∧FracPtr w (.pointer x.2.1) x.2.2 ∧
   (if c=1 then some ⟨g,o,none⟩else some ⟨g,o+2,none⟩)=A2∧PartsIn w (.slice A2 fs.length (c - 1)) fs:=by
 obtain ⟨A,c,rfl,hc,h3⟩:=h
 obtain ⟨g,o,rfl,h5,h6,h7⟩:=h3 0 x rfl
 simp at hc
 refine ⟨g,o,c,_,rfl,hc,by simpa using h5,by simpa using h6,h7,rfl,_,_,rfl,by omega,fun i y hy=>?_⟩
 have hi:i<fs.length:=(List.getElem?_eq_some_iff.1 hy).1
 obtain ⟨g',o',e,h8,h9,h10⟩:=h3 (i+1) y (by simpa using hy)
 cases e
 exact ⟨g,o+2,by rw[if_neg (by omega)],by rw[show o+2+i*2=o+(i+1)*2 by omega];exact h8,by rw[show o+2+i*2+1=o+(i+1)*2+1 by omega];exact h9,h10⟩
theorem PartsIn.nil {w:World}{sv:Value}(h:PartsIn w sv []):∃ A c,sv=.slice A 0 c:=by
 obtain ⟨A,c,rfl,_⟩:=h
 exact ⟨A,c,rfl⟩
theorem own_parts {w:World}{B:Nat}{T:TypeId}{v:Value}{fs:List VPart}(h:OwnK partKind w B T 2 v fs.length (fs.flatMap encPart)) (hf:∀ x∈fs,FracPtr w (.pointer x.2.1) x.2.2):PartsIn w v fs:=by
 obtain ⟨h1,⟨rfl,h2⟩|⟨g,cap,cur,rfl,a2,a3,a4,a5,a6,a7,a8⟩⟩:=h
 ·have:fs = []:=List.eq_nil_of_length_eq_zero h2
  subst this
  exact ⟨none,0,rfl,Nat.le_refl _,fun i x hx=>by simp at hx⟩
 ·refine ⟨_,cap,rfl,a4,fun i x hx=>⟨g,0,rfl,?_⟩⟩
  have hi:i<fs.length:=(List.getElem?_eq_some_iff.1 hx).1
  have hc:∀ j u,j<fs.length*2→(fs.flatMap encPart)[j]?=some u→w.cell? ⟨g,0+j,none⟩=some u:=fun j u hj hu=>by
   rw[← a7,List.getElem?_take,if_pos hj]at hu
   simp only[World.cell?,a3,Nat.zero_add]
   rw[← Array.getElem?_toList];exact hu
  have hx':fs.toArray[i]! = x:=by
   rw[List.getElem?_eq_getElem hi]at hx
   have e:=Option.some.inj hx
   simp[hi,e]
  have e1:=flat_get fs (i*2) (by omega)
  have e2:=flat_get fs (i*2+1) (by omega)
  rw[show i*2 / 2=i by omega,show i*2 % 2=0 by omega,hx']at e1
  rw[show (i*2+1) / 2=i by omega,show (i*2+1) % 2=1 by omega,hx']at e2
  exact ⟨hc _ _ (by omega) e1,by rw[Nat.add_assoc];exact hc _ _ (by omega) e2,hf x (List.mem_of_getElem? hx)⟩
theorem NewMid.append2 {B:Nat}{T1 T2:TypeId}{w4 w5 w6:World}{b:Nat}{sv v6:Value}{fs:List VPart}{x:VPart}(h:NewMid B T1 T2 w4 b sv fs) (hbB:b<B) (h5:Below w4.heap.size w4 w5)
 (hgr:w5.grownBy w6 sv.ownBlock) (hown:OwnK partKind w6 B T2 2 v6 (fs.length+1) (fs.flatMap encPart ++ encPart x)) (hloc:v6.ownBlock=sv.ownBlock∨v6.ownBlock=some w5.heap.size)
 (hx:FracPtr w4 (.pointer x.2.1) x.2.2∧x.2.2≠0∧Fits 1000000 x.2.2) :
 NewMid B T1 T2 (w6.setCell ⟨b,0,none⟩ v6) b v6 (fs ++ [x])∧∀ a,a≤b→Below a w4 (w6.setCell ⟨b,0,none⟩ v6):=by
 have hnb:∀ j,sv.ownBlock=some j→B≤j:=fun j hj=>(h.own.lt hj).1
 have hs56:∀ j,j<w5.heap.size→sv.ownBlock≠some j→w6.heap[j]?=w5.heap[j]?:=fun j hj hn=>hgr.block j hj (fun e=>hn e.symm)
 have hs46:∀ j,j<w4.heap.size→sv.ownBlock≠some j→w6.heap[j]?=w4.heap[j]?:=fun j hj hn=>(hs56 j (Nat.lt_of_lt_of_le hj h5.size) hn).trans (h5.block j hj)
 have hs4:∀ j,j<w4.heap.size→sv.ownBlock≠some j→j≠b→(w6.setCell ⟨b,0,none⟩ v6).heap[j]?=w4.heap[j]?:=fun j hj hn hjb=>(Below.heap_setCell w6 ⟨b,0,none⟩ v6 j hjb).trans (hs46 j hj hn)
 have hbl:=h.vec.lt
 have hbn:sv.ownBlock≠some b:=fun e=>by have:=hnb b e;omega
 have hr6:Row w6 b T1 #[sv]:=(hs46 b hbl hbn).trans h.vec
 have hst:∀ j,j<w4.heap.size→Alien w4 j∨(w6.setCell ⟨b,0,none⟩ v6).heap[j]?=w4.heap[j]?:=fun j hj=>by
  by_cases h1:sv.ownBlock=some j
  ·exact .inl (alien_own h.own h1)
  ·by_cases h2:j=b
   ·subst h2;exact .inl (alien_vec h.vec h.own)
   ·exact .inr (hs4 j hj h1 h2)
 have hsz:(w6.setCell ⟨b,0,none⟩ v6).heap.size=w6.heap.size:=by simp[World.setCell]
 refine ⟨⟨?_,?_,?_⟩,?_⟩
 ·have:=hr6.set 0 v6
  exact this
 ·have e1:(fs ++ [x]).length=fs.length+1:=by simp
  have e2:(fs ++ [x]).flatMap encPart=fs.flatMap encPart ++ encPart x:=by simp
  rw[e1,e2]
  refine hown.stay fun g hg=>Below.heap_setCell w6 ⟨b,0,none⟩ v6 g ?_
  have:=(hown.lt hg).1
  show g≠b
  omega
 ·intro y hy
  rcases List.mem_append.1 hy with hy|hy
  ·obtain ⟨f1,f2,f3⟩:=h.frac y hy
   exact ⟨f1.stay f2 hst,f2,f3⟩
  ·simp at hy;subst hy
   exact ⟨hx.1.stay hx.2.1 hst,hx.2⟩
 ·intro a ha
  refine ⟨?_,?_,?_,?_,fun j hj=>?_⟩
  ·exact (show (w6.setCell ⟨b,0,none⟩ v6).os=w6.os from rfl).trans (hgr.os.trans h5.os)
  ·exact (show (w6.setCell ⟨b,0,none⟩ v6).tape=w6.tape from rfl).trans (hgr.tape.trans h5.tape)
  ·exact (show (w6.setCell ⟨b,0,none⟩ v6).output=w6.output from rfl).trans (hgr.output.trans h5.output)
  ·rw[hsz];exact Nat.le_trans h5.size hgr.size
  ·exact hs4 j (by omega) (fun e=>by have:=hnb j e;omega) (by omega)
theorem frac_ptr {w:World}{v:Value}{q:Rat}(h:FracAt w v q):∃ b,v=.pointer b:=by
 rcases h with ⟨h,_⟩|⟨b,_,_,h,_⟩|h
 ·exact ⟨_,h⟩
 ·exact ⟨_,h⟩
 ·obtain ⟨b,_,_,h,_⟩:=h
  exact ⟨_,h⟩
theorem PartsIn.shape {w:World}{sv:Value}{fs:List VPart}(h:PartsIn w sv fs):∃ A n c,sv=.slice A n c:=by
 obtain ⟨A,c,h,_⟩:=h
 exact ⟨_,_,_,h⟩
theorem FracPtr.off {w w':World}{v:Value}{q:Rat}(h:FracPtr w v q) {p:Nat}{T:TypeId}{x:Int}{y:Option Addr}(hr:Row w p T #[.int .i64 x,.pointer y]) (hs:∀ b,b≠p→w'.heap[b]?=w.heap[b]?):FracPtr w' v q:=by
 have hc:∀ b o u,w.cell? ⟨b,o,none⟩=some u→(∀ z,u≠.int .i64 z)→(∀ z,u≠.pointer z)→w'.cell? ⟨b,o,none⟩=some u:=fun b o u h h1 h2=>by
  have hb:b≠p:=by
   rintro rfl
   rw[hr.cell]at h
   match o,h with
   | 0,h=>exact h1 x (by simpa using h.symm)
   | 1,h=>exact h2 y (by simpa using h.symm)
   | o+2,h=>simp at h
  rw[cell_same (hs b hb)];exact h
 have hn:∀ {v:Value}{n:Nat},NatPtr w v n→NatPtr w' v n:=by
  rintro v n ⟨b,s,h1,h2,⟨A,c,h3,h4,h5⟩,hbk⟩
  subst h3
  have hbp:b≠p:=by
   rintro rfl
   rw[hr.cell]at h2
   simp at h2
  refine ⟨b,_,h1,hc _ _ _ h2 (fun z=>by simp) (fun z=>by simp),⟨A,c,rfl,h4,fun i hi=>?_⟩,hbk.same (hs b hbp)⟩
  obtain ⟨b',o',h6,h7⟩:=h5 i hi
  exact ⟨b',o',h6,hc _ _ _ h7 (fun z=>by simp) (fun z=>by simp)⟩
 obtain ⟨b,pn,pd,h1,h2,h3,h4,h5,h6⟩:=h
 have hb:b≠p:=by
  rintro rfl
  rw[hr.cell]at h2
  simp at h2
 refine ⟨b,pn,pd,h1,by rw[cell_same (hs b hb)];exact h2,by rw[cell_same (hs b hb)];exact h3,by rw[cell_same (hs b hb)];exact h4,?_,hn h6⟩
 rcases h5 with h5|h5
 ·exact .inl h5
 ·exact .inr (hn h5)
theorem pstore {T:TypeId}{W:World}{b:Nat}{u0 u1:Value}(hr:Row W b T #[u0,u1]) (v0 v1:Value) :
 ∃ w9,w9=(W.setCell ⟨b,0,none⟩ v0).setCell ⟨b,1,none⟩ v1∧Row w9 b T #[v0,v1]∧(∀ B,B≤b→Below B W w9)∧(∀ j,j≠b→w9.heap[j]?=W.heap[j]?) ∧
   W.cell? ⟨b,0,none⟩=some u0∧W.cell? ⟨b,1,none⟩=some u1∧W.frozen? ⟨b,0,none⟩=false∧W.frozen? ⟨b,1,none⟩=false:=by
 have hO:Only b W ((W.setCell ⟨b,0,none⟩ v0).setCell ⟨b,1,none⟩ v1):=((Only.refl _ _).setCell 0 _).setCell 1 _
 exact ⟨_,rfl,Row.set (Row.set hr 0 v0) 1 v1,fun B hB=>hO.below hB,fun j hj=>hO.block j hj,hr.cell 0,hr.cell 1,hr.free 0,hr.free 1⟩
def sliceLen:Value→Nat
 | .slice _ n _=>n
 | _=>0
def PartsGot2 (ps:List (Int × Rat)) (w0 w:World) (e:Ending) (w':World):Prop:=∃ sv fs,e=.returned sv∧PartsIn w0 sv fs∧ps=unpart fs∧w=w'
def AddGot (k:Rat) (ps qs:List (Int × Rat)) (w:World) (e:Ending) (w':World):Prop:=
 ∃ x,e=.returned x∧VecPtr w' x (mergeV k ps qs)∧(∀ p∈mergeV k ps qs,Fits 1000000 p.2)∧Below w.heap.size w w'
end Vic
namespace Go.Proofs.YtehbhghbagaliaaGreatDoor
open Go.RowKit Vic
theorem vec_parts_old (w0 w:World) (hb:Below w0.heap.size w0 w) (v:Value) (ps:List (Int × Rat)) (h:VecAt w0 v ps):Calls Tryz.prog 45 #[v] w (PartsGot2 ps w0 w):=by
 rcases h with ⟨rfl,rfl⟩|⟨b,sv,fs,rfl,hc0,hp,rfl⟩
 ·clear hb
  go_enter Tryz.func45,Tryz.ntmps45
  go_wp2
  go_ret
  exact ⟨_,[],rfl,⟨none,0,rfl,Nat.le_refl _,fun i x hx=>by simp at hx⟩,rfl,rfl⟩
 ·have hc:=cell_keep hc0 hb
  have hp':=hp
  obtain ⟨A,c,rfl,hlc,_⟩:=hp'
  have HP:=Lib.hid hp
  clear hp hb hc0
  go_enter Tryz.func45,Tryz.ntmps45
  go_wp2
  go_ret
  exact ⟨_,fs,rfl,HP.out,rfl,rfl⟩
abbrev vadd5_0:Oper:={ dst:=some 25,op:=Go.Op.move (Go.Operand.tmp 8),type:=71,pos:="vec.go:72",after:=#[],guard:=none }
abbrev vadd5_1:Oper:={ dst:=some 26,op:=Go.Op.indexAddr 71 (Go.Operand.tmp 25) (Go.Operand.const (Go.Value.int Go.IntKind.i64 0)),type:=0,pos:="vec.go:72",after:=#[{ on:=0,ground:=Go.Ground.data }],guard:=none }
abbrev vadd5_2:Oper:={ dst:=some 27,op:=Go.Op.fieldAddr 75 (Go.Operand.tmp 26) 0,type:=0,pos:="vec.go:72",after:=#[{ on:=1,ground:=Go.Ground.data }],guard:=none }
abbrev vadd5_3:Oper:={ dst:=some 28,op:=Go.Op.load 3 (Go.Operand.tmp 27),type:=3,pos:="vec.go:72",after:=#[{ on:=2,ground:=Go.Ground.data }],guard:=none }
abbrev vadd5_4:Oper:={ dst:=some 29,op:=Go.Op.move (Go.Operand.tmp 8),type:=71,pos:="vec.go:72",after:=#[],guard:=none }
abbrev vadd5_5:Oper:={ dst:=some 30,op:=Go.Op.indexAddr 71 (Go.Operand.tmp 29) (Go.Operand.const (Go.Value.int Go.IntKind.i64 0)),type:=0,pos:="vec.go:72",after:=#[{ on:=4,ground:=Go.Ground.data }],guard:=none }
abbrev vadd5_6:Oper:={ dst:=some 31,op:=Go.Op.fieldAddr 75 (Go.Operand.tmp 30) 1,type:=0,pos:="vec.go:72",after:=#[{ on:=5,ground:=Go.Ground.data }],guard:=none }
abbrev vadd5_7:Oper:={ dst:=some 32,op:=Go.Op.load 30 (Go.Operand.tmp 31),type:=30,pos:="vec.go:72",after:=#[{ on:=6,ground:=Go.Ground.data }],guard:=none }
abbrev vadd5_8:Oper:={ dst:=some 33,op:=Go.Op.move (Go.Operand.tmp 1),type:=30,pos:="vec.go:72",after:=#[],guard:=none }
abbrev vadd5_9:Oper:={ dst:=some 34,op:=Go.Op.move (Go.Operand.tmp 9),type:=71,pos:="vec.go:72",after:=#[],guard:=none }
abbrev vadd5_10:Oper:={ dst:=some 35,op:=Go.Op.indexAddr 71 (Go.Operand.tmp 34) (Go.Operand.const (Go.Value.int Go.IntKind.i64 0)),type:=0,pos:="vec.go:72",after:=#[{ on:=9,ground:=Go.Ground.data }],guard:=none }
abbrev vadd5_11:Oper:={ dst:=some 36,op:=Go.Op.fieldAddr 75 (Go.Operand.tmp 35) 1,type:=0,pos:="vec.go:72",after:=#[{ on:=10,ground:=Go.Ground.data }],guard:=none }
abbrev vadd5_12:Oper:={ dst:=some 37,op:=Go.Op.load 30 (Go.Operand.tmp 36),type:=30,pos:="vec.go:72",after:=#[{ on:=11,ground:=Go.Ground.data }],guard:=none }
abbrev vadd5_13:Oper:={ dst:=some 38,op:=Go.Op.call { callee:=Go.Callee.value (Go.Operand.func 46),args:=#[Go.Operand.tmp 33,Go.Operand.tmp 37],argTypes:=#[30,30] },type:=30,pos:="vec.go:72",after:=#[{ on:=8,ground:=Go.Ground.data },{ on:=12,ground:=Go.Ground.data }],guard:=none }
abbrev vadd5_14:Oper:={ dst:=some 39,op:=Go.Op.call { callee:=Go.Callee.value (Go.Operand.func 47),args:=#[Go.Operand.tmp 32,Go.Operand.tmp 38],argTypes:=#[30,30] },type:=30,pos:="vec.go:72",after:=#[{ on:=7,ground:=Go.Ground.data },{ on:=13,ground:=Go.Ground.data },{ on:=13,ground:=Go.Ground.chain }],guard:=none }
abbrev vadd5_15:Oper:={ dst:=some 40,op:=Go.Op.build 75 #[(0,Go.Operand.tmp 28),(1,Go.Operand.tmp 39)],type:=75,pos:="vec.go:72",after:=#[{ on:=3,ground:=Go.Ground.data },{ on:=14,ground:=Go.Ground.data }],guard:=none }
abbrev vadd5_16:Oper:={ dst:=some 41,op:=Go.Op.move (Go.Operand.tmp 8),type:=71,pos:="vec.go:72",after:=#[],guard:=none }
abbrev vadd5_17:Oper:={ dst:=some 42,op:=Go.Op.slice 71 (Go.Operand.tmp 41) (some (Go.Operand.const (Go.Value.int Go.IntKind.i64 1))) none none,type:=71,pos:="vec.go:72",after:=#[{ on:=16,ground:=Go.Ground.data }],guard:=none }
abbrev vadd5_18:Oper:={ dst:=some 43,op:=Go.Op.move (Go.Operand.tmp 9),type:=71,pos:="vec.go:72",after:=#[],guard:=none }
abbrev vadd5_19:Oper:={ dst:=some 44,op:=Go.Op.slice 71 (Go.Operand.tmp 43) (some (Go.Operand.const (Go.Value.int Go.IntKind.i64 1))) none none,type:=71,pos:="vec.go:72",after:=#[{ on:=18,ground:=Go.Ground.data }],guard:=none }
abbrev vadd5_20:Oper:={ dst:=none,op:=Go.Op.store 75 (Go.Operand.tmp 10) (Go.Operand.tmp 40),type:=0,pos:="vec.go:72",after:=#[{ on:=15,ground:=Go.Ground.data },{ on:=14,ground:=Go.Ground.chain },{ on:=0,ground:=Go.Ground.phase },{ on:=1,ground:=Go.Ground.phase },{ on:=2,ground:=Go.Ground.phase },{ on:=3,ground:=Go.Ground.phase },{ on:=4,ground:=Go.Ground.phase },{ on:=5,ground:=Go.Ground.phase },{ on:=6,ground:=Go.Ground.phase },{ on:=7,ground:=Go.Ground.phase },{ on:=8,ground:=Go.Ground.phase },{ on:=9,ground:=Go.Ground.phase },{ on:=10,ground:=Go.Ground.phase },{ on:=11,ground:=Go.Ground.phase },{ on:=12,ground:=Go.Ground.phase },{ on:=13,ground:=Go.Ground.phase },{ on:=14,ground:=Go.Ground.phase },{ on:=15,ground:=Go.Ground.phase },{ on:=16,ground:=Go.Ground.textOnly Go.Departure.lateStores },{ on:=17,ground:=Go.Ground.textOnly Go.Departure.lateStoresUnsure },{ on:=18,ground:=Go.Ground.textOnly Go.Departure.lateStores },{ on:=19,ground:=Go.Ground.textOnly Go.Departure.lateStoresUnsure }],guard:=none }
abbrev vadd5_21:Oper:={ dst:=some 8,op:=Go.Op.assign (Go.Operand.tmp 42),type:=71,pos:="vec.go:72",after:=#[{ on:=17,ground:=Go.Ground.data },{ on:=20,ground:=Go.Ground.chain },{ on:=0,ground:=Go.Ground.phase },{ on:=1,ground:=Go.Ground.phase },{ on:=2,ground:=Go.Ground.phase },{ on:=3,ground:=Go.Ground.phase },{ on:=4,ground:=Go.Ground.phase },{ on:=5,ground:=Go.Ground.phase },{ on:=6,ground:=Go.Ground.phase },{ on:=7,ground:=Go.Ground.phase },{ on:=8,ground:=Go.Ground.phase },{ on:=9,ground:=Go.Ground.phase },{ on:=10,ground:=Go.Ground.phase },{ on:=11,ground:=Go.Ground.phase },{ on:=12,ground:=Go.Ground.phase },{ on:=13,ground:=Go.Ground.phase },{ on:=14,ground:=Go.Ground.phase },{ on:=15,ground:=Go.Ground.phase },{ on:=16,ground:=Go.Ground.phase },{ on:=17,ground:=Go.Ground.phase },{ on:=18,ground:=Go.Ground.textOnly Go.Departure.lateStores },{ on:=19,ground:=Go.Ground.textOnly Go.Departure.lateStoresUnsure },{ on:=20,ground:=Go.Ground.phase }],guard:=none }
abbrev vadd5_22:Oper:={ dst:=some 9,op:=Go.Op.assign (Go.Operand.tmp 44),type:=71,pos:="vec.go:72",after:=#[{ on:=19,ground:=Go.Ground.data },{ on:=21,ground:=Go.Ground.chain },{ on:=0,ground:=Go.Ground.phase },{ on:=1,ground:=Go.Ground.phase },{ on:=2,ground:=Go.Ground.phase },{ on:=3,ground:=Go.Ground.phase },{ on:=4,ground:=Go.Ground.phase },{ on:=5,ground:=Go.Ground.phase },{ on:=6,ground:=Go.Ground.phase },{ on:=7,ground:=Go.Ground.phase },{ on:=8,ground:=Go.Ground.phase },{ on:=9,ground:=Go.Ground.phase },{ on:=10,ground:=Go.Ground.phase },{ on:=11,ground:=Go.Ground.phase },{ on:=12,ground:=Go.Ground.phase },{ on:=13,ground:=Go.Ground.phase },{ on:=14,ground:=Go.Ground.phase },{ on:=15,ground:=Go.Ground.phase },{ on:=16,ground:=Go.Ground.phase },{ on:=17,ground:=Go.Ground.phase },{ on:=18,ground:=Go.Ground.phase },{ on:=19,ground:=Go.Ground.phase },{ on:=20,ground:=Go.Ground.phase },{ on:=21,ground:=Go.Ground.phase }],guard:=none }
abbrev vadd7_0:Oper:={ dst:=some 65,op:=Go.Op.move (Go.Operand.tmp 8),type:=71,pos:="vec.go:68",after:=#[],guard:=none }
abbrev vadd7_1:Oper:={ dst:=some 66,op:=Go.Op.indexAddr 71 (Go.Operand.tmp 65) (Go.Operand.const (Go.Value.int Go.IntKind.i64 0)),type:=0,pos:="vec.go:68",after:=#[{ on:=0,ground:=Go.Ground.data }],guard:=none }
abbrev vadd7_2:Oper:={ dst:=some 67,op:=Go.Op.load 75 (Go.Operand.tmp 66),type:=75,pos:="vec.go:68",after:=#[{ on:=1,ground:=Go.Ground.data }],guard:=none }
abbrev vadd7_3:Oper:={ dst:=some 68,op:=Go.Op.move (Go.Operand.tmp 8),type:=71,pos:="vec.go:68",after:=#[],guard:=none }
abbrev vadd7_4:Oper:={ dst:=some 69,op:=Go.Op.slice 71 (Go.Operand.tmp 68) (some (Go.Operand.const (Go.Value.int Go.IntKind.i64 1))) none none,type:=71,pos:="vec.go:68",after:=#[{ on:=3,ground:=Go.Ground.data }],guard:=none }
abbrev vadd7_5:Oper:={ dst:=none,op:=Go.Op.store 75 (Go.Operand.tmp 10) (Go.Operand.tmp 67),type:=0,pos:="vec.go:68",after:=#[{ on:=2,ground:=Go.Ground.data },{ on:=0,ground:=Go.Ground.phase },{ on:=1,ground:=Go.Ground.phase },{ on:=2,ground:=Go.Ground.phase },{ on:=3,ground:=Go.Ground.textOnly Go.Departure.lateStores },{ on:=4,ground:=Go.Ground.textOnly Go.Departure.lateStoresUnsure }],guard:=none }
abbrev vadd7_6:Oper:={ dst:=some 8,op:=Go.Op.assign (Go.Operand.tmp 69),type:=71,pos:="vec.go:68",after:=#[{ on:=4,ground:=Go.Ground.data },{ on:=5,ground:=Go.Ground.chain },{ on:=0,ground:=Go.Ground.phase },{ on:=1,ground:=Go.Ground.phase },{ on:=2,ground:=Go.Ground.phase },{ on:=3,ground:=Go.Ground.phase },{ on:=4,ground:=Go.Ground.phase },{ on:=5,ground:=Go.Ground.phase }],guard:=none }
abbrev vadd9_0:Oper:={ dst:=some 85,op:=Go.Op.move (Go.Operand.tmp 9),type:=71,pos:="vec.go:70",after:=#[],guard:=none }
abbrev vadd9_1:Oper:={ dst:=some 86,op:=Go.Op.indexAddr 71 (Go.Operand.tmp 85) (Go.Operand.const (Go.Value.int Go.IntKind.i64 0)),type:=0,pos:="vec.go:70",after:=#[{ on:=0,ground:=Go.Ground.data }],guard:=none }
abbrev vadd9_2:Oper:={ dst:=some 87,op:=Go.Op.fieldAddr 75 (Go.Operand.tmp 86) 0,type:=0,pos:="vec.go:70",after:=#[{ on:=1,ground:=Go.Ground.data }],guard:=none }
abbrev vadd9_3:Oper:={ dst:=some 88,op:=Go.Op.load 3 (Go.Operand.tmp 87),type:=3,pos:="vec.go:70",after:=#[{ on:=2,ground:=Go.Ground.data }],guard:=none }
abbrev vadd9_4:Oper:={ dst:=some 89,op:=Go.Op.move (Go.Operand.tmp 1),type:=30,pos:="vec.go:70",after:=#[],guard:=none }
abbrev vadd9_5:Oper:={ dst:=some 90,op:=Go.Op.move (Go.Operand.tmp 9),type:=71,pos:="vec.go:70",after:=#[],guard:=none }
abbrev vadd9_6:Oper:={ dst:=some 91,op:=Go.Op.indexAddr 71 (Go.Operand.tmp 90) (Go.Operand.const (Go.Value.int Go.IntKind.i64 0)),type:=0,pos:="vec.go:70",after:=#[{ on:=5,ground:=Go.Ground.data }],guard:=none }
abbrev vadd9_7:Oper:={ dst:=some 92,op:=Go.Op.fieldAddr 75 (Go.Operand.tmp 91) 1,type:=0,pos:="vec.go:70",after:=#[{ on:=6,ground:=Go.Ground.data }],guard:=none }
abbrev vadd9_8:Oper:={ dst:=some 93,op:=Go.Op.load 30 (Go.Operand.tmp 92),type:=30,pos:="vec.go:70",after:=#[{ on:=7,ground:=Go.Ground.data }],guard:=none }
abbrev vadd9_9:Oper:={ dst:=some 94,op:=Go.Op.call { callee:=Go.Callee.value (Go.Operand.func 46),args:=#[Go.Operand.tmp 89,Go.Operand.tmp 93],argTypes:=#[30,30] },type:=30,pos:="vec.go:70",after:=#[{ on:=4,ground:=Go.Ground.data },{ on:=8,ground:=Go.Ground.data }],guard:=none }
abbrev vadd9_10:Oper:={ dst:=some 95,op:=Go.Op.build 75 #[(0,Go.Operand.tmp 88),(1,Go.Operand.tmp 94)],type:=75,pos:="vec.go:70",after:=#[{ on:=3,ground:=Go.Ground.data },{ on:=9,ground:=Go.Ground.data }],guard:=none }
abbrev vadd9_11:Oper:={ dst:=some 96,op:=Go.Op.move (Go.Operand.tmp 9),type:=71,pos:="vec.go:70",after:=#[],guard:=none }
abbrev vadd9_12:Oper:={ dst:=some 97,op:=Go.Op.slice 71 (Go.Operand.tmp 96) (some (Go.Operand.const (Go.Value.int Go.IntKind.i64 1))) none none,type:=71,pos:="vec.go:70",after:=#[{ on:=11,ground:=Go.Ground.data }],guard:=none }
abbrev vadd9_13:Oper:={ dst:=none,op:=Go.Op.store 75 (Go.Operand.tmp 10) (Go.Operand.tmp 95),type:=0,pos:="vec.go:70",after:=#[{ on:=10,ground:=Go.Ground.data },{ on:=9,ground:=Go.Ground.chain },{ on:=0,ground:=Go.Ground.phase },{ on:=1,ground:=Go.Ground.phase },{ on:=2,ground:=Go.Ground.phase },{ on:=3,ground:=Go.Ground.phase },{ on:=4,ground:=Go.Ground.phase },{ on:=5,ground:=Go.Ground.phase },{ on:=6,ground:=Go.Ground.phase },{ on:=7,ground:=Go.Ground.phase },{ on:=8,ground:=Go.Ground.phase },{ on:=9,ground:=Go.Ground.phase },{ on:=10,ground:=Go.Ground.phase },{ on:=11,ground:=Go.Ground.textOnly Go.Departure.lateStores },{ on:=12,ground:=Go.Ground.textOnly Go.Departure.lateStoresUnsure }],guard:=none }
abbrev vadd9_14:Oper:={ dst:=some 9,op:=Go.Op.assign (Go.Operand.tmp 97),type:=71,pos:="vec.go:70",after:=#[{ on:=12,ground:=Go.Ground.data },{ on:=13,ground:=Go.Ground.chain },{ on:=0,ground:=Go.Ground.phase },{ on:=1,ground:=Go.Ground.phase },{ on:=2,ground:=Go.Ground.phase },{ on:=3,ground:=Go.Ground.phase },{ on:=4,ground:=Go.Ground.phase },{ on:=5,ground:=Go.Ground.phase },{ on:=6,ground:=Go.Ground.phase },{ on:=7,ground:=Go.Ground.phase },{ on:=8,ground:=Go.Ground.phase },{ on:=9,ground:=Go.Ground.phase },{ on:=10,ground:=Go.Ground.phase },{ on:=11,ground:=Go.Ground.phase },{ on:=12,ground:=Go.Ground.phase },{ on:=13,ground:=Go.Ground.phase }],guard:=none }
abbrev vadd11_0:Oper:={ dst:=some 102,op:=Go.Op.move (Go.Operand.tmp 7),type:=27,pos:="vec.go:75",after:=#[],guard:=none }
abbrev vadd11_1:Oper:={ dst:=some 103,op:=Go.Op.move (Go.Operand.tmp 7),type:=27,pos:="vec.go:75",after:=#[],guard:=none }
abbrev vadd11_2:Oper:={ dst:=some 104,op:=Go.Op.nilCheck (Go.Operand.tmp 103),type:=0,pos:="vec.go:75",after:=#[{ on:=1,ground:=Go.Ground.data }],guard:=none }
abbrev vadd11_3:Oper:={ dst:=some 105,op:=Go.Op.fieldAddr 73 (Go.Operand.tmp 104) 0,type:=0,pos:="vec.go:75",after:=#[{ on:=2,ground:=Go.Ground.data }],guard:=none }
abbrev vadd11_4:Oper:={ dst:=some 106,op:=Go.Op.load 71 (Go.Operand.tmp 105),type:=71,pos:="vec.go:75",after:=#[{ on:=3,ground:=Go.Ground.data }],guard:=none }
abbrev vadd11_5:Oper:={ dst:=some 107,op:=Go.Op.load 75 (Go.Operand.tmp 10),type:=75,pos:="vec.go:75",after:=#[],guard:=none }
abbrev vadd11_6:Oper:={ dst:=some 108,op:=Go.Op.buildSlice 71 1 #[(0,Go.Operand.tmp 107)],type:=71,pos:="vec.go:75",after:=#[{ on:=5,ground:=Go.Ground.data }],guard:=none }
abbrev vadd11_7:Oper:={ dst:=some 109,op:=Go.Op.call { callee:=Go.Callee.builtin Go.Builtin.append,args:=#[Go.Operand.tmp 106,Go.Operand.tmp 108],argTypes:=#[71,71] },type:=71,pos:="vec.go:75",after:=#[{ on:=4,ground:=Go.Ground.data },{ on:=6,ground:=Go.Ground.data }],guard:=none }
abbrev vadd11_8:Oper:={ dst:=some 110,op:=Go.Op.nilCheck (Go.Operand.tmp 102),type:=0,pos:="vec.go:75",after:=#[{ on:=0,ground:=Go.Ground.data },{ on:=0,ground:=Go.Ground.phase },{ on:=1,ground:=Go.Ground.phase },{ on:=2,ground:=Go.Ground.phase },{ on:=3,ground:=Go.Ground.phase },{ on:=4,ground:=Go.Ground.phase },{ on:=5,ground:=Go.Ground.phase },{ on:=6,ground:=Go.Ground.phase },{ on:=7,ground:=Go.Ground.phase }],guard:=none }
abbrev vadd11_9:Oper:={ dst:=some 111,op:=Go.Op.fieldAddr 73 (Go.Operand.tmp 110) 0,type:=0,pos:="vec.go:75",after:=#[{ on:=8,ground:=Go.Ground.data },{ on:=0,ground:=Go.Ground.phase },{ on:=1,ground:=Go.Ground.phase },{ on:=2,ground:=Go.Ground.phase },{ on:=3,ground:=Go.Ground.phase },{ on:=4,ground:=Go.Ground.phase },{ on:=5,ground:=Go.Ground.phase },{ on:=6,ground:=Go.Ground.phase },{ on:=7,ground:=Go.Ground.phase }],guard:=none }
abbrev vadd11_10:Oper:={ dst:=none,op:=Go.Op.store 71 (Go.Operand.tmp 111) (Go.Operand.tmp 109),type:=0,pos:="vec.go:75",after:=#[{ on:=9,ground:=Go.Ground.data },{ on:=7,ground:=Go.Ground.data },{ on:=7,ground:=Go.Ground.chain },{ on:=0,ground:=Go.Ground.phase },{ on:=1,ground:=Go.Ground.phase },{ on:=2,ground:=Go.Ground.phase },{ on:=3,ground:=Go.Ground.phase },{ on:=4,ground:=Go.Ground.phase },{ on:=5,ground:=Go.Ground.phase },{ on:=6,ground:=Go.Ground.phase },{ on:=7,ground:=Go.Ground.phase }],guard:=none }
set_option maxRecDepth 100000 in
set_option maxHeartbeats 16000000 in
theorem vec_Add (w:World) (v u:Value) (ps qs:List (Int × Rat)) (kv:Value) (k:Rat) (h:VecAt w v ps) (h2:VecAt w u qs) (hk:FracAt w kv k) (hl:ps.length≤1000) (hl2:qs.length≤1000) (hf:∀ p∈ps,Fits 300000 p.2) (hf2:∀ p∈qs,Fits 300000 p.2) (hkf:Fits 300000 k) :
 Calls Tryz.prog 11 #[v,kv,u] w (AddGot k ps qs w):=by
 have CP:Hid (∀ wr,Below w.heap.size w wr→Calls Tryz.prog 45 #[v] wr (PartsGot2 ps w wr)):=Lib.hid fun wr hb=>vec_parts_old w wr hb v ps h
 have CQ:Hid (∀ wr,Below w.heap.size w wr→Calls Tryz.prog 45 #[u] wr (PartsGot2 qs w wr)):=Lib.hid fun wr hb=>vec_parts_old w wr hb u qs h2
 unfold PartsGot2 at CP CQ
 obtain ⟨bu,hbu⟩:∃ bu,u=.pointer bu:=by
  rcases h2 with ⟨rfl,_⟩|⟨b,_,_,rfl,_⟩
  ·exact ⟨none,rfl⟩
  ·exact ⟨_,rfl⟩
 subst hbu
 obtain ⟨bk,hbk⟩:∃ bk,kv=.pointer bk:=by
  exact frac_ptr hk
 subst hbk
 have HK:=Lib.hid hk
 have HFT:=Lib.hid hf;have HFT2:=Lib.hid hf2;have HKF:=Lib.hid hkf
 have HL:=Lib.hid hl;have HL2:=Lib.hid hl2
 clear h h2 hl hl2 hf hf2 hkf hk
 obtain ⟨w0,hw0⟩:∃ w0,w0=w.alloc (.cells #[.slice none 0 0] 73):=⟨_,rfl⟩
 have hb0:Below w.heap.size w w0:=by rw[hw0];exact (Below.refl _ _).alloc (Nat.le_refl _) _
 have hr0:Row w0 w.heap.size 73 #[.slice none 0 0]:=by rw[hw0];exact Row.new _ _ _
 have hs0:w0.heap.size=w.heap.size+1:=by rw[hw0];simp
 have HW0:=Lib.hid hw0
 have HR0:=Lib.hid hr0
 clear hw0 hr0
 go_enter Tryz.func11,Tryz.ntmps11
 go_wp2_with fail
 rw[← HW0.out]
 refine (CP.out _ hb0).mono ?_
 rintro e w' ⟨sa,fa,rfl,hpa,hps,rfl⟩
 obtain ⟨A1,n1,c1,hsa⟩:∃ A n c,sa=.slice A n c:=by obtain ⟨A,c,h,_⟩:=hpa;exact ⟨_,_,_,h⟩
 subst hsa
 have HPA:=Lib.hid hpa
 have HPS:=Lib.hid hps
 clear hpa hps CP
 go_wp2_with fail
 refine (CQ.out _ hb0).mono ?_
 rintro e w' ⟨sb,fb,rfl,hpb,hqs,rfl⟩
 obtain ⟨A2,n2,c2,hsb⟩:∃ A n c,sb=.slice A n c:=by obtain ⟨A,c,h,_⟩:=hpb;exact ⟨_,_,_,h⟩
 subst hsb
 have HPB:=Lib.hid hpb
 have HQS:=Lib.hid hqs
 clear hpb hqs CQ
 have HBK0:=Lib.hid hb0
 go_wp2_with fail
 go_loopw [8,9] (fun sa sb wr=>∃ (fa fb fs:List VPart) (sv:Value),Hid (PartsIn w sa fa)∧Hid (PartsIn w sb fb)∧Hid (NewMid (w.heap.size+1) 73 75 wr w.heap.size sv fs)∧Hid (unpart fs ++ mergeV k (unpart fa) (unpart fb)=mergeV k ps qs)∧Hid (∀ x∈fa,Fits 300000 x.2.2)∧Hid (∀ x∈fb,Fits 300000 x.2.2)∧fa.length+fb.length+fs.length≤2000∧Below w.heap.size w wr) (fun sa sb _=>sliceLen sa+sliceLen sb)
 case atStart=>
  have h1:fa.length≤1000:=by have:=HL.out;rw[HPS.out]at this;simpa [unpart]using this
  have h2:fb.length≤1000:=by have:=HL2.out;rw[HQS.out]at this;simpa [unpart]using this
  refine ⟨fa,fb,[],.slice none 0 0,HPA,HPB,Lib.hid ⟨HR0.out,OwnK.nil_ _ _ _ _ _,fun x hx=>by simp at hx⟩,Lib.hid (by rw[HPS.out,HQS.out];rfl),Lib.hid fun x hx=>?_,Lib.hid fun x hx=>?_,by simp;omega,HBK0.out⟩
  ·exact HFT.out (x.1,x.2.2) (by rw[HPS.out];exact List.mem_map.2 ⟨x,hx,rfl⟩)
  ·exact HFT2.out (x.1,x.2.2) (by rw[HQS.out];exact List.mem_map.2 ⟨x,hx,rfl⟩)
 case round=>
  clear HPA HPB HL HL2 HFT HFT2 HPS HQS
  obtain ⟨fa,fb,fs,sv,hpa,hpb,hmid,hmrg,hfa,hfb,hlen,hbr⟩:=hrel
  rcases fa with _|⟨x,fa⟩
  ·rcases fb with _|⟨y,fb⟩
   ·obtain ⟨A,c,rfl⟩:=hpa.out.nil
    obtain ⟨A2,c2,rfl⟩:=hpb.out.nil
    have hm:Hid (unpart fs=mergeV k ps qs):=Lib.hid (by rw[← hmrg.out];simp[unpart,mergeV])
    clear hmrg hfa hfb hpa hpb hlen
    go_wp2_with fail
    go_ret
    have hmd:=hmid.out
    refine ⟨_,rfl,⟨_,sv,fs,rfl,hmd.vec.cell 0,own_parts hmd.own (fun x hx=>(hmd.frac x hx).1),hm.out.symm⟩,?_,hbr⟩
    rw[← hm.out]
    intro p hp
    obtain ⟨x,hx,rfl⟩:=List.mem_map.1 hp
    exact (hmd.frac x hx).2.2
   ·-- the first is done
    obtain ⟨A1,ca,rfl⟩:=hpa.out.nil
    obtain ⟨gb,ob,cb,ab2,rfl,hcb,hb1,hb2,hbf,hab2,hpb2⟩:=hpb.out.head
    have HA2:=hfa
    have hyf:=hfb.out y List.mem_cons_self
    have HB2:Hid (∀ y∈fb,Fits 300000 y.2.2):=Lib.hid fun z hz=>hfb.out z (List.mem_cons_of_mem _ hz)
    obtain ⟨ya,yp,yq⟩:=y
    simp only at hb1 hb2 hbf hyf
    have hb1':=cell_keep hb1 hbr
    have hb2':=cell_keep hb2 hbr
    have hbf':=hbf.keep hbr
    have KB:Hid (∀ W,Below wr.heap.size wr W→W.cell? ⟨gb,ob,none⟩=some (.int .i64 ya)∧W.cell? ⟨gb,ob+1,none⟩=some (.pointer yp)):=Lib.hid fun W h=>⟨cell_keep hb1' h,cell_keep hb2' h⟩
    have HPB2:=Lib.hid hpb2
    have hlb:(0:Int)<(fb.length:Int)+1:=by omega
    have hlb3:(1:Int)≤(fb.length:Int)+1:=by omega
    have hlb2:(((fb.length:Int)+1) == 0)=false:=by rw[beq_eq_false_iff_ne];omega
    have KM:Hid (∀ W,Below wr.heap.size wr W→Calls Tryz.prog 46 #[.pointer bk,.pointer yp] W (Gives (fun x w'=>FracPtr w' x (k*yq)) W)):=Lib.hid fun W h=>frac_Mul W _ _ k yq (HK.out.keep (below_seq hbr h)) (hbf'.keep h).at_ (HKF.out.mono (by omega)) (hyf.mono (by omega))
    have hmf:Fits 600000 (k*yq):=fits_mul HKF.out hyf
    clear hb1 hb2 hbf hpb2 hbf'
    have HMR:=hmrg
    go_upto_block 2 with fail
    go_cut [8,9] (fun sa sb wc=>∃ (pa:Int) (pp:Option Addr) (pq:Rat) (fa2 fb2:List VPart),Hid (PartsIn w sa fa2)∧Hid (PartsIn w sb fb2)∧Hid (Row wc wr.heap.size 75 #[.int .i64 pa,.pointer pp])∧Hid (FracPtr wc (.pointer pp) pq)∧Hid (Fits 1000000 pq)∧Hid (unpart fs ++ putV (pa,pq) (mergeV k (unpart fa2) (unpart fb2))=mergeV k ps qs)∧Hid (∀ x∈fa2,Fits 300000 x.2.2)∧Hid (∀ x∈fb2,Fits 300000 x.2.2)∧fa2.length+fb2.length+fs.length+1≤2000∧sliceLen sa+sliceLen sb<(fb.length+1)∧Below wr.heap.size wr wc)
    case rest=>
     obtain ⟨pa,pp,pq,fa2,fb2,hpa2,hpb2,hrow,hfq,hfit,hmg,hfa2,hfb2,hlen2,hms,hbc⟩:=hcut
     obtain ⟨A3,n3,c3,e3⟩:=hpa2.out.shape
     obtain ⟨A4,n4,c4,e4⟩:=hpb2.out.shape
     subst e3
     subst e4
     have p0:wc.cell? ⟨wr.heap.size,1,none⟩=some (.pointer pp):=hrow.out.cell 1
     have CS:=Lib.hid (frac_Sign wc (.pointer pp) pq hfq.out.at_ (hfit.out.mono (by omega)))
     obtain ⟨s,hs⟩:∃ s,s=signI pq:=⟨_,rfl⟩
     rw[← hs]at CS
     have HSG:=Lib.hid hs
     have HM:=Lib.hid (hmid.out.keep hbc)
     have BC:=hbr.trans (hbc.mono hbr.size)
     clear hs
     go_wp2_with fail
     refine CS.out.mono ?_
     rintro e w4 ⟨rfl,hb4⟩
     have B4:=below_seq BC hb4
     have HM4:=Lib.hid (HM.out.keep hb4)
     by_cases hs0:s=0
     ·subst hs0
      have hz:Hid (pq=0):=Lib.hid (signI_zero.1 HSG.out.symm)
      clear CS p0 hb4
      go_wp2_with fail
      go_roundw
      case rel=>
       refine ⟨fa2,fb2,fs,sv,hpa2,hpb2,HM4,Lib.hid ?_,hfa2,hfb2,by omega,B4⟩
       rw[← hmg.out]
       simp[putV,hz.out]
      case measure=>exact Nat.lt_of_lt_of_le hms (by simp only[sliceLen];omega)
     ·have HQ0:Hid (pq≠0):=Lib.hid fun e=>hs0 (by rw[HSG.out];exact signI_zero.2 e)
      have hsb:(s != 0)=true:=by rw[bne_iff_ne];exact hs0
      have HF4:=Lib.hid (hfq.out.keep hb4)
      have hrow4:=hrow.out.keep hb4
      have KP:Hid (∀ W,Below w4.heap.size w4 W→W.cell? ⟨wr.heap.size,0,none⟩=some (.int .i64 pa)∧W.cell? ⟨wr.heap.size,1,none⟩=some (.pointer pp)):=Lib.hid fun W h=>⟨(hrow4.keep h).cell 0,(hrow4.keep h).cell 1⟩
      have KV:Hid (∀ W,Below w4.heap.size w4 W→W.cell? ⟨w.heap.size,0,none⟩=some sv):=Lib.hid fun W h=>(HM4.out.vec.keep h).cell 0
      have HNB:Hid (∀ j,sv.ownBlock=some j→w.heap.size+1≤j):=Lib.hid fun j hj=>(HM4.out.own.lt hj).1
      obtain ⟨i1,hi1,hz1,hsz1,hby1⟩:=info_part
      have hfsl:fs.length≤2000:=by omega
      clear CS p0 hb4 hrow4
      go_upto_region 11 with fail
      refine wp_region_any (by kernel_rfl) ?_
      change wpAny _ _ _ _ _ _ _ (World.drew _)
      obtain ⟨W0,hW0⟩:∃ X,X=(w4).drew:=⟨_,rfl⟩
      rw[← hW0]
      have z0:Below (w4).heap.size (w4) W0:=by rw[hW0];exact Below.drewN_ (Below.refl _ _) 1
      clear hW0
      refine wpAny_take (i:=0) (oi:=vadd11_0) (v:=.pointer (some ⟨w.heap.size,0,none⟩)) rfl (by kernel_rfl) (by kernel_rfl) (by kernel_rfl) (fun _ _ _ h=>h) (Or.inl ⟨by kernel_rfl,?_⟩) ?_
      ·intro w;go_simp<;>first|omega|(intro hh;exfalso;omega)|rfl
      try simp only[Act.put,List.setIfInBounds_toArray,List.set_cons_zero,List.set_cons_succ,vadd11_0]
      refine wpAny_take (i:=1) (oi:=vadd11_1) (v:=.pointer (some ⟨w.heap.size,0,none⟩)) rfl (by kernel_rfl) (by kernel_rfl) (by kernel_rfl) (fun _ _ _ h=>h) (Or.inl ⟨by kernel_rfl,?_⟩) ?_
      ·intro w;go_simp<;>first|omega|(intro hh;exfalso;omega)|rfl
      try simp only[Act.put,List.setIfInBounds_toArray,List.set_cons_zero,List.set_cons_succ,vadd11_1]
      refine wpAny_take (i:=2) (oi:=vadd11_2) (v:=.pointer (some ⟨w.heap.size,0,none⟩)) rfl (by kernel_rfl) (by kernel_rfl) (by kernel_rfl) (fun _ _ _ h=>h) (Or.inl ⟨by kernel_rfl,?_⟩) ?_
      ·intro w;go_simp<;>first|omega|(intro hh;exfalso;omega)|rfl
      try simp only[Act.put,List.setIfInBounds_toArray,List.set_cons_zero,List.set_cons_succ,vadd11_2]
      refine wpAny_take (i:=3) (oi:=vadd11_3) (v:=.pointer (some ⟨w.heap.size,0,none⟩)) rfl (by kernel_rfl) (by kernel_rfl) (by kernel_rfl) (fun _ _ _ h=>h) (Or.inl ⟨by kernel_rfl,?_⟩) ?_
      ·intro w;go_simp<;>first|omega|(intro hh;exfalso;omega)|rfl
      try simp only[Act.put,List.setIfInBounds_toArray,List.set_cons_zero,List.set_cons_succ,vadd11_3]
      refine wpAny_ready (rs:=[4,5]) (by kernel_rfl) (by simp) ?_
      apply AllReady.cons (o:=vadd11_4) (by kernel_rfl)
      case h=>
       intro K hK
       simp only[vadd11_4]
       have k0_1:=(KV.out _ z0)
       go_simp
       clear k0_1
       refine hK _ _ ?_
       clear hK K
       try simp only[Act.put,List.setIfInBounds_toArray,List.set_cons_zero,List.set_cons_succ]
       refine wpAny_ready (rs:=[5]) (by kernel_rfl) (by simp) ?_
       apply AllReady.cons (o:=vadd11_5) (by kernel_rfl)
       case hs=>exact AllReady.nil
       intro K hK
       simp only[vadd11_5]
       obtain ⟨k0_2,k1_2⟩:=KP.out _ z0
       go_simp
       clear k0_2 k1_2
       refine hK _ _ ?_
       clear hK K
       try simp only[Act.put,List.setIfInBounds_toArray,List.set_cons_zero,List.set_cons_succ]
       refine wpAny_ready (rs:=[6]) (by kernel_rfl) (by simp) ?_
       apply AllReady.cons (o:=vadd11_6) (by kernel_rfl)
       case hs=>exact AllReady.nil
       intro K hK
       simp only[vadd11_6]
       go_simp
       obtain ⟨W3,hW3⟩:∃ X,X=W0.alloc (.cells #[.int .i64 pa,.pointer pp] 75):=⟨_,rfl⟩
       rw[← hW3]
       have y3:Below W0.heap.size W0 W3:=by rw[hW3];exact (Below.refl _ _).alloc (Nat.le_refl _) _
       have z3:=below_seq z0 y3
       have r3:Row W3 W0.heap.size 75 #[.int .i64 pa,.pointer pp]:=by rw[hW3];exact Row.new _ _ _
       have n3:∀ (j:Nat) u,(encPart (pa,pp,pq))[j]?=some u→W3.cell? ((⟨W0.heap.size,0,none⟩:Addr).add j)=some u:=fun j u hj=>by
        match j,hj with
        | 0,hj=>exact (r3.cell 0).trans (by simpa [encPart]using hj)
        | 1,hj=>exact (r3.cell 1).trans (by simpa [encPart]using hj)
        | j+2,hj=>simp[encPart]at hj
       have NN3:=Lib.hid n3
       clear hW3 r3 n3 y3
       refine hK _ _ ?_
       clear hK K
       try simp only[Act.put,List.setIfInBounds_toArray,List.set_cons_zero,List.set_cons_succ]
       refine wpAny_ready (rs:=[7]) (by kernel_rfl) (by simp) ?_
       apply AllReady.cons (o:=vadd11_7) (by kernel_rfl)
       case hs=>exact AllReady.nil
       intro K hK
       refine step_append_ownK (Kd:=partKind) rfl (.tmp 106) (.tmp 108) 71 rfl (w.heap.size+1) 75 i1 _ 2 Tryz.underlying71 hi1 hz1 hsz1 rfl (by omega) sv fs.length (fs.flatMap encPart) rfl (HM4.out.own.keep z3) ⟨W0.heap.size,0,none⟩ 1 1 (encPart (pa,pp,pq)) rfl rfl NN3.out (by simp[Value.oneCell',encPart]) (by simp[partKind,encPart]) (by simp[partKind,Value.cells]) (by omega) (by unfold maxLen;omega) (by rw[hby1];omega) (Nat.le_trans HM4.out.vec.lt z3.size) ?_
       intro v6 w6 hown6 hgr6 hloc6
       obtain ⟨g6,cap6,rfl⟩:=hown6.shape (Nat.succ_pos _)
       refine hK _ _ ?_
       clear hK K
       try simp only[Act.put,List.setIfInBounds_toArray,List.set_cons_zero,List.set_cons_succ]
       refine wpAny_take (i:=8) (oi:=vadd11_8) (v:=.pointer (some ⟨w.heap.size,0,none⟩)) rfl (by kernel_rfl) (by kernel_rfl) (by kernel_rfl) (fun _ _ _ h=>h) (Or.inl ⟨by kernel_rfl,?_⟩) ?_
       ·intro w;go_simp<;>first|omega|(intro hh;exfalso;omega)|rfl
       try simp only[Act.put,List.setIfInBounds_toArray,List.set_cons_zero,List.set_cons_succ,vadd11_8]
       refine wpAny_take (i:=9) (oi:=vadd11_9) (v:=.pointer (some ⟨w.heap.size,0,none⟩)) rfl (by kernel_rfl) (by kernel_rfl) (by kernel_rfl) (fun _ _ _ h=>h) (Or.inl ⟨by kernel_rfl,?_⟩) ?_
       ·intro w;go_simp<;>first|omega|(intro hh;exfalso;omega)|rfl
       try simp only[Act.put,List.setIfInBounds_toArray,List.set_cons_zero,List.set_cons_succ,vadd11_9]
       refine wpAny_ready (rs:=[10]) (by kernel_rfl) (by simp) ?_
       apply AllReady.cons (o:=vadd11_10) (by kernel_rfl)
       case hs=>exact AllReady.nil
       intro K hK
       simp only[vadd11_10]
       have hr6:Row w6 w.heap.size 73 #[sv]:=by
        have hr:=HM4.out.vec.keep z3
        exact (hgr6.block _ hr.lt (fun e=>by have:=HNB.out _ e.symm;omega)).trans hr
       have hc6:w6.cell? ⟨w.heap.size,0,none⟩=some sv:=hr6.cell 0
       have hf6:=hr6.free 0
       have GR6:=Lib.hid hgr6
       have OW6:=Lib.hid hown6
       have LC6:=Lib.hid hloc6
       clear hgr6 hown6 hloc6 hr6
       go_simp
       clear hc6 hf6
       refine hK _ _ ?_
       clear hK K
       try simp only[Act.put,List.setIfInBounds_toArray,List.set_cons_zero,List.set_cons_succ]
       refine wpAny_done (by kernel_rfl) ?_ _
       go_wp2_with fail
       go_roundw
       case rel=>
        obtain ⟨hmid6,hb6⟩:=NewMid.append2 (x:=(pa,pp,pq)) HM4.out (Nat.lt_succ_self _) z3 GR6.out OW6.out LC6.out ⟨HF4.out,HQ0.out,hfit.out⟩
        refine ⟨fa2,fb2,fs ++ [(pa,pp,pq)],_,hpa2,hpb2,Lib.hid hmid6,Lib.hid ?_,hfa2,hfb2,by simp;omega,B4.trans (hb6 w.heap.size (Nat.le_refl _))⟩
        rw[← hmg.out]
        simp[unpart,putV,HQ0.out]
       case measure=>exact Nat.lt_of_lt_of_le hms (by simp only[sliceLen];omega)
      apply AllReady.cons (o:=vadd11_5) (by kernel_rfl)
      case h=>
       intro K hK
       simp only[vadd11_5]
       obtain ⟨k0_5,k1_5⟩:=KP.out _ z0
       go_simp
       clear k0_5 k1_5
       refine hK _ _ ?_
       clear hK K
       try simp only[Act.put,List.setIfInBounds_toArray,List.set_cons_zero,List.set_cons_succ]
       refine wpAny_ready (rs:=[4,6]) (by kernel_rfl) (by simp) ?_
       apply AllReady.cons (o:=vadd11_4) (by kernel_rfl)
       case h=>
        intro K hK
        simp only[vadd11_4]
        have k0_6:=(KV.out _ z0)
        go_simp
        clear k0_6
        refine hK _ _ ?_
        clear hK K
        try simp only[Act.put,List.setIfInBounds_toArray,List.set_cons_zero,List.set_cons_succ]
        refine wpAny_ready (rs:=[6]) (by kernel_rfl) (by simp) ?_
        apply AllReady.cons (o:=vadd11_6) (by kernel_rfl)
        case hs=>exact AllReady.nil
        intro K hK
        simp only[vadd11_6]
        go_simp
        obtain ⟨W7,hW7⟩:∃ X,X=W0.alloc (.cells #[.int .i64 pa,.pointer pp] 75):=⟨_,rfl⟩
        rw[← hW7]
        have y7:Below W0.heap.size W0 W7:=by rw[hW7];exact (Below.refl _ _).alloc (Nat.le_refl _) _
        have z7:=below_seq z0 y7
        have r7:Row W7 W0.heap.size 75 #[.int .i64 pa,.pointer pp]:=by rw[hW7];exact Row.new _ _ _
        have n7:∀ (j:Nat) u,(encPart (pa,pp,pq))[j]?=some u→W7.cell? ((⟨W0.heap.size,0,none⟩:Addr).add j)=some u:=fun j u hj=>by
         match j,hj with
         | 0,hj=>exact (r7.cell 0).trans (by simpa [encPart]using hj)
         | 1,hj=>exact (r7.cell 1).trans (by simpa [encPart]using hj)
         | j+2,hj=>simp[encPart]at hj
        have NN7:=Lib.hid n7
        clear hW7 r7 n7 y7
        refine hK _ _ ?_
        clear hK K
        try simp only[Act.put,List.setIfInBounds_toArray,List.set_cons_zero,List.set_cons_succ]
        refine wpAny_ready (rs:=[7]) (by kernel_rfl) (by simp) ?_
        apply AllReady.cons (o:=vadd11_7) (by kernel_rfl)
        case hs=>exact AllReady.nil
        intro K hK
        refine step_append_ownK (Kd:=partKind) rfl (.tmp 106) (.tmp 108) 71 rfl (w.heap.size+1) 75 i1 _ 2 Tryz.underlying71 hi1 hz1 hsz1 rfl (by omega) sv fs.length (fs.flatMap encPart) rfl (HM4.out.own.keep z7) ⟨W0.heap.size,0,none⟩ 1 1 (encPart (pa,pp,pq)) rfl rfl NN7.out (by simp[Value.oneCell',encPart]) (by simp[partKind,encPart]) (by simp[partKind,Value.cells]) (by omega) (by unfold maxLen;omega) (by rw[hby1];omega) (Nat.le_trans HM4.out.vec.lt z7.size) ?_
        intro v6 w6 hown6 hgr6 hloc6
        obtain ⟨g6,cap6,rfl⟩:=hown6.shape (Nat.succ_pos _)
        refine hK _ _ ?_
        clear hK K
        try simp only[Act.put,List.setIfInBounds_toArray,List.set_cons_zero,List.set_cons_succ]
        refine wpAny_take (i:=8) (oi:=vadd11_8) (v:=.pointer (some ⟨w.heap.size,0,none⟩)) rfl (by kernel_rfl) (by kernel_rfl) (by kernel_rfl) (fun _ _ _ h=>h) (Or.inl ⟨by kernel_rfl,?_⟩) ?_
        ·intro w;go_simp<;>first|omega|(intro hh;exfalso;omega)|rfl
        try simp only[Act.put,List.setIfInBounds_toArray,List.set_cons_zero,List.set_cons_succ,vadd11_8]
        refine wpAny_take (i:=9) (oi:=vadd11_9) (v:=.pointer (some ⟨w.heap.size,0,none⟩)) rfl (by kernel_rfl) (by kernel_rfl) (by kernel_rfl) (fun _ _ _ h=>h) (Or.inl ⟨by kernel_rfl,?_⟩) ?_
        ·intro w;go_simp<;>first|omega|(intro hh;exfalso;omega)|rfl
        try simp only[Act.put,List.setIfInBounds_toArray,List.set_cons_zero,List.set_cons_succ,vadd11_9]
        refine wpAny_ready (rs:=[10]) (by kernel_rfl) (by simp) ?_
        apply AllReady.cons (o:=vadd11_10) (by kernel_rfl)
        case hs=>exact AllReady.nil
        intro K hK
        simp only[vadd11_10]
        have hr6:Row w6 w.heap.size 73 #[sv]:=by
         have hr:=HM4.out.vec.keep z7
         exact (hgr6.block _ hr.lt (fun e=>by have:=HNB.out _ e.symm;omega)).trans hr
        have hc6:w6.cell? ⟨w.heap.size,0,none⟩=some sv:=hr6.cell 0
        have hf6:=hr6.free 0
        have GR6:=Lib.hid hgr6
        have OW6:=Lib.hid hown6
        have LC6:=Lib.hid hloc6
        clear hgr6 hown6 hloc6 hr6
        go_simp
        clear hc6 hf6
        refine hK _ _ ?_
        clear hK K
        try simp only[Act.put,List.setIfInBounds_toArray,List.set_cons_zero,List.set_cons_succ]
        refine wpAny_done (by kernel_rfl) ?_ _
        go_wp2_with fail
        go_roundw
        case rel=>
         obtain ⟨hmid6,hb6⟩:=NewMid.append2 (x:=(pa,pp,pq)) HM4.out (Nat.lt_succ_self _) z7 GR6.out OW6.out LC6.out ⟨HF4.out,HQ0.out,hfit.out⟩
         refine ⟨fa2,fb2,fs ++ [(pa,pp,pq)],_,hpa2,hpb2,Lib.hid hmid6,Lib.hid ?_,hfa2,hfb2,by simp;omega,B4.trans (hb6 w.heap.size (Nat.le_refl _))⟩
         rw[← hmg.out]
         simp[unpart,putV,HQ0.out]
        case measure=>exact Nat.lt_of_lt_of_le hms (by simp only[sliceLen];omega)
       apply AllReady.cons (o:=vadd11_6) (by kernel_rfl)
       case h=>
        intro K hK
        simp only[vadd11_6]
        go_simp
        obtain ⟨W9,hW9⟩:∃ X,X=W0.alloc (.cells #[.int .i64 pa,.pointer pp] 75):=⟨_,rfl⟩
        rw[← hW9]
        have y9:Below W0.heap.size W0 W9:=by rw[hW9];exact (Below.refl _ _).alloc (Nat.le_refl _) _
        have z9:=below_seq z0 y9
        have r9:Row W9 W0.heap.size 75 #[.int .i64 pa,.pointer pp]:=by rw[hW9];exact Row.new _ _ _
        have n9:∀ (j:Nat) u,(encPart (pa,pp,pq))[j]?=some u→W9.cell? ((⟨W0.heap.size,0,none⟩:Addr).add j)=some u:=fun j u hj=>by
         match j,hj with
         | 0,hj=>exact (r9.cell 0).trans (by simpa [encPart]using hj)
         | 1,hj=>exact (r9.cell 1).trans (by simpa [encPart]using hj)
         | j+2,hj=>simp[encPart]at hj
        have NN9:=Lib.hid n9
        clear hW9 r9 n9 y9
        refine hK _ _ ?_
        clear hK K
        try simp only[Act.put,List.setIfInBounds_toArray,List.set_cons_zero,List.set_cons_succ]
        refine wpAny_ready (rs:=[4]) (by kernel_rfl) (by simp) ?_
        apply AllReady.cons (o:=vadd11_4) (by kernel_rfl)
        case hs=>exact AllReady.nil
        intro K hK
        simp only[vadd11_4]
        have k0_10:=(KV.out _ z9)
        go_simp
        clear k0_10
        refine hK _ _ ?_
        clear hK K
        try simp only[Act.put,List.setIfInBounds_toArray,List.set_cons_zero,List.set_cons_succ]
        refine wpAny_ready (rs:=[7]) (by kernel_rfl) (by simp) ?_
        apply AllReady.cons (o:=vadd11_7) (by kernel_rfl)
        case hs=>exact AllReady.nil
        intro K hK
        refine step_append_ownK (Kd:=partKind) rfl (.tmp 106) (.tmp 108) 71 rfl (w.heap.size+1) 75 i1 _ 2 Tryz.underlying71 hi1 hz1 hsz1 rfl (by omega) sv fs.length (fs.flatMap encPart) rfl (HM4.out.own.keep z9) ⟨W0.heap.size,0,none⟩ 1 1 (encPart (pa,pp,pq)) rfl rfl NN9.out (by simp[Value.oneCell',encPart]) (by simp[partKind,encPart]) (by simp[partKind,Value.cells]) (by omega) (by unfold maxLen;omega) (by rw[hby1];omega) (Nat.le_trans HM4.out.vec.lt z9.size) ?_
        intro v6 w6 hown6 hgr6 hloc6
        obtain ⟨g6,cap6,rfl⟩:=hown6.shape (Nat.succ_pos _)
        refine hK _ _ ?_
        clear hK K
        try simp only[Act.put,List.setIfInBounds_toArray,List.set_cons_zero,List.set_cons_succ]
        refine wpAny_take (i:=8) (oi:=vadd11_8) (v:=.pointer (some ⟨w.heap.size,0,none⟩)) rfl (by kernel_rfl) (by kernel_rfl) (by kernel_rfl) (fun _ _ _ h=>h) (Or.inl ⟨by kernel_rfl,?_⟩) ?_
        ·intro w;go_simp<;>first|omega|(intro hh;exfalso;omega)|rfl
        try simp only[Act.put,List.setIfInBounds_toArray,List.set_cons_zero,List.set_cons_succ,vadd11_8]
        refine wpAny_take (i:=9) (oi:=vadd11_9) (v:=.pointer (some ⟨w.heap.size,0,none⟩)) rfl (by kernel_rfl) (by kernel_rfl) (by kernel_rfl) (fun _ _ _ h=>h) (Or.inl ⟨by kernel_rfl,?_⟩) ?_
        ·intro w;go_simp<;>first|omega|(intro hh;exfalso;omega)|rfl
        try simp only[Act.put,List.setIfInBounds_toArray,List.set_cons_zero,List.set_cons_succ,vadd11_9]
        refine wpAny_ready (rs:=[10]) (by kernel_rfl) (by simp) ?_
        apply AllReady.cons (o:=vadd11_10) (by kernel_rfl)
        case hs=>exact AllReady.nil
        intro K hK
        simp only[vadd11_10]
        have hr6:Row w6 w.heap.size 73 #[sv]:=by
         have hr:=HM4.out.vec.keep z9
         exact (hgr6.block _ hr.lt (fun e=>by have:=HNB.out _ e.symm;omega)).trans hr
        have hc6:w6.cell? ⟨w.heap.size,0,none⟩=some sv:=hr6.cell 0
        have hf6:=hr6.free 0
        have GR6:=Lib.hid hgr6
        have OW6:=Lib.hid hown6
        have LC6:=Lib.hid hloc6
        clear hgr6 hown6 hloc6 hr6
        go_simp
        clear hc6 hf6
        refine hK _ _ ?_
        clear hK K
        try simp only[Act.put,List.setIfInBounds_toArray,List.set_cons_zero,List.set_cons_succ]
        refine wpAny_done (by kernel_rfl) ?_ _
        go_wp2_with fail
        go_roundw
        case rel=>
         obtain ⟨hmid6,hb6⟩:=NewMid.append2 (x:=(pa,pp,pq)) HM4.out (Nat.lt_succ_self _) z9 GR6.out OW6.out LC6.out ⟨HF4.out,HQ0.out,hfit.out⟩
         refine ⟨fa2,fb2,fs ++ [(pa,pp,pq)],_,hpa2,hpb2,Lib.hid hmid6,Lib.hid ?_,hfa2,hfb2,by simp;omega,B4.trans (hb6 w.heap.size (Nat.le_refl _))⟩
         rw[← hmg.out]
         simp[unpart,putV,HQ0.out]
        case measure=>exact Nat.lt_of_lt_of_le hms (by simp only[sliceLen];omega)
       exact AllReady.nil
      exact AllReady.nil
    go_upto_region 6 with fail
    go_quiet (fail)
    obtain ⟨w1,hw1⟩:∃ X,X=((wr.alloc (.cells #[.int .i64 0,.pointer none] 75)).drewN nq):=⟨_,rfl⟩
    rw[← hw1]
    have B1:Below wr.heap.size wr w1:=by rw[hw1];exact Below.drewN_ ((Below.refl _ _).alloc (Nat.le_refl _) _) _
    have hr1:Row w1 wr.heap.size 75 #[.int .i64 0,.pointer none]:=by rw[hw1];exact (Row.new wr _ _).keep (Below.drewN_ (Below.refl _ _) _)
    clear hw1
    have hb1'':=cell_keep hb1' B1
    go_upto_region 8 with fail
    go_quiet (fail)
    obtain ⟨w2,hw2⟩:∃ X,X=w1.drewN nq:=⟨_,rfl⟩
    rw[← hw2]
    have B2:Below wr.heap.size wr w2:=by rw[hw2];exact Below.drewN_ B1 _
    have hr2:Row w2 wr.heap.size 75 #[.int .i64 0,.pointer none]:=by rw[hw2];exact hr1.keep (Below.drewN_ (Below.refl _ _) _)
    clear hw2 hr1 B1
    have HRP:Hid (∀ W,Below w2.heap.size w2 W→Row W wr.heap.size 75 #[.int .i64 0,.pointer none]):=Lib.hid fun W h=>hr2.keep h
    have HSZ:Hid (wr.heap.size≤wr.heap.size):=Lib.hid (Nat.le_refl _)
    have KB2:=KB.out
    replace KB:Hid (∀ W,Below w2.heap.size w2 W→W.cell? ⟨gb,ob,none⟩=some (.int .i64 ya)∧W.cell? ⟨gb,ob+1,none⟩=some (.pointer yp)):=Lib.hid fun W h=>KB2 W (below_seq B2 h)
    clear KB2
    have KM2:=KM.out
    replace KM:Hid (∀ W,Below w2.heap.size w2 W→Calls Tryz.prog 46 #[.pointer bk,.pointer yp] W (Gives (fun x w'=>FracPtr w' x (k*yq)) W)):=Lib.hid fun W h=>KM2 W (below_seq B2 h)
    clear KM2
    go_upto_region 9 with fail
    refine wp_region_any (by kernel_rfl) ?_
    change wpAny _ _ _ _ _ _ _ (World.drew _)
    obtain ⟨W0,hW0⟩:∃ X,X=(w2).drew:=⟨_,rfl⟩
    rw[← hW0]
    have z0:Below (w2).heap.size (w2) W0:=by rw[hW0];exact Below.drewN_ (Below.refl _ _) 1
    clear hW0
    refine wpAny_take (i:=0) (oi:=vadd9_0) (v:=.slice (some ⟨gb,ob,none⟩) (fb.length+1) cb) rfl (by kernel_rfl) (by kernel_rfl) (by kernel_rfl) (fun _ _ _ h=>h) (Or.inl ⟨by kernel_rfl,?_⟩) ?_
    ·intro w;go_simp<;>first|omega|(intro hh;exfalso;omega)|rfl
    try simp only[Act.put,List.setIfInBounds_toArray,List.set_cons_zero,List.set_cons_succ,vadd9_0]
    refine wpAny_take (i:=1) (oi:=vadd9_1) (v:=.pointer (some ⟨gb,ob,none⟩)) rfl (by kernel_rfl) (by kernel_rfl) (by kernel_rfl) (fun _ _ _ h=>h) (Or.inl ⟨by kernel_rfl,?_⟩) ?_
    ·intro w;go_simp<;>first|omega|(intro hh;exfalso;omega)|rfl
    try simp only[Act.put,List.setIfInBounds_toArray,List.set_cons_zero,List.set_cons_succ,vadd9_1]
    refine wpAny_take (i:=2) (oi:=vadd9_2) (v:=.pointer (some ⟨gb,ob,none⟩)) rfl (by kernel_rfl) (by kernel_rfl) (by kernel_rfl) (fun _ _ _ h=>h) (Or.inl ⟨by kernel_rfl,?_⟩) ?_
    ·intro w;go_simp<;>first|omega|(intro hh;exfalso;omega)|rfl
    try simp only[Act.put,List.setIfInBounds_toArray,List.set_cons_zero,List.set_cons_succ,vadd9_2]
    refine wpAny_take (i:=4) (oi:=vadd9_4) (v:=.pointer bk) rfl (by kernel_rfl) (by kernel_rfl) (by kernel_rfl) (fun _ _ _ h=>h) (Or.inl ⟨by kernel_rfl,?_⟩) ?_
    ·intro w;go_simp<;>first|omega|(intro hh;exfalso;omega)|rfl
    try simp only[Act.put,List.setIfInBounds_toArray,List.set_cons_zero,List.set_cons_succ,vadd9_4]
    refine wpAny_take (i:=5) (oi:=vadd9_5) (v:=.slice (some ⟨gb,ob,none⟩) (fb.length+1) cb) rfl (by kernel_rfl) (by kernel_rfl) (by kernel_rfl) (fun _ _ _ h=>h) (Or.inl ⟨by kernel_rfl,?_⟩) ?_
    ·intro w;go_simp<;>first|omega|(intro hh;exfalso;omega)|rfl
    try simp only[Act.put,List.setIfInBounds_toArray,List.set_cons_zero,List.set_cons_succ,vadd9_5]
    refine wpAny_take (i:=6) (oi:=vadd9_6) (v:=.pointer (some ⟨gb,ob,none⟩)) rfl (by kernel_rfl) (by kernel_rfl) (by kernel_rfl) (fun _ _ _ h=>h) (Or.inl ⟨by kernel_rfl,?_⟩) ?_
    ·intro w;go_simp<;>first|omega|(intro hh;exfalso;omega)|rfl
    try simp only[Act.put,List.setIfInBounds_toArray,List.set_cons_zero,List.set_cons_succ,vadd9_6]
    refine wpAny_take (i:=7) (oi:=vadd9_7) (v:=.pointer (some ⟨gb,ob+1,none⟩)) rfl (by kernel_rfl) (by kernel_rfl) (by kernel_rfl) (fun _ _ _ h=>h) (Or.inl ⟨by kernel_rfl,?_⟩) ?_
    ·intro w;go_simp<;>first|omega|(intro hh;exfalso;omega)|rfl
    try simp only[Act.put,List.setIfInBounds_toArray,List.set_cons_zero,List.set_cons_succ,vadd9_7]
    refine wpAny_take (i:=11) (oi:=vadd9_11) (v:=.slice (some ⟨gb,ob,none⟩) (fb.length+1) cb) rfl (by kernel_rfl) (by kernel_rfl) (by kernel_rfl) (fun _ _ _ h=>h) (Or.inl ⟨by kernel_rfl,?_⟩) ?_
    ·intro w;go_simp<;>first|omega|(intro hh;exfalso;omega)|rfl
    try simp only[Act.put,List.setIfInBounds_toArray,List.set_cons_zero,List.set_cons_succ,vadd9_11]
    refine wpAny_take (i:=12) (oi:=vadd9_12) (v:=.slice ab2 fb.length (cb - 1)) rfl (by kernel_rfl) (by kernel_rfl) (by kernel_rfl) (fun _ _ _ h=>h) (Or.inl ⟨by kernel_rfl,?_⟩) ?_
    ·intro w;go_simp<;>first|omega|(intro hh;exfalso;omega)|rfl
    try simp only[Act.put,List.setIfInBounds_toArray,List.set_cons_zero,List.set_cons_succ,vadd9_12]
    refine wpAny_ready (rs:=[3,8]) (by kernel_rfl) (by simp) ?_
    apply AllReady.cons (o:=vadd9_3) (by kernel_rfl)
    case h=>
     intro K hK
     simp only[vadd9_3]
     obtain ⟨k0_1,k1_1⟩:=KB.out _ z0
     go_simp
     clear k0_1 k1_1
     refine hK _ _ ?_
     clear hK K
     try simp only[Act.put,List.setIfInBounds_toArray,List.set_cons_zero,List.set_cons_succ]
     refine wpAny_ready (rs:=[8]) (by kernel_rfl) (by simp) ?_
     apply AllReady.cons (o:=vadd9_8) (by kernel_rfl)
     case hs=>exact AllReady.nil
     intro K hK
     simp only[vadd9_8]
     obtain ⟨k0_2,k1_2⟩:=KB.out _ z0
     go_simp
     clear k0_2 k1_2
     refine hK _ _ ?_
     clear hK K
     try simp only[Act.put,List.setIfInBounds_toArray,List.set_cons_zero,List.set_cons_succ]
     refine wpAny_ready (rs:=[9]) (by kernel_rfl) (by simp) ?_
     apply AllReady.cons (o:=vadd9_9) (by kernel_rfl)
     case hs=>exact AllReady.nil
     intro K hK
     simp only[vadd9_9]
     go_simp
     go_at_call 46
     refine (KM.out _ z0).mono ?_
     rintro e W3 ⟨x3,rfl,hx3,b3⟩
     obtain ⟨p3,e3⟩:∃ bz,x3=.pointer bz:=by
      obtain ⟨bz,_,_,h,_⟩:=hx3
      exact ⟨_,h⟩
     subst e3
     have z3:=below_seq z0 b3
     refine hK _ _ ?_
     clear hK K
     try simp only[Act.put,List.setIfInBounds_toArray,List.set_cons_zero,List.set_cons_succ]
     refine wpAny_take (i:=10) (oi:=vadd9_10) (v:=.agg #[.int .i64 ya,.pointer p3]) rfl (by kernel_rfl) (by kernel_rfl) (by kernel_rfl) (fun _ _ _ h=>h) (Or.inl ⟨by kernel_rfl,?_⟩) ?_
     ·intro w;go_simp<;>first|omega|(intro hh;exfalso;omega)|rfl
     try simp only[Act.put,List.setIfInBounds_toArray,List.set_cons_zero,List.set_cons_succ,vadd9_10]
     refine wpAny_ready (rs:=[13]) (by kernel_rfl) (by simp) ?_
     apply AllReady.cons (o:=vadd9_13) (by kernel_rfl)
     case hs=>exact AllReady.nil
     intro K hK
     simp only[vadd9_13]
     obtain ⟨w9,hw9,hrow9,hb9,hs9,q0,q1,f0,f1⟩:=pstore (HRP.out _ z3) (.int .i64 ya) (.pointer p3)
     have HW9:=Lib.hid hw9
     clear hw9
     go_simp
     rw[← HW9.out]
     clear q0 q1 f0 f1
     refine hK _ _ ?_
     clear hK K
     try simp only[Act.put,List.setIfInBounds_toArray,List.set_cons_zero,List.set_cons_succ]
     refine wpAny_take (i:=14) (oi:=vadd9_14) (v:=.slice ab2 fb.length (cb - 1)) rfl (by kernel_rfl) (by kernel_rfl) (by kernel_rfl) (fun _ _ _ h=>h) (Or.inl ⟨by kernel_rfl,?_⟩) ?_
     ·intro w;go_simp<;>first|omega|(intro hh;exfalso;omega)|rfl
     try simp only[Act.put,List.setIfInBounds_toArray,List.set_cons_zero,List.set_cons_succ,vadd9_14]
     refine wpAny_done (by kernel_rfl) ?_ _
     go_wp2_with fail
     go_meet
     refine ⟨_,_,(k*yq),[],fb,hpa,HPB2,Lib.hid hrow9,Lib.hid ?_,Lib.hid (hmf.mono (by omega)),Lib.hid ?_,HA2,HB2,by simp at hlen ⊢;omega,by (simp only[sliceLen];omega),B2.trans ((z3.mono B2.size).trans (hb9 _ (Nat.le_refl _)))⟩
     ·exact (hx3).off (HRP.out _ z3) hs9
     ·rw[← HMR.out];simp[unpart,mergeV]
    apply AllReady.cons (o:=vadd9_8) (by kernel_rfl)
    case h=>
     intro K hK
     simp only[vadd9_8]
     obtain ⟨k0_5,k1_5⟩:=KB.out _ z0
     go_simp
     clear k0_5 k1_5
     refine hK _ _ ?_
     clear hK K
     try simp only[Act.put,List.setIfInBounds_toArray,List.set_cons_zero,List.set_cons_succ]
     refine wpAny_ready (rs:=[3,9]) (by kernel_rfl) (by simp) ?_
     apply AllReady.cons (o:=vadd9_3) (by kernel_rfl)
     case h=>
      intro K hK
      simp only[vadd9_3]
      obtain ⟨k0_6,k1_6⟩:=KB.out _ z0
      go_simp
      clear k0_6 k1_6
      refine hK _ _ ?_
      clear hK K
      try simp only[Act.put,List.setIfInBounds_toArray,List.set_cons_zero,List.set_cons_succ]
      refine wpAny_ready (rs:=[9]) (by kernel_rfl) (by simp) ?_
      apply AllReady.cons (o:=vadd9_9) (by kernel_rfl)
      case hs=>exact AllReady.nil
      intro K hK
      simp only[vadd9_9]
      go_simp
      go_at_call 46
      refine (KM.out _ z0).mono ?_
      rintro e W7 ⟨x7,rfl,hx7,b7⟩
      obtain ⟨p7,e7⟩:∃ bz,x7=.pointer bz:=by
       obtain ⟨bz,_,_,h,_⟩:=hx7
       exact ⟨_,h⟩
      subst e7
      have z7:=below_seq z0 b7
      refine hK _ _ ?_
      clear hK K
      try simp only[Act.put,List.setIfInBounds_toArray,List.set_cons_zero,List.set_cons_succ]
      refine wpAny_take (i:=10) (oi:=vadd9_10) (v:=.agg #[.int .i64 ya,.pointer p7]) rfl (by kernel_rfl) (by kernel_rfl) (by kernel_rfl) (fun _ _ _ h=>h) (Or.inl ⟨by kernel_rfl,?_⟩) ?_
      ·intro w;go_simp<;>first|omega|(intro hh;exfalso;omega)|rfl
      try simp only[Act.put,List.setIfInBounds_toArray,List.set_cons_zero,List.set_cons_succ,vadd9_10]
      refine wpAny_ready (rs:=[13]) (by kernel_rfl) (by simp) ?_
      apply AllReady.cons (o:=vadd9_13) (by kernel_rfl)
      case hs=>exact AllReady.nil
      intro K hK
      simp only[vadd9_13]
      obtain ⟨w9,hw9,hrow9,hb9,hs9,q0,q1,f0,f1⟩:=pstore (HRP.out _ z7) (.int .i64 ya) (.pointer p7)
      have HW9:=Lib.hid hw9
      clear hw9
      go_simp
      rw[← HW9.out]
      clear q0 q1 f0 f1
      refine hK _ _ ?_
      clear hK K
      try simp only[Act.put,List.setIfInBounds_toArray,List.set_cons_zero,List.set_cons_succ]
      refine wpAny_take (i:=14) (oi:=vadd9_14) (v:=.slice ab2 fb.length (cb - 1)) rfl (by kernel_rfl) (by kernel_rfl) (by kernel_rfl) (fun _ _ _ h=>h) (Or.inl ⟨by kernel_rfl,?_⟩) ?_
      ·intro w;go_simp<;>first|omega|(intro hh;exfalso;omega)|rfl
      try simp only[Act.put,List.setIfInBounds_toArray,List.set_cons_zero,List.set_cons_succ,vadd9_14]
      refine wpAny_done (by kernel_rfl) ?_ _
      go_wp2_with fail
      go_meet
      refine ⟨_,_,(k*yq),[],fb,hpa,HPB2,Lib.hid hrow9,Lib.hid ?_,Lib.hid (hmf.mono (by omega)),Lib.hid ?_,HA2,HB2,by simp at hlen ⊢;omega,by (simp only[sliceLen];omega),B2.trans ((z7.mono B2.size).trans (hb9 _ (Nat.le_refl _)))⟩
      ·exact (hx7).off (HRP.out _ z7) hs9
      ·rw[← HMR.out];simp[unpart,mergeV]
     apply AllReady.cons (o:=vadd9_9) (by kernel_rfl)
     case h=>
      intro K hK
      simp only[vadd9_9]
      go_simp
      go_at_call 46
      refine (KM.out _ z0).mono ?_
      rintro e W9 ⟨x9,rfl,hx9,b9⟩
      obtain ⟨p9,e9⟩:∃ bz,x9=.pointer bz:=by
       obtain ⟨bz,_,_,h,_⟩:=hx9
       exact ⟨_,h⟩
      subst e9
      have z9:=below_seq z0 b9
      refine hK _ _ ?_
      clear hK K
      try simp only[Act.put,List.setIfInBounds_toArray,List.set_cons_zero,List.set_cons_succ]
      refine wpAny_ready (rs:=[3]) (by kernel_rfl) (by simp) ?_
      apply AllReady.cons (o:=vadd9_3) (by kernel_rfl)
      case hs=>exact AllReady.nil
      intro K hK
      simp only[vadd9_3]
      obtain ⟨k0_10,k1_10⟩:=KB.out _ z9
      go_simp
      clear k0_10 k1_10
      refine hK _ _ ?_
      clear hK K
      try simp only[Act.put,List.setIfInBounds_toArray,List.set_cons_zero,List.set_cons_succ]
      refine wpAny_take (i:=10) (oi:=vadd9_10) (v:=.agg #[.int .i64 ya,.pointer p9]) rfl (by kernel_rfl) (by kernel_rfl) (by kernel_rfl) (fun _ _ _ h=>h) (Or.inl ⟨by kernel_rfl,?_⟩) ?_
      ·intro w;go_simp<;>first|omega|(intro hh;exfalso;omega)|rfl
      try simp only[Act.put,List.setIfInBounds_toArray,List.set_cons_zero,List.set_cons_succ,vadd9_10]
      refine wpAny_ready (rs:=[13]) (by kernel_rfl) (by simp) ?_
      apply AllReady.cons (o:=vadd9_13) (by kernel_rfl)
      case hs=>exact AllReady.nil
      intro K hK
      simp only[vadd9_13]
      obtain ⟨w9,hw9,hrow9,hb9,hs9,q0,q1,f0,f1⟩:=pstore (HRP.out _ z9) (.int .i64 ya) (.pointer p9)
      have HW9:=Lib.hid hw9
      clear hw9
      go_simp
      rw[← HW9.out]
      clear q0 q1 f0 f1
      refine hK _ _ ?_
      clear hK K
      try simp only[Act.put,List.setIfInBounds_toArray,List.set_cons_zero,List.set_cons_succ]
      refine wpAny_take (i:=14) (oi:=vadd9_14) (v:=.slice ab2 fb.length (cb - 1)) rfl (by kernel_rfl) (by kernel_rfl) (by kernel_rfl) (fun _ _ _ h=>h) (Or.inl ⟨by kernel_rfl,?_⟩) ?_
      ·intro w;go_simp<;>first|omega|(intro hh;exfalso;omega)|rfl
      try simp only[Act.put,List.setIfInBounds_toArray,List.set_cons_zero,List.set_cons_succ,vadd9_14]
      refine wpAny_done (by kernel_rfl) ?_ _
      go_wp2_with fail
      go_meet
      refine ⟨_,_,(k*yq),[],fb,hpa,HPB2,Lib.hid hrow9,Lib.hid ?_,Lib.hid (hmf.mono (by omega)),Lib.hid ?_,HA2,HB2,by simp at hlen ⊢;omega,by (simp only[sliceLen];omega),B2.trans ((z9.mono B2.size).trans (hb9 _ (Nat.le_refl _)))⟩
      ·exact (hx9).off (HRP.out _ z9) hs9
      ·rw[← HMR.out];simp[unpart,mergeV]
     exact AllReady.nil
    exact AllReady.nil
  ·rcases fb with _|⟨y,fb⟩
   ·-- the second is done
    obtain ⟨ga,oa,ca,aa2,rfl,hca,ha1,ha2,haf,haa2,hpa2⟩:=hpa.out.head
    obtain ⟨A2,cb,rfl⟩:=hpb.out.nil
    have hxf:=hfa.out x List.mem_cons_self
    have HA2:Hid (∀ y∈fa,Fits 300000 y.2.2):=Lib.hid fun y hy=>hfa.out y (List.mem_cons_of_mem _ hy)
    obtain ⟨xa,xp,xq⟩:=x
    simp only at ha1 ha2 haf hxf
    have ha1':=cell_keep ha1 hbr
    have ha2':=cell_keep ha2 hbr
    have haf':=haf.keep hbr
    have KA:Hid (∀ W,Below wr.heap.size wr W→W.cell? ⟨ga,oa,none⟩=some (.int .i64 xa)∧W.cell? ⟨ga,oa+1,none⟩=some (.pointer xp)):=Lib.hid fun W h=>⟨cell_keep ha1' h,cell_keep ha2' h⟩
    have HPA2:=Lib.hid hpa2
    have HAF:=Lib.hid haf'
    have hla:(0:Int)<(fa.length:Int)+1:=by omega
    have hla3:(1:Int)≤(fa.length:Int)+1:=by omega
    have hla2:(((fa.length:Int)+1) == 0)=false:=by rw[beq_eq_false_iff_ne];omega
    clear ha1 ha2 haf hpa2 haf'
    have HB2:=hfb
    have HMR:=hmrg
    go_upto_block 2 with fail
    go_cut [8,9] (fun sa sb wc=>∃ (pa:Int) (pp:Option Addr) (pq:Rat) (fa2 fb2:List VPart),Hid (PartsIn w sa fa2)∧Hid (PartsIn w sb fb2)∧Hid (Row wc wr.heap.size 75 #[.int .i64 pa,.pointer pp])∧Hid (FracPtr wc (.pointer pp) pq)∧Hid (Fits 1000000 pq)∧Hid (unpart fs ++ putV (pa,pq) (mergeV k (unpart fa2) (unpart fb2))=mergeV k ps qs)∧Hid (∀ x∈fa2,Fits 300000 x.2.2)∧Hid (∀ x∈fb2,Fits 300000 x.2.2)∧fa2.length+fb2.length+fs.length+1≤2000∧sliceLen sa+sliceLen sb<(fa.length+1)∧Below wr.heap.size wr wc)
    case rest=>
     obtain ⟨pa,pp,pq,fa2,fb2,hpa2,hpb2,hrow,hfq,hfit,hmg,hfa2,hfb2,hlen2,hms,hbc⟩:=hcut
     obtain ⟨A3,n3,c3,e3⟩:=hpa2.out.shape
     obtain ⟨A4,n4,c4,e4⟩:=hpb2.out.shape
     subst e3
     subst e4
     have p0:wc.cell? ⟨wr.heap.size,1,none⟩=some (.pointer pp):=hrow.out.cell 1
     have CS:=Lib.hid (frac_Sign wc (.pointer pp) pq hfq.out.at_ (hfit.out.mono (by omega)))
     obtain ⟨s,hs⟩:∃ s,s=signI pq:=⟨_,rfl⟩
     rw[← hs]at CS
     have HSG:=Lib.hid hs
     have HM:=Lib.hid (hmid.out.keep hbc)
     have BC:=hbr.trans (hbc.mono hbr.size)
     clear hs
     go_wp2_with fail
     refine CS.out.mono ?_
     rintro e w4 ⟨rfl,hb4⟩
     have B4:=below_seq BC hb4
     have HM4:=Lib.hid (HM.out.keep hb4)
     by_cases hs0:s=0
     ·subst hs0
      have hz:Hid (pq=0):=Lib.hid (signI_zero.1 HSG.out.symm)
      clear CS p0 hb4
      go_wp2_with fail
      go_roundw
      case rel=>
       refine ⟨fa2,fb2,fs,sv,hpa2,hpb2,HM4,Lib.hid ?_,hfa2,hfb2,by omega,B4⟩
       rw[← hmg.out]
       simp[putV,hz.out]
      case measure=>exact Nat.lt_of_lt_of_le hms (by simp only[sliceLen];omega)
     ·have HQ0:Hid (pq≠0):=Lib.hid fun e=>hs0 (by rw[HSG.out];exact signI_zero.2 e)
      have hsb:(s != 0)=true:=by rw[bne_iff_ne];exact hs0
      have HF4:=Lib.hid (hfq.out.keep hb4)
      have hrow4:=hrow.out.keep hb4
      have KP:Hid (∀ W,Below w4.heap.size w4 W→W.cell? ⟨wr.heap.size,0,none⟩=some (.int .i64 pa)∧W.cell? ⟨wr.heap.size,1,none⟩=some (.pointer pp)):=Lib.hid fun W h=>⟨(hrow4.keep h).cell 0,(hrow4.keep h).cell 1⟩
      have KV:Hid (∀ W,Below w4.heap.size w4 W→W.cell? ⟨w.heap.size,0,none⟩=some sv):=Lib.hid fun W h=>(HM4.out.vec.keep h).cell 0
      have HNB:Hid (∀ j,sv.ownBlock=some j→w.heap.size+1≤j):=Lib.hid fun j hj=>(HM4.out.own.lt hj).1
      obtain ⟨i1,hi1,hz1,hsz1,hby1⟩:=info_part
      have hfsl:fs.length≤2000:=by omega
      clear CS p0 hb4 hrow4
      go_upto_region 11 with fail
      refine wp_region_any (by kernel_rfl) ?_
      change wpAny _ _ _ _ _ _ _ (World.drew _)
      obtain ⟨W0,hW0⟩:∃ X,X=(w4).drew:=⟨_,rfl⟩
      rw[← hW0]
      have z0:Below (w4).heap.size (w4) W0:=by rw[hW0];exact Below.drewN_ (Below.refl _ _) 1
      clear hW0
      refine wpAny_take (i:=0) (oi:=vadd11_0) (v:=.pointer (some ⟨w.heap.size,0,none⟩)) rfl (by kernel_rfl) (by kernel_rfl) (by kernel_rfl) (fun _ _ _ h=>h) (Or.inl ⟨by kernel_rfl,?_⟩) ?_
      ·intro w;go_simp<;>first|omega|(intro hh;exfalso;omega)|rfl
      try simp only[Act.put,List.setIfInBounds_toArray,List.set_cons_zero,List.set_cons_succ,vadd11_0]
      refine wpAny_take (i:=1) (oi:=vadd11_1) (v:=.pointer (some ⟨w.heap.size,0,none⟩)) rfl (by kernel_rfl) (by kernel_rfl) (by kernel_rfl) (fun _ _ _ h=>h) (Or.inl ⟨by kernel_rfl,?_⟩) ?_
      ·intro w;go_simp<;>first|omega|(intro hh;exfalso;omega)|rfl
      try simp only[Act.put,List.setIfInBounds_toArray,List.set_cons_zero,List.set_cons_succ,vadd11_1]
      refine wpAny_take (i:=2) (oi:=vadd11_2) (v:=.pointer (some ⟨w.heap.size,0,none⟩)) rfl (by kernel_rfl) (by kernel_rfl) (by kernel_rfl) (fun _ _ _ h=>h) (Or.inl ⟨by kernel_rfl,?_⟩) ?_
      ·intro w;go_simp<;>first|omega|(intro hh;exfalso;omega)|rfl
      try simp only[Act.put,List.setIfInBounds_toArray,List.set_cons_zero,List.set_cons_succ,vadd11_2]
      refine wpAny_take (i:=3) (oi:=vadd11_3) (v:=.pointer (some ⟨w.heap.size,0,none⟩)) rfl (by kernel_rfl) (by kernel_rfl) (by kernel_rfl) (fun _ _ _ h=>h) (Or.inl ⟨by kernel_rfl,?_⟩) ?_
      ·intro w;go_simp<;>first|omega|(intro hh;exfalso;omega)|rfl
      try simp only[Act.put,List.setIfInBounds_toArray,List.set_cons_zero,List.set_cons_succ,vadd11_3]
      refine wpAny_ready (rs:=[4,5]) (by kernel_rfl) (by simp) ?_
      apply AllReady.cons (o:=vadd11_4) (by kernel_rfl)
      case h=>
       intro K hK
       simp only[vadd11_4]
       have k0_1:=(KV.out _ z0)
       go_simp
       clear k0_1
       refine hK _ _ ?_
       clear hK K
       try simp only[Act.put,List.setIfInBounds_toArray,List.set_cons_zero,List.set_cons_succ]
       refine wpAny_ready (rs:=[5]) (by kernel_rfl) (by simp) ?_
       apply AllReady.cons (o:=vadd11_5) (by kernel_rfl)
       case hs=>exact AllReady.nil
       intro K hK
       simp only[vadd11_5]
       obtain ⟨k0_2,k1_2⟩:=KP.out _ z0
       go_simp
       clear k0_2 k1_2
       refine hK _ _ ?_
       clear hK K
       try simp only[Act.put,List.setIfInBounds_toArray,List.set_cons_zero,List.set_cons_succ]
       refine wpAny_ready (rs:=[6]) (by kernel_rfl) (by simp) ?_
       apply AllReady.cons (o:=vadd11_6) (by kernel_rfl)
       case hs=>exact AllReady.nil
       intro K hK
       simp only[vadd11_6]
       go_simp
       obtain ⟨W3,hW3⟩:∃ X,X=W0.alloc (.cells #[.int .i64 pa,.pointer pp] 75):=⟨_,rfl⟩
       rw[← hW3]
       have y3:Below W0.heap.size W0 W3:=by rw[hW3];exact (Below.refl _ _).alloc (Nat.le_refl _) _
       have z3:=below_seq z0 y3
       have r3:Row W3 W0.heap.size 75 #[.int .i64 pa,.pointer pp]:=by rw[hW3];exact Row.new _ _ _
       have n3:∀ (j:Nat) u,(encPart (pa,pp,pq))[j]?=some u→W3.cell? ((⟨W0.heap.size,0,none⟩:Addr).add j)=some u:=fun j u hj=>by
        match j,hj with
        | 0,hj=>exact (r3.cell 0).trans (by simpa [encPart]using hj)
        | 1,hj=>exact (r3.cell 1).trans (by simpa [encPart]using hj)
        | j+2,hj=>simp[encPart]at hj
       have NN3:=Lib.hid n3
       clear hW3 r3 n3 y3
       refine hK _ _ ?_
       clear hK K
       try simp only[Act.put,List.setIfInBounds_toArray,List.set_cons_zero,List.set_cons_succ]
       refine wpAny_ready (rs:=[7]) (by kernel_rfl) (by simp) ?_
       apply AllReady.cons (o:=vadd11_7) (by kernel_rfl)
       case hs=>exact AllReady.nil
       intro K hK
       refine step_append_ownK (Kd:=partKind) rfl (.tmp 106) (.tmp 108) 71 rfl (w.heap.size+1) 75 i1 _ 2 Tryz.underlying71 hi1 hz1 hsz1 rfl (by omega) sv fs.length (fs.flatMap encPart) rfl (HM4.out.own.keep z3) ⟨W0.heap.size,0,none⟩ 1 1 (encPart (pa,pp,pq)) rfl rfl NN3.out (by simp[Value.oneCell',encPart]) (by simp[partKind,encPart]) (by simp[partKind,Value.cells]) (by omega) (by unfold maxLen;omega) (by rw[hby1];omega) (Nat.le_trans HM4.out.vec.lt z3.size) ?_
       intro v6 w6 hown6 hgr6 hloc6
       obtain ⟨g6,cap6,rfl⟩:=hown6.shape (Nat.succ_pos _)
       refine hK _ _ ?_
       clear hK K
       try simp only[Act.put,List.setIfInBounds_toArray,List.set_cons_zero,List.set_cons_succ]
       refine wpAny_take (i:=8) (oi:=vadd11_8) (v:=.pointer (some ⟨w.heap.size,0,none⟩)) rfl (by kernel_rfl) (by kernel_rfl) (by kernel_rfl) (fun _ _ _ h=>h) (Or.inl ⟨by kernel_rfl,?_⟩) ?_
       ·intro w;go_simp<;>first|omega|(intro hh;exfalso;omega)|rfl
       try simp only[Act.put,List.setIfInBounds_toArray,List.set_cons_zero,List.set_cons_succ,vadd11_8]
       refine wpAny_take (i:=9) (oi:=vadd11_9) (v:=.pointer (some ⟨w.heap.size,0,none⟩)) rfl (by kernel_rfl) (by kernel_rfl) (by kernel_rfl) (fun _ _ _ h=>h) (Or.inl ⟨by kernel_rfl,?_⟩) ?_
       ·intro w;go_simp<;>first|omega|(intro hh;exfalso;omega)|rfl
       try simp only[Act.put,List.setIfInBounds_toArray,List.set_cons_zero,List.set_cons_succ,vadd11_9]
       refine wpAny_ready (rs:=[10]) (by kernel_rfl) (by simp) ?_
       apply AllReady.cons (o:=vadd11_10) (by kernel_rfl)
       case hs=>exact AllReady.nil
       intro K hK
       simp only[vadd11_10]
       have hr6:Row w6 w.heap.size 73 #[sv]:=by
        have hr:=HM4.out.vec.keep z3
        exact (hgr6.block _ hr.lt (fun e=>by have:=HNB.out _ e.symm;omega)).trans hr
       have hc6:w6.cell? ⟨w.heap.size,0,none⟩=some sv:=hr6.cell 0
       have hf6:=hr6.free 0
       have GR6:=Lib.hid hgr6
       have OW6:=Lib.hid hown6
       have LC6:=Lib.hid hloc6
       clear hgr6 hown6 hloc6 hr6
       go_simp
       clear hc6 hf6
       refine hK _ _ ?_
       clear hK K
       try simp only[Act.put,List.setIfInBounds_toArray,List.set_cons_zero,List.set_cons_succ]
       refine wpAny_done (by kernel_rfl) ?_ _
       go_wp2_with fail
       go_roundw
       case rel=>
        obtain ⟨hmid6,hb6⟩:=NewMid.append2 (x:=(pa,pp,pq)) HM4.out (Nat.lt_succ_self _) z3 GR6.out OW6.out LC6.out ⟨HF4.out,HQ0.out,hfit.out⟩
        refine ⟨fa2,fb2,fs ++ [(pa,pp,pq)],_,hpa2,hpb2,Lib.hid hmid6,Lib.hid ?_,hfa2,hfb2,by simp;omega,B4.trans (hb6 w.heap.size (Nat.le_refl _))⟩
        rw[← hmg.out]
        simp[unpart,putV,HQ0.out]
       case measure=>exact Nat.lt_of_lt_of_le hms (by simp only[sliceLen];omega)
      apply AllReady.cons (o:=vadd11_5) (by kernel_rfl)
      case h=>
       intro K hK
       simp only[vadd11_5]
       obtain ⟨k0_5,k1_5⟩:=KP.out _ z0
       go_simp
       clear k0_5 k1_5
       refine hK _ _ ?_
       clear hK K
       try simp only[Act.put,List.setIfInBounds_toArray,List.set_cons_zero,List.set_cons_succ]
       refine wpAny_ready (rs:=[4,6]) (by kernel_rfl) (by simp) ?_
       apply AllReady.cons (o:=vadd11_4) (by kernel_rfl)
       case h=>
        intro K hK
        simp only[vadd11_4]
        have k0_6:=(KV.out _ z0)
        go_simp
        clear k0_6
        refine hK _ _ ?_
        clear hK K
        try simp only[Act.put,List.setIfInBounds_toArray,List.set_cons_zero,List.set_cons_succ]
        refine wpAny_ready (rs:=[6]) (by kernel_rfl) (by simp) ?_
        apply AllReady.cons (o:=vadd11_6) (by kernel_rfl)
        case hs=>exact AllReady.nil
        intro K hK
        simp only[vadd11_6]
        go_simp
        obtain ⟨W7,hW7⟩:∃ X,X=W0.alloc (.cells #[.int .i64 pa,.pointer pp] 75):=⟨_,rfl⟩
        rw[← hW7]
        have y7:Below W0.heap.size W0 W7:=by rw[hW7];exact (Below.refl _ _).alloc (Nat.le_refl _) _
        have z7:=below_seq z0 y7
        have r7:Row W7 W0.heap.size 75 #[.int .i64 pa,.pointer pp]:=by rw[hW7];exact Row.new _ _ _
        have n7:∀ (j:Nat) u,(encPart (pa,pp,pq))[j]?=some u→W7.cell? ((⟨W0.heap.size,0,none⟩:Addr).add j)=some u:=fun j u hj=>by
         match j,hj with
         | 0,hj=>exact (r7.cell 0).trans (by simpa [encPart]using hj)
         | 1,hj=>exact (r7.cell 1).trans (by simpa [encPart]using hj)
         | j+2,hj=>simp[encPart]at hj
        have NN7:=Lib.hid n7
        clear hW7 r7 n7 y7
        refine hK _ _ ?_
        clear hK K
        try simp only[Act.put,List.setIfInBounds_toArray,List.set_cons_zero,List.set_cons_succ]
        refine wpAny_ready (rs:=[7]) (by kernel_rfl) (by simp) ?_
        apply AllReady.cons (o:=vadd11_7) (by kernel_rfl)
        case hs=>exact AllReady.nil
        intro K hK
        refine step_append_ownK (Kd:=partKind) rfl (.tmp 106) (.tmp 108) 71 rfl (w.heap.size+1) 75 i1 _ 2 Tryz.underlying71 hi1 hz1 hsz1 rfl (by omega) sv fs.length (fs.flatMap encPart) rfl (HM4.out.own.keep z7) ⟨W0.heap.size,0,none⟩ 1 1 (encPart (pa,pp,pq)) rfl rfl NN7.out (by simp[Value.oneCell',encPart]) (by simp[partKind,encPart]) (by simp[partKind,Value.cells]) (by omega) (by unfold maxLen;omega) (by rw[hby1];omega) (Nat.le_trans HM4.out.vec.lt z7.size) ?_
        intro v6 w6 hown6 hgr6 hloc6
        obtain ⟨g6,cap6,rfl⟩:=hown6.shape (Nat.succ_pos _)
        refine hK _ _ ?_
        clear hK K
        try simp only[Act.put,List.setIfInBounds_toArray,List.set_cons_zero,List.set_cons_succ]
        refine wpAny_take (i:=8) (oi:=vadd11_8) (v:=.pointer (some ⟨w.heap.size,0,none⟩)) rfl (by kernel_rfl) (by kernel_rfl) (by kernel_rfl) (fun _ _ _ h=>h) (Or.inl ⟨by kernel_rfl,?_⟩) ?_
        ·intro w;go_simp<;>first|omega|(intro hh;exfalso;omega)|rfl
        try simp only[Act.put,List.setIfInBounds_toArray,List.set_cons_zero,List.set_cons_succ,vadd11_8]
        refine wpAny_take (i:=9) (oi:=vadd11_9) (v:=.pointer (some ⟨w.heap.size,0,none⟩)) rfl (by kernel_rfl) (by kernel_rfl) (by kernel_rfl) (fun _ _ _ h=>h) (Or.inl ⟨by kernel_rfl,?_⟩) ?_
        ·intro w;go_simp<;>first|omega|(intro hh;exfalso;omega)|rfl
        try simp only[Act.put,List.setIfInBounds_toArray,List.set_cons_zero,List.set_cons_succ,vadd11_9]
        refine wpAny_ready (rs:=[10]) (by kernel_rfl) (by simp) ?_
        apply AllReady.cons (o:=vadd11_10) (by kernel_rfl)
        case hs=>exact AllReady.nil
        intro K hK
        simp only[vadd11_10]
        have hr6:Row w6 w.heap.size 73 #[sv]:=by
         have hr:=HM4.out.vec.keep z7
         exact (hgr6.block _ hr.lt (fun e=>by have:=HNB.out _ e.symm;omega)).trans hr
        have hc6:w6.cell? ⟨w.heap.size,0,none⟩=some sv:=hr6.cell 0
        have hf6:=hr6.free 0
        have GR6:=Lib.hid hgr6
        have OW6:=Lib.hid hown6
        have LC6:=Lib.hid hloc6
        clear hgr6 hown6 hloc6 hr6
        go_simp
        clear hc6 hf6
        refine hK _ _ ?_
        clear hK K
        try simp only[Act.put,List.setIfInBounds_toArray,List.set_cons_zero,List.set_cons_succ]
        refine wpAny_done (by kernel_rfl) ?_ _
        go_wp2_with fail
        go_roundw
        case rel=>
         obtain ⟨hmid6,hb6⟩:=NewMid.append2 (x:=(pa,pp,pq)) HM4.out (Nat.lt_succ_self _) z7 GR6.out OW6.out LC6.out ⟨HF4.out,HQ0.out,hfit.out⟩
         refine ⟨fa2,fb2,fs ++ [(pa,pp,pq)],_,hpa2,hpb2,Lib.hid hmid6,Lib.hid ?_,hfa2,hfb2,by simp;omega,B4.trans (hb6 w.heap.size (Nat.le_refl _))⟩
         rw[← hmg.out]
         simp[unpart,putV,HQ0.out]
        case measure=>exact Nat.lt_of_lt_of_le hms (by simp only[sliceLen];omega)
       apply AllReady.cons (o:=vadd11_6) (by kernel_rfl)
       case h=>
        intro K hK
        simp only[vadd11_6]
        go_simp
        obtain ⟨W9,hW9⟩:∃ X,X=W0.alloc (.cells #[.int .i64 pa,.pointer pp] 75):=⟨_,rfl⟩
        rw[← hW9]
        have y9:Below W0.heap.size W0 W9:=by rw[hW9];exact (Below.refl _ _).alloc (Nat.le_refl _) _
        have z9:=below_seq z0 y9
        have r9:Row W9 W0.heap.size 75 #[.int .i64 pa,.pointer pp]:=by rw[hW9];exact Row.new _ _ _
        have n9:∀ (j:Nat) u,(encPart (pa,pp,pq))[j]?=some u→W9.cell? ((⟨W0.heap.size,0,none⟩:Addr).add j)=some u:=fun j u hj=>by
         match j,hj with
         | 0,hj=>exact (r9.cell 0).trans (by simpa [encPart]using hj)
         | 1,hj=>exact (r9.cell 1).trans (by simpa [encPart]using hj)
         | j+2,hj=>simp[encPart]at hj
        have NN9:=Lib.hid n9
        clear hW9 r9 n9 y9
        refine hK _ _ ?_
        clear hK K
        try simp only[Act.put,List.setIfInBounds_toArray,List.set_cons_zero,List.set_cons_succ]
        refine wpAny_ready (rs:=[4]) (by kernel_rfl) (by simp) ?_
        apply AllReady.cons (o:=vadd11_4) (by kernel_rfl)
        case hs=>exact AllReady.nil
        intro K hK
        simp only[vadd11_4]
        have k0_10:=(KV.out _ z9)
        go_simp
        clear k0_10
        refine hK _ _ ?_
        clear hK K
        try simp only[Act.put,List.setIfInBounds_toArray,List.set_cons_zero,List.set_cons_succ]
        refine wpAny_ready (rs:=[7]) (by kernel_rfl) (by simp) ?_
        apply AllReady.cons (o:=vadd11_7) (by kernel_rfl)
        case hs=>exact AllReady.nil
        intro K hK
        refine step_append_ownK (Kd:=partKind) rfl (.tmp 106) (.tmp 108) 71 rfl (w.heap.size+1) 75 i1 _ 2 Tryz.underlying71 hi1 hz1 hsz1 rfl (by omega) sv fs.length (fs.flatMap encPart) rfl (HM4.out.own.keep z9) ⟨W0.heap.size,0,none⟩ 1 1 (encPart (pa,pp,pq)) rfl rfl NN9.out (by simp[Value.oneCell',encPart]) (by simp[partKind,encPart]) (by simp[partKind,Value.cells]) (by omega) (by unfold maxLen;omega) (by rw[hby1];omega) (Nat.le_trans HM4.out.vec.lt z9.size) ?_
        intro v6 w6 hown6 hgr6 hloc6
        obtain ⟨g6,cap6,rfl⟩:=hown6.shape (Nat.succ_pos _)
        refine hK _ _ ?_
        clear hK K
        try simp only[Act.put,List.setIfInBounds_toArray,List.set_cons_zero,List.set_cons_succ]
        refine wpAny_take (i:=8) (oi:=vadd11_8) (v:=.pointer (some ⟨w.heap.size,0,none⟩)) rfl (by kernel_rfl) (by kernel_rfl) (by kernel_rfl) (fun _ _ _ h=>h) (Or.inl ⟨by kernel_rfl,?_⟩) ?_
        ·intro w;go_simp<;>first|omega|(intro hh;exfalso;omega)|rfl
        try simp only[Act.put,List.setIfInBounds_toArray,List.set_cons_zero,List.set_cons_succ,vadd11_8]
        refine wpAny_take (i:=9) (oi:=vadd11_9) (v:=.pointer (some ⟨w.heap.size,0,none⟩)) rfl (by kernel_rfl) (by kernel_rfl) (by kernel_rfl) (fun _ _ _ h=>h) (Or.inl ⟨by kernel_rfl,?_⟩) ?_
        ·intro w;go_simp<;>first|omega|(intro hh;exfalso;omega)|rfl
        try simp only[Act.put,List.setIfInBounds_toArray,List.set_cons_zero,List.set_cons_succ,vadd11_9]
        refine wpAny_ready (rs:=[10]) (by kernel_rfl) (by simp) ?_
        apply AllReady.cons (o:=vadd11_10) (by kernel_rfl)
        case hs=>exact AllReady.nil
        intro K hK
        simp only[vadd11_10]
        have hr6:Row w6 w.heap.size 73 #[sv]:=by
         have hr:=HM4.out.vec.keep z9
         exact (hgr6.block _ hr.lt (fun e=>by have:=HNB.out _ e.symm;omega)).trans hr
        have hc6:w6.cell? ⟨w.heap.size,0,none⟩=some sv:=hr6.cell 0
        have hf6:=hr6.free 0
        have GR6:=Lib.hid hgr6
        have OW6:=Lib.hid hown6
        have LC6:=Lib.hid hloc6
        clear hgr6 hown6 hloc6 hr6
        go_simp
        clear hc6 hf6
        refine hK _ _ ?_
        clear hK K
        try simp only[Act.put,List.setIfInBounds_toArray,List.set_cons_zero,List.set_cons_succ]
        refine wpAny_done (by kernel_rfl) ?_ _
        go_wp2_with fail
        go_roundw
        case rel=>
         obtain ⟨hmid6,hb6⟩:=NewMid.append2 (x:=(pa,pp,pq)) HM4.out (Nat.lt_succ_self _) z9 GR6.out OW6.out LC6.out ⟨HF4.out,HQ0.out,hfit.out⟩
         refine ⟨fa2,fb2,fs ++ [(pa,pp,pq)],_,hpa2,hpb2,Lib.hid hmid6,Lib.hid ?_,hfa2,hfb2,by simp;omega,B4.trans (hb6 w.heap.size (Nat.le_refl _))⟩
         rw[← hmg.out]
         simp[unpart,putV,HQ0.out]
        case measure=>exact Nat.lt_of_lt_of_le hms (by simp only[sliceLen];omega)
       exact AllReady.nil
      exact AllReady.nil
    go_upto_region 6 with fail
    go_quiet (fail)
    obtain ⟨w1,hw1⟩:∃ X,X=((wr.alloc (.cells #[.int .i64 0,.pointer none] 75)).drewN nq):=⟨_,rfl⟩
    rw[← hw1]
    have B1:Below wr.heap.size wr w1:=by rw[hw1];exact Below.drewN_ ((Below.refl _ _).alloc (Nat.le_refl _) _) _
    have hr1:Row w1 wr.heap.size 75 #[.int .i64 0,.pointer none]:=by rw[hw1];exact (Row.new wr _ _).keep (Below.drewN_ (Below.refl _ _) _)
    clear hw1
    obtain ⟨w2,hw2⟩:∃ X,X=w1:=⟨_,rfl⟩
    rw[← hw2]at B1 hr1 ⊢
    have B2:=B1
    have hr2:=hr1
    clear hw2 B1 hr1
    have HRP:Hid (∀ W,Below w2.heap.size w2 W→Row W wr.heap.size 75 #[.int .i64 0,.pointer none]):=Lib.hid fun W h=>hr2.keep h
    have HSZ:Hid (wr.heap.size≤wr.heap.size):=Lib.hid (Nat.le_refl _)
    have KA2:=KA.out
    replace KA:Hid (∀ W,Below w2.heap.size w2 W→W.cell? ⟨ga,oa,none⟩=some (.int .i64 xa)∧W.cell? ⟨ga,oa+1,none⟩=some (.pointer xp)):=Lib.hid fun W h=>KA2 W (below_seq B2 h)
    clear KA2
    have HAF2:=Lib.hid (HAF.out.keep B2)
    go_upto_region 7 with fail
    refine wp_region_any (by kernel_rfl) ?_
    change wpAny _ _ _ _ _ _ _ (World.drew _)
    obtain ⟨W0,hW0⟩:∃ X,X=(w2).drew:=⟨_,rfl⟩
    rw[← hW0]
    have z0:Below (w2).heap.size (w2) W0:=by rw[hW0];exact Below.drewN_ (Below.refl _ _) 1
    clear hW0
    refine wpAny_take (i:=0) (oi:=vadd7_0) (v:=.slice (some ⟨ga,oa,none⟩) (fa.length+1) ca) rfl (by kernel_rfl) (by kernel_rfl) (by kernel_rfl) (fun _ _ _ h=>h) (Or.inl ⟨by kernel_rfl,?_⟩) ?_
    ·intro w;go_simp<;>first|omega|(intro hh;exfalso;omega)|rfl
    try simp only[Act.put,List.setIfInBounds_toArray,List.set_cons_zero,List.set_cons_succ,vadd7_0]
    refine wpAny_take (i:=1) (oi:=vadd7_1) (v:=.pointer (some ⟨ga,oa,none⟩)) rfl (by kernel_rfl) (by kernel_rfl) (by kernel_rfl) (fun _ _ _ h=>h) (Or.inl ⟨by kernel_rfl,?_⟩) ?_
    ·intro w;go_simp<;>first|omega|(intro hh;exfalso;omega)|rfl
    try simp only[Act.put,List.setIfInBounds_toArray,List.set_cons_zero,List.set_cons_succ,vadd7_1]
    refine wpAny_take (i:=3) (oi:=vadd7_3) (v:=.slice (some ⟨ga,oa,none⟩) (fa.length+1) ca) rfl (by kernel_rfl) (by kernel_rfl) (by kernel_rfl) (fun _ _ _ h=>h) (Or.inl ⟨by kernel_rfl,?_⟩) ?_
    ·intro w;go_simp<;>first|omega|(intro hh;exfalso;omega)|rfl
    try simp only[Act.put,List.setIfInBounds_toArray,List.set_cons_zero,List.set_cons_succ,vadd7_3]
    refine wpAny_take (i:=4) (oi:=vadd7_4) (v:=.slice aa2 fa.length (ca - 1)) rfl (by kernel_rfl) (by kernel_rfl) (by kernel_rfl) (fun _ _ _ h=>h) (Or.inl ⟨by kernel_rfl,?_⟩) ?_
    ·intro w;go_simp<;>first|omega|(intro hh;exfalso;omega)|rfl
    try simp only[Act.put,List.setIfInBounds_toArray,List.set_cons_zero,List.set_cons_succ,vadd7_4]
    refine wpAny_ready (rs:=[2]) (by kernel_rfl) (by simp) ?_
    apply AllReady.cons (o:=vadd7_2) (by kernel_rfl)
    case hs=>exact AllReady.nil
    intro K hK
    simp only[vadd7_2]
    obtain ⟨k0_1,k1_1⟩:=KA.out _ z0
    go_simp
    clear k0_1 k1_1
    refine hK _ _ ?_
    clear hK K
    try simp only[Act.put,List.setIfInBounds_toArray,List.set_cons_zero,List.set_cons_succ]
    refine wpAny_ready (rs:=[5]) (by kernel_rfl) (by simp) ?_
    apply AllReady.cons (o:=vadd7_5) (by kernel_rfl)
    case hs=>exact AllReady.nil
    intro K hK
    simp only[vadd7_5]
    obtain ⟨w9,hw9,hrow9,hb9,hs9,q0,q1,f0,f1⟩:=pstore (HRP.out _ z0) (.int .i64 xa) (.pointer xp)
    have HW9:=Lib.hid hw9
    clear hw9
    go_simp
    rw[← HW9.out]
    clear q0 q1 f0 f1
    refine hK _ _ ?_
    clear hK K
    try simp only[Act.put,List.setIfInBounds_toArray,List.set_cons_zero,List.set_cons_succ]
    refine wpAny_take (i:=6) (oi:=vadd7_6) (v:=.slice aa2 fa.length (ca - 1)) rfl (by kernel_rfl) (by kernel_rfl) (by kernel_rfl) (fun _ _ _ h=>h) (Or.inl ⟨by kernel_rfl,?_⟩) ?_
    ·intro w;go_simp<;>first|omega|(intro hh;exfalso;omega)|rfl
    try simp only[Act.put,List.setIfInBounds_toArray,List.set_cons_zero,List.set_cons_succ,vadd7_6]
    refine wpAny_done (by kernel_rfl) ?_ _
    go_wp2_with fail
    go_meet
    refine ⟨_,_,xq,fa,[],HPA2,hpb,Lib.hid hrow9,Lib.hid ?_,Lib.hid (hxf.mono (by omega)),Lib.hid ?_,HA2,HB2,by simp at hlen ⊢;omega,by (simp only[sliceLen];omega),B2.trans ((z0.mono B2.size).trans (hb9 _ (Nat.le_refl _)))⟩
    ·exact (HAF2.out.keep z0).off (HRP.out _ z0) hs9
    ·rw[← HMR.out];simp[unpart,mergeV]
   ·-- both go on
    obtain ⟨ga,oa,ca,aa2,rfl,hca,ha1,ha2,haf,haa2,hpa2⟩:=hpa.out.head
    obtain ⟨gb,ob,cb,ab2,rfl,hcb,hb1,hb2,hbf,hab2,hpb2⟩:=hpb.out.head
    have hxf:=hfa.out x List.mem_cons_self
    have HA2:Hid (∀ y∈fa,Fits 300000 y.2.2):=Lib.hid fun y hy=>hfa.out y (List.mem_cons_of_mem _ hy)
    obtain ⟨xa,xp,xq⟩:=x
    simp only at ha1 ha2 haf hxf
    have ha1':=cell_keep ha1 hbr
    have ha2':=cell_keep ha2 hbr
    have haf':=haf.keep hbr
    have KA:Hid (∀ W,Below wr.heap.size wr W→W.cell? ⟨ga,oa,none⟩=some (.int .i64 xa)∧W.cell? ⟨ga,oa+1,none⟩=some (.pointer xp)):=Lib.hid fun W h=>⟨cell_keep ha1' h,cell_keep ha2' h⟩
    have HPA2:=Lib.hid hpa2
    have HAF:=Lib.hid haf'
    have hla:(0:Int)<(fa.length:Int)+1:=by omega
    have hla3:(1:Int)≤(fa.length:Int)+1:=by omega
    have hla2:(((fa.length:Int)+1) == 0)=false:=by rw[beq_eq_false_iff_ne];omega
    clear ha1 ha2 haf hpa2 haf'
    have hyf:=hfb.out y List.mem_cons_self
    have HB2:Hid (∀ y∈fb,Fits 300000 y.2.2):=Lib.hid fun z hz=>hfb.out z (List.mem_cons_of_mem _ hz)
    obtain ⟨ya,yp,yq⟩:=y
    simp only at hb1 hb2 hbf hyf
    have hb1':=cell_keep hb1 hbr
    have hb2':=cell_keep hb2 hbr
    have hbf':=hbf.keep hbr
    have KB:Hid (∀ W,Below wr.heap.size wr W→W.cell? ⟨gb,ob,none⟩=some (.int .i64 ya)∧W.cell? ⟨gb,ob+1,none⟩=some (.pointer yp)):=Lib.hid fun W h=>⟨cell_keep hb1' h,cell_keep hb2' h⟩
    have HPB2:=Lib.hid hpb2
    have hlb:(0:Int)<(fb.length:Int)+1:=by omega
    have hlb3:(1:Int)≤(fb.length:Int)+1:=by omega
    have hlb2:(((fb.length:Int)+1) == 0)=false:=by rw[beq_eq_false_iff_ne];omega
    have KM:Hid (∀ W,Below wr.heap.size wr W→Calls Tryz.prog 46 #[.pointer bk,.pointer yp] W (Gives (fun x w'=>FracPtr w' x (k*yq)) W)):=Lib.hid fun W h=>frac_Mul W _ _ k yq (HK.out.keep (below_seq hbr h)) (hbf'.keep h).at_ (HKF.out.mono (by omega)) (hyf.mono (by omega))
    have hmf:Fits 600000 (k*yq):=fits_mul HKF.out hyf
    clear hb1 hb2 hbf hpb2 hbf'
    have KD:Hid (∀ W z,Below wr.heap.size wr W→FracPtr W z (k*yq)→Calls Tryz.prog 47 #[.pointer xp,z] W (Gives (fun x w'=>FracPtr w' x (xq+k*yq)) W)):=Lib.hid fun W z h hz=>frac_Add W _ z xq (k*yq) (HAF.out.keep h).at_ hz.at_ (hxf.mono (by omega)) (hmf.mono (by omega))
    have haf3:Fits 1000000 (xq+k*yq):=(fits_add hxf hmf).mono (by omega)
    have HMR:=hmrg
    go_upto_block 2 with fail
    go_cut [8,9] (fun sa sb wc=>∃ (pa:Int) (pp:Option Addr) (pq:Rat) (fa2 fb2:List VPart),Hid (PartsIn w sa fa2)∧Hid (PartsIn w sb fb2)∧Hid (Row wc wr.heap.size 75 #[.int .i64 pa,.pointer pp])∧Hid (FracPtr wc (.pointer pp) pq)∧Hid (Fits 1000000 pq)∧Hid (unpart fs ++ putV (pa,pq) (mergeV k (unpart fa2) (unpart fb2))=mergeV k ps qs)∧Hid (∀ x∈fa2,Fits 300000 x.2.2)∧Hid (∀ x∈fb2,Fits 300000 x.2.2)∧fa2.length+fb2.length+fs.length+1≤2000∧sliceLen sa+sliceLen sb<(fa.length+1+(fb.length+1))∧Below wr.heap.size wr wc)
    case rest=>
     obtain ⟨pa,pp,pq,fa2,fb2,hpa2,hpb2,hrow,hfq,hfit,hmg,hfa2,hfb2,hlen2,hms,hbc⟩:=hcut
     obtain ⟨A3,n3,c3,e3⟩:=hpa2.out.shape
     obtain ⟨A4,n4,c4,e4⟩:=hpb2.out.shape
     subst e3
     subst e4
     have p0:wc.cell? ⟨wr.heap.size,1,none⟩=some (.pointer pp):=hrow.out.cell 1
     have CS:=Lib.hid (frac_Sign wc (.pointer pp) pq hfq.out.at_ (hfit.out.mono (by omega)))
     obtain ⟨s,hs⟩:∃ s,s=signI pq:=⟨_,rfl⟩
     rw[← hs]at CS
     have HSG:=Lib.hid hs
     have HM:=Lib.hid (hmid.out.keep hbc)
     have BC:=hbr.trans (hbc.mono hbr.size)
     clear hs
     go_wp2_with fail
     refine CS.out.mono ?_
     rintro e w4 ⟨rfl,hb4⟩
     have B4:=below_seq BC hb4
     have HM4:=Lib.hid (HM.out.keep hb4)
     by_cases hs0:s=0
     ·subst hs0
      have hz:Hid (pq=0):=Lib.hid (signI_zero.1 HSG.out.symm)
      clear CS p0 hb4
      go_wp2_with fail
      go_roundw
      case rel=>
       refine ⟨fa2,fb2,fs,sv,hpa2,hpb2,HM4,Lib.hid ?_,hfa2,hfb2,by omega,B4⟩
       rw[← hmg.out]
       simp[putV,hz.out]
      case measure=>exact Nat.lt_of_lt_of_le hms (by simp only[sliceLen];omega)
     ·have HQ0:Hid (pq≠0):=Lib.hid fun e=>hs0 (by rw[HSG.out];exact signI_zero.2 e)
      have hsb:(s != 0)=true:=by rw[bne_iff_ne];exact hs0
      have HF4:=Lib.hid (hfq.out.keep hb4)
      have hrow4:=hrow.out.keep hb4
      have KP:Hid (∀ W,Below w4.heap.size w4 W→W.cell? ⟨wr.heap.size,0,none⟩=some (.int .i64 pa)∧W.cell? ⟨wr.heap.size,1,none⟩=some (.pointer pp)):=Lib.hid fun W h=>⟨(hrow4.keep h).cell 0,(hrow4.keep h).cell 1⟩
      have KV:Hid (∀ W,Below w4.heap.size w4 W→W.cell? ⟨w.heap.size,0,none⟩=some sv):=Lib.hid fun W h=>(HM4.out.vec.keep h).cell 0
      have HNB:Hid (∀ j,sv.ownBlock=some j→w.heap.size+1≤j):=Lib.hid fun j hj=>(HM4.out.own.lt hj).1
      obtain ⟨i1,hi1,hz1,hsz1,hby1⟩:=info_part
      have hfsl:fs.length≤2000:=by omega
      clear CS p0 hb4 hrow4
      go_upto_region 11 with fail
      refine wp_region_any (by kernel_rfl) ?_
      change wpAny _ _ _ _ _ _ _ (World.drew _)
      obtain ⟨W0,hW0⟩:∃ X,X=(w4).drew:=⟨_,rfl⟩
      rw[← hW0]
      have z0:Below (w4).heap.size (w4) W0:=by rw[hW0];exact Below.drewN_ (Below.refl _ _) 1
      clear hW0
      refine wpAny_take (i:=0) (oi:=vadd11_0) (v:=.pointer (some ⟨w.heap.size,0,none⟩)) rfl (by kernel_rfl) (by kernel_rfl) (by kernel_rfl) (fun _ _ _ h=>h) (Or.inl ⟨by kernel_rfl,?_⟩) ?_
      ·intro w;go_simp<;>first|omega|(intro hh;exfalso;omega)|rfl
      try simp only[Act.put,List.setIfInBounds_toArray,List.set_cons_zero,List.set_cons_succ,vadd11_0]
      refine wpAny_take (i:=1) (oi:=vadd11_1) (v:=.pointer (some ⟨w.heap.size,0,none⟩)) rfl (by kernel_rfl) (by kernel_rfl) (by kernel_rfl) (fun _ _ _ h=>h) (Or.inl ⟨by kernel_rfl,?_⟩) ?_
      ·intro w;go_simp<;>first|omega|(intro hh;exfalso;omega)|rfl
      try simp only[Act.put,List.setIfInBounds_toArray,List.set_cons_zero,List.set_cons_succ,vadd11_1]
      refine wpAny_take (i:=2) (oi:=vadd11_2) (v:=.pointer (some ⟨w.heap.size,0,none⟩)) rfl (by kernel_rfl) (by kernel_rfl) (by kernel_rfl) (fun _ _ _ h=>h) (Or.inl ⟨by kernel_rfl,?_⟩) ?_
      ·intro w;go_simp<;>first|omega|(intro hh;exfalso;omega)|rfl
      try simp only[Act.put,List.setIfInBounds_toArray,List.set_cons_zero,List.set_cons_succ,vadd11_2]
      refine wpAny_take (i:=3) (oi:=vadd11_3) (v:=.pointer (some ⟨w.heap.size,0,none⟩)) rfl (by kernel_rfl) (by kernel_rfl) (by kernel_rfl) (fun _ _ _ h=>h) (Or.inl ⟨by kernel_rfl,?_⟩) ?_
      ·intro w;go_simp<;>first|omega|(intro hh;exfalso;omega)|rfl
      try simp only[Act.put,List.setIfInBounds_toArray,List.set_cons_zero,List.set_cons_succ,vadd11_3]
      refine wpAny_ready (rs:=[4,5]) (by kernel_rfl) (by simp) ?_
      apply AllReady.cons (o:=vadd11_4) (by kernel_rfl)
      case h=>
       intro K hK
       simp only[vadd11_4]
       have k0_1:=(KV.out _ z0)
       go_simp
       clear k0_1
       refine hK _ _ ?_
       clear hK K
       try simp only[Act.put,List.setIfInBounds_toArray,List.set_cons_zero,List.set_cons_succ]
       refine wpAny_ready (rs:=[5]) (by kernel_rfl) (by simp) ?_
       apply AllReady.cons (o:=vadd11_5) (by kernel_rfl)
       case hs=>exact AllReady.nil
       intro K hK
       simp only[vadd11_5]
       obtain ⟨k0_2,k1_2⟩:=KP.out _ z0
       go_simp
       clear k0_2 k1_2
       refine hK _ _ ?_
       clear hK K
       try simp only[Act.put,List.setIfInBounds_toArray,List.set_cons_zero,List.set_cons_succ]
       refine wpAny_ready (rs:=[6]) (by kernel_rfl) (by simp) ?_
       apply AllReady.cons (o:=vadd11_6) (by kernel_rfl)
       case hs=>exact AllReady.nil
       intro K hK
       simp only[vadd11_6]
       go_simp
       obtain ⟨W3,hW3⟩:∃ X,X=W0.alloc (.cells #[.int .i64 pa,.pointer pp] 75):=⟨_,rfl⟩
       rw[← hW3]
       have y3:Below W0.heap.size W0 W3:=by rw[hW3];exact (Below.refl _ _).alloc (Nat.le_refl _) _
       have z3:=below_seq z0 y3
       have r3:Row W3 W0.heap.size 75 #[.int .i64 pa,.pointer pp]:=by rw[hW3];exact Row.new _ _ _
       have n3:∀ (j:Nat) u,(encPart (pa,pp,pq))[j]?=some u→W3.cell? ((⟨W0.heap.size,0,none⟩:Addr).add j)=some u:=fun j u hj=>by
        match j,hj with
        | 0,hj=>exact (r3.cell 0).trans (by simpa [encPart]using hj)
        | 1,hj=>exact (r3.cell 1).trans (by simpa [encPart]using hj)
        | j+2,hj=>simp[encPart]at hj
       have NN3:=Lib.hid n3
       clear hW3 r3 n3 y3
       refine hK _ _ ?_
       clear hK K
       try simp only[Act.put,List.setIfInBounds_toArray,List.set_cons_zero,List.set_cons_succ]
       refine wpAny_ready (rs:=[7]) (by kernel_rfl) (by simp) ?_
       apply AllReady.cons (o:=vadd11_7) (by kernel_rfl)
       case hs=>exact AllReady.nil
       intro K hK
       refine step_append_ownK (Kd:=partKind) rfl (.tmp 106) (.tmp 108) 71 rfl (w.heap.size+1) 75 i1 _ 2 Tryz.underlying71 hi1 hz1 hsz1 rfl (by omega) sv fs.length (fs.flatMap encPart) rfl (HM4.out.own.keep z3) ⟨W0.heap.size,0,none⟩ 1 1 (encPart (pa,pp,pq)) rfl rfl NN3.out (by simp[Value.oneCell',encPart]) (by simp[partKind,encPart]) (by simp[partKind,Value.cells]) (by omega) (by unfold maxLen;omega) (by rw[hby1];omega) (Nat.le_trans HM4.out.vec.lt z3.size) ?_
       intro v6 w6 hown6 hgr6 hloc6
       obtain ⟨g6,cap6,rfl⟩:=hown6.shape (Nat.succ_pos _)
       refine hK _ _ ?_
       clear hK K
       try simp only[Act.put,List.setIfInBounds_toArray,List.set_cons_zero,List.set_cons_succ]
       refine wpAny_take (i:=8) (oi:=vadd11_8) (v:=.pointer (some ⟨w.heap.size,0,none⟩)) rfl (by kernel_rfl) (by kernel_rfl) (by kernel_rfl) (fun _ _ _ h=>h) (Or.inl ⟨by kernel_rfl,?_⟩) ?_
       ·intro w;go_simp<;>first|omega|(intro hh;exfalso;omega)|rfl
       try simp only[Act.put,List.setIfInBounds_toArray,List.set_cons_zero,List.set_cons_succ,vadd11_8]
       refine wpAny_take (i:=9) (oi:=vadd11_9) (v:=.pointer (some ⟨w.heap.size,0,none⟩)) rfl (by kernel_rfl) (by kernel_rfl) (by kernel_rfl) (fun _ _ _ h=>h) (Or.inl ⟨by kernel_rfl,?_⟩) ?_
       ·intro w;go_simp<;>first|omega|(intro hh;exfalso;omega)|rfl
       try simp only[Act.put,List.setIfInBounds_toArray,List.set_cons_zero,List.set_cons_succ,vadd11_9]
       refine wpAny_ready (rs:=[10]) (by kernel_rfl) (by simp) ?_
       apply AllReady.cons (o:=vadd11_10) (by kernel_rfl)
       case hs=>exact AllReady.nil
       intro K hK
       simp only[vadd11_10]
       have hr6:Row w6 w.heap.size 73 #[sv]:=by
        have hr:=HM4.out.vec.keep z3
        exact (hgr6.block _ hr.lt (fun e=>by have:=HNB.out _ e.symm;omega)).trans hr
       have hc6:w6.cell? ⟨w.heap.size,0,none⟩=some sv:=hr6.cell 0
       have hf6:=hr6.free 0
       have GR6:=Lib.hid hgr6
       have OW6:=Lib.hid hown6
       have LC6:=Lib.hid hloc6
       clear hgr6 hown6 hloc6 hr6
       go_simp
       clear hc6 hf6
       refine hK _ _ ?_
       clear hK K
       try simp only[Act.put,List.setIfInBounds_toArray,List.set_cons_zero,List.set_cons_succ]
       refine wpAny_done (by kernel_rfl) ?_ _
       go_wp2_with fail
       go_roundw
       case rel=>
        obtain ⟨hmid6,hb6⟩:=NewMid.append2 (x:=(pa,pp,pq)) HM4.out (Nat.lt_succ_self _) z3 GR6.out OW6.out LC6.out ⟨HF4.out,HQ0.out,hfit.out⟩
        refine ⟨fa2,fb2,fs ++ [(pa,pp,pq)],_,hpa2,hpb2,Lib.hid hmid6,Lib.hid ?_,hfa2,hfb2,by simp;omega,B4.trans (hb6 w.heap.size (Nat.le_refl _))⟩
        rw[← hmg.out]
        simp[unpart,putV,HQ0.out]
       case measure=>exact Nat.lt_of_lt_of_le hms (by simp only[sliceLen];omega)
      apply AllReady.cons (o:=vadd11_5) (by kernel_rfl)
      case h=>
       intro K hK
       simp only[vadd11_5]
       obtain ⟨k0_5,k1_5⟩:=KP.out _ z0
       go_simp
       clear k0_5 k1_5
       refine hK _ _ ?_
       clear hK K
       try simp only[Act.put,List.setIfInBounds_toArray,List.set_cons_zero,List.set_cons_succ]
       refine wpAny_ready (rs:=[4,6]) (by kernel_rfl) (by simp) ?_
       apply AllReady.cons (o:=vadd11_4) (by kernel_rfl)
       case h=>
        intro K hK
        simp only[vadd11_4]
        have k0_6:=(KV.out _ z0)
        go_simp
        clear k0_6
        refine hK _ _ ?_
        clear hK K
        try simp only[Act.put,List.setIfInBounds_toArray,List.set_cons_zero,List.set_cons_succ]
        refine wpAny_ready (rs:=[6]) (by kernel_rfl) (by simp) ?_
        apply AllReady.cons (o:=vadd11_6) (by kernel_rfl)
        case hs=>exact AllReady.nil
        intro K hK
        simp only[vadd11_6]
        go_simp
        obtain ⟨W7,hW7⟩:∃ X,X=W0.alloc (.cells #[.int .i64 pa,.pointer pp] 75):=⟨_,rfl⟩
        rw[← hW7]
        have y7:Below W0.heap.size W0 W7:=by rw[hW7];exact (Below.refl _ _).alloc (Nat.le_refl _) _
        have z7:=below_seq z0 y7
        have r7:Row W7 W0.heap.size 75 #[.int .i64 pa,.pointer pp]:=by rw[hW7];exact Row.new _ _ _
        have n7:∀ (j:Nat) u,(encPart (pa,pp,pq))[j]?=some u→W7.cell? ((⟨W0.heap.size,0,none⟩:Addr).add j)=some u:=fun j u hj=>by
         match j,hj with
         | 0,hj=>exact (r7.cell 0).trans (by simpa [encPart]using hj)
         | 1,hj=>exact (r7.cell 1).trans (by simpa [encPart]using hj)
         | j+2,hj=>simp[encPart]at hj
        have NN7:=Lib.hid n7
        clear hW7 r7 n7 y7
        refine hK _ _ ?_
        clear hK K
        try simp only[Act.put,List.setIfInBounds_toArray,List.set_cons_zero,List.set_cons_succ]
        refine wpAny_ready (rs:=[7]) (by kernel_rfl) (by simp) ?_
        apply AllReady.cons (o:=vadd11_7) (by kernel_rfl)
        case hs=>exact AllReady.nil
        intro K hK
        refine step_append_ownK (Kd:=partKind) rfl (.tmp 106) (.tmp 108) 71 rfl (w.heap.size+1) 75 i1 _ 2 Tryz.underlying71 hi1 hz1 hsz1 rfl (by omega) sv fs.length (fs.flatMap encPart) rfl (HM4.out.own.keep z7) ⟨W0.heap.size,0,none⟩ 1 1 (encPart (pa,pp,pq)) rfl rfl NN7.out (by simp[Value.oneCell',encPart]) (by simp[partKind,encPart]) (by simp[partKind,Value.cells]) (by omega) (by unfold maxLen;omega) (by rw[hby1];omega) (Nat.le_trans HM4.out.vec.lt z7.size) ?_
        intro v6 w6 hown6 hgr6 hloc6
        obtain ⟨g6,cap6,rfl⟩:=hown6.shape (Nat.succ_pos _)
        refine hK _ _ ?_
        clear hK K
        try simp only[Act.put,List.setIfInBounds_toArray,List.set_cons_zero,List.set_cons_succ]
        refine wpAny_take (i:=8) (oi:=vadd11_8) (v:=.pointer (some ⟨w.heap.size,0,none⟩)) rfl (by kernel_rfl) (by kernel_rfl) (by kernel_rfl) (fun _ _ _ h=>h) (Or.inl ⟨by kernel_rfl,?_⟩) ?_
        ·intro w;go_simp<;>first|omega|(intro hh;exfalso;omega)|rfl
        try simp only[Act.put,List.setIfInBounds_toArray,List.set_cons_zero,List.set_cons_succ,vadd11_8]
        refine wpAny_take (i:=9) (oi:=vadd11_9) (v:=.pointer (some ⟨w.heap.size,0,none⟩)) rfl (by kernel_rfl) (by kernel_rfl) (by kernel_rfl) (fun _ _ _ h=>h) (Or.inl ⟨by kernel_rfl,?_⟩) ?_
        ·intro w;go_simp<;>first|omega|(intro hh;exfalso;omega)|rfl
        try simp only[Act.put,List.setIfInBounds_toArray,List.set_cons_zero,List.set_cons_succ,vadd11_9]
        refine wpAny_ready (rs:=[10]) (by kernel_rfl) (by simp) ?_
        apply AllReady.cons (o:=vadd11_10) (by kernel_rfl)
        case hs=>exact AllReady.nil
        intro K hK
        simp only[vadd11_10]
        have hr6:Row w6 w.heap.size 73 #[sv]:=by
         have hr:=HM4.out.vec.keep z7
         exact (hgr6.block _ hr.lt (fun e=>by have:=HNB.out _ e.symm;omega)).trans hr
        have hc6:w6.cell? ⟨w.heap.size,0,none⟩=some sv:=hr6.cell 0
        have hf6:=hr6.free 0
        have GR6:=Lib.hid hgr6
        have OW6:=Lib.hid hown6
        have LC6:=Lib.hid hloc6
        clear hgr6 hown6 hloc6 hr6
        go_simp
        clear hc6 hf6
        refine hK _ _ ?_
        clear hK K
        try simp only[Act.put,List.setIfInBounds_toArray,List.set_cons_zero,List.set_cons_succ]
        refine wpAny_done (by kernel_rfl) ?_ _
        go_wp2_with fail
        go_roundw
        case rel=>
         obtain ⟨hmid6,hb6⟩:=NewMid.append2 (x:=(pa,pp,pq)) HM4.out (Nat.lt_succ_self _) z7 GR6.out OW6.out LC6.out ⟨HF4.out,HQ0.out,hfit.out⟩
         refine ⟨fa2,fb2,fs ++ [(pa,pp,pq)],_,hpa2,hpb2,Lib.hid hmid6,Lib.hid ?_,hfa2,hfb2,by simp;omega,B4.trans (hb6 w.heap.size (Nat.le_refl _))⟩
         rw[← hmg.out]
         simp[unpart,putV,HQ0.out]
        case measure=>exact Nat.lt_of_lt_of_le hms (by simp only[sliceLen];omega)
       apply AllReady.cons (o:=vadd11_6) (by kernel_rfl)
       case h=>
        intro K hK
        simp only[vadd11_6]
        go_simp
        obtain ⟨W9,hW9⟩:∃ X,X=W0.alloc (.cells #[.int .i64 pa,.pointer pp] 75):=⟨_,rfl⟩
        rw[← hW9]
        have y9:Below W0.heap.size W0 W9:=by rw[hW9];exact (Below.refl _ _).alloc (Nat.le_refl _) _
        have z9:=below_seq z0 y9
        have r9:Row W9 W0.heap.size 75 #[.int .i64 pa,.pointer pp]:=by rw[hW9];exact Row.new _ _ _
        have n9:∀ (j:Nat) u,(encPart (pa,pp,pq))[j]?=some u→W9.cell? ((⟨W0.heap.size,0,none⟩:Addr).add j)=some u:=fun j u hj=>by
         match j,hj with
         | 0,hj=>exact (r9.cell 0).trans (by simpa [encPart]using hj)
         | 1,hj=>exact (r9.cell 1).trans (by simpa [encPart]using hj)
         | j+2,hj=>simp[encPart]at hj
        have NN9:=Lib.hid n9
        clear hW9 r9 n9 y9
        refine hK _ _ ?_
        clear hK K
        try simp only[Act.put,List.setIfInBounds_toArray,List.set_cons_zero,List.set_cons_succ]
        refine wpAny_ready (rs:=[4]) (by kernel_rfl) (by simp) ?_
        apply AllReady.cons (o:=vadd11_4) (by kernel_rfl)
        case hs=>exact AllReady.nil
        intro K hK
        simp only[vadd11_4]
        have k0_10:=(KV.out _ z9)
        go_simp
        clear k0_10
        refine hK _ _ ?_
        clear hK K
        try simp only[Act.put,List.setIfInBounds_toArray,List.set_cons_zero,List.set_cons_succ]
        refine wpAny_ready (rs:=[7]) (by kernel_rfl) (by simp) ?_
        apply AllReady.cons (o:=vadd11_7) (by kernel_rfl)
        case hs=>exact AllReady.nil
        intro K hK
        refine step_append_ownK (Kd:=partKind) rfl (.tmp 106) (.tmp 108) 71 rfl (w.heap.size+1) 75 i1 _ 2 Tryz.underlying71 hi1 hz1 hsz1 rfl (by omega) sv fs.length (fs.flatMap encPart) rfl (HM4.out.own.keep z9) ⟨W0.heap.size,0,none⟩ 1 1 (encPart (pa,pp,pq)) rfl rfl NN9.out (by simp[Value.oneCell',encPart]) (by simp[partKind,encPart]) (by simp[partKind,Value.cells]) (by omega) (by unfold maxLen;omega) (by rw[hby1];omega) (Nat.le_trans HM4.out.vec.lt z9.size) ?_
        intro v6 w6 hown6 hgr6 hloc6
        obtain ⟨g6,cap6,rfl⟩:=hown6.shape (Nat.succ_pos _)
        refine hK _ _ ?_
        clear hK K
        try simp only[Act.put,List.setIfInBounds_toArray,List.set_cons_zero,List.set_cons_succ]
        refine wpAny_take (i:=8) (oi:=vadd11_8) (v:=.pointer (some ⟨w.heap.size,0,none⟩)) rfl (by kernel_rfl) (by kernel_rfl) (by kernel_rfl) (fun _ _ _ h=>h) (Or.inl ⟨by kernel_rfl,?_⟩) ?_
        ·intro w;go_simp<;>first|omega|(intro hh;exfalso;omega)|rfl
        try simp only[Act.put,List.setIfInBounds_toArray,List.set_cons_zero,List.set_cons_succ,vadd11_8]
        refine wpAny_take (i:=9) (oi:=vadd11_9) (v:=.pointer (some ⟨w.heap.size,0,none⟩)) rfl (by kernel_rfl) (by kernel_rfl) (by kernel_rfl) (fun _ _ _ h=>h) (Or.inl ⟨by kernel_rfl,?_⟩) ?_
        ·intro w;go_simp<;>first|omega|(intro hh;exfalso;omega)|rfl
        try simp only[Act.put,List.setIfInBounds_toArray,List.set_cons_zero,List.set_cons_succ,vadd11_9]
        refine wpAny_ready (rs:=[10]) (by kernel_rfl) (by simp) ?_
        apply AllReady.cons (o:=vadd11_10) (by kernel_rfl)
        case hs=>exact AllReady.nil
        intro K hK
        simp only[vadd11_10]
        have hr6:Row w6 w.heap.size 73 #[sv]:=by
         have hr:=HM4.out.vec.keep z9
         exact (hgr6.block _ hr.lt (fun e=>by have:=HNB.out _ e.symm;omega)).trans hr
        have hc6:w6.cell? ⟨w.heap.size,0,none⟩=some sv:=hr6.cell 0
        have hf6:=hr6.free 0
        have GR6:=Lib.hid hgr6
        have OW6:=Lib.hid hown6
        have LC6:=Lib.hid hloc6
        clear hgr6 hown6 hloc6 hr6
        go_simp
        clear hc6 hf6
        refine hK _ _ ?_
        clear hK K
        try simp only[Act.put,List.setIfInBounds_toArray,List.set_cons_zero,List.set_cons_succ]
        refine wpAny_done (by kernel_rfl) ?_ _
        go_wp2_with fail
        go_roundw
        case rel=>
         obtain ⟨hmid6,hb6⟩:=NewMid.append2 (x:=(pa,pp,pq)) HM4.out (Nat.lt_succ_self _) z9 GR6.out OW6.out LC6.out ⟨HF4.out,HQ0.out,hfit.out⟩
         refine ⟨fa2,fb2,fs ++ [(pa,pp,pq)],_,hpa2,hpb2,Lib.hid hmid6,Lib.hid ?_,hfa2,hfb2,by simp;omega,B4.trans (hb6 w.heap.size (Nat.le_refl _))⟩
         rw[← hmg.out]
         simp[unpart,putV,HQ0.out]
        case measure=>exact Nat.lt_of_lt_of_le hms (by simp only[sliceLen];omega)
       exact AllReady.nil
      exact AllReady.nil
    by_cases hxy:xa<ya
    ·-- the first one's place comes first
     have HXY:=Lib.hid hxy
     have hxd:decide (xa<ya)=true:=decide_eq_true hxy
     have BAL:Below wr.heap.size wr (wr.alloc (.cells #[.int .i64 0,.pointer none] 75)):=(Below.refl _ _).alloc (Nat.le_refl _) _
     have ha3:=cell_keep ha1' BAL
     have hb3:=cell_keep hb1' BAL
     clear BAL
     go_upto_region 6 with fail
     go_quiet (fail)
     obtain ⟨w1,hw1⟩:∃ X,X=((wr.alloc (.cells #[.int .i64 0,.pointer none] 75)).drewN nq):=⟨_,rfl⟩
     rw[← hw1]
     have B1:Below wr.heap.size wr w1:=by rw[hw1];exact Below.drewN_ ((Below.refl _ _).alloc (Nat.le_refl _) _) _
     have hr1:Row w1 wr.heap.size 75 #[.int .i64 0,.pointer none]:=by rw[hw1];exact (Row.new wr _ _).keep (Below.drewN_ (Below.refl _ _) _)
     clear hw1
     obtain ⟨w2,hw2⟩:∃ X,X=w1:=⟨_,rfl⟩
     rw[← hw2]at B1 hr1 ⊢
     have B2:=B1
     have hr2:=hr1
     clear hw2 B1 hr1
     have HRP:Hid (∀ W,Below w2.heap.size w2 W→Row W wr.heap.size 75 #[.int .i64 0,.pointer none]):=Lib.hid fun W h=>hr2.keep h
     have HSZ:Hid (wr.heap.size≤wr.heap.size):=Lib.hid (Nat.le_refl _)
     have KA2:=KA.out
     replace KA:Hid (∀ W,Below w2.heap.size w2 W→W.cell? ⟨ga,oa,none⟩=some (.int .i64 xa)∧W.cell? ⟨ga,oa+1,none⟩=some (.pointer xp)):=Lib.hid fun W h=>KA2 W (below_seq B2 h)
     clear KA2
     have KB2:=KB.out
     replace KB:Hid (∀ W,Below w2.heap.size w2 W→W.cell? ⟨gb,ob,none⟩=some (.int .i64 ya)∧W.cell? ⟨gb,ob+1,none⟩=some (.pointer yp)):=Lib.hid fun W h=>KB2 W (below_seq B2 h)
     clear KB2
     have HAF2:=Lib.hid (HAF.out.keep B2)
     go_upto_region 7 with fail
     refine wp_region_any (by kernel_rfl) ?_
     change wpAny _ _ _ _ _ _ _ (World.drew _)
     obtain ⟨W0,hW0⟩:∃ X,X=(w2).drew:=⟨_,rfl⟩
     rw[← hW0]
     have z0:Below (w2).heap.size (w2) W0:=by rw[hW0];exact Below.drewN_ (Below.refl _ _) 1
     clear hW0
     refine wpAny_take (i:=0) (oi:=vadd7_0) (v:=.slice (some ⟨ga,oa,none⟩) (fa.length+1) ca) rfl (by kernel_rfl) (by kernel_rfl) (by kernel_rfl) (fun _ _ _ h=>h) (Or.inl ⟨by kernel_rfl,?_⟩) ?_
     ·intro w;go_simp<;>first|omega|(intro hh;exfalso;omega)|rfl
     try simp only[Act.put,List.setIfInBounds_toArray,List.set_cons_zero,List.set_cons_succ,vadd7_0]
     refine wpAny_take (i:=1) (oi:=vadd7_1) (v:=.pointer (some ⟨ga,oa,none⟩)) rfl (by kernel_rfl) (by kernel_rfl) (by kernel_rfl) (fun _ _ _ h=>h) (Or.inl ⟨by kernel_rfl,?_⟩) ?_
     ·intro w;go_simp<;>first|omega|(intro hh;exfalso;omega)|rfl
     try simp only[Act.put,List.setIfInBounds_toArray,List.set_cons_zero,List.set_cons_succ,vadd7_1]
     refine wpAny_take (i:=3) (oi:=vadd7_3) (v:=.slice (some ⟨ga,oa,none⟩) (fa.length+1) ca) rfl (by kernel_rfl) (by kernel_rfl) (by kernel_rfl) (fun _ _ _ h=>h) (Or.inl ⟨by kernel_rfl,?_⟩) ?_
     ·intro w;go_simp<;>first|omega|(intro hh;exfalso;omega)|rfl
     try simp only[Act.put,List.setIfInBounds_toArray,List.set_cons_zero,List.set_cons_succ,vadd7_3]
     refine wpAny_take (i:=4) (oi:=vadd7_4) (v:=.slice aa2 fa.length (ca - 1)) rfl (by kernel_rfl) (by kernel_rfl) (by kernel_rfl) (fun _ _ _ h=>h) (Or.inl ⟨by kernel_rfl,?_⟩) ?_
     ·intro w;go_simp<;>first|omega|(intro hh;exfalso;omega)|rfl
     try simp only[Act.put,List.setIfInBounds_toArray,List.set_cons_zero,List.set_cons_succ,vadd7_4]
     refine wpAny_ready (rs:=[2]) (by kernel_rfl) (by simp) ?_
     apply AllReady.cons (o:=vadd7_2) (by kernel_rfl)
     case hs=>exact AllReady.nil
     intro K hK
     simp only[vadd7_2]
     obtain ⟨k0_1,k1_1⟩:=KA.out _ z0
     go_simp
     clear k0_1 k1_1
     refine hK _ _ ?_
     clear hK K
     try simp only[Act.put,List.setIfInBounds_toArray,List.set_cons_zero,List.set_cons_succ]
     refine wpAny_ready (rs:=[5]) (by kernel_rfl) (by simp) ?_
     apply AllReady.cons (o:=vadd7_5) (by kernel_rfl)
     case hs=>exact AllReady.nil
     intro K hK
     simp only[vadd7_5]
     obtain ⟨w9,hw9,hrow9,hb9,hs9,q0,q1,f0,f1⟩:=pstore (HRP.out _ z0) (.int .i64 xa) (.pointer xp)
     have HW9:=Lib.hid hw9
     clear hw9
     go_simp
     rw[← HW9.out]
     clear q0 q1 f0 f1
     refine hK _ _ ?_
     clear hK K
     try simp only[Act.put,List.setIfInBounds_toArray,List.set_cons_zero,List.set_cons_succ]
     refine wpAny_take (i:=6) (oi:=vadd7_6) (v:=.slice aa2 fa.length (ca - 1)) rfl (by kernel_rfl) (by kernel_rfl) (by kernel_rfl) (fun _ _ _ h=>h) (Or.inl ⟨by kernel_rfl,?_⟩) ?_
     ·intro w;go_simp<;>first|omega|(intro hh;exfalso;omega)|rfl
     try simp only[Act.put,List.setIfInBounds_toArray,List.set_cons_zero,List.set_cons_succ,vadd7_6]
     refine wpAny_done (by kernel_rfl) ?_ _
     go_wp2_with fail
     go_meet
     refine ⟨_,_,xq,fa,(ya,yp,yq) :: fb,HPA2,hpb,Lib.hid hrow9,Lib.hid ?_,Lib.hid (hxf.mono (by omega)),Lib.hid ?_,HA2,hfb,by simp at hlen ⊢;omega,by (simp only[sliceLen];omega),B2.trans ((z0.mono B2.size).trans (hb9 _ (Nat.le_refl _)))⟩
     ·exact (HAF2.out.keep z0).off (HRP.out _ z0) hs9
     ·rw[← HMR.out];simp[unpart,mergeV,HXY.out]
    ·by_cases hyx:ya<xa
     ·-- the second one's does
      have HXY:=Lib.hid hxy
      have HYX:=Lib.hid hyx
      have hxd:decide (xa<ya)=false:=decide_eq_false hxy
      have hyd:decide (ya<xa)=true:=decide_eq_true hyx
      have BAL:Below wr.heap.size wr (wr.alloc (.cells #[.int .i64 0,.pointer none] 75)):=(Below.refl _ _).alloc (Nat.le_refl _) _
      have ha3:=cell_keep ha1' BAL
      have hb3:=cell_keep hb1' BAL
      clear BAL
      go_upto_region 6 with fail
      go_quiet (fail)
      obtain ⟨w1,hw1⟩:∃ X,X=((wr.alloc (.cells #[.int .i64 0,.pointer none] 75)).drewN nq):=⟨_,rfl⟩
      rw[← hw1]
      have B1:Below wr.heap.size wr w1:=by rw[hw1];exact Below.drewN_ ((Below.refl _ _).alloc (Nat.le_refl _) _) _
      have hr1:Row w1 wr.heap.size 75 #[.int .i64 0,.pointer none]:=by rw[hw1];exact (Row.new wr _ _).keep (Below.drewN_ (Below.refl _ _) _)
      clear hw1
      have ha1'':=cell_keep ha1' B1
      have hb1'':=cell_keep hb1' B1
      go_upto_region 8 with fail
      go_quiet (fail)
      obtain ⟨w2,hw2⟩:∃ X,X=w1.drewN nq:=⟨_,rfl⟩
      rw[← hw2]
      have B2:Below wr.heap.size wr w2:=by rw[hw2];exact Below.drewN_ B1 _
      have hr2:Row w2 wr.heap.size 75 #[.int .i64 0,.pointer none]:=by rw[hw2];exact hr1.keep (Below.drewN_ (Below.refl _ _) _)
      clear hw2 hr1 B1
      have HRP:Hid (∀ W,Below w2.heap.size w2 W→Row W wr.heap.size 75 #[.int .i64 0,.pointer none]):=Lib.hid fun W h=>hr2.keep h
      have HSZ:Hid (wr.heap.size≤wr.heap.size):=Lib.hid (Nat.le_refl _)
      have KA2:=KA.out
      replace KA:Hid (∀ W,Below w2.heap.size w2 W→W.cell? ⟨ga,oa,none⟩=some (.int .i64 xa)∧W.cell? ⟨ga,oa+1,none⟩=some (.pointer xp)):=Lib.hid fun W h=>KA2 W (below_seq B2 h)
      clear KA2
      have KB2:=KB.out
      replace KB:Hid (∀ W,Below w2.heap.size w2 W→W.cell? ⟨gb,ob,none⟩=some (.int .i64 ya)∧W.cell? ⟨gb,ob+1,none⟩=some (.pointer yp)):=Lib.hid fun W h=>KB2 W (below_seq B2 h)
      clear KB2
      have KM2:=KM.out
      replace KM:Hid (∀ W,Below w2.heap.size w2 W→Calls Tryz.prog 46 #[.pointer bk,.pointer yp] W (Gives (fun x w'=>FracPtr w' x (k*yq)) W)):=Lib.hid fun W h=>KM2 W (below_seq B2 h)
      clear KM2
      have HAF2:=Lib.hid (HAF.out.keep B2)
      go_upto_region 9 with fail
      refine wp_region_any (by kernel_rfl) ?_
      change wpAny _ _ _ _ _ _ _ (World.drew _)
      obtain ⟨W0,hW0⟩:∃ X,X=(w2).drew:=⟨_,rfl⟩
      rw[← hW0]
      have z0:Below (w2).heap.size (w2) W0:=by rw[hW0];exact Below.drewN_ (Below.refl _ _) 1
      clear hW0
      refine wpAny_take (i:=0) (oi:=vadd9_0) (v:=.slice (some ⟨gb,ob,none⟩) (fb.length+1) cb) rfl (by kernel_rfl) (by kernel_rfl) (by kernel_rfl) (fun _ _ _ h=>h) (Or.inl ⟨by kernel_rfl,?_⟩) ?_
      ·intro w;go_simp<;>first|omega|(intro hh;exfalso;omega)|rfl
      try simp only[Act.put,List.setIfInBounds_toArray,List.set_cons_zero,List.set_cons_succ,vadd9_0]
      refine wpAny_take (i:=1) (oi:=vadd9_1) (v:=.pointer (some ⟨gb,ob,none⟩)) rfl (by kernel_rfl) (by kernel_rfl) (by kernel_rfl) (fun _ _ _ h=>h) (Or.inl ⟨by kernel_rfl,?_⟩) ?_
      ·intro w;go_simp<;>first|omega|(intro hh;exfalso;omega)|rfl
      try simp only[Act.put,List.setIfInBounds_toArray,List.set_cons_zero,List.set_cons_succ,vadd9_1]
      refine wpAny_take (i:=2) (oi:=vadd9_2) (v:=.pointer (some ⟨gb,ob,none⟩)) rfl (by kernel_rfl) (by kernel_rfl) (by kernel_rfl) (fun _ _ _ h=>h) (Or.inl ⟨by kernel_rfl,?_⟩) ?_
      ·intro w;go_simp<;>first|omega|(intro hh;exfalso;omega)|rfl
      try simp only[Act.put,List.setIfInBounds_toArray,List.set_cons_zero,List.set_cons_succ,vadd9_2]
      refine wpAny_take (i:=4) (oi:=vadd9_4) (v:=.pointer bk) rfl (by kernel_rfl) (by kernel_rfl) (by kernel_rfl) (fun _ _ _ h=>h) (Or.inl ⟨by kernel_rfl,?_⟩) ?_
      ·intro w;go_simp<;>first|omega|(intro hh;exfalso;omega)|rfl
      try simp only[Act.put,List.setIfInBounds_toArray,List.set_cons_zero,List.set_cons_succ,vadd9_4]
      refine wpAny_take (i:=5) (oi:=vadd9_5) (v:=.slice (some ⟨gb,ob,none⟩) (fb.length+1) cb) rfl (by kernel_rfl) (by kernel_rfl) (by kernel_rfl) (fun _ _ _ h=>h) (Or.inl ⟨by kernel_rfl,?_⟩) ?_
      ·intro w;go_simp<;>first|omega|(intro hh;exfalso;omega)|rfl
      try simp only[Act.put,List.setIfInBounds_toArray,List.set_cons_zero,List.set_cons_succ,vadd9_5]
      refine wpAny_take (i:=6) (oi:=vadd9_6) (v:=.pointer (some ⟨gb,ob,none⟩)) rfl (by kernel_rfl) (by kernel_rfl) (by kernel_rfl) (fun _ _ _ h=>h) (Or.inl ⟨by kernel_rfl,?_⟩) ?_
      ·intro w;go_simp<;>first|omega|(intro hh;exfalso;omega)|rfl
      try simp only[Act.put,List.setIfInBounds_toArray,List.set_cons_zero,List.set_cons_succ,vadd9_6]
      refine wpAny_take (i:=7) (oi:=vadd9_7) (v:=.pointer (some ⟨gb,ob+1,none⟩)) rfl (by kernel_rfl) (by kernel_rfl) (by kernel_rfl) (fun _ _ _ h=>h) (Or.inl ⟨by kernel_rfl,?_⟩) ?_
      ·intro w;go_simp<;>first|omega|(intro hh;exfalso;omega)|rfl
      try simp only[Act.put,List.setIfInBounds_toArray,List.set_cons_zero,List.set_cons_succ,vadd9_7]
      refine wpAny_take (i:=11) (oi:=vadd9_11) (v:=.slice (some ⟨gb,ob,none⟩) (fb.length+1) cb) rfl (by kernel_rfl) (by kernel_rfl) (by kernel_rfl) (fun _ _ _ h=>h) (Or.inl ⟨by kernel_rfl,?_⟩) ?_
      ·intro w;go_simp<;>first|omega|(intro hh;exfalso;omega)|rfl
      try simp only[Act.put,List.setIfInBounds_toArray,List.set_cons_zero,List.set_cons_succ,vadd9_11]
      refine wpAny_take (i:=12) (oi:=vadd9_12) (v:=.slice ab2 fb.length (cb - 1)) rfl (by kernel_rfl) (by kernel_rfl) (by kernel_rfl) (fun _ _ _ h=>h) (Or.inl ⟨by kernel_rfl,?_⟩) ?_
      ·intro w;go_simp<;>first|omega|(intro hh;exfalso;omega)|rfl
      try simp only[Act.put,List.setIfInBounds_toArray,List.set_cons_zero,List.set_cons_succ,vadd9_12]
      refine wpAny_ready (rs:=[3,8]) (by kernel_rfl) (by simp) ?_
      apply AllReady.cons (o:=vadd9_3) (by kernel_rfl)
      case h=>
       intro K hK
       simp only[vadd9_3]
       obtain ⟨k0_1,k1_1⟩:=KB.out _ z0
       go_simp
       clear k0_1 k1_1
       refine hK _ _ ?_
       clear hK K
       try simp only[Act.put,List.setIfInBounds_toArray,List.set_cons_zero,List.set_cons_succ]
       refine wpAny_ready (rs:=[8]) (by kernel_rfl) (by simp) ?_
       apply AllReady.cons (o:=vadd9_8) (by kernel_rfl)
       case hs=>exact AllReady.nil
       intro K hK
       simp only[vadd9_8]
       obtain ⟨k0_2,k1_2⟩:=KB.out _ z0
       go_simp
       clear k0_2 k1_2
       refine hK _ _ ?_
       clear hK K
       try simp only[Act.put,List.setIfInBounds_toArray,List.set_cons_zero,List.set_cons_succ]
       refine wpAny_ready (rs:=[9]) (by kernel_rfl) (by simp) ?_
       apply AllReady.cons (o:=vadd9_9) (by kernel_rfl)
       case hs=>exact AllReady.nil
       intro K hK
       simp only[vadd9_9]
       go_simp
       go_at_call 46
       refine (KM.out _ z0).mono ?_
       rintro e W3 ⟨x3,rfl,hx3,b3⟩
       obtain ⟨p3,e3⟩:∃ bz,x3=.pointer bz:=by
        obtain ⟨bz,_,_,h,_⟩:=hx3
        exact ⟨_,h⟩
       subst e3
       have z3:=below_seq z0 b3
       refine hK _ _ ?_
       clear hK K
       try simp only[Act.put,List.setIfInBounds_toArray,List.set_cons_zero,List.set_cons_succ]
       refine wpAny_take (i:=10) (oi:=vadd9_10) (v:=.agg #[.int .i64 ya,.pointer p3]) rfl (by kernel_rfl) (by kernel_rfl) (by kernel_rfl) (fun _ _ _ h=>h) (Or.inl ⟨by kernel_rfl,?_⟩) ?_
       ·intro w;go_simp<;>first|omega|(intro hh;exfalso;omega)|rfl
       try simp only[Act.put,List.setIfInBounds_toArray,List.set_cons_zero,List.set_cons_succ,vadd9_10]
       refine wpAny_ready (rs:=[13]) (by kernel_rfl) (by simp) ?_
       apply AllReady.cons (o:=vadd9_13) (by kernel_rfl)
       case hs=>exact AllReady.nil
       intro K hK
       simp only[vadd9_13]
       obtain ⟨w9,hw9,hrow9,hb9,hs9,q0,q1,f0,f1⟩:=pstore (HRP.out _ z3) (.int .i64 ya) (.pointer p3)
       have HW9:=Lib.hid hw9
       clear hw9
       go_simp
       rw[← HW9.out]
       clear q0 q1 f0 f1
       refine hK _ _ ?_
       clear hK K
       try simp only[Act.put,List.setIfInBounds_toArray,List.set_cons_zero,List.set_cons_succ]
       refine wpAny_take (i:=14) (oi:=vadd9_14) (v:=.slice ab2 fb.length (cb - 1)) rfl (by kernel_rfl) (by kernel_rfl) (by kernel_rfl) (fun _ _ _ h=>h) (Or.inl ⟨by kernel_rfl,?_⟩) ?_
       ·intro w;go_simp<;>first|omega|(intro hh;exfalso;omega)|rfl
       try simp only[Act.put,List.setIfInBounds_toArray,List.set_cons_zero,List.set_cons_succ,vadd9_14]
       refine wpAny_done (by kernel_rfl) ?_ _
       go_wp2_with fail
       go_meet
       refine ⟨_,_,(k*yq),(xa,xp,xq) :: fa,fb,hpa,HPB2,Lib.hid hrow9,Lib.hid ?_,Lib.hid (hmf.mono (by omega)),Lib.hid ?_,hfa,HB2,by simp at hlen ⊢;omega,by (simp only[sliceLen];omega),B2.trans ((z3.mono B2.size).trans (hb9 _ (Nat.le_refl _)))⟩
       ·exact (hx3).off (HRP.out _ z3) hs9
       ·rw[← HMR.out];simp[unpart,mergeV,Int.not_lt.2 HXY.out,HYX.out]
      apply AllReady.cons (o:=vadd9_8) (by kernel_rfl)
      case h=>
       intro K hK
       simp only[vadd9_8]
       obtain ⟨k0_5,k1_5⟩:=KB.out _ z0
       go_simp
       clear k0_5 k1_5
       refine hK _ _ ?_
       clear hK K
       try simp only[Act.put,List.setIfInBounds_toArray,List.set_cons_zero,List.set_cons_succ]
       refine wpAny_ready (rs:=[3,9]) (by kernel_rfl) (by simp) ?_
       apply AllReady.cons (o:=vadd9_3) (by kernel_rfl)
       case h=>
        intro K hK
        simp only[vadd9_3]
        obtain ⟨k0_6,k1_6⟩:=KB.out _ z0
        go_simp
        clear k0_6 k1_6
        refine hK _ _ ?_
        clear hK K
        try simp only[Act.put,List.setIfInBounds_toArray,List.set_cons_zero,List.set_cons_succ]
        refine wpAny_ready (rs:=[9]) (by kernel_rfl) (by simp) ?_
        apply AllReady.cons (o:=vadd9_9) (by kernel_rfl)
        case hs=>exact AllReady.nil
        intro K hK
        simp only[vadd9_9]
        go_simp
        go_at_call 46
        refine (KM.out _ z0).mono ?_
        rintro e W7 ⟨x7,rfl,hx7,b7⟩
        obtain ⟨p7,e7⟩:∃ bz,x7=.pointer bz:=by
         obtain ⟨bz,_,_,h,_⟩:=hx7
         exact ⟨_,h⟩
        subst e7
        have z7:=below_seq z0 b7
        refine hK _ _ ?_
        clear hK K
        try simp only[Act.put,List.setIfInBounds_toArray,List.set_cons_zero,List.set_cons_succ]
        refine wpAny_take (i:=10) (oi:=vadd9_10) (v:=.agg #[.int .i64 ya,.pointer p7]) rfl (by kernel_rfl) (by kernel_rfl) (by kernel_rfl) (fun _ _ _ h=>h) (Or.inl ⟨by kernel_rfl,?_⟩) ?_
        ·intro w;go_simp<;>first|omega|(intro hh;exfalso;omega)|rfl
        try simp only[Act.put,List.setIfInBounds_toArray,List.set_cons_zero,List.set_cons_succ,vadd9_10]
        refine wpAny_ready (rs:=[13]) (by kernel_rfl) (by simp) ?_
        apply AllReady.cons (o:=vadd9_13) (by kernel_rfl)
        case hs=>exact AllReady.nil
        intro K hK
        simp only[vadd9_13]
        obtain ⟨w9,hw9,hrow9,hb9,hs9,q0,q1,f0,f1⟩:=pstore (HRP.out _ z7) (.int .i64 ya) (.pointer p7)
        have HW9:=Lib.hid hw9
        clear hw9
        go_simp
        rw[← HW9.out]
        clear q0 q1 f0 f1
        refine hK _ _ ?_
        clear hK K
        try simp only[Act.put,List.setIfInBounds_toArray,List.set_cons_zero,List.set_cons_succ]
        refine wpAny_take (i:=14) (oi:=vadd9_14) (v:=.slice ab2 fb.length (cb - 1)) rfl (by kernel_rfl) (by kernel_rfl) (by kernel_rfl) (fun _ _ _ h=>h) (Or.inl ⟨by kernel_rfl,?_⟩) ?_
        ·intro w;go_simp<;>first|omega|(intro hh;exfalso;omega)|rfl
        try simp only[Act.put,List.setIfInBounds_toArray,List.set_cons_zero,List.set_cons_succ,vadd9_14]
        refine wpAny_done (by kernel_rfl) ?_ _
        go_wp2_with fail
        go_meet
        refine ⟨_,_,(k*yq),(xa,xp,xq) :: fa,fb,hpa,HPB2,Lib.hid hrow9,Lib.hid ?_,Lib.hid (hmf.mono (by omega)),Lib.hid ?_,hfa,HB2,by simp at hlen ⊢;omega,by (simp only[sliceLen];omega),B2.trans ((z7.mono B2.size).trans (hb9 _ (Nat.le_refl _)))⟩
        ·exact (hx7).off (HRP.out _ z7) hs9
        ·rw[← HMR.out];simp[unpart,mergeV,Int.not_lt.2 HXY.out,HYX.out]
       apply AllReady.cons (o:=vadd9_9) (by kernel_rfl)
       case h=>
        intro K hK
        simp only[vadd9_9]
        go_simp
        go_at_call 46
        refine (KM.out _ z0).mono ?_
        rintro e W9 ⟨x9,rfl,hx9,b9⟩
        obtain ⟨p9,e9⟩:∃ bz,x9=.pointer bz:=by
         obtain ⟨bz,_,_,h,_⟩:=hx9
         exact ⟨_,h⟩
        subst e9
        have z9:=below_seq z0 b9
        refine hK _ _ ?_
        clear hK K
        try simp only[Act.put,List.setIfInBounds_toArray,List.set_cons_zero,List.set_cons_succ]
        refine wpAny_ready (rs:=[3]) (by kernel_rfl) (by simp) ?_
        apply AllReady.cons (o:=vadd9_3) (by kernel_rfl)
        case hs=>exact AllReady.nil
        intro K hK
        simp only[vadd9_3]
        obtain ⟨k0_10,k1_10⟩:=KB.out _ z9
        go_simp
        clear k0_10 k1_10
        refine hK _ _ ?_
        clear hK K
        try simp only[Act.put,List.setIfInBounds_toArray,List.set_cons_zero,List.set_cons_succ]
        refine wpAny_take (i:=10) (oi:=vadd9_10) (v:=.agg #[.int .i64 ya,.pointer p9]) rfl (by kernel_rfl) (by kernel_rfl) (by kernel_rfl) (fun _ _ _ h=>h) (Or.inl ⟨by kernel_rfl,?_⟩) ?_
        ·intro w;go_simp<;>first|omega|(intro hh;exfalso;omega)|rfl
        try simp only[Act.put,List.setIfInBounds_toArray,List.set_cons_zero,List.set_cons_succ,vadd9_10]
        refine wpAny_ready (rs:=[13]) (by kernel_rfl) (by simp) ?_
        apply AllReady.cons (o:=vadd9_13) (by kernel_rfl)
        case hs=>exact AllReady.nil
        intro K hK
        simp only[vadd9_13]
        obtain ⟨w9,hw9,hrow9,hb9,hs9,q0,q1,f0,f1⟩:=pstore (HRP.out _ z9) (.int .i64 ya) (.pointer p9)
        have HW9:=Lib.hid hw9
        clear hw9
        go_simp
        rw[← HW9.out]
        clear q0 q1 f0 f1
        refine hK _ _ ?_
        clear hK K
        try simp only[Act.put,List.setIfInBounds_toArray,List.set_cons_zero,List.set_cons_succ]
        refine wpAny_take (i:=14) (oi:=vadd9_14) (v:=.slice ab2 fb.length (cb - 1)) rfl (by kernel_rfl) (by kernel_rfl) (by kernel_rfl) (fun _ _ _ h=>h) (Or.inl ⟨by kernel_rfl,?_⟩) ?_
        ·intro w;go_simp<;>first|omega|(intro hh;exfalso;omega)|rfl
        try simp only[Act.put,List.setIfInBounds_toArray,List.set_cons_zero,List.set_cons_succ,vadd9_14]
        refine wpAny_done (by kernel_rfl) ?_ _
        go_wp2_with fail
        go_meet
        refine ⟨_,_,(k*yq),(xa,xp,xq) :: fa,fb,hpa,HPB2,Lib.hid hrow9,Lib.hid ?_,Lib.hid (hmf.mono (by omega)),Lib.hid ?_,hfa,HB2,by simp at hlen ⊢;omega,by (simp only[sliceLen];omega),B2.trans ((z9.mono B2.size).trans (hb9 _ (Nat.le_refl _)))⟩
        ·exact (hx9).off (HRP.out _ z9) hs9
        ·rw[← HMR.out];simp[unpart,mergeV,Int.not_lt.2 HXY.out,HYX.out]
       exact AllReady.nil
      exact AllReady.nil
     ·-- the same place
      have HXY:=Lib.hid hxy
      have HYX:=Lib.hid hyx
      have hxd:decide (xa<ya)=false:=decide_eq_false hxy
      have hyd:decide (ya<xa)=false:=decide_eq_false hyx
      have BAL:Below wr.heap.size wr (wr.alloc (.cells #[.int .i64 0,.pointer none] 75)):=(Below.refl _ _).alloc (Nat.le_refl _) _
      have ha3:=cell_keep ha1' BAL
      have hb3:=cell_keep hb1' BAL
      clear BAL
      go_upto_region 6 with fail
      go_quiet (fail)
      obtain ⟨w1,hw1⟩:∃ X,X=((wr.alloc (.cells #[.int .i64 0,.pointer none] 75)).drewN nq):=⟨_,rfl⟩
      rw[← hw1]
      have B1:Below wr.heap.size wr w1:=by rw[hw1];exact Below.drewN_ ((Below.refl _ _).alloc (Nat.le_refl _) _) _
      have hr1:Row w1 wr.heap.size 75 #[.int .i64 0,.pointer none]:=by rw[hw1];exact (Row.new wr _ _).keep (Below.drewN_ (Below.refl _ _) _)
      clear hw1
      have ha1'':=cell_keep ha1' B1
      have hb1'':=cell_keep hb1' B1
      go_upto_region 8 with fail
      go_quiet (fail)
      obtain ⟨w2,hw2⟩:∃ X,X=w1.drewN nq:=⟨_,rfl⟩
      rw[← hw2]
      have B2:Below wr.heap.size wr w2:=by rw[hw2];exact Below.drewN_ B1 _
      have hr2:Row w2 wr.heap.size 75 #[.int .i64 0,.pointer none]:=by rw[hw2];exact hr1.keep (Below.drewN_ (Below.refl _ _) _)
      clear hw2 hr1 B1
      have HRP:Hid (∀ W,Below w2.heap.size w2 W→Row W wr.heap.size 75 #[.int .i64 0,.pointer none]):=Lib.hid fun W h=>hr2.keep h
      have HSZ:Hid (wr.heap.size≤wr.heap.size):=Lib.hid (Nat.le_refl _)
      have KA2:=KA.out
      replace KA:Hid (∀ W,Below w2.heap.size w2 W→W.cell? ⟨ga,oa,none⟩=some (.int .i64 xa)∧W.cell? ⟨ga,oa+1,none⟩=some (.pointer xp)):=Lib.hid fun W h=>KA2 W (below_seq B2 h)
      clear KA2
      have KB2:=KB.out
      replace KB:Hid (∀ W,Below w2.heap.size w2 W→W.cell? ⟨gb,ob,none⟩=some (.int .i64 ya)∧W.cell? ⟨gb,ob+1,none⟩=some (.pointer yp)):=Lib.hid fun W h=>KB2 W (below_seq B2 h)
      clear KB2
      have KM2:=KM.out
      replace KM:Hid (∀ W,Below w2.heap.size w2 W→Calls Tryz.prog 46 #[.pointer bk,.pointer yp] W (Gives (fun x w'=>FracPtr w' x (k*yq)) W)):=Lib.hid fun W h=>KM2 W (below_seq B2 h)
      clear KM2
      have KD2:=KD.out
      replace KD:Hid (∀ W z,Below w2.heap.size w2 W→FracPtr W z (k*yq)→Calls Tryz.prog 47 #[.pointer xp,z] W (Gives (fun x w'=>FracPtr w' x (xq+k*yq)) W)):=Lib.hid fun W z h hz=>KD2 W z (below_seq B2 h) hz
      clear KD2
      have HAF2:=Lib.hid (HAF.out.keep B2)
      go_upto_region 5 with fail
      refine wp_region_any (by kernel_rfl) ?_
      change wpAny _ _ _ _ _ _ _ (World.drew _)
      obtain ⟨W0,hW0⟩:∃ X,X=(w2).drew:=⟨_,rfl⟩
      rw[← hW0]
      have z0:Below (w2).heap.size (w2) W0:=by rw[hW0];exact Below.drewN_ (Below.refl _ _) 1
      clear hW0
      refine wpAny_take (i:=0) (oi:=vadd5_0) (v:=.slice (some ⟨ga,oa,none⟩) (fa.length+1) ca) rfl (by kernel_rfl) (by kernel_rfl) (by kernel_rfl) (fun _ _ _ h=>h) (Or.inl ⟨by kernel_rfl,?_⟩) ?_
      ·intro w;go_simp<;>first|omega|(intro hh;exfalso;omega)|rfl
      try simp only[Act.put,List.setIfInBounds_toArray,List.set_cons_zero,List.set_cons_succ,vadd5_0]
      refine wpAny_take (i:=1) (oi:=vadd5_1) (v:=.pointer (some ⟨ga,oa,none⟩)) rfl (by kernel_rfl) (by kernel_rfl) (by kernel_rfl) (fun _ _ _ h=>h) (Or.inl ⟨by kernel_rfl,?_⟩) ?_
      ·intro w;go_simp<;>first|omega|(intro hh;exfalso;omega)|rfl
      try simp only[Act.put,List.setIfInBounds_toArray,List.set_cons_zero,List.set_cons_succ,vadd5_1]
      refine wpAny_take (i:=2) (oi:=vadd5_2) (v:=.pointer (some ⟨ga,oa,none⟩)) rfl (by kernel_rfl) (by kernel_rfl) (by kernel_rfl) (fun _ _ _ h=>h) (Or.inl ⟨by kernel_rfl,?_⟩) ?_
      ·intro w;go_simp<;>first|omega|(intro hh;exfalso;omega)|rfl
      try simp only[Act.put,List.setIfInBounds_toArray,List.set_cons_zero,List.set_cons_succ,vadd5_2]
      refine wpAny_take (i:=4) (oi:=vadd5_4) (v:=.slice (some ⟨ga,oa,none⟩) (fa.length+1) ca) rfl (by kernel_rfl) (by kernel_rfl) (by kernel_rfl) (fun _ _ _ h=>h) (Or.inl ⟨by kernel_rfl,?_⟩) ?_
      ·intro w;go_simp<;>first|omega|(intro hh;exfalso;omega)|rfl
      try simp only[Act.put,List.setIfInBounds_toArray,List.set_cons_zero,List.set_cons_succ,vadd5_4]
      refine wpAny_take (i:=5) (oi:=vadd5_5) (v:=.pointer (some ⟨ga,oa,none⟩)) rfl (by kernel_rfl) (by kernel_rfl) (by kernel_rfl) (fun _ _ _ h=>h) (Or.inl ⟨by kernel_rfl,?_⟩) ?_
      ·intro w;go_simp<;>first|omega|(intro hh;exfalso;omega)|rfl
      try simp only[Act.put,List.setIfInBounds_toArray,List.set_cons_zero,List.set_cons_succ,vadd5_5]
      refine wpAny_take (i:=6) (oi:=vadd5_6) (v:=.pointer (some ⟨ga,oa+1,none⟩)) rfl (by kernel_rfl) (by kernel_rfl) (by kernel_rfl) (fun _ _ _ h=>h) (Or.inl ⟨by kernel_rfl,?_⟩) ?_
      ·intro w;go_simp<;>first|omega|(intro hh;exfalso;omega)|rfl
      try simp only[Act.put,List.setIfInBounds_toArray,List.set_cons_zero,List.set_cons_succ,vadd5_6]
      refine wpAny_take (i:=8) (oi:=vadd5_8) (v:=.pointer bk) rfl (by kernel_rfl) (by kernel_rfl) (by kernel_rfl) (fun _ _ _ h=>h) (Or.inl ⟨by kernel_rfl,?_⟩) ?_
      ·intro w;go_simp<;>first|omega|(intro hh;exfalso;omega)|rfl
      try simp only[Act.put,List.setIfInBounds_toArray,List.set_cons_zero,List.set_cons_succ,vadd5_8]
      refine wpAny_take (i:=9) (oi:=vadd5_9) (v:=.slice (some ⟨gb,ob,none⟩) (fb.length+1) cb) rfl (by kernel_rfl) (by kernel_rfl) (by kernel_rfl) (fun _ _ _ h=>h) (Or.inl ⟨by kernel_rfl,?_⟩) ?_
      ·intro w;go_simp<;>first|omega|(intro hh;exfalso;omega)|rfl
      try simp only[Act.put,List.setIfInBounds_toArray,List.set_cons_zero,List.set_cons_succ,vadd5_9]
      refine wpAny_take (i:=10) (oi:=vadd5_10) (v:=.pointer (some ⟨gb,ob,none⟩)) rfl (by kernel_rfl) (by kernel_rfl) (by kernel_rfl) (fun _ _ _ h=>h) (Or.inl ⟨by kernel_rfl,?_⟩) ?_
      ·intro w;go_simp<;>first|omega|(intro hh;exfalso;omega)|rfl
      try simp only[Act.put,List.setIfInBounds_toArray,List.set_cons_zero,List.set_cons_succ,vadd5_10]
      refine wpAny_take (i:=11) (oi:=vadd5_11) (v:=.pointer (some ⟨gb,ob+1,none⟩)) rfl (by kernel_rfl) (by kernel_rfl) (by kernel_rfl) (fun _ _ _ h=>h) (Or.inl ⟨by kernel_rfl,?_⟩) ?_
      ·intro w;go_simp<;>first|omega|(intro hh;exfalso;omega)|rfl
      try simp only[Act.put,List.setIfInBounds_toArray,List.set_cons_zero,List.set_cons_succ,vadd5_11]
      refine wpAny_take (i:=16) (oi:=vadd5_16) (v:=.slice (some ⟨ga,oa,none⟩) (fa.length+1) ca) rfl (by kernel_rfl) (by kernel_rfl) (by kernel_rfl) (fun _ _ _ h=>h) (Or.inl ⟨by kernel_rfl,?_⟩) ?_
      ·intro w;go_simp<;>first|omega|(intro hh;exfalso;omega)|rfl
      try simp only[Act.put,List.setIfInBounds_toArray,List.set_cons_zero,List.set_cons_succ,vadd5_16]
      refine wpAny_take (i:=17) (oi:=vadd5_17) (v:=.slice aa2 fa.length (ca - 1)) rfl (by kernel_rfl) (by kernel_rfl) (by kernel_rfl) (fun _ _ _ h=>h) (Or.inl ⟨by kernel_rfl,?_⟩) ?_
      ·intro w;go_simp<;>first|omega|(intro hh;exfalso;omega)|rfl
      try simp only[Act.put,List.setIfInBounds_toArray,List.set_cons_zero,List.set_cons_succ,vadd5_17]
      refine wpAny_take (i:=18) (oi:=vadd5_18) (v:=.slice (some ⟨gb,ob,none⟩) (fb.length+1) cb) rfl (by kernel_rfl) (by kernel_rfl) (by kernel_rfl) (fun _ _ _ h=>h) (Or.inl ⟨by kernel_rfl,?_⟩) ?_
      ·intro w;go_simp<;>first|omega|(intro hh;exfalso;omega)|rfl
      try simp only[Act.put,List.setIfInBounds_toArray,List.set_cons_zero,List.set_cons_succ,vadd5_18]
      refine wpAny_take (i:=19) (oi:=vadd5_19) (v:=.slice ab2 fb.length (cb - 1)) rfl (by kernel_rfl) (by kernel_rfl) (by kernel_rfl) (fun _ _ _ h=>h) (Or.inl ⟨by kernel_rfl,?_⟩) ?_
      ·intro w;go_simp<;>first|omega|(intro hh;exfalso;omega)|rfl
      try simp only[Act.put,List.setIfInBounds_toArray,List.set_cons_zero,List.set_cons_succ,vadd5_19]
      refine wpAny_ready (rs:=[3,7,12]) (by kernel_rfl) (by simp) ?_
      apply AllReady.cons (o:=vadd5_3) (by kernel_rfl)
      case h=>
       intro K hK
       simp only[vadd5_3]
       obtain ⟨k0_1,k1_1⟩:=KA.out _ z0
       go_simp
       clear k0_1 k1_1
       refine hK _ _ ?_
       clear hK K
       try simp only[Act.put,List.setIfInBounds_toArray,List.set_cons_zero,List.set_cons_succ]
       refine wpAny_ready (rs:=[7,12]) (by kernel_rfl) (by simp) ?_
       apply AllReady.cons (o:=vadd5_7) (by kernel_rfl)
       case h=>
        intro K hK
        simp only[vadd5_7]
        obtain ⟨k0_2,k1_2⟩:=KA.out _ z0
        go_simp
        clear k0_2 k1_2
        refine hK _ _ ?_
        clear hK K
        try simp only[Act.put,List.setIfInBounds_toArray,List.set_cons_zero,List.set_cons_succ]
        refine wpAny_ready (rs:=[12]) (by kernel_rfl) (by simp) ?_
        apply AllReady.cons (o:=vadd5_12) (by kernel_rfl)
        case hs=>exact AllReady.nil
        intro K hK
        simp only[vadd5_12]
        obtain ⟨k0_3,k1_3⟩:=KB.out _ z0
        go_simp
        clear k0_3 k1_3
        refine hK _ _ ?_
        clear hK K
        try simp only[Act.put,List.setIfInBounds_toArray,List.set_cons_zero,List.set_cons_succ]
        refine wpAny_ready (rs:=[13]) (by kernel_rfl) (by simp) ?_
        apply AllReady.cons (o:=vadd5_13) (by kernel_rfl)
        case hs=>exact AllReady.nil
        intro K hK
        simp only[vadd5_13]
        go_simp
        go_at_call 46
        refine (KM.out _ z0).mono ?_
        rintro e W4 ⟨x4,rfl,hx4,b4⟩
        obtain ⟨p4,e4⟩:∃ bz,x4=.pointer bz:=by
         obtain ⟨bz,_,_,h,_⟩:=hx4
         exact ⟨_,h⟩
        subst e4
        have z4:=below_seq z0 b4
        refine hK _ _ ?_
        clear hK K
        try simp only[Act.put,List.setIfInBounds_toArray,List.set_cons_zero,List.set_cons_succ]
        refine wpAny_ready (rs:=[14]) (by kernel_rfl) (by simp) ?_
        apply AllReady.cons (o:=vadd5_14) (by kernel_rfl)
        case hs=>exact AllReady.nil
        intro K hK
        simp only[vadd5_14]
        go_simp
        go_at_call 47
        refine (KD.out _ _ z4 hx4).mono ?_
        rintro e W5 ⟨x5,rfl,hx5,b5⟩
        obtain ⟨p5,e5⟩:∃ bz,x5=.pointer bz:=by
         obtain ⟨bz,_,_,h,_⟩:=hx5
         exact ⟨_,h⟩
        subst e5
        have z5:=below_seq z4 b5
        refine hK _ _ ?_
        clear hK K
        try simp only[Act.put,List.setIfInBounds_toArray,List.set_cons_zero,List.set_cons_succ]
        refine wpAny_take (i:=15) (oi:=vadd5_15) (v:=.agg #[.int .i64 xa,.pointer p5]) rfl (by kernel_rfl) (by kernel_rfl) (by kernel_rfl) (fun _ _ _ h=>h) (Or.inl ⟨by kernel_rfl,?_⟩) ?_
        ·intro w;go_simp<;>first|omega|(intro hh;exfalso;omega)|rfl
        try simp only[Act.put,List.setIfInBounds_toArray,List.set_cons_zero,List.set_cons_succ,vadd5_15]
        refine wpAny_ready (rs:=[20]) (by kernel_rfl) (by simp) ?_
        apply AllReady.cons (o:=vadd5_20) (by kernel_rfl)
        case hs=>exact AllReady.nil
        intro K hK
        simp only[vadd5_20]
        obtain ⟨w9,hw9,hrow9,hb9,hs9,q0,q1,f0,f1⟩:=pstore (HRP.out _ z5) (.int .i64 xa) (.pointer p5)
        have HW9:=Lib.hid hw9
        clear hw9
        go_simp
        rw[← HW9.out]
        clear q0 q1 f0 f1
        refine hK _ _ ?_
        clear hK K
        try simp only[Act.put,List.setIfInBounds_toArray,List.set_cons_zero,List.set_cons_succ]
        refine wpAny_take (i:=21) (oi:=vadd5_21) (v:=.slice aa2 fa.length (ca - 1)) rfl (by kernel_rfl) (by kernel_rfl) (by kernel_rfl) (fun _ _ _ h=>h) (Or.inl ⟨by kernel_rfl,?_⟩) ?_
        ·intro w;go_simp<;>first|omega|(intro hh;exfalso;omega)|rfl
        try simp only[Act.put,List.setIfInBounds_toArray,List.set_cons_zero,List.set_cons_succ,vadd5_21]
        refine wpAny_take (i:=22) (oi:=vadd5_22) (v:=.slice ab2 fb.length (cb - 1)) rfl (by kernel_rfl) (by kernel_rfl) (by kernel_rfl) (fun _ _ _ h=>h) (Or.inl ⟨by kernel_rfl,?_⟩) ?_
        ·intro w;go_simp<;>first|omega|(intro hh;exfalso;omega)|rfl
        try simp only[Act.put,List.setIfInBounds_toArray,List.set_cons_zero,List.set_cons_succ,vadd5_22]
        refine wpAny_done (by kernel_rfl) ?_ _
        go_wp2_with fail
        go_meet
        refine ⟨_,_,(xq+k*yq),fa,fb,HPA2,HPB2,Lib.hid hrow9,Lib.hid ?_,Lib.hid haf3,Lib.hid ?_,HA2,HB2,by simp at hlen ⊢;omega,by (simp only[sliceLen];omega),B2.trans ((z5.mono B2.size).trans (hb9 _ (Nat.le_refl _)))⟩
        ·exact (hx5).off (HRP.out _ z5) hs9
        ·rw[← HMR.out];simp[unpart,mergeV,Int.not_lt.2 HXY.out,Int.not_lt.2 HYX.out]
       apply AllReady.cons (o:=vadd5_12) (by kernel_rfl)
       case h=>
        intro K hK
        simp only[vadd5_12]
        obtain ⟨k0_7,k1_7⟩:=KB.out _ z0
        go_simp
        clear k0_7 k1_7
        refine hK _ _ ?_
        clear hK K
        try simp only[Act.put,List.setIfInBounds_toArray,List.set_cons_zero,List.set_cons_succ]
        refine wpAny_ready (rs:=[7,13]) (by kernel_rfl) (by simp) ?_
        apply AllReady.cons (o:=vadd5_7) (by kernel_rfl)
        case h=>
         intro K hK
         simp only[vadd5_7]
         obtain ⟨k0_8,k1_8⟩:=KA.out _ z0
         go_simp
         clear k0_8 k1_8
         refine hK _ _ ?_
         clear hK K
         try simp only[Act.put,List.setIfInBounds_toArray,List.set_cons_zero,List.set_cons_succ]
         refine wpAny_ready (rs:=[13]) (by kernel_rfl) (by simp) ?_
         apply AllReady.cons (o:=vadd5_13) (by kernel_rfl)
         case hs=>exact AllReady.nil
         intro K hK
         simp only[vadd5_13]
         go_simp
         go_at_call 46
         refine (KM.out _ z0).mono ?_
         rintro e W9 ⟨x9,rfl,hx9,b9⟩
         obtain ⟨p9,e9⟩:∃ bz,x9=.pointer bz:=by
          obtain ⟨bz,_,_,h,_⟩:=hx9
          exact ⟨_,h⟩
         subst e9
         have z9:=below_seq z0 b9
         refine hK _ _ ?_
         clear hK K
         try simp only[Act.put,List.setIfInBounds_toArray,List.set_cons_zero,List.set_cons_succ]
         refine wpAny_ready (rs:=[14]) (by kernel_rfl) (by simp) ?_
         apply AllReady.cons (o:=vadd5_14) (by kernel_rfl)
         case hs=>exact AllReady.nil
         intro K hK
         simp only[vadd5_14]
         go_simp
         go_at_call 47
         refine (KD.out _ _ z9 hx9).mono ?_
         rintro e W10 ⟨x10,rfl,hx10,b10⟩
         obtain ⟨p10,e10⟩:∃ bz,x10=.pointer bz:=by
          obtain ⟨bz,_,_,h,_⟩:=hx10
          exact ⟨_,h⟩
         subst e10
         have z10:=below_seq z9 b10
         refine hK _ _ ?_
         clear hK K
         try simp only[Act.put,List.setIfInBounds_toArray,List.set_cons_zero,List.set_cons_succ]
         refine wpAny_take (i:=15) (oi:=vadd5_15) (v:=.agg #[.int .i64 xa,.pointer p10]) rfl (by kernel_rfl) (by kernel_rfl) (by kernel_rfl) (fun _ _ _ h=>h) (Or.inl ⟨by kernel_rfl,?_⟩) ?_
         ·intro w;go_simp<;>first|omega|(intro hh;exfalso;omega)|rfl
         try simp only[Act.put,List.setIfInBounds_toArray,List.set_cons_zero,List.set_cons_succ,vadd5_15]
         refine wpAny_ready (rs:=[20]) (by kernel_rfl) (by simp) ?_
         apply AllReady.cons (o:=vadd5_20) (by kernel_rfl)
         case hs=>exact AllReady.nil
         intro K hK
         simp only[vadd5_20]
         obtain ⟨w9,hw9,hrow9,hb9,hs9,q0,q1,f0,f1⟩:=pstore (HRP.out _ z10) (.int .i64 xa) (.pointer p10)
         have HW9:=Lib.hid hw9
         clear hw9
         go_simp
         rw[← HW9.out]
         clear q0 q1 f0 f1
         refine hK _ _ ?_
         clear hK K
         try simp only[Act.put,List.setIfInBounds_toArray,List.set_cons_zero,List.set_cons_succ]
         refine wpAny_take (i:=21) (oi:=vadd5_21) (v:=.slice aa2 fa.length (ca - 1)) rfl (by kernel_rfl) (by kernel_rfl) (by kernel_rfl) (fun _ _ _ h=>h) (Or.inl ⟨by kernel_rfl,?_⟩) ?_
         ·intro w;go_simp<;>first|omega|(intro hh;exfalso;omega)|rfl
         try simp only[Act.put,List.setIfInBounds_toArray,List.set_cons_zero,List.set_cons_succ,vadd5_21]
         refine wpAny_take (i:=22) (oi:=vadd5_22) (v:=.slice ab2 fb.length (cb - 1)) rfl (by kernel_rfl) (by kernel_rfl) (by kernel_rfl) (fun _ _ _ h=>h) (Or.inl ⟨by kernel_rfl,?_⟩) ?_
         ·intro w;go_simp<;>first|omega|(intro hh;exfalso;omega)|rfl
         try simp only[Act.put,List.setIfInBounds_toArray,List.set_cons_zero,List.set_cons_succ,vadd5_22]
         refine wpAny_done (by kernel_rfl) ?_ _
         go_wp2_with fail
         go_meet
         refine ⟨_,_,(xq+k*yq),fa,fb,HPA2,HPB2,Lib.hid hrow9,Lib.hid ?_,Lib.hid haf3,Lib.hid ?_,HA2,HB2,by simp at hlen ⊢;omega,by (simp only[sliceLen];omega),B2.trans ((z10.mono B2.size).trans (hb9 _ (Nat.le_refl _)))⟩
         ·exact (hx10).off (HRP.out _ z10) hs9
         ·rw[← HMR.out];simp[unpart,mergeV,Int.not_lt.2 HXY.out,Int.not_lt.2 HYX.out]
        apply AllReady.cons (o:=vadd5_13) (by kernel_rfl)
        case h=>
         intro K hK
         simp only[vadd5_13]
         go_simp
         go_at_call 46
         refine (KM.out _ z0).mono ?_
         rintro e W12 ⟨x12,rfl,hx12,b12⟩
         obtain ⟨p12,e12⟩:∃ bz,x12=.pointer bz:=by
          obtain ⟨bz,_,_,h,_⟩:=hx12
          exact ⟨_,h⟩
         subst e12
         have z12:=below_seq z0 b12
         refine hK _ _ ?_
         clear hK K
         try simp only[Act.put,List.setIfInBounds_toArray,List.set_cons_zero,List.set_cons_succ]
         refine wpAny_ready (rs:=[7]) (by kernel_rfl) (by simp) ?_
         apply AllReady.cons (o:=vadd5_7) (by kernel_rfl)
         case hs=>exact AllReady.nil
         intro K hK
         simp only[vadd5_7]
         obtain ⟨k0_13,k1_13⟩:=KA.out _ z12
         go_simp
         clear k0_13 k1_13
         refine hK _ _ ?_
         clear hK K
         try simp only[Act.put,List.setIfInBounds_toArray,List.set_cons_zero,List.set_cons_succ]
         refine wpAny_ready (rs:=[14]) (by kernel_rfl) (by simp) ?_
         apply AllReady.cons (o:=vadd5_14) (by kernel_rfl)
         case hs=>exact AllReady.nil
         intro K hK
         simp only[vadd5_14]
         go_simp
         go_at_call 47
         refine (KD.out _ _ z12 hx12).mono ?_
         rintro e W14 ⟨x14,rfl,hx14,b14⟩
         obtain ⟨p14,e14⟩:∃ bz,x14=.pointer bz:=by
          obtain ⟨bz,_,_,h,_⟩:=hx14
          exact ⟨_,h⟩
         subst e14
         have z14:=below_seq z12 b14
         refine hK _ _ ?_
         clear hK K
         try simp only[Act.put,List.setIfInBounds_toArray,List.set_cons_zero,List.set_cons_succ]
         refine wpAny_take (i:=15) (oi:=vadd5_15) (v:=.agg #[.int .i64 xa,.pointer p14]) rfl (by kernel_rfl) (by kernel_rfl) (by kernel_rfl) (fun _ _ _ h=>h) (Or.inl ⟨by kernel_rfl,?_⟩) ?_
         ·intro w;go_simp<;>first|omega|(intro hh;exfalso;omega)|rfl
         try simp only[Act.put,List.setIfInBounds_toArray,List.set_cons_zero,List.set_cons_succ,vadd5_15]
         refine wpAny_ready (rs:=[20]) (by kernel_rfl) (by simp) ?_
         apply AllReady.cons (o:=vadd5_20) (by kernel_rfl)
         case hs=>exact AllReady.nil
         intro K hK
         simp only[vadd5_20]
         obtain ⟨w9,hw9,hrow9,hb9,hs9,q0,q1,f0,f1⟩:=pstore (HRP.out _ z14) (.int .i64 xa) (.pointer p14)
         have HW9:=Lib.hid hw9
         clear hw9
         go_simp
         rw[← HW9.out]
         clear q0 q1 f0 f1
         refine hK _ _ ?_
         clear hK K
         try simp only[Act.put,List.setIfInBounds_toArray,List.set_cons_zero,List.set_cons_succ]
         refine wpAny_take (i:=21) (oi:=vadd5_21) (v:=.slice aa2 fa.length (ca - 1)) rfl (by kernel_rfl) (by kernel_rfl) (by kernel_rfl) (fun _ _ _ h=>h) (Or.inl ⟨by kernel_rfl,?_⟩) ?_
         ·intro w;go_simp<;>first|omega|(intro hh;exfalso;omega)|rfl
         try simp only[Act.put,List.setIfInBounds_toArray,List.set_cons_zero,List.set_cons_succ,vadd5_21]
         refine wpAny_take (i:=22) (oi:=vadd5_22) (v:=.slice ab2 fb.length (cb - 1)) rfl (by kernel_rfl) (by kernel_rfl) (by kernel_rfl) (fun _ _ _ h=>h) (Or.inl ⟨by kernel_rfl,?_⟩) ?_
         ·intro w;go_simp<;>first|omega|(intro hh;exfalso;omega)|rfl
         try simp only[Act.put,List.setIfInBounds_toArray,List.set_cons_zero,List.set_cons_succ,vadd5_22]
         refine wpAny_done (by kernel_rfl) ?_ _
         go_wp2_with fail
         go_meet
         refine ⟨_,_,(xq+k*yq),fa,fb,HPA2,HPB2,Lib.hid hrow9,Lib.hid ?_,Lib.hid haf3,Lib.hid ?_,HA2,HB2,by simp at hlen ⊢;omega,by (simp only[sliceLen];omega),B2.trans ((z14.mono B2.size).trans (hb9 _ (Nat.le_refl _)))⟩
         ·exact (hx14).off (HRP.out _ z14) hs9
         ·rw[← HMR.out];simp[unpart,mergeV,Int.not_lt.2 HXY.out,Int.not_lt.2 HYX.out]
        exact AllReady.nil
       exact AllReady.nil
      apply AllReady.cons (o:=vadd5_7) (by kernel_rfl)
      case h=>
       intro K hK
       simp only[vadd5_7]
       obtain ⟨k0_16,k1_16⟩:=KA.out _ z0
       go_simp
       clear k0_16 k1_16
       refine hK _ _ ?_
       clear hK K
       try simp only[Act.put,List.setIfInBounds_toArray,List.set_cons_zero,List.set_cons_succ]
       refine wpAny_ready (rs:=[3,12]) (by kernel_rfl) (by simp) ?_
       apply AllReady.cons (o:=vadd5_3) (by kernel_rfl)
       case h=>
        intro K hK
        simp only[vadd5_3]
        obtain ⟨k0_17,k1_17⟩:=KA.out _ z0
        go_simp
        clear k0_17 k1_17
        refine hK _ _ ?_
        clear hK K
        try simp only[Act.put,List.setIfInBounds_toArray,List.set_cons_zero,List.set_cons_succ]
        refine wpAny_ready (rs:=[12]) (by kernel_rfl) (by simp) ?_
        apply AllReady.cons (o:=vadd5_12) (by kernel_rfl)
        case hs=>exact AllReady.nil
        intro K hK
        simp only[vadd5_12]
        obtain ⟨k0_18,k1_18⟩:=KB.out _ z0
        go_simp
        clear k0_18 k1_18
        refine hK _ _ ?_
        clear hK K
        try simp only[Act.put,List.setIfInBounds_toArray,List.set_cons_zero,List.set_cons_succ]
        refine wpAny_ready (rs:=[13]) (by kernel_rfl) (by simp) ?_
        apply AllReady.cons (o:=vadd5_13) (by kernel_rfl)
        case hs=>exact AllReady.nil
        intro K hK
        simp only[vadd5_13]
        go_simp
        go_at_call 46
        refine (KM.out _ z0).mono ?_
        rintro e W19 ⟨x19,rfl,hx19,b19⟩
        obtain ⟨p19,e19⟩:∃ bz,x19=.pointer bz:=by
         obtain ⟨bz,_,_,h,_⟩:=hx19
         exact ⟨_,h⟩
        subst e19
        have z19:=below_seq z0 b19
        refine hK _ _ ?_
        clear hK K
        try simp only[Act.put,List.setIfInBounds_toArray,List.set_cons_zero,List.set_cons_succ]
        refine wpAny_ready (rs:=[14]) (by kernel_rfl) (by simp) ?_
        apply AllReady.cons (o:=vadd5_14) (by kernel_rfl)
        case hs=>exact AllReady.nil
        intro K hK
        simp only[vadd5_14]
        go_simp
        go_at_call 47
        refine (KD.out _ _ z19 hx19).mono ?_
        rintro e W20 ⟨x20,rfl,hx20,b20⟩
        obtain ⟨p20,e20⟩:∃ bz,x20=.pointer bz:=by
         obtain ⟨bz,_,_,h,_⟩:=hx20
         exact ⟨_,h⟩
        subst e20
        have z20:=below_seq z19 b20
        refine hK _ _ ?_
        clear hK K
        try simp only[Act.put,List.setIfInBounds_toArray,List.set_cons_zero,List.set_cons_succ]
        refine wpAny_take (i:=15) (oi:=vadd5_15) (v:=.agg #[.int .i64 xa,.pointer p20]) rfl (by kernel_rfl) (by kernel_rfl) (by kernel_rfl) (fun _ _ _ h=>h) (Or.inl ⟨by kernel_rfl,?_⟩) ?_
        ·intro w;go_simp<;>first|omega|(intro hh;exfalso;omega)|rfl
        try simp only[Act.put,List.setIfInBounds_toArray,List.set_cons_zero,List.set_cons_succ,vadd5_15]
        refine wpAny_ready (rs:=[20]) (by kernel_rfl) (by simp) ?_
        apply AllReady.cons (o:=vadd5_20) (by kernel_rfl)
        case hs=>exact AllReady.nil
        intro K hK
        simp only[vadd5_20]
        obtain ⟨w9,hw9,hrow9,hb9,hs9,q0,q1,f0,f1⟩:=pstore (HRP.out _ z20) (.int .i64 xa) (.pointer p20)
        have HW9:=Lib.hid hw9
        clear hw9
        go_simp
        rw[← HW9.out]
        clear q0 q1 f0 f1
        refine hK _ _ ?_
        clear hK K
        try simp only[Act.put,List.setIfInBounds_toArray,List.set_cons_zero,List.set_cons_succ]
        refine wpAny_take (i:=21) (oi:=vadd5_21) (v:=.slice aa2 fa.length (ca - 1)) rfl (by kernel_rfl) (by kernel_rfl) (by kernel_rfl) (fun _ _ _ h=>h) (Or.inl ⟨by kernel_rfl,?_⟩) ?_
        ·intro w;go_simp<;>first|omega|(intro hh;exfalso;omega)|rfl
        try simp only[Act.put,List.setIfInBounds_toArray,List.set_cons_zero,List.set_cons_succ,vadd5_21]
        refine wpAny_take (i:=22) (oi:=vadd5_22) (v:=.slice ab2 fb.length (cb - 1)) rfl (by kernel_rfl) (by kernel_rfl) (by kernel_rfl) (fun _ _ _ h=>h) (Or.inl ⟨by kernel_rfl,?_⟩) ?_
        ·intro w;go_simp<;>first|omega|(intro hh;exfalso;omega)|rfl
        try simp only[Act.put,List.setIfInBounds_toArray,List.set_cons_zero,List.set_cons_succ,vadd5_22]
        refine wpAny_done (by kernel_rfl) ?_ _
        go_wp2_with fail
        go_meet
        refine ⟨_,_,(xq+k*yq),fa,fb,HPA2,HPB2,Lib.hid hrow9,Lib.hid ?_,Lib.hid haf3,Lib.hid ?_,HA2,HB2,by simp at hlen ⊢;omega,by (simp only[sliceLen];omega),B2.trans ((z20.mono B2.size).trans (hb9 _ (Nat.le_refl _)))⟩
        ·exact (hx20).off (HRP.out _ z20) hs9
        ·rw[← HMR.out];simp[unpart,mergeV,Int.not_lt.2 HXY.out,Int.not_lt.2 HYX.out]
       apply AllReady.cons (o:=vadd5_12) (by kernel_rfl)
       case h=>
        intro K hK
        simp only[vadd5_12]
        obtain ⟨k0_22,k1_22⟩:=KB.out _ z0
        go_simp
        clear k0_22 k1_22
        refine hK _ _ ?_
        clear hK K
        try simp only[Act.put,List.setIfInBounds_toArray,List.set_cons_zero,List.set_cons_succ]
        refine wpAny_ready (rs:=[3,13]) (by kernel_rfl) (by simp) ?_
        apply AllReady.cons (o:=vadd5_3) (by kernel_rfl)
        case h=>
         intro K hK
         simp only[vadd5_3]
         obtain ⟨k0_23,k1_23⟩:=KA.out _ z0
         go_simp
         clear k0_23 k1_23
         refine hK _ _ ?_
         clear hK K
         try simp only[Act.put,List.setIfInBounds_toArray,List.set_cons_zero,List.set_cons_succ]
         refine wpAny_ready (rs:=[13]) (by kernel_rfl) (by simp) ?_
         apply AllReady.cons (o:=vadd5_13) (by kernel_rfl)
         case hs=>exact AllReady.nil
         intro K hK
         simp only[vadd5_13]
         go_simp
         go_at_call 46
         refine (KM.out _ z0).mono ?_
         rintro e W24 ⟨x24,rfl,hx24,b24⟩
         obtain ⟨p24,e24⟩:∃ bz,x24=.pointer bz:=by
          obtain ⟨bz,_,_,h,_⟩:=hx24
          exact ⟨_,h⟩
         subst e24
         have z24:=below_seq z0 b24
         refine hK _ _ ?_
         clear hK K
         try simp only[Act.put,List.setIfInBounds_toArray,List.set_cons_zero,List.set_cons_succ]
         refine wpAny_ready (rs:=[14]) (by kernel_rfl) (by simp) ?_
         apply AllReady.cons (o:=vadd5_14) (by kernel_rfl)
         case hs=>exact AllReady.nil
         intro K hK
         simp only[vadd5_14]
         go_simp
         go_at_call 47
         refine (KD.out _ _ z24 hx24).mono ?_
         rintro e W25 ⟨x25,rfl,hx25,b25⟩
         obtain ⟨p25,e25⟩:∃ bz,x25=.pointer bz:=by
          obtain ⟨bz,_,_,h,_⟩:=hx25
          exact ⟨_,h⟩
         subst e25
         have z25:=below_seq z24 b25
         refine hK _ _ ?_
         clear hK K
         try simp only[Act.put,List.setIfInBounds_toArray,List.set_cons_zero,List.set_cons_succ]
         refine wpAny_take (i:=15) (oi:=vadd5_15) (v:=.agg #[.int .i64 xa,.pointer p25]) rfl (by kernel_rfl) (by kernel_rfl) (by kernel_rfl) (fun _ _ _ h=>h) (Or.inl ⟨by kernel_rfl,?_⟩) ?_
         ·intro w;go_simp<;>first|omega|(intro hh;exfalso;omega)|rfl
         try simp only[Act.put,List.setIfInBounds_toArray,List.set_cons_zero,List.set_cons_succ,vadd5_15]
         refine wpAny_ready (rs:=[20]) (by kernel_rfl) (by simp) ?_
         apply AllReady.cons (o:=vadd5_20) (by kernel_rfl)
         case hs=>exact AllReady.nil
         intro K hK
         simp only[vadd5_20]
         obtain ⟨w9,hw9,hrow9,hb9,hs9,q0,q1,f0,f1⟩:=pstore (HRP.out _ z25) (.int .i64 xa) (.pointer p25)
         have HW9:=Lib.hid hw9
         clear hw9
         go_simp
         rw[← HW9.out]
         clear q0 q1 f0 f1
         refine hK _ _ ?_
         clear hK K
         try simp only[Act.put,List.setIfInBounds_toArray,List.set_cons_zero,List.set_cons_succ]
         refine wpAny_take (i:=21) (oi:=vadd5_21) (v:=.slice aa2 fa.length (ca - 1)) rfl (by kernel_rfl) (by kernel_rfl) (by kernel_rfl) (fun _ _ _ h=>h) (Or.inl ⟨by kernel_rfl,?_⟩) ?_
         ·intro w;go_simp<;>first|omega|(intro hh;exfalso;omega)|rfl
         try simp only[Act.put,List.setIfInBounds_toArray,List.set_cons_zero,List.set_cons_succ,vadd5_21]
         refine wpAny_take (i:=22) (oi:=vadd5_22) (v:=.slice ab2 fb.length (cb - 1)) rfl (by kernel_rfl) (by kernel_rfl) (by kernel_rfl) (fun _ _ _ h=>h) (Or.inl ⟨by kernel_rfl,?_⟩) ?_
         ·intro w;go_simp<;>first|omega|(intro hh;exfalso;omega)|rfl
         try simp only[Act.put,List.setIfInBounds_toArray,List.set_cons_zero,List.set_cons_succ,vadd5_22]
         refine wpAny_done (by kernel_rfl) ?_ _
         go_wp2_with fail
         go_meet
         refine ⟨_,_,(xq+k*yq),fa,fb,HPA2,HPB2,Lib.hid hrow9,Lib.hid ?_,Lib.hid haf3,Lib.hid ?_,HA2,HB2,by simp at hlen ⊢;omega,by (simp only[sliceLen];omega),B2.trans ((z25.mono B2.size).trans (hb9 _ (Nat.le_refl _)))⟩
         ·exact (hx25).off (HRP.out _ z25) hs9
         ·rw[← HMR.out];simp[unpart,mergeV,Int.not_lt.2 HXY.out,Int.not_lt.2 HYX.out]
        apply AllReady.cons (o:=vadd5_13) (by kernel_rfl)
        case h=>
         intro K hK
         simp only[vadd5_13]
         go_simp
         go_at_call 46
         refine (KM.out _ z0).mono ?_
         rintro e W27 ⟨x27,rfl,hx27,b27⟩
         obtain ⟨p27,e27⟩:∃ bz,x27=.pointer bz:=by
          obtain ⟨bz,_,_,h,_⟩:=hx27
          exact ⟨_,h⟩
         subst e27
         have z27:=below_seq z0 b27
         refine hK _ _ ?_
         clear hK K
         try simp only[Act.put,List.setIfInBounds_toArray,List.set_cons_zero,List.set_cons_succ]
         refine wpAny_ready (rs:=[3,14]) (by kernel_rfl) (by simp) ?_
         apply AllReady.cons (o:=vadd5_3) (by kernel_rfl)
         case h=>
          intro K hK
          simp only[vadd5_3]
          obtain ⟨k0_28,k1_28⟩:=KA.out _ z27
          go_simp
          clear k0_28 k1_28
          refine hK _ _ ?_
          clear hK K
          try simp only[Act.put,List.setIfInBounds_toArray,List.set_cons_zero,List.set_cons_succ]
          refine wpAny_ready (rs:=[14]) (by kernel_rfl) (by simp) ?_
          apply AllReady.cons (o:=vadd5_14) (by kernel_rfl)
          case hs=>exact AllReady.nil
          intro K hK
          simp only[vadd5_14]
          go_simp
          go_at_call 47
          refine (KD.out _ _ z27 hx27).mono ?_
          rintro e W29 ⟨x29,rfl,hx29,b29⟩
          obtain ⟨p29,e29⟩:∃ bz,x29=.pointer bz:=by
           obtain ⟨bz,_,_,h,_⟩:=hx29
           exact ⟨_,h⟩
          subst e29
          have z29:=below_seq z27 b29
          refine hK _ _ ?_
          clear hK K
          try simp only[Act.put,List.setIfInBounds_toArray,List.set_cons_zero,List.set_cons_succ]
          refine wpAny_take (i:=15) (oi:=vadd5_15) (v:=.agg #[.int .i64 xa,.pointer p29]) rfl (by kernel_rfl) (by kernel_rfl) (by kernel_rfl) (fun _ _ _ h=>h) (Or.inl ⟨by kernel_rfl,?_⟩) ?_
          ·intro w;go_simp<;>first|omega|(intro hh;exfalso;omega)|rfl
          try simp only[Act.put,List.setIfInBounds_toArray,List.set_cons_zero,List.set_cons_succ,vadd5_15]
          refine wpAny_ready (rs:=[20]) (by kernel_rfl) (by simp) ?_
          apply AllReady.cons (o:=vadd5_20) (by kernel_rfl)
          case hs=>exact AllReady.nil
          intro K hK
          simp only[vadd5_20]
          obtain ⟨w9,hw9,hrow9,hb9,hs9,q0,q1,f0,f1⟩:=pstore (HRP.out _ z29) (.int .i64 xa) (.pointer p29)
          have HW9:=Lib.hid hw9
          clear hw9
          go_simp
          rw[← HW9.out]
          clear q0 q1 f0 f1
          refine hK _ _ ?_
          clear hK K
          try simp only[Act.put,List.setIfInBounds_toArray,List.set_cons_zero,List.set_cons_succ]
          refine wpAny_take (i:=21) (oi:=vadd5_21) (v:=.slice aa2 fa.length (ca - 1)) rfl (by kernel_rfl) (by kernel_rfl) (by kernel_rfl) (fun _ _ _ h=>h) (Or.inl ⟨by kernel_rfl,?_⟩) ?_
          ·intro w;go_simp<;>first|omega|(intro hh;exfalso;omega)|rfl
          try simp only[Act.put,List.setIfInBounds_toArray,List.set_cons_zero,List.set_cons_succ,vadd5_21]
          refine wpAny_take (i:=22) (oi:=vadd5_22) (v:=.slice ab2 fb.length (cb - 1)) rfl (by kernel_rfl) (by kernel_rfl) (by kernel_rfl) (fun _ _ _ h=>h) (Or.inl ⟨by kernel_rfl,?_⟩) ?_
          ·intro w;go_simp<;>first|omega|(intro hh;exfalso;omega)|rfl
          try simp only[Act.put,List.setIfInBounds_toArray,List.set_cons_zero,List.set_cons_succ,vadd5_22]
          refine wpAny_done (by kernel_rfl) ?_ _
          go_wp2_with fail
          go_meet
          refine ⟨_,_,(xq+k*yq),fa,fb,HPA2,HPB2,Lib.hid hrow9,Lib.hid ?_,Lib.hid haf3,Lib.hid ?_,HA2,HB2,by simp at hlen ⊢;omega,by (simp only[sliceLen];omega),B2.trans ((z29.mono B2.size).trans (hb9 _ (Nat.le_refl _)))⟩
          ·exact (hx29).off (HRP.out _ z29) hs9
          ·rw[← HMR.out];simp[unpart,mergeV,Int.not_lt.2 HXY.out,Int.not_lt.2 HYX.out]
         apply AllReady.cons (o:=vadd5_14) (by kernel_rfl)
         case h=>
          intro K hK
          simp only[vadd5_14]
          go_simp
          go_at_call 47
          refine (KD.out _ _ z27 hx27).mono ?_
          rintro e W31 ⟨x31,rfl,hx31,b31⟩
          obtain ⟨p31,e31⟩:∃ bz,x31=.pointer bz:=by
           obtain ⟨bz,_,_,h,_⟩:=hx31
           exact ⟨_,h⟩
          subst e31
          have z31:=below_seq z27 b31
          refine hK _ _ ?_
          clear hK K
          try simp only[Act.put,List.setIfInBounds_toArray,List.set_cons_zero,List.set_cons_succ]
          refine wpAny_ready (rs:=[3]) (by kernel_rfl) (by simp) ?_
          apply AllReady.cons (o:=vadd5_3) (by kernel_rfl)
          case hs=>exact AllReady.nil
          intro K hK
          simp only[vadd5_3]
          obtain ⟨k0_32,k1_32⟩:=KA.out _ z31
          go_simp
          clear k0_32 k1_32
          refine hK _ _ ?_
          clear hK K
          try simp only[Act.put,List.setIfInBounds_toArray,List.set_cons_zero,List.set_cons_succ]
          refine wpAny_take (i:=15) (oi:=vadd5_15) (v:=.agg #[.int .i64 xa,.pointer p31]) rfl (by kernel_rfl) (by kernel_rfl) (by kernel_rfl) (fun _ _ _ h=>h) (Or.inl ⟨by kernel_rfl,?_⟩) ?_
          ·intro w;go_simp<;>first|omega|(intro hh;exfalso;omega)|rfl
          try simp only[Act.put,List.setIfInBounds_toArray,List.set_cons_zero,List.set_cons_succ,vadd5_15]
          refine wpAny_ready (rs:=[20]) (by kernel_rfl) (by simp) ?_
          apply AllReady.cons (o:=vadd5_20) (by kernel_rfl)
          case hs=>exact AllReady.nil
          intro K hK
          simp only[vadd5_20]
          obtain ⟨w9,hw9,hrow9,hb9,hs9,q0,q1,f0,f1⟩:=pstore (HRP.out _ z31) (.int .i64 xa) (.pointer p31)
          have HW9:=Lib.hid hw9
          clear hw9
          go_simp
          rw[← HW9.out]
          clear q0 q1 f0 f1
          refine hK _ _ ?_
          clear hK K
          try simp only[Act.put,List.setIfInBounds_toArray,List.set_cons_zero,List.set_cons_succ]
          refine wpAny_take (i:=21) (oi:=vadd5_21) (v:=.slice aa2 fa.length (ca - 1)) rfl (by kernel_rfl) (by kernel_rfl) (by kernel_rfl) (fun _ _ _ h=>h) (Or.inl ⟨by kernel_rfl,?_⟩) ?_
          ·intro w;go_simp<;>first|omega|(intro hh;exfalso;omega)|rfl
          try simp only[Act.put,List.setIfInBounds_toArray,List.set_cons_zero,List.set_cons_succ,vadd5_21]
          refine wpAny_take (i:=22) (oi:=vadd5_22) (v:=.slice ab2 fb.length (cb - 1)) rfl (by kernel_rfl) (by kernel_rfl) (by kernel_rfl) (fun _ _ _ h=>h) (Or.inl ⟨by kernel_rfl,?_⟩) ?_
          ·intro w;go_simp<;>first|omega|(intro hh;exfalso;omega)|rfl
          try simp only[Act.put,List.setIfInBounds_toArray,List.set_cons_zero,List.set_cons_succ,vadd5_22]
          refine wpAny_done (by kernel_rfl) ?_ _
          go_wp2_with fail
          go_meet
          refine ⟨_,_,(xq+k*yq),fa,fb,HPA2,HPB2,Lib.hid hrow9,Lib.hid ?_,Lib.hid haf3,Lib.hid ?_,HA2,HB2,by simp at hlen ⊢;omega,by (simp only[sliceLen];omega),B2.trans ((z31.mono B2.size).trans (hb9 _ (Nat.le_refl _)))⟩
          ·exact (hx31).off (HRP.out _ z31) hs9
          ·rw[← HMR.out];simp[unpart,mergeV,Int.not_lt.2 HXY.out,Int.not_lt.2 HYX.out]
         exact AllReady.nil
        exact AllReady.nil
       exact AllReady.nil
      apply AllReady.cons (o:=vadd5_12) (by kernel_rfl)
      case h=>
       intro K hK
       simp only[vadd5_12]
       obtain ⟨k0_34,k1_34⟩:=KB.out _ z0
       go_simp
       clear k0_34 k1_34
       refine hK _ _ ?_
       clear hK K
       try simp only[Act.put,List.setIfInBounds_toArray,List.set_cons_zero,List.set_cons_succ]
       refine wpAny_ready (rs:=[3,7,13]) (by kernel_rfl) (by simp) ?_
       apply AllReady.cons (o:=vadd5_3) (by kernel_rfl)
       case h=>
        intro K hK
        simp only[vadd5_3]
        obtain ⟨k0_35,k1_35⟩:=KA.out _ z0
        go_simp
        clear k0_35 k1_35
        refine hK _ _ ?_
        clear hK K
        try simp only[Act.put,List.setIfInBounds_toArray,List.set_cons_zero,List.set_cons_succ]
        refine wpAny_ready (rs:=[7,13]) (by kernel_rfl) (by simp) ?_
        apply AllReady.cons (o:=vadd5_7) (by kernel_rfl)
        case h=>
         intro K hK
         simp only[vadd5_7]
         obtain ⟨k0_36,k1_36⟩:=KA.out _ z0
         go_simp
         clear k0_36 k1_36
         refine hK _ _ ?_
         clear hK K
         try simp only[Act.put,List.setIfInBounds_toArray,List.set_cons_zero,List.set_cons_succ]
         refine wpAny_ready (rs:=[13]) (by kernel_rfl) (by simp) ?_
         apply AllReady.cons (o:=vadd5_13) (by kernel_rfl)
         case hs=>exact AllReady.nil
         intro K hK
         simp only[vadd5_13]
         go_simp
         go_at_call 46
         refine (KM.out _ z0).mono ?_
         rintro e W37 ⟨x37,rfl,hx37,b37⟩
         obtain ⟨p37,e37⟩:∃ bz,x37=.pointer bz:=by
          obtain ⟨bz,_,_,h,_⟩:=hx37
          exact ⟨_,h⟩
         subst e37
         have z37:=below_seq z0 b37
         refine hK _ _ ?_
         clear hK K
         try simp only[Act.put,List.setIfInBounds_toArray,List.set_cons_zero,List.set_cons_succ]
         refine wpAny_ready (rs:=[14]) (by kernel_rfl) (by simp) ?_
         apply AllReady.cons (o:=vadd5_14) (by kernel_rfl)
         case hs=>exact AllReady.nil
         intro K hK
         simp only[vadd5_14]
         go_simp
         go_at_call 47
         refine (KD.out _ _ z37 hx37).mono ?_
         rintro e W38 ⟨x38,rfl,hx38,b38⟩
         obtain ⟨p38,e38⟩:∃ bz,x38=.pointer bz:=by
          obtain ⟨bz,_,_,h,_⟩:=hx38
          exact ⟨_,h⟩
         subst e38
         have z38:=below_seq z37 b38
         refine hK _ _ ?_
         clear hK K
         try simp only[Act.put,List.setIfInBounds_toArray,List.set_cons_zero,List.set_cons_succ]
         refine wpAny_take (i:=15) (oi:=vadd5_15) (v:=.agg #[.int .i64 xa,.pointer p38]) rfl (by kernel_rfl) (by kernel_rfl) (by kernel_rfl) (fun _ _ _ h=>h) (Or.inl ⟨by kernel_rfl,?_⟩) ?_
         ·intro w;go_simp<;>first|omega|(intro hh;exfalso;omega)|rfl
         try simp only[Act.put,List.setIfInBounds_toArray,List.set_cons_zero,List.set_cons_succ,vadd5_15]
         refine wpAny_ready (rs:=[20]) (by kernel_rfl) (by simp) ?_
         apply AllReady.cons (o:=vadd5_20) (by kernel_rfl)
         case hs=>exact AllReady.nil
         intro K hK
         simp only[vadd5_20]
         obtain ⟨w9,hw9,hrow9,hb9,hs9,q0,q1,f0,f1⟩:=pstore (HRP.out _ z38) (.int .i64 xa) (.pointer p38)
         have HW9:=Lib.hid hw9
         clear hw9
         go_simp
         rw[← HW9.out]
         clear q0 q1 f0 f1
         refine hK _ _ ?_
         clear hK K
         try simp only[Act.put,List.setIfInBounds_toArray,List.set_cons_zero,List.set_cons_succ]
         refine wpAny_take (i:=21) (oi:=vadd5_21) (v:=.slice aa2 fa.length (ca - 1)) rfl (by kernel_rfl) (by kernel_rfl) (by kernel_rfl) (fun _ _ _ h=>h) (Or.inl ⟨by kernel_rfl,?_⟩) ?_
         ·intro w;go_simp<;>first|omega|(intro hh;exfalso;omega)|rfl
         try simp only[Act.put,List.setIfInBounds_toArray,List.set_cons_zero,List.set_cons_succ,vadd5_21]
         refine wpAny_take (i:=22) (oi:=vadd5_22) (v:=.slice ab2 fb.length (cb - 1)) rfl (by kernel_rfl) (by kernel_rfl) (by kernel_rfl) (fun _ _ _ h=>h) (Or.inl ⟨by kernel_rfl,?_⟩) ?_
         ·intro w;go_simp<;>first|omega|(intro hh;exfalso;omega)|rfl
         try simp only[Act.put,List.setIfInBounds_toArray,List.set_cons_zero,List.set_cons_succ,vadd5_22]
         refine wpAny_done (by kernel_rfl) ?_ _
         go_wp2_with fail
         go_meet
         refine ⟨_,_,(xq+k*yq),fa,fb,HPA2,HPB2,Lib.hid hrow9,Lib.hid ?_,Lib.hid haf3,Lib.hid ?_,HA2,HB2,by simp at hlen ⊢;omega,by (simp only[sliceLen];omega),B2.trans ((z38.mono B2.size).trans (hb9 _ (Nat.le_refl _)))⟩
         ·exact (hx38).off (HRP.out _ z38) hs9
         ·rw[← HMR.out];simp[unpart,mergeV,Int.not_lt.2 HXY.out,Int.not_lt.2 HYX.out]
        apply AllReady.cons (o:=vadd5_13) (by kernel_rfl)
        case h=>
         intro K hK
         simp only[vadd5_13]
         go_simp
         go_at_call 46
         refine (KM.out _ z0).mono ?_
         rintro e W40 ⟨x40,rfl,hx40,b40⟩
         obtain ⟨p40,e40⟩:∃ bz,x40=.pointer bz:=by
          obtain ⟨bz,_,_,h,_⟩:=hx40
          exact ⟨_,h⟩
         subst e40
         have z40:=below_seq z0 b40
         refine hK _ _ ?_
         clear hK K
         try simp only[Act.put,List.setIfInBounds_toArray,List.set_cons_zero,List.set_cons_succ]
         refine wpAny_ready (rs:=[7]) (by kernel_rfl) (by simp) ?_
         apply AllReady.cons (o:=vadd5_7) (by kernel_rfl)
         case hs=>exact AllReady.nil
         intro K hK
         simp only[vadd5_7]
         obtain ⟨k0_41,k1_41⟩:=KA.out _ z40
         go_simp
         clear k0_41 k1_41
         refine hK _ _ ?_
         clear hK K
         try simp only[Act.put,List.setIfInBounds_toArray,List.set_cons_zero,List.set_cons_succ]
         refine wpAny_ready (rs:=[14]) (by kernel_rfl) (by simp) ?_
         apply AllReady.cons (o:=vadd5_14) (by kernel_rfl)
         case hs=>exact AllReady.nil
         intro K hK
         simp only[vadd5_14]
         go_simp
         go_at_call 47
         refine (KD.out _ _ z40 hx40).mono ?_
         rintro e W42 ⟨x42,rfl,hx42,b42⟩
         obtain ⟨p42,e42⟩:∃ bz,x42=.pointer bz:=by
          obtain ⟨bz,_,_,h,_⟩:=hx42
          exact ⟨_,h⟩
         subst e42
         have z42:=below_seq z40 b42
         refine hK _ _ ?_
         clear hK K
         try simp only[Act.put,List.setIfInBounds_toArray,List.set_cons_zero,List.set_cons_succ]
         refine wpAny_take (i:=15) (oi:=vadd5_15) (v:=.agg #[.int .i64 xa,.pointer p42]) rfl (by kernel_rfl) (by kernel_rfl) (by kernel_rfl) (fun _ _ _ h=>h) (Or.inl ⟨by kernel_rfl,?_⟩) ?_
         ·intro w;go_simp<;>first|omega|(intro hh;exfalso;omega)|rfl
         try simp only[Act.put,List.setIfInBounds_toArray,List.set_cons_zero,List.set_cons_succ,vadd5_15]
         refine wpAny_ready (rs:=[20]) (by kernel_rfl) (by simp) ?_
         apply AllReady.cons (o:=vadd5_20) (by kernel_rfl)
         case hs=>exact AllReady.nil
         intro K hK
         simp only[vadd5_20]
         obtain ⟨w9,hw9,hrow9,hb9,hs9,q0,q1,f0,f1⟩:=pstore (HRP.out _ z42) (.int .i64 xa) (.pointer p42)
         have HW9:=Lib.hid hw9
         clear hw9
         go_simp
         rw[← HW9.out]
         clear q0 q1 f0 f1
         refine hK _ _ ?_
         clear hK K
         try simp only[Act.put,List.setIfInBounds_toArray,List.set_cons_zero,List.set_cons_succ]
         refine wpAny_take (i:=21) (oi:=vadd5_21) (v:=.slice aa2 fa.length (ca - 1)) rfl (by kernel_rfl) (by kernel_rfl) (by kernel_rfl) (fun _ _ _ h=>h) (Or.inl ⟨by kernel_rfl,?_⟩) ?_
         ·intro w;go_simp<;>first|omega|(intro hh;exfalso;omega)|rfl
         try simp only[Act.put,List.setIfInBounds_toArray,List.set_cons_zero,List.set_cons_succ,vadd5_21]
         refine wpAny_take (i:=22) (oi:=vadd5_22) (v:=.slice ab2 fb.length (cb - 1)) rfl (by kernel_rfl) (by kernel_rfl) (by kernel_rfl) (fun _ _ _ h=>h) (Or.inl ⟨by kernel_rfl,?_⟩) ?_
         ·intro w;go_simp<;>first|omega|(intro hh;exfalso;omega)|rfl
         try simp only[Act.put,List.setIfInBounds_toArray,List.set_cons_zero,List.set_cons_succ,vadd5_22]
         refine wpAny_done (by kernel_rfl) ?_ _
         go_wp2_with fail
         go_meet
         refine ⟨_,_,(xq+k*yq),fa,fb,HPA2,HPB2,Lib.hid hrow9,Lib.hid ?_,Lib.hid haf3,Lib.hid ?_,HA2,HB2,by simp at hlen ⊢;omega,by (simp only[sliceLen];omega),B2.trans ((z42.mono B2.size).trans (hb9 _ (Nat.le_refl _)))⟩
         ·exact (hx42).off (HRP.out _ z42) hs9
         ·rw[← HMR.out];simp[unpart,mergeV,Int.not_lt.2 HXY.out,Int.not_lt.2 HYX.out]
        exact AllReady.nil
       apply AllReady.cons (o:=vadd5_7) (by kernel_rfl)
       case h=>
        intro K hK
        simp only[vadd5_7]
        obtain ⟨k0_44,k1_44⟩:=KA.out _ z0
        go_simp
        clear k0_44 k1_44
        refine hK _ _ ?_
        clear hK K
        try simp only[Act.put,List.setIfInBounds_toArray,List.set_cons_zero,List.set_cons_succ]
        refine wpAny_ready (rs:=[3,13]) (by kernel_rfl) (by simp) ?_
        apply AllReady.cons (o:=vadd5_3) (by kernel_rfl)
        case h=>
         intro K hK
         simp only[vadd5_3]
         obtain ⟨k0_45,k1_45⟩:=KA.out _ z0
         go_simp
         clear k0_45 k1_45
         refine hK _ _ ?_
         clear hK K
         try simp only[Act.put,List.setIfInBounds_toArray,List.set_cons_zero,List.set_cons_succ]
         refine wpAny_ready (rs:=[13]) (by kernel_rfl) (by simp) ?_
         apply AllReady.cons (o:=vadd5_13) (by kernel_rfl)
         case hs=>exact AllReady.nil
         intro K hK
         simp only[vadd5_13]
         go_simp
         go_at_call 46
         refine (KM.out _ z0).mono ?_
         rintro e W46 ⟨x46,rfl,hx46,b46⟩
         obtain ⟨p46,e46⟩:∃ bz,x46=.pointer bz:=by
          obtain ⟨bz,_,_,h,_⟩:=hx46
          exact ⟨_,h⟩
         subst e46
         have z46:=below_seq z0 b46
         refine hK _ _ ?_
         clear hK K
         try simp only[Act.put,List.setIfInBounds_toArray,List.set_cons_zero,List.set_cons_succ]
         refine wpAny_ready (rs:=[14]) (by kernel_rfl) (by simp) ?_
         apply AllReady.cons (o:=vadd5_14) (by kernel_rfl)
         case hs=>exact AllReady.nil
         intro K hK
         simp only[vadd5_14]
         go_simp
         go_at_call 47
         refine (KD.out _ _ z46 hx46).mono ?_
         rintro e W47 ⟨x47,rfl,hx47,b47⟩
         obtain ⟨p47,e47⟩:∃ bz,x47=.pointer bz:=by
          obtain ⟨bz,_,_,h,_⟩:=hx47
          exact ⟨_,h⟩
         subst e47
         have z47:=below_seq z46 b47
         refine hK _ _ ?_
         clear hK K
         try simp only[Act.put,List.setIfInBounds_toArray,List.set_cons_zero,List.set_cons_succ]
         refine wpAny_take (i:=15) (oi:=vadd5_15) (v:=.agg #[.int .i64 xa,.pointer p47]) rfl (by kernel_rfl) (by kernel_rfl) (by kernel_rfl) (fun _ _ _ h=>h) (Or.inl ⟨by kernel_rfl,?_⟩) ?_
         ·intro w;go_simp<;>first|omega|(intro hh;exfalso;omega)|rfl
         try simp only[Act.put,List.setIfInBounds_toArray,List.set_cons_zero,List.set_cons_succ,vadd5_15]
         refine wpAny_ready (rs:=[20]) (by kernel_rfl) (by simp) ?_
         apply AllReady.cons (o:=vadd5_20) (by kernel_rfl)
         case hs=>exact AllReady.nil
         intro K hK
         simp only[vadd5_20]
         obtain ⟨w9,hw9,hrow9,hb9,hs9,q0,q1,f0,f1⟩:=pstore (HRP.out _ z47) (.int .i64 xa) (.pointer p47)
         have HW9:=Lib.hid hw9
         clear hw9
         go_simp
         rw[← HW9.out]
         clear q0 q1 f0 f1
         refine hK _ _ ?_
         clear hK K
         try simp only[Act.put,List.setIfInBounds_toArray,List.set_cons_zero,List.set_cons_succ]
         refine wpAny_take (i:=21) (oi:=vadd5_21) (v:=.slice aa2 fa.length (ca - 1)) rfl (by kernel_rfl) (by kernel_rfl) (by kernel_rfl) (fun _ _ _ h=>h) (Or.inl ⟨by kernel_rfl,?_⟩) ?_
         ·intro w;go_simp<;>first|omega|(intro hh;exfalso;omega)|rfl
         try simp only[Act.put,List.setIfInBounds_toArray,List.set_cons_zero,List.set_cons_succ,vadd5_21]
         refine wpAny_take (i:=22) (oi:=vadd5_22) (v:=.slice ab2 fb.length (cb - 1)) rfl (by kernel_rfl) (by kernel_rfl) (by kernel_rfl) (fun _ _ _ h=>h) (Or.inl ⟨by kernel_rfl,?_⟩) ?_
         ·intro w;go_simp<;>first|omega|(intro hh;exfalso;omega)|rfl
         try simp only[Act.put,List.setIfInBounds_toArray,List.set_cons_zero,List.set_cons_succ,vadd5_22]
         refine wpAny_done (by kernel_rfl) ?_ _
         go_wp2_with fail
         go_meet
         refine ⟨_,_,(xq+k*yq),fa,fb,HPA2,HPB2,Lib.hid hrow9,Lib.hid ?_,Lib.hid haf3,Lib.hid ?_,HA2,HB2,by simp at hlen ⊢;omega,by (simp only[sliceLen];omega),B2.trans ((z47.mono B2.size).trans (hb9 _ (Nat.le_refl _)))⟩
         ·exact (hx47).off (HRP.out _ z47) hs9
         ·rw[← HMR.out];simp[unpart,mergeV,Int.not_lt.2 HXY.out,Int.not_lt.2 HYX.out]
        apply AllReady.cons (o:=vadd5_13) (by kernel_rfl)
        case h=>
         intro K hK
         simp only[vadd5_13]
         go_simp
         go_at_call 46
         refine (KM.out _ z0).mono ?_
         rintro e W49 ⟨x49,rfl,hx49,b49⟩
         obtain ⟨p49,e49⟩:∃ bz,x49=.pointer bz:=by
          obtain ⟨bz,_,_,h,_⟩:=hx49
          exact ⟨_,h⟩
         subst e49
         have z49:=below_seq z0 b49
         refine hK _ _ ?_
         clear hK K
         try simp only[Act.put,List.setIfInBounds_toArray,List.set_cons_zero,List.set_cons_succ]
         refine wpAny_ready (rs:=[3,14]) (by kernel_rfl) (by simp) ?_
         apply AllReady.cons (o:=vadd5_3) (by kernel_rfl)
         case h=>
          intro K hK
          simp only[vadd5_3]
          obtain ⟨k0_50,k1_50⟩:=KA.out _ z49
          go_simp
          clear k0_50 k1_50
          refine hK _ _ ?_
          clear hK K
          try simp only[Act.put,List.setIfInBounds_toArray,List.set_cons_zero,List.set_cons_succ]
          refine wpAny_ready (rs:=[14]) (by kernel_rfl) (by simp) ?_
          apply AllReady.cons (o:=vadd5_14) (by kernel_rfl)
          case hs=>exact AllReady.nil
          intro K hK
          simp only[vadd5_14]
          go_simp
          go_at_call 47
          refine (KD.out _ _ z49 hx49).mono ?_
          rintro e W51 ⟨x51,rfl,hx51,b51⟩
          obtain ⟨p51,e51⟩:∃ bz,x51=.pointer bz:=by
           obtain ⟨bz,_,_,h,_⟩:=hx51
           exact ⟨_,h⟩
          subst e51
          have z51:=below_seq z49 b51
          refine hK _ _ ?_
          clear hK K
          try simp only[Act.put,List.setIfInBounds_toArray,List.set_cons_zero,List.set_cons_succ]
          refine wpAny_take (i:=15) (oi:=vadd5_15) (v:=.agg #[.int .i64 xa,.pointer p51]) rfl (by kernel_rfl) (by kernel_rfl) (by kernel_rfl) (fun _ _ _ h=>h) (Or.inl ⟨by kernel_rfl,?_⟩) ?_
          ·intro w;go_simp<;>first|omega|(intro hh;exfalso;omega)|rfl
          try simp only[Act.put,List.setIfInBounds_toArray,List.set_cons_zero,List.set_cons_succ,vadd5_15]
          refine wpAny_ready (rs:=[20]) (by kernel_rfl) (by simp) ?_
          apply AllReady.cons (o:=vadd5_20) (by kernel_rfl)
          case hs=>exact AllReady.nil
          intro K hK
          simp only[vadd5_20]
          obtain ⟨w9,hw9,hrow9,hb9,hs9,q0,q1,f0,f1⟩:=pstore (HRP.out _ z51) (.int .i64 xa) (.pointer p51)
          have HW9:=Lib.hid hw9
          clear hw9
          go_simp
          rw[← HW9.out]
          clear q0 q1 f0 f1
          refine hK _ _ ?_
          clear hK K
          try simp only[Act.put,List.setIfInBounds_toArray,List.set_cons_zero,List.set_cons_succ]
          refine wpAny_take (i:=21) (oi:=vadd5_21) (v:=.slice aa2 fa.length (ca - 1)) rfl (by kernel_rfl) (by kernel_rfl) (by kernel_rfl) (fun _ _ _ h=>h) (Or.inl ⟨by kernel_rfl,?_⟩) ?_
          ·intro w;go_simp<;>first|omega|(intro hh;exfalso;omega)|rfl
          try simp only[Act.put,List.setIfInBounds_toArray,List.set_cons_zero,List.set_cons_succ,vadd5_21]
          refine wpAny_take (i:=22) (oi:=vadd5_22) (v:=.slice ab2 fb.length (cb - 1)) rfl (by kernel_rfl) (by kernel_rfl) (by kernel_rfl) (fun _ _ _ h=>h) (Or.inl ⟨by kernel_rfl,?_⟩) ?_
          ·intro w;go_simp<;>first|omega|(intro hh;exfalso;omega)|rfl
          try simp only[Act.put,List.setIfInBounds_toArray,List.set_cons_zero,List.set_cons_succ,vadd5_22]
          refine wpAny_done (by kernel_rfl) ?_ _
          go_wp2_with fail
          go_meet
          refine ⟨_,_,(xq+k*yq),fa,fb,HPA2,HPB2,Lib.hid hrow9,Lib.hid ?_,Lib.hid haf3,Lib.hid ?_,HA2,HB2,by simp at hlen ⊢;omega,by (simp only[sliceLen];omega),B2.trans ((z51.mono B2.size).trans (hb9 _ (Nat.le_refl _)))⟩
          ·exact (hx51).off (HRP.out _ z51) hs9
          ·rw[← HMR.out];simp[unpart,mergeV,Int.not_lt.2 HXY.out,Int.not_lt.2 HYX.out]
         apply AllReady.cons (o:=vadd5_14) (by kernel_rfl)
         case h=>
          intro K hK
          simp only[vadd5_14]
          go_simp
          go_at_call 47
          refine (KD.out _ _ z49 hx49).mono ?_
          rintro e W53 ⟨x53,rfl,hx53,b53⟩
          obtain ⟨p53,e53⟩:∃ bz,x53=.pointer bz:=by
           obtain ⟨bz,_,_,h,_⟩:=hx53
           exact ⟨_,h⟩
          subst e53
          have z53:=below_seq z49 b53
          refine hK _ _ ?_
          clear hK K
          try simp only[Act.put,List.setIfInBounds_toArray,List.set_cons_zero,List.set_cons_succ]
          refine wpAny_ready (rs:=[3]) (by kernel_rfl) (by simp) ?_
          apply AllReady.cons (o:=vadd5_3) (by kernel_rfl)
          case hs=>exact AllReady.nil
          intro K hK
          simp only[vadd5_3]
          obtain ⟨k0_54,k1_54⟩:=KA.out _ z53
          go_simp
          clear k0_54 k1_54
          refine hK _ _ ?_
          clear hK K
          try simp only[Act.put,List.setIfInBounds_toArray,List.set_cons_zero,List.set_cons_succ]
          refine wpAny_take (i:=15) (oi:=vadd5_15) (v:=.agg #[.int .i64 xa,.pointer p53]) rfl (by kernel_rfl) (by kernel_rfl) (by kernel_rfl) (fun _ _ _ h=>h) (Or.inl ⟨by kernel_rfl,?_⟩) ?_
          ·intro w;go_simp<;>first|omega|(intro hh;exfalso;omega)|rfl
          try simp only[Act.put,List.setIfInBounds_toArray,List.set_cons_zero,List.set_cons_succ,vadd5_15]
          refine wpAny_ready (rs:=[20]) (by kernel_rfl) (by simp) ?_
          apply AllReady.cons (o:=vadd5_20) (by kernel_rfl)
          case hs=>exact AllReady.nil
          intro K hK
          simp only[vadd5_20]
          obtain ⟨w9,hw9,hrow9,hb9,hs9,q0,q1,f0,f1⟩:=pstore (HRP.out _ z53) (.int .i64 xa) (.pointer p53)
          have HW9:=Lib.hid hw9
          clear hw9
          go_simp
          rw[← HW9.out]
          clear q0 q1 f0 f1
          refine hK _ _ ?_
          clear hK K
          try simp only[Act.put,List.setIfInBounds_toArray,List.set_cons_zero,List.set_cons_succ]
          refine wpAny_take (i:=21) (oi:=vadd5_21) (v:=.slice aa2 fa.length (ca - 1)) rfl (by kernel_rfl) (by kernel_rfl) (by kernel_rfl) (fun _ _ _ h=>h) (Or.inl ⟨by kernel_rfl,?_⟩) ?_
          ·intro w;go_simp<;>first|omega|(intro hh;exfalso;omega)|rfl
          try simp only[Act.put,List.setIfInBounds_toArray,List.set_cons_zero,List.set_cons_succ,vadd5_21]
          refine wpAny_take (i:=22) (oi:=vadd5_22) (v:=.slice ab2 fb.length (cb - 1)) rfl (by kernel_rfl) (by kernel_rfl) (by kernel_rfl) (fun _ _ _ h=>h) (Or.inl ⟨by kernel_rfl,?_⟩) ?_
          ·intro w;go_simp<;>first|omega|(intro hh;exfalso;omega)|rfl
          try simp only[Act.put,List.setIfInBounds_toArray,List.set_cons_zero,List.set_cons_succ,vadd5_22]
          refine wpAny_done (by kernel_rfl) ?_ _
          go_wp2_with fail
          go_meet
          refine ⟨_,_,(xq+k*yq),fa,fb,HPA2,HPB2,Lib.hid hrow9,Lib.hid ?_,Lib.hid haf3,Lib.hid ?_,HA2,HB2,by simp at hlen ⊢;omega,by (simp only[sliceLen];omega),B2.trans ((z53.mono B2.size).trans (hb9 _ (Nat.le_refl _)))⟩
          ·exact (hx53).off (HRP.out _ z53) hs9
          ·rw[← HMR.out];simp[unpart,mergeV,Int.not_lt.2 HXY.out,Int.not_lt.2 HYX.out]
         exact AllReady.nil
        exact AllReady.nil
       apply AllReady.cons (o:=vadd5_13) (by kernel_rfl)
       case h=>
        intro K hK
        simp only[vadd5_13]
        go_simp
        go_at_call 46
        refine (KM.out _ z0).mono ?_
        rintro e W56 ⟨x56,rfl,hx56,b56⟩
        obtain ⟨p56,e56⟩:∃ bz,x56=.pointer bz:=by
         obtain ⟨bz,_,_,h,_⟩:=hx56
         exact ⟨_,h⟩
        subst e56
        have z56:=below_seq z0 b56
        refine hK _ _ ?_
        clear hK K
        try simp only[Act.put,List.setIfInBounds_toArray,List.set_cons_zero,List.set_cons_succ]
        refine wpAny_ready (rs:=[3,7]) (by kernel_rfl) (by simp) ?_
        apply AllReady.cons (o:=vadd5_3) (by kernel_rfl)
        case h=>
         intro K hK
         simp only[vadd5_3]
         obtain ⟨k0_57,k1_57⟩:=KA.out _ z56
         go_simp
         clear k0_57 k1_57
         refine hK _ _ ?_
         clear hK K
         try simp only[Act.put,List.setIfInBounds_toArray,List.set_cons_zero,List.set_cons_succ]
         refine wpAny_ready (rs:=[7]) (by kernel_rfl) (by simp) ?_
         apply AllReady.cons (o:=vadd5_7) (by kernel_rfl)
         case hs=>exact AllReady.nil
         intro K hK
         simp only[vadd5_7]
         obtain ⟨k0_58,k1_58⟩:=KA.out _ z56
         go_simp
         clear k0_58 k1_58
         refine hK _ _ ?_
         clear hK K
         try simp only[Act.put,List.setIfInBounds_toArray,List.set_cons_zero,List.set_cons_succ]
         refine wpAny_ready (rs:=[14]) (by kernel_rfl) (by simp) ?_
         apply AllReady.cons (o:=vadd5_14) (by kernel_rfl)
         case hs=>exact AllReady.nil
         intro K hK
         simp only[vadd5_14]
         go_simp
         go_at_call 47
         refine (KD.out _ _ z56 hx56).mono ?_
         rintro e W59 ⟨x59,rfl,hx59,b59⟩
         obtain ⟨p59,e59⟩:∃ bz,x59=.pointer bz:=by
          obtain ⟨bz,_,_,h,_⟩:=hx59
          exact ⟨_,h⟩
         subst e59
         have z59:=below_seq z56 b59
         refine hK _ _ ?_
         clear hK K
         try simp only[Act.put,List.setIfInBounds_toArray,List.set_cons_zero,List.set_cons_succ]
         refine wpAny_take (i:=15) (oi:=vadd5_15) (v:=.agg #[.int .i64 xa,.pointer p59]) rfl (by kernel_rfl) (by kernel_rfl) (by kernel_rfl) (fun _ _ _ h=>h) (Or.inl ⟨by kernel_rfl,?_⟩) ?_
         ·intro w;go_simp<;>first|omega|(intro hh;exfalso;omega)|rfl
         try simp only[Act.put,List.setIfInBounds_toArray,List.set_cons_zero,List.set_cons_succ,vadd5_15]
         refine wpAny_ready (rs:=[20]) (by kernel_rfl) (by simp) ?_
         apply AllReady.cons (o:=vadd5_20) (by kernel_rfl)
         case hs=>exact AllReady.nil
         intro K hK
         simp only[vadd5_20]
         obtain ⟨w9,hw9,hrow9,hb9,hs9,q0,q1,f0,f1⟩:=pstore (HRP.out _ z59) (.int .i64 xa) (.pointer p59)
         have HW9:=Lib.hid hw9
         clear hw9
         go_simp
         rw[← HW9.out]
         clear q0 q1 f0 f1
         refine hK _ _ ?_
         clear hK K
         try simp only[Act.put,List.setIfInBounds_toArray,List.set_cons_zero,List.set_cons_succ]
         refine wpAny_take (i:=21) (oi:=vadd5_21) (v:=.slice aa2 fa.length (ca - 1)) rfl (by kernel_rfl) (by kernel_rfl) (by kernel_rfl) (fun _ _ _ h=>h) (Or.inl ⟨by kernel_rfl,?_⟩) ?_
         ·intro w;go_simp<;>first|omega|(intro hh;exfalso;omega)|rfl
         try simp only[Act.put,List.setIfInBounds_toArray,List.set_cons_zero,List.set_cons_succ,vadd5_21]
         refine wpAny_take (i:=22) (oi:=vadd5_22) (v:=.slice ab2 fb.length (cb - 1)) rfl (by kernel_rfl) (by kernel_rfl) (by kernel_rfl) (fun _ _ _ h=>h) (Or.inl ⟨by kernel_rfl,?_⟩) ?_
         ·intro w;go_simp<;>first|omega|(intro hh;exfalso;omega)|rfl
         try simp only[Act.put,List.setIfInBounds_toArray,List.set_cons_zero,List.set_cons_succ,vadd5_22]
         refine wpAny_done (by kernel_rfl) ?_ _
         go_wp2_with fail
         go_meet
         refine ⟨_,_,(xq+k*yq),fa,fb,HPA2,HPB2,Lib.hid hrow9,Lib.hid ?_,Lib.hid haf3,Lib.hid ?_,HA2,HB2,by simp at hlen ⊢;omega,by (simp only[sliceLen];omega),B2.trans ((z59.mono B2.size).trans (hb9 _ (Nat.le_refl _)))⟩
         ·exact (hx59).off (HRP.out _ z59) hs9
         ·rw[← HMR.out];simp[unpart,mergeV,Int.not_lt.2 HXY.out,Int.not_lt.2 HYX.out]
        apply AllReady.cons (o:=vadd5_7) (by kernel_rfl)
        case h=>
         intro K hK
         simp only[vadd5_7]
         obtain ⟨k0_61,k1_61⟩:=KA.out _ z56
         go_simp
         clear k0_61 k1_61
         refine hK _ _ ?_
         clear hK K
         try simp only[Act.put,List.setIfInBounds_toArray,List.set_cons_zero,List.set_cons_succ]
         refine wpAny_ready (rs:=[3,14]) (by kernel_rfl) (by simp) ?_
         apply AllReady.cons (o:=vadd5_3) (by kernel_rfl)
         case h=>
          intro K hK
          simp only[vadd5_3]
          obtain ⟨k0_62,k1_62⟩:=KA.out _ z56
          go_simp
          clear k0_62 k1_62
          refine hK _ _ ?_
          clear hK K
          try simp only[Act.put,List.setIfInBounds_toArray,List.set_cons_zero,List.set_cons_succ]
          refine wpAny_ready (rs:=[14]) (by kernel_rfl) (by simp) ?_
          apply AllReady.cons (o:=vadd5_14) (by kernel_rfl)
          case hs=>exact AllReady.nil
          intro K hK
          simp only[vadd5_14]
          go_simp
          go_at_call 47
          refine (KD.out _ _ z56 hx56).mono ?_
          rintro e W63 ⟨x63,rfl,hx63,b63⟩
          obtain ⟨p63,e63⟩:∃ bz,x63=.pointer bz:=by
           obtain ⟨bz,_,_,h,_⟩:=hx63
           exact ⟨_,h⟩
          subst e63
          have z63:=below_seq z56 b63
          refine hK _ _ ?_
          clear hK K
          try simp only[Act.put,List.setIfInBounds_toArray,List.set_cons_zero,List.set_cons_succ]
          refine wpAny_take (i:=15) (oi:=vadd5_15) (v:=.agg #[.int .i64 xa,.pointer p63]) rfl (by kernel_rfl) (by kernel_rfl) (by kernel_rfl) (fun _ _ _ h=>h) (Or.inl ⟨by kernel_rfl,?_⟩) ?_
          ·intro w;go_simp<;>first|omega|(intro hh;exfalso;omega)|rfl
          try simp only[Act.put,List.setIfInBounds_toArray,List.set_cons_zero,List.set_cons_succ,vadd5_15]
          refine wpAny_ready (rs:=[20]) (by kernel_rfl) (by simp) ?_
          apply AllReady.cons (o:=vadd5_20) (by kernel_rfl)
          case hs=>exact AllReady.nil
          intro K hK
          simp only[vadd5_20]
          obtain ⟨w9,hw9,hrow9,hb9,hs9,q0,q1,f0,f1⟩:=pstore (HRP.out _ z63) (.int .i64 xa) (.pointer p63)
          have HW9:=Lib.hid hw9
          clear hw9
          go_simp
          rw[← HW9.out]
          clear q0 q1 f0 f1
          refine hK _ _ ?_
          clear hK K
          try simp only[Act.put,List.setIfInBounds_toArray,List.set_cons_zero,List.set_cons_succ]
          refine wpAny_take (i:=21) (oi:=vadd5_21) (v:=.slice aa2 fa.length (ca - 1)) rfl (by kernel_rfl) (by kernel_rfl) (by kernel_rfl) (fun _ _ _ h=>h) (Or.inl ⟨by kernel_rfl,?_⟩) ?_
          ·intro w;go_simp<;>first|omega|(intro hh;exfalso;omega)|rfl
          try simp only[Act.put,List.setIfInBounds_toArray,List.set_cons_zero,List.set_cons_succ,vadd5_21]
          refine wpAny_take (i:=22) (oi:=vadd5_22) (v:=.slice ab2 fb.length (cb - 1)) rfl (by kernel_rfl) (by kernel_rfl) (by kernel_rfl) (fun _ _ _ h=>h) (Or.inl ⟨by kernel_rfl,?_⟩) ?_
          ·intro w;go_simp<;>first|omega|(intro hh;exfalso;omega)|rfl
          try simp only[Act.put,List.setIfInBounds_toArray,List.set_cons_zero,List.set_cons_succ,vadd5_22]
          refine wpAny_done (by kernel_rfl) ?_ _
          go_wp2_with fail
          go_meet
          refine ⟨_,_,(xq+k*yq),fa,fb,HPA2,HPB2,Lib.hid hrow9,Lib.hid ?_,Lib.hid haf3,Lib.hid ?_,HA2,HB2,by simp at hlen ⊢;omega,by (simp only[sliceLen];omega),B2.trans ((z63.mono B2.size).trans (hb9 _ (Nat.le_refl _)))⟩
          ·exact (hx63).off (HRP.out _ z63) hs9
          ·rw[← HMR.out];simp[unpart,mergeV,Int.not_lt.2 HXY.out,Int.not_lt.2 HYX.out]
         apply AllReady.cons (o:=vadd5_14) (by kernel_rfl)
         case h=>
          intro K hK
          simp only[vadd5_14]
          go_simp
          go_at_call 47
          refine (KD.out _ _ z56 hx56).mono ?_
          rintro e W65 ⟨x65,rfl,hx65,b65⟩
          obtain ⟨p65,e65⟩:∃ bz,x65=.pointer bz:=by
           obtain ⟨bz,_,_,h,_⟩:=hx65
           exact ⟨_,h⟩
          subst e65
          have z65:=below_seq z56 b65
          refine hK _ _ ?_
          clear hK K
          try simp only[Act.put,List.setIfInBounds_toArray,List.set_cons_zero,List.set_cons_succ]
          refine wpAny_ready (rs:=[3]) (by kernel_rfl) (by simp) ?_
          apply AllReady.cons (o:=vadd5_3) (by kernel_rfl)
          case hs=>exact AllReady.nil
          intro K hK
          simp only[vadd5_3]
          obtain ⟨k0_66,k1_66⟩:=KA.out _ z65
          go_simp
          clear k0_66 k1_66
          refine hK _ _ ?_
          clear hK K
          try simp only[Act.put,List.setIfInBounds_toArray,List.set_cons_zero,List.set_cons_succ]
          refine wpAny_take (i:=15) (oi:=vadd5_15) (v:=.agg #[.int .i64 xa,.pointer p65]) rfl (by kernel_rfl) (by kernel_rfl) (by kernel_rfl) (fun _ _ _ h=>h) (Or.inl ⟨by kernel_rfl,?_⟩) ?_
          ·intro w;go_simp<;>first|omega|(intro hh;exfalso;omega)|rfl
          try simp only[Act.put,List.setIfInBounds_toArray,List.set_cons_zero,List.set_cons_succ,vadd5_15]
          refine wpAny_ready (rs:=[20]) (by kernel_rfl) (by simp) ?_
          apply AllReady.cons (o:=vadd5_20) (by kernel_rfl)
          case hs=>exact AllReady.nil
          intro K hK
          simp only[vadd5_20]
          obtain ⟨w9,hw9,hrow9,hb9,hs9,q0,q1,f0,f1⟩:=pstore (HRP.out _ z65) (.int .i64 xa) (.pointer p65)
          have HW9:=Lib.hid hw9
          clear hw9
          go_simp
          rw[← HW9.out]
          clear q0 q1 f0 f1
          refine hK _ _ ?_
          clear hK K
          try simp only[Act.put,List.setIfInBounds_toArray,List.set_cons_zero,List.set_cons_succ]
          refine wpAny_take (i:=21) (oi:=vadd5_21) (v:=.slice aa2 fa.length (ca - 1)) rfl (by kernel_rfl) (by kernel_rfl) (by kernel_rfl) (fun _ _ _ h=>h) (Or.inl ⟨by kernel_rfl,?_⟩) ?_
          ·intro w;go_simp<;>first|omega|(intro hh;exfalso;omega)|rfl
          try simp only[Act.put,List.setIfInBounds_toArray,List.set_cons_zero,List.set_cons_succ,vadd5_21]
          refine wpAny_take (i:=22) (oi:=vadd5_22) (v:=.slice ab2 fb.length (cb - 1)) rfl (by kernel_rfl) (by kernel_rfl) (by kernel_rfl) (fun _ _ _ h=>h) (Or.inl ⟨by kernel_rfl,?_⟩) ?_
          ·intro w;go_simp<;>first|omega|(intro hh;exfalso;omega)|rfl
          try simp only[Act.put,List.setIfInBounds_toArray,List.set_cons_zero,List.set_cons_succ,vadd5_22]
          refine wpAny_done (by kernel_rfl) ?_ _
          go_wp2_with fail
          go_meet
          refine ⟨_,_,(xq+k*yq),fa,fb,HPA2,HPB2,Lib.hid hrow9,Lib.hid ?_,Lib.hid haf3,Lib.hid ?_,HA2,HB2,by simp at hlen ⊢;omega,by (simp only[sliceLen];omega),B2.trans ((z65.mono B2.size).trans (hb9 _ (Nat.le_refl _)))⟩
          ·exact (hx65).off (HRP.out _ z65) hs9
          ·rw[← HMR.out];simp[unpart,mergeV,Int.not_lt.2 HXY.out,Int.not_lt.2 HYX.out]
         exact AllReady.nil
        exact AllReady.nil
       exact AllReady.nil
      exact AllReady.nil
end Go.Proofs.YtehbhghbagaliaaGreatDoor
