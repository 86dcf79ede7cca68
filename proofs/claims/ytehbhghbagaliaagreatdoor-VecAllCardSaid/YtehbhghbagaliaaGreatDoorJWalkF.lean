/- Package vec: the parts of a new vector are sorted. And: slices.SortFunc at a slice of no elements: nothing is done. Package mat: what lies in memory. Package vec: new vectors. -/
import Derived.Test.YtehbhghbagaliaaGreatDoorJWalkE
import Derived.Shelf.SlSortCmp.SmallK
import Derived.Test.YtehbhghbagaliaaGreatDoorShelf
import Derived.WalkSpells
import Derived.WalkLawsBesides
import Derived.Test.YtehbhghbagaliaaGreatDoorJMemA
import Derived.Deep.QuietTactic
import Derived.BigQuiet
import Derived.Deep.DeepCutAuto
import Derived.Deep.CutBlock
set_option linter.unusedVariables false
set_option linter.unusedSimpArgs false
namespace Vic
open Go Go.RowKit Go.Sort Go.Proofs
structure Turned (w w':World) (S:Nat→Prop):Prop where
 os:w'.os=w.os
 tape:w'.tape=w.tape
 output:w'.output=w.output
 size:w.heap.size≤w'.heap.size
 same:∀ j,j<w.heap.size→¬ S j→w'.heap[j]?=w.heap[j]?
theorem Turned.below {w w':World}{S:Nat→Prop}(h:Turned w w' S) {B:Nat}(hB:B≤w.heap.size) (hS:∀ j,S j→B≤j):Below B w w':=
 ⟨h.os,h.tape,h.output,h.size,fun j hj=>h.same j (by omega) (fun hs=>by have:=hS j hs;omega)⟩
theorem sortWorldK_turned {α:Type} [Inhabited α] (enc:α→List Value) (k:Nat) (w:World) (blk off m:Nat) (dk:Array α) (os:Array Obj):Turned w (sortWorldK enc k w blk off m dk os) (· = blk):=by
 refine ⟨rfl,rfl,rfl,?_,fun j hj hne=>?_⟩
 ·show w.heap.size≤((putRowK enc k (Sort.ahead w m) blk off dk).heap ++ os).size
  rw[Array.size_append]
  have:(putRowK enc k (Sort.ahead w m) blk off dk).heap.size=w.heap.size:=by simp[putRowK,putRow,mapBlock,Sort.ahead]
  omega
 ·show ((putRowK enc k (Sort.ahead w m) blk off dk).heap ++ os)[j]?=_
  have hs:(putRowK enc k (Sort.ahead w m) blk off dk).heap.size=w.heap.size:=by simp[putRowK,putRow,mapBlock,Sort.ahead]
  rw[Array.getElem?_append_left (by omega)]
  simp[putRowK,putRow,mapBlock,Sort.ahead,Array.getElem?_modify,Ne.symm hne]
theorem flat_get:∀ (fs:List VPart) (t:Nat),t<fs.length*2→(fs.flatMap encPart)[t]?=some ((encPart (fs.toArray[t / 2]!))[t % 2]!)
 | [],t,h=>by simp at h
 | x :: fs,0,_=>by simp[encPart]
 | x :: fs,1,_=>by simp[encPart]
 | x :: fs,t+2,h=>by
   have ih:=flat_get fs t (by simp at h;omega)
   have e1:(t+2) / 2=t / 2+1:=by omega
   have e2:(t+2) % 2=t % 2:=by omega
   have e3:((x :: fs).flatMap encPart)[t+2]?=(fs.flatMap encPart)[t]?:=by
    rw[List.flatMap_cons,List.getElem?_append_right (by simp[encPart])]
    simp[encPart]
   rw[e3,ih,e1,e2]
   simp
theorem own_holds {w:World}{B:Nat}{T:TypeId}{g cap:Nat}{fs:List VPart}(h:OwnK partKind w B T 2 (.slice (some ⟨g,0,none⟩) fs.length cap) fs.length (fs.flatMap encPart)):HoldsK encPart 2 w g 0 fs.toArray:=by
 obtain ⟨hl,⟨h1,_⟩|⟨g',cap',cur,h1,h2,h3,h4,h5,h6,h7,_⟩⟩:=h
 ·cases h1
 ·injection h1 with h1 h8 h9
  injection h1 with h1
  injection h1 with h1 h10
  subst h1
  intro j hj
  rw[size_flatK]at hj
  have hj2:j<fs.length*2:=by simpa using hj
  have e:=flat_get fs j hj2
  rw[get_flatK _ _ _ _ hj]
  rw[← h7,List.getElem?_take,if_pos hj2]at e
  refine ⟨?_,?_⟩
  ·simp only[World.cell?,h3,Nat.zero_add]
   rw[← Array.getElem?_toList,e]
   rfl
  ·simp[World.frozen?,h3]
theorem holds_cells {w:World}{g:Nat}{d:Array VPart}(h:HoldsK encPart 2 w g 0 d) (i:Nat) (x:VPart) (hx:d.toList[i]?=some x) :
 w.cell? ⟨g,0+i*2,none⟩=some (.int .i64 x.1)∧w.cell? ⟨g,0+i*2+1,none⟩=some (.pointer x.2.1):=by
 have hi:i<d.size:=by have:=(List.getElem?_eq_some_iff.1 hx).1;simpa using this
 have hxe:d[i]! = x:=by
  rw[getElem!_pos d i hi]
  have:=(List.getElem?_eq_some_iff.1 hx).2
  simpa using this
 have a:=(h (i*2) (by rw[size_flatK];omega)).1
 have b:=(h (i*2+1) (by rw[size_flatK];omega)).1
 rw[get_flatK _ _ _ _ (by omega)]at a b
 rw[show i*2 / 2=i by omega,show i*2 % 2=0 by omega,hxe]at a
 rw[show (i*2+1) / 2=i by omega,show (i*2+1) % 2=1 by omega,hxe]at b
 exact ⟨a,b⟩
theorem partKind_bool {u:Value}(h:partKind u):(∀ x,u≠.bool x)∧(∀ x,u≠.int .u32 x):=by
 rcases h with ⟨n,rfl⟩|⟨a,rfl⟩<;>exact ⟨fun x=>by simp,fun x=>by simp⟩
theorem alien_own {w:World}{B:Nat}{T:TypeId}{v:Value}{n:Nat}{xs:List Value}(h:OwnK partKind w B T 2 v n xs) {g:Nat}(hg:v.ownBlock=some g):Alien w g:=
 ⟨fun o u hu=>partKind_bool (h.kind hg hu),fun A l c b' o' x hc _ _=>by
  rcases h.kind hg hc with ⟨_,e⟩|⟨_,e⟩<;>cases e⟩
theorem signI_zero {q:Rat}:signI q=0↔q=0:=by
 unfold signI
 by_cases h1:q.num<0
 ·rw[if_pos h1]
  exact ⟨fun h=>by omega,fun h=>by subst h;simp at h1⟩
 ·rw[if_neg h1]
  by_cases h2:q.num=0
  ·rw[if_pos h2];exact ⟨fun _=>Rat.num_eq_zero.1 h2,fun _=>rfl⟩
  ·rw[if_neg h2];exact ⟨fun h=>by omega,fun h=>absurd (by rw[h];rfl) h2⟩
end Vic
namespace Go.Proofs.YtehbhghbagaliaaGreatDoor
open Go.RowKit Go.Sort Go.Lib Vic
def cmpPart (x y:VPart):Int:=Lib.compareInt x.1 y.1
theorem ltPart (x y:VPart):ltOf cmpPart x y=decide (x.1<y.1):=by
 unfold ltOf cmpPart Lib.compareInt
 split
 ·rename_i h;simp[h]
 ·split<;>simp<;>omega
theorem swoPart:SWO (ltOf cmpPart) where
 irrefl x:=by rw[ltPart];simp
 trans x y z h1 h2:=by rw[ltPart]at *;simp at *;omega
 ntrans x y z h1 h2:=by rw[ltPart]at *;simp at *;omega
set_option maxHeartbeats 1000000 in
theorem vec_cmp (x y:VPart) (W:World):Calls Tryz.prog 38 #[.agg #[.int .i64 x.1,.pointer x.2.1],.agg #[.int .i64 y.1,.pointer y.2.1]] W fun e w'=>e=.returned (.int .i64 (cmpPart x y))∧∃ q os',w'=grow (W.drewN q) os':=by
 have hcon:=fun W'=>Go.Proofs.Tryz.cmp_Compare_int x.1 y.1 W'
 have HC:=Lib.hid hcon
 unfold cmpPart
 generalize Lib.compareInt x.1 y.1=r at *
 clear hcon
 go_enter Tryz.func38,Tryz.ntmps38
 go_wp2_with fail
 refine (HC.out _).mono ?_
 rintro e w' ⟨rfl,rfl⟩
 go_wp2_with fail
 go_ret
 exact ⟨rfl,0,_,by rw[alloc_eq_grow,alloc_eq_grow,grow_grow];rfl⟩
theorem vec_sorted (w:World) (B g cap:Nat) (fs:List VPart) (h:OwnK partKind w B 75 2 (.slice (some ⟨g,0,none⟩) fs.length cap) fs.length (fs.flatMap encPart)) (hf:∀ x∈fs,FracPtr w (.pointer x.2.1) x.2.2∧x.2.2≠0) (h12:fs.length≤12) :
 Calls Tryz.prog 37 #[.slice (some ⟨g,0,none⟩) fs.length cap,.func (.func 38) #[] #[]] w fun e w'=>e=.returned (.tuple #[])∧∃ fs',fs'.Perm fs∧fs'.Pairwise (fun x y=>¬ y.1<x.1)∧PartsIn w' (.slice (some ⟨g,0,none⟩) fs.length cap) fs'∧Turned w w' (· = g):=by
 have hH:=own_holds h
 have hg:g<w.heap.size:=(h.lt rfl).2
 have eg:∀ args w,(callFunc 38 args).run Tryz.prog w=.ok (.enter 38 args) w:=enters_of Tryz.func38 (by kernel_rfl) rfl
 have hc:fs.length≤cap:=by
  obtain ⟨_,⟨h1,_⟩|⟨g',cap',cur,h1,h2,h3,h4,_⟩⟩:=h
  ·cases h1
  ·injection h1 with _ _ h9;omega
 have hcon:=Go.Proofs.Tryz.slices_SortFunc_small_sorted 2 (fun _=>by kernel_rfl) (fun _=>by kernel_rfl) encPart (fun _=>rfl) (fun x v hv=>by simp[encPart]at hv;rcases hv with rfl|rfl<;>rfl) cmpPart 38 #[] swoPart g 0 cap fs.toArray w eg (fun _ _ _ _ x y=>vec_cmp x y _) hH hg (by simpa using h12) (fun n W hn=>(Go.Proofs.Tryz.bits_Len n W (by omega) (by omega)).mono fun _ _ ⟨he,hw⟩=>⟨⟨_,he⟩,hw⟩)
 have hsz:fs.toArray.size=fs.length:=by simp
 rw[hsz]at hcon
 refine hcon.mono ?_
 rintro e w' ⟨rfl,d',n,os,hp,hs,rfl⟩
 have htn:=sortWorldK_turned encPart 2 w g 0 n d' os
 have hdsz:d'.size=fs.length:=by rw[hp.1];simp
 have hperm:d'.toList.Perm fs:=by
  have:=hp.2.2
  rw[← hdsz]at this
  have e1:(d'.extract 0 d'.size)=d':=by simp
  have e2:(fs.toArray.extract 0 d'.size).toList=fs:=by rw[hdsz];simp
  rw[e1,e2]at this
  exact this
 have hK:=holdsK_sortWorldK_c encPart 2 w g 0 fs.toArray d' n os hH hg (by rw[hdsz];simp)
 have hlen:d'.toList.length=fs.length:=by simpa using hdsz
 refine ⟨rfl,d'.toList,hperm,?_,⟨_,cap,by rw[hlen],by rw[hlen];exact hc,fun i x hx=>?_⟩,htn⟩
 ·rw[List.pairwise_iff_getElem]
  intro i j hi hj hij
  have h1:=hs i j (Nat.zero_le _) hij (by rw[← hlen];exact hj)
  rw[ltPart]at h1
  have ei:d'[i]! = d'.toList[i]:=by rw[getElem!_pos d' i (by simpa using hi)];simp
  have ej:d'[j]! = d'.toList[j]:=by rw[getElem!_pos d' j (by simpa using hj)];simp
  rw[ei,ej]at h1
  simpa using h1
 ·obtain ⟨a,b⟩:=holds_cells hK i x hx
  obtain ⟨f1,f2⟩:=hf x (hperm.mem_iff.1 (List.mem_of_getElem? hx))
  exact ⟨g,0,rfl,a,b,f1.stay f2 fun j hj=>by
   by_cases hjg:j=g
   ·subst hjg;exact .inl (alien_own h rfl)
   ·exact .inr (htn.same j hj hjg)⟩
end Go.Proofs.YtehbhghbagaliaaGreatDoor
set_option linter.unusedVariables false
set_option linter.unusedSimpArgs false
namespace Go.Proofs.YtehbhghbagaliaaGreatDoor
open Go.RowKit Vic
set_option maxRecDepth 100000 in
theorem insertion_nil (p:Option Addr) (cap:Nat) (fv:Value) (w:World) :
 Calls Tryz.prog 125 #[.slice p 0 cap,.int .i64 0,.int .i64 0,fv] w (Rets (.tuple #[]) w):=by
 go_enter Tryz.func125,Tryz.ntmps125
 go_wp2
 go_loop [8] (fun t=>t=.int .i64 1) (fun _=>0)
 case atStart=>rfl
 case round=>
  subst hrel
  go_wp2
  go_end0
  exact ⟨rfl,rfl⟩
set_option maxRecDepth 100000 in
set_option maxHeartbeats 4000000 in
theorem pdqsort_nil (p:Option Addr) (cap:Nat) (fv:Value) (w:World) :
 Calls Tryz.prog 86 #[.slice p 0 cap,.int .i64 0,.int .i64 0,.int .i64 0,fv] w (Rets (.tuple #[]) w):=by
 have CI:=Lib.hid (insertion_nil p cap fv w)
 go_enter Tryz.func86,Tryz.ntmps86
 go_wp2_with fail
 refine wp_loop_rounds 1 ?_
 rw[rounds_succ]
 go_wp2_with fail
 refine CI.out.mono ?_
 rintro e w' ⟨rfl,rfl⟩
 go_wp2_with fail
 go_end0
 exact ⟨rfl,rfl⟩
set_option maxRecDepth 100000 in
theorem sort_nil (p:Option Addr) (cap:Nat) (fv:Value) (w:World) :
 Calls Tryz.prog 37 #[.slice p 0 cap,fv] w (fun e w'=>e=.returned (.tuple #[])∧w'=w):=by
 have CI:=Lib.hid (pdqsort_nil p cap fv w)
 have CL:Hid (Calls Tryz.prog 87 #[.int .u64 0] w fun e w'=>e=.returned (.int .i64 0)∧w'=w):=Go.Proofs.Tryz.bits_Len 0 w (by omega) (by omega)
 go_enter Tryz.func37,Tryz.ntmps37
 go_wp2_with fail
 refine CL.out.mono ?_
 rintro e w' ⟨rfl,rfl⟩
 go_wp2_with fail
 refine CI.out.mono ?_
 rintro e w' ⟨rfl,rfl⟩
 go_wp2_with fail
 go_end0
 exact ⟨rfl,rfl⟩
end Go.Proofs.YtehbhghbagaliaaGreatDoor
set_option linter.unusedVariables false
set_option linter.unusedSimpArgs false
namespace Vic
open Go Go.RowKit
def PAlien (w:World) (b:Nat):Prop:=∀ o u,w.cell? ⟨b,o,none⟩=some u→∃ a,u=.pointer a
theorem NatPtr.stayP {w w':World}{v:Value}{n:Nat}(h:NatPtr w v n) (hs:∀ b,b<w.heap.size→PAlien w b∨w'.heap[b]?=w.heap[b]?):NatPtr w' v n:=by
 obtain ⟨b,s,h1,h2,⟨A,c,rfl,h3,h4⟩,hbk⟩:=h
 have e1:w'.heap[b]?=w.heap[b]?:=by
  rcases hs b (block_lt h2)with h5|h5
  ·obtain ⟨a,e⟩:=h5 _ _ h2;cases e
  ·exact h5
 refine ⟨b,_,h1,by rw[cell_same e1];exact h2,⟨A,c,rfl,h3,fun i hi=>?_⟩,hbk.same e1⟩
 obtain ⟨b',o',hA',hc⟩:=h4 i hi
 have e2:w'.heap[b']?=w.heap[b']?:=by
  rcases hs b' (block_lt hc)with h5|h5
  ·obtain ⟨a,e⟩:=h5 _ _ hc;cases e
  ·exact h5
 exact ⟨b',o',hA',by rw[cell_same e2];exact hc⟩
theorem FracPtr.stayP {w w':World}{v:Value}{q:Rat}(h:FracPtr w v q) (hs:∀ b,b<w.heap.size→PAlien w b∨w'.heap[b]?=w.heap[b]?):FracPtr w' v q:=by
 obtain ⟨b,pn,pd,h1,h2,h3,h4,h5,h6⟩:=h
 have e1:w'.heap[b]?=w.heap[b]?:=by
  rcases hs b (block_lt h2)with h7|h7
  ·obtain ⟨a,e⟩:=h7 _ _ h2;cases e
  ·exact h7
 refine ⟨b,pn,pd,h1,by rw[cell_same e1];exact h2,by rw[cell_same e1];exact h3,by rw[cell_same e1];exact h4,?_,h6.stayP hs⟩
 rcases h5 with h5|h5
 ·exact .inl h5
 ·exact (NatPtr.stayP h5 hs).at_
theorem FracPtr.ptr {w:World}{v:Value}{q:Rat}(h:FracPtr w v q):∃ a,v=.pointer a:=by
 obtain ⟨b,_,_,h1,_⟩:=h
 exact ⟨_,h1⟩
structure Grid (T:TypeId) (w:World) (G GO B rows cols:Nat) (g cap:Nat→Nat) (cur:Nat→Array Value) (M:Nat→Nat→Rat):Prop where
 outer:∀ i,i<rows→w.cell? ⟨G,GO+i,none⟩=some (.slice (some ⟨g i,0,none⟩) cols (cap i))
 row:∀ i,i<rows→Row w (g i) T (cur i)
 ptr:∀ i,i<rows→∀ u∈cur i,∃ a,u=.pointer a
 base:∀ i,i<rows→B≤g i
 inj:∀ i j,i<rows→j<rows→g i=g j→i=j
 caps:∀ i,i<rows→cols≤cap i
 val:∀ i k,i<rows→k<cols→∃ p,(cur i)[k]?=some p∧FracPtr w p (M i k)
theorem Grid.cell {T:TypeId}{w:World}{G GO B rows cols:Nat}{g cap:Nat→Nat}{cur:Nat→Array Value}{M:Nat→Nat→Rat}(h:Grid T w G GO B rows cols g cap cur M) {i k:Nat}(hi:i<rows) (hk:k<cols) :
 ∃ a,w.cell? ⟨g i,k,none⟩=some (.pointer a)∧w.frozen? ⟨g i,k,none⟩=false∧FracPtr w (.pointer a) (M i k):=by
 obtain ⟨p,hp,hf⟩:=h.val i k hi hk
 obtain ⟨a,rfl⟩:=hf.ptr
 exact ⟨a,by rw[(h.row i hi).cell,hp],(h.row i hi).free k,hf⟩
theorem Grid.palien {T:TypeId}{w:World}{G GO B rows cols:Nat}{g cap:Nat→Nat}{cur:Nat→Array Value}{M:Nat→Nat→Rat}(h:Grid T w G GO B rows cols g cap cur M) {i:Nat}(hi:i<rows):PAlien w (g i):=fun o u hu=>by
 rw[(h.row i hi).cell]at hu
 exact h.ptr i hi u (Array.mem_of_getElem? hu)
theorem Grid.keep {T:TypeId}{w w':World}{G GO B rows cols:Nat}{g cap:Nat→Nat}{cur:Nat→Array Value}{M:Nat→Nat→Rat}(h:Grid T w G GO B rows cols g cap cur M) (hb:Below w.heap.size w w'):Grid T w' G GO B rows cols g cap cur M:=
 ⟨fun i hi=>cell_keep (h.outer i hi) hb,fun i hi=>(h.row i hi).keep hb,h.ptr,h.base,h.inj,h.caps,fun i k hi hk=>by
  obtain ⟨p,h1,h2⟩:=h.val i k hi hk
  exact ⟨p,h1,h2.keep hb⟩⟩
def upd2 (M:Nat→Nat→Rat) (i k:Nat) (q:Rat):Nat→Nat→Rat:=fun i' k'=>if i'=i∧k'=k then q else M i' k'
theorem Grid.outerNe {T:TypeId}{w:World}{G GO B rows cols:Nat}{g cap:Nat→Nat}{cur:Nat→Array Value}{M:Nat→Nat→Rat}(h:Grid T w G GO B rows cols g cap cur M) {i:Nat}(hi:i<rows):G≠g i:=by
 intro e
 obtain ⟨a,ha⟩:=h.palien hi _ _ (by have:=h.outer i hi;rw[e]at this;exact this)
 cases ha
theorem setCell_stayP {w:World}{b o:Nat}{u:Value}(hp:PAlien w b):∀ j,j<w.heap.size→PAlien w j∨(w.setCell ⟨b,o,none⟩ u).heap[j]?=w.heap[j]?:=fun j _=>by
 by_cases h:j=b
 ·subst h;exact .inl hp
 ·exact .inr (Below.heap_setCell w ⟨b,o,none⟩ u j h)
theorem Grid.set {T:TypeId}{w:World}{G GO B rows cols:Nat}{g cap:Nat→Nat}{cur:Nat→Array Value}{M:Nat→Nat→Rat}(h:Grid T w G GO B rows cols g cap cur M) {i k:Nat}(hi:i<rows) (hk:k<cols) {a:Option Addr}{q:Rat}(hq:FracPtr w (.pointer a) q) :
 Grid T (w.setCell ⟨g i,k,none⟩ (.pointer a)) G GO B rows cols g cap (fun j=>if j=i then (cur i).setIfInBounds k (.pointer a)else cur j) (upd2 M i k q):=by
 have hst:=setCell_stayP (o:=k) (u:=.pointer a) (h.palien hi)
 refine ⟨fun j hj=>?_,fun j hj=>?_,fun j hj u hu=>?_,h.base,h.inj,h.caps,fun j k' hj hk'=>?_⟩
 ·rw[cell_same (Below.heap_setCell w ⟨g i,k,none⟩ _ G (h.outerNe hi))]
  exact h.outer j hj
 ·by_cases hji:j=i
  ·subst hji
   rw[if_pos rfl]
   exact (h.row j hj).set k _
  ·rw[if_neg hji]
   exact (h.row j hj).far (p:=⟨g i,k,none⟩) (fun e=>hji (h.inj j i hj hi e)) _
 ·by_cases hji:j=i
  ·subst hji
   rw[if_pos rfl]at hu
   rcases Array.mem_or_eq_of_mem_setIfInBounds hu with h1|h1
   ·exact h.ptr j hj u h1
   ·exact ⟨a,h1⟩
  ·rw[if_neg hji]at hu
   exact h.ptr j hj u hu
 ·obtain ⟨p,hp,hf⟩:=h.val j k' hj hk'
  unfold upd2
  by_cases hji:j=i
  ·subst hji
   rw[if_pos rfl]
   by_cases hkk:k'=k
   ·subst hkk
    rw[if_pos ⟨rfl,rfl⟩]
    have hlt:k'<(cur j).size:=by
     rcases Nat.lt_or_ge k' (cur j).size with h1|h1
     ·exact h1
     ·rw[Array.getElem?_eq_none h1]at hp;cases hp
    exact ⟨.pointer a,by simp[hlt],hq.stayP hst⟩
   ·rw[if_neg (fun e=>hkk e.2)]
    exact ⟨p,by rw[Array.getElem?_setIfInBounds_ne (Ne.symm hkk)];exact hp,hf.stayP hst⟩
  ·rw[if_neg hji,if_neg (fun e=>hji e.1)]
   exact ⟨p,hp,hf.stayP hst⟩
theorem Grid.congr {T:TypeId}{w:World}{G GO B rows cols:Nat}{g cap:Nat→Nat}{cur:Nat→Array Value}{M N:Nat→Nat→Rat}(h:Grid T w G GO B rows cols g cap cur M) (hm:∀ i k,i<rows→k<cols→M i k=N i k):Grid T w G GO B rows cols g cap cur N:=
 ⟨h.outer,h.row,h.ptr,h.base,h.inj,h.caps,fun i k hi hk=>by
  obtain ⟨p,h1,h2⟩:=h.val i k hi hk
  exact ⟨p,h1,hm i k hi hk▸h2⟩⟩
end Vic
set_option linter.unusedVariables false
set_option linter.unusedSimpArgs false
namespace Vic
open Go Go.RowKit
abbrev VCoef:=Int × List UInt8
def CoefsIn (w:World) (v:Value) (cs:List VCoef):Prop:=
 ∃ A c,v=.slice A cs.length c∧cs.length≤c∧∀ (i:Nat) (x:VCoef),cs[i]?=some x→∃ g o,A=some ⟨g,o,none⟩∧w.cell? ⟨g,o+i*2,none⟩=some (.int .i64 x.1)∧w.cell? ⟨g,o+i*2+1,none⟩=some (.string ⟨x.2.toArray⟩)
def goodCoef (x:VCoef):Prop:=0≤x.1∧x.1≤999∧FracGood x.2
def GoodCoefs (cs:List VCoef):Prop:=(∀ x∈cs,goodCoef x)∧(cs.map (·.1)).Nodup
def partsOf (cs:List VCoef):List (Int × Rat):=(cs.map fun x=>(x.1,fracOf x.2)).filter fun p=>p.2 != 0
def VecGot (cs:List VCoef) (w:World) (e:Ending) (w':World):Prop:=
 (¬ GoodCoefs cs∧GivesNo w e w') ∨
 (GoodCoefs cs∧∃ v ps,e=.returned (.tuple #[v,.bool true])∧VecPtr w' v ps∧ps.Perm (partsOf cs)∧ps.Pairwise (fun x y=>x.1<y.1)∧(∀ p∈ps,Fits 1000000 p.2)∧Below w.heap.size w w')
theorem good_take {cs:List VCoef}(h:GoodCoefs cs) (k:Nat):GoodCoefs (cs.take k):=
 ⟨fun x hx=>h.1 x (List.mem_of_mem_take hx),by rw[List.map_take];exact h.2.sublist (List.take_sublist _ _)⟩
theorem take_next {cs:List VCoef}{k:Nat}{x:VCoef}(h:cs[k]?=some x):cs.take (k+1)=cs.take k ++ [x]:=by
 rw[List.take_add_one,h];rfl
theorem good_next {cs:List VCoef}{k:Nat}{x:VCoef}(h:cs[k]?=some x) (hg:GoodCoefs (cs.take k)):GoodCoefs (cs.take (k+1))↔goodCoef x∧x.1∉(cs.take k).map (·.1):=by
 rw[take_next h]
 unfold GoodCoefs
 constructor
 ·rintro ⟨h1,h2⟩
  refine ⟨h1 x (by simp),fun hm=>?_⟩
  rw[List.map_append,List.nodup_append]at h2
  exact h2.2.2 _ hm _ (by simp) rfl
 ·rintro ⟨h1,h2⟩
  refine ⟨fun y hy=>?_,?_⟩
  ·rcases List.mem_append.1 hy with hy|hy
   ·exact hg.1 y hy
   ·simp at hy;subst hy;exact h1
  ·rw[List.map_append,List.nodup_append]
   refine ⟨hg.2,by simp,fun a ha b hb=>?_⟩
   simp at hb;subst hb
   intro e;subst e;exact h2 ha
theorem partsOf_next {cs:List VCoef}{k:Nat}{x:VCoef}(h:cs[k]?=some x):partsOf (cs.take (k+1))=partsOf (cs.take k) ++ (if fracOf x.2=0 then []else [(x.1,fracOf x.2)]):=by
 rw[take_next h]
 unfold partsOf
 rw[List.map_append,List.filter_append]
 congr 1
 by_cases h0:fracOf x.2=0
 ·simp[h0]
 ·simp[h0]
theorem FracPtr.cells {w w':World}{v:Value}{q:Rat}(h:FracPtr w v q) (hs:∀ b o u,w.cell? ⟨b,o,none⟩=some u→w'.cell? ⟨b,o,none⟩=some u) (hnb:∀ b,NatBlk w b→NatBlk w' b):FracPtr w' v q:=by
 have hn:∀ {v:Value}{n:Nat},NatPtr w v n→NatPtr w' v n:=by
  rintro v n ⟨b,s,h1,h2,⟨A,c,h3,h4,h5⟩,hbk⟩
  refine ⟨b,s,h1,hs _ _ _ h2,⟨A,c,h3,h4,fun i hi=>?_⟩,hnb b hbk⟩
  obtain ⟨b',o',h6,h7⟩:=h5 i hi
  exact ⟨b',o',h6,hs _ _ _ h7⟩
 obtain ⟨b,pn,pd,h1,h2,h3,h4,h5,h6⟩:=h
 refine ⟨b,pn,pd,h1,hs _ _ _ h2,hs _ _ _ h3,hs _ _ _ h4,?_,hn h6⟩
 rcases h5 with h5|h5
 ·exact .inl h5
 ·exact .inr (hn h5)
theorem blk_map {w w':World}{m:Nat}{ks:List Int}(hm:IntSet w m ks) (hg:w.grownBy w' (some m)):∀ b,NatBlk w b→NatBlk w' b:=by
 intro b h
 have hb:b≠m:=by
  rintro rfl
  obtain ⟨es,c,h1,_⟩:=hm
  obtain ⟨cs,fr,h2⟩:=h
  rw[h1]at h2;cases h2
 exact h.same (hg.block b h.lt (fun e=>hb (Option.some.inj e)))
theorem cells_map {w w':World}{m:Nat}{ks:List Int}(hm:IntSet w m ks) (hg:w.grownBy w' (some m)):∀ b o u,w.cell? ⟨b,o,none⟩=some u→w'.cell? ⟨b,o,none⟩=some u:=by
 intro b o u h
 have hb:b≠m:=by
  rintro rfl
  obtain ⟨es,c,h1,_⟩:=hm
  simp[World.cell?,h1]at h
 rw[cell_same (hg.block b (block_lt h) (fun e=>hb (Option.some.inj e)))]
 exact h
structure NewAt (B:Nat) (T1 T2:TypeId) (cs:List VCoef) (wr:World) (m b:Nat) (k:Nat) (sv:Value) (fs:List VPart):Prop where
 set_:IntSet wr m ((cs.take k).map (·.1))
 vec:Row wr b T1 #[sv]
 own:OwnK partKind wr B T2 2 sv fs.length (fs.flatMap encPart)
 frac:∀ x∈fs,FracPtr wr (.pointer x.2.1) x.2.2∧x.2.2≠0∧Fits 1000000 x.2.2
 parts:unpart fs=partsOf (cs.take k)
 good:GoodCoefs (cs.take k)
 len:fs.length≤k
structure NewMid (B:Nat) (T1 T2:TypeId) (wr:World) (b:Nat) (sv:Value) (fs:List VPart):Prop where
 vec:Row wr b T1 #[sv]
 own:OwnK partKind wr B T2 2 sv fs.length (fs.flatMap encPart)
 frac:∀ x∈fs,FracPtr wr (.pointer x.2.1) x.2.2∧x.2.2≠0∧Fits 1000000 x.2.2
theorem NewAt.mid {B:Nat}{T1 T2:TypeId}{cs:List VCoef}{wr:World}{m b k:Nat}{sv:Value}{fs:List VPart}(h:NewAt B T1 T2 cs wr m b k sv fs):NewMid B T1 T2 wr b sv fs:=⟨h.vec,h.own,h.frac⟩
theorem NewMid.keep {B:Nat}{T1 T2:TypeId}{wr w':World}{b:Nat}{sv:Value}{fs:List VPart}(h:NewMid B T1 T2 wr b sv fs) (hb:Below wr.heap.size wr w'):NewMid B T1 T2 w' b sv fs:=
 ⟨h.vec.keep hb,h.own.keep hb,fun x hx=>⟨(h.frac x hx).1.keep hb,(h.frac x hx).2⟩⟩
theorem NewMid.map_ {B:Nat}{T1 T2:TypeId}{wr w':World}{m b:Nat}{sv:Value}{fs:List VPart}{ks:List Int}(h:NewMid B T1 T2 wr b sv fs) (hm:IntSet wr m ks) (hg:wr.grownBy w' (some m)) (hB:m<B) (hbm:b≠m):NewMid B T1 T2 w' b sv fs:=
 ⟨(hg.block b h.vec.lt (fun e=>hbm (Option.some.inj e))).trans h.vec,
  h.own.stay fun g hg'=>hg.block g (h.own.lt hg').2 (fun e=>by have:=(h.own.lt hg').1;have:=Option.some.inj e;omega),
  fun x hx=>⟨(h.frac x hx).1.cells (cells_map hm hg) (blk_map hm hg),(h.frac x hx).2⟩⟩
theorem alien_vec {w:World}{B:Nat}{T1 T2:TypeId}{b:Nat}{v:Value}{n:Nat}{xs:List Value}(hr:Row w b T1 #[v]) (h:OwnK partKind w B T2 2 v n xs):Alien w b:=by
 have h0:∀ o u,w.cell? ⟨b,o,none⟩=some u→u=v:=fun o u hu=>by
  rw[hr.cell]at hu
  rcases o with _|o
  ·simpa using hu.symm
  ·simp at hu
 have hsl:∃ A l c,v=.slice A l c:=by
  obtain ⟨_,⟨rfl,_⟩|⟨g,cap,cur,rfl,_⟩⟩:=h
  ·exact ⟨_,_,_,rfl⟩
  ·exact ⟨_,_,_,rfl⟩
 obtain ⟨A0,l0,c0,hv⟩:=hsl
 refine ⟨fun o u hu=>?_,fun A l c b' o' x hc hl hA=>?_⟩
 ·rw[h0 o u hu,hv];exact ⟨fun x=>by simp,fun x=>by simp⟩
 ·have e:=h0 0 _ hc
  obtain ⟨_,⟨rfl,_⟩|⟨g,cap,cur,hv2,_⟩⟩:=id h
  ·cases e;cases hA
  ·rw[hv2]at e
   injection e with e1 e2 e3
   rw[hA]at e1
   injection e1 with e1
   injection e1 with e4 e5
   intro hcc
   subst e4
   exact (partKind_bool (h.kind (g:=b') (by rw[hv2];rfl) hcc)).2 x rfl
theorem NewMid.append {B:Nat}{T1 T2:TypeId}{w4 w5 w6:World}{b m:Nat}{sv v6:Value}{fs:List VPart}{ks:List Int}{x:VPart}(h:NewMid B T1 T2 w4 b sv fs) (hm:IntSet w4 m ks) (hmb:m<b) (hbB:b<B) (h5:Below w4.heap.size w4 w5)
 (hgr:w5.grownBy w6 sv.ownBlock) (hown:OwnK partKind w6 B T2 2 v6 (fs.length+1) (fs.flatMap encPart ++ encPart x)) (hloc:v6.ownBlock=sv.ownBlock∨v6.ownBlock=some w5.heap.size)
 (hx:FracPtr w4 (.pointer x.2.1) x.2.2∧x.2.2≠0∧Fits 1000000 x.2.2) :
 NewMid B T1 T2 (w6.setCell ⟨b,0,none⟩ v6) b v6 (fs ++ [x])∧IntSet (w6.setCell ⟨b,0,none⟩ v6) m ks∧∀ a,a≤b→Below a w4 (w6.setCell ⟨b,0,none⟩ v6):=by
 have hnb:∀ j,sv.ownBlock=some j→B≤j:=fun j hj=>(h.own.lt hj).1
 have hs56:∀ j,j<w5.heap.size→sv.ownBlock≠some j→w6.heap[j]?=w5.heap[j]?:=fun j hj hn=>hgr.block j hj (fun e=>hn e.symm)
 have hs46:∀ j,j<w4.heap.size→sv.ownBlock≠some j→w6.heap[j]?=w4.heap[j]?:=fun j hj hn=>(hs56 j (Nat.lt_of_lt_of_le hj h5.size) hn).trans (h5.block j hj)
 have hs4:∀ j,j<w4.heap.size→sv.ownBlock≠some j→j≠b→(w6.setCell ⟨b,0,none⟩ v6).heap[j]?=w4.heap[j]?:=fun j hj hn hjb=>(Below.heap_setCell w6 ⟨b,0,none⟩ v6 j hjb).trans (hs46 j hj hn)
 have hbl:=h.vec.lt
 have hbn:sv.ownBlock≠some b:=fun e=>by have:=hnb b e;omega
 have hr6:Row w6 b T1 #[sv]:=(hs46 b hbl hbn).trans h.vec
 have hst:∀ j,j<w4.heap.size→Alien w4 j∨(w6.setCell ⟨b,0,none⟩ v6).heap[j]?=w4.heap[j]?:=fun j hj=>by
  by_cases h1:sv.ownBlock=some j
  ·exact .inl (alien_own h.own h1)
  ·by_cases h2:j=b
   ·subst h2;exact .inl (alien_vec h.vec h.own)
   ·exact .inr (hs4 j hj h1 h2)
 have hsz:(w6.setCell ⟨b,0,none⟩ v6).heap.size=w6.heap.size:=by simp[World.setCell]
 refine ⟨⟨?_,?_,?_⟩,?_,?_⟩
 ·have:=hr6.set 0 v6
  exact this
 ·have e1:(fs ++ [x]).length=fs.length+1:=by simp
  have e2:(fs ++ [x]).flatMap encPart=fs.flatMap encPart ++ encPart x:=by simp
  rw[e1,e2]
  refine hown.stay fun g hg=>Below.heap_setCell w6 ⟨b,0,none⟩ v6 g ?_
  have:=(hown.lt hg).1
  show g≠b
  omega
 ·intro y hy
  rcases List.mem_append.1 hy with hy|hy
  ·obtain ⟨f1,f2,f3⟩:=h.frac y hy
   exact ⟨f1.stay f2 hst,f2,f3⟩
  ·simp at hy;subst hy
   exact ⟨hx.1.stay hx.2.1 hst,hx.2⟩
 ·exact hm.keep (hs4 m hm.lt (fun e=>by have:=hnb m e;omega) (by omega))
 ·intro a ha
  refine ⟨?_,?_,?_,?_,fun j hj=>?_⟩
  ·exact (show (w6.setCell ⟨b,0,none⟩ v6).os=w6.os from rfl).trans (hgr.os.trans h5.os)
  ·exact (show (w6.setCell ⟨b,0,none⟩ v6).tape=w6.tape from rfl).trans (hgr.tape.trans h5.tape)
  ·exact (show (w6.setCell ⟨b,0,none⟩ v6).output=w6.output from rfl).trans (hgr.output.trans h5.output)
  ·rw[hsz];exact Nat.le_trans h5.size hgr.size
  ·exact hs4 j (by omega) (fun e=>by have:=hnb j e;omega) (by omega)
end Vic
namespace Go.Proofs.YtehbhghbagaliaaGreatDoor
open Go.RowKit Vic
theorem info_part0:(Tryz.prog.info? 75).map (fun i=>(i.zero,i.size,i.bytes))=some (some (.agg #[.int .i64 0,.pointer none]),2,16):=by kernel_rfl
theorem info_part:∃ i:TypeInfo,Tryz.prog.info? 75=some i∧i.zero=some (.agg #[.int .i64 0,.pointer none])∧i.size=2∧i.bytes=16:=by
 have h:=info_part0
 cases hi:Tryz.prog.info? 75 with
 | none=>rw[hi]at h;simp at h
 | some i=>rw[hi]at h;simp at h;exact ⟨i,rfl,h.1,h.2.1,h.2.2⟩
theorem set_lookup {w:World}{m:Nat}{ks:List Int}(h:IntSet w m ks) (c:Int):(Instr.lookup 70 (.map (some m)) (.int .i64 c) false).run Tryz.prog w=.ok (.bool (decide (c∈ks))) w:=
 h.lookup Tryz.underlying70 Tryz.underlying3 (fun _=>by kernel_rfl) c
set_option maxRecDepth 100000 in
set_option maxHeartbeats 8000000 in
theorem vec_New (w:World) (v:Value) (cs:List VCoef) (h:CoefsIn w v cs) (hl:cs.length≤12) (hs:∀ x∈cs,x.2.length≤1000000) (ht:Tab w):Calls Tryz.prog 6 #[v] w (VecGot cs w):=by
 obtain ⟨A,c,rfl,hlc,hcell⟩:=h
 have HC:=Lib.hid hcell
 have HS:=Lib.hid hs
 have HT:=Lib.hid ht
 clear hcell hs ht
 have hmm:=@run_makeMap Tryz.prog
 go_enter Tryz.func6,Tryz.ntmps6
 go_wp2_with fail
 clear hmm
 go_loopw [15] (fun t wr=>∃ (k:Nat) (sv:Value) (fs:List VPart),t=.int .i64 k∧k≤cs.length∧Hid (NewAt (w.heap.size+2) 73 75 cs wr w.heap.size (w.heap.size+1) k sv fs)∧Below w.heap.size w wr) (fun t _=>cs.length - (intOf t).toNat)
 case atStart=>
  have hb1:Below w.heap.size w (w.alloc (.map #[] 0)):=(Below.refl _ _).alloc (Nat.le_refl _) _
  refine ⟨0,.slice none 0 0,[],rfl,Nat.zero_le _,⟨?_,?_,OwnK.nil_ _ _ _ _ _,fun x hx=>by simp at hx,rfl,⟨fun x hx=>by simp at hx,by simp⟩,Nat.le_refl _⟩,hb1.alloc (by simp) _⟩
  ·refine (IntSet.made w).keep (Below.heap_alloc _ _ _ (by simp))
  ·have:=Row.new (w.alloc (.map #[] 0)) 73 #[.slice none 0 0]
   simpa using this
 case round=>
  obtain ⟨k,sv,fs,rfl,hk,hi,hbr⟩:=hrel
  by_cases hlt:k<cs.length
  ·obtain ⟨x,hx⟩:∃ x,cs[k]?=some x:=⟨cs[k],by simp[hlt]⟩
   obtain ⟨g,o,rfl,hc1,hc2⟩:=HC.out k x hx
   have hc1':=cell_keep hc1 hbr
   have hc2':=cell_keep hc2 hbr
   have hxl:x.2.length≤1000000:=HS.out x (List.mem_of_getElem? hx)
   obtain ⟨col,l⟩:=x
   simp only at hc1' hc2' hxl
   have HX:=Lib.hid hx
   clear hc1 hc2 hx
   obtain ⟨w1,hw1⟩:∃ w1,w1=wr.alloc (.cells #[.int .i64 col,.string ⟨l.toArray⟩] 46):=⟨_,rfl⟩
   have hb1:Below wr.heap.size wr w1:=by rw[hw1];exact (Below.refl _ _).alloc (Nat.le_refl _) _
   have hv1:w1.cell? ⟨wr.heap.size,0,none⟩=some (.int .i64 col):=by rw[hw1];simp
   have CG:=Lib.hid (frac_Get w1 l hxl ((HT.out.keep hbr).keep hb1))
   unfold GotFrac at CG
   go_wp2_with fail
   rw[← hw1]
   refine CG.out.mono ?_
   rintro e w2 h2
   have hnx:∀ {P:Prop},(GoodCoefs cs→goodCoef (col,l)∧col∉(cs.take k).map (·.1)):=fun {P} hg=>(good_next HX.out hi.out.good).1 (good_take hg (k+1))
   have HNX:Hid (GoodCoefs cs→goodCoef (col,l)∧col∉(cs.take k).map (·.1)):=hnx (P:=True)
   clear hnx
   rcases h2 with ⟨hng,rfl,hb2⟩|⟨hgd,x2,rfl,hx2,hf2,hb2⟩
   ·go_wp2_with fail
    go_ret2
    exact .inl ⟨fun hg=>hng (HNX.out hg).1.2.2,rfl,hbr.trans ((below_seq hb1 hb2).mono hbr.size)⟩
   ·have hb02:Below wr.heap.size wr w2:=below_seq hb1 hb2
    have hB2:Below w.heap.size w w2:=hbr.trans (hb02.mono hbr.size)
    have hv2:=cell_keep hv1 hb2
    have HV1:=Lib.hid hv1
    have HGD:=Lib.hid hgd
    have hset:IntSet w2 w.heap.size ((cs.take k).map (·.1)):=hi.out.set_.keep (hb02.block _ hi.out.set_.lt)
    have hlk:=set_lookup hset col
    have HX2:=Lib.hid hx2
    have HF2:=Lib.hid hf2
    clear hv1 hgd hx2 hf2 hw1 hc1' hc2'
    by_cases h1:col<0
    ·clear hlk
     go_wp2_with fail
     go_ret2
     exact .inl ⟨fun hg=>absurd (HNX.out hg).1.1 (by omega),rfl,hB2⟩
    ·by_cases h2:999<col
     ·clear hlk
      go_wp2_with fail
      go_ret2
      exact .inl ⟨fun hg=>absurd (HNX.out hg).1.2.1 (by omega),rfl,hB2⟩
     ·by_cases h3:col∈(cs.take k).map (·.1)
      ·rw[decide_eq_true h3]at hlk
       have H3:=Lib.hid h3
       clear h3
       go_wp2_with fail
       go_ret2
       exact .inl ⟨fun hg=>absurd H3.out (HNX.out hg).2,rfl,hB2⟩
      ·rw[decide_eq_false h3]at hlk
       obtain ⟨w3,hup,hset3,hgr3,hsz3⟩:=hset.update (P:=Tryz.prog) Tryz.underlying70 Tryz.underlying3 col h3
       have hcm:=cells_map hset hgr3
       have HCM:=Lib.hid hcm
       have hx3:=HX2.out.cells hcm (blk_map hset hgr3)
       have hv3:=hcm _ _ _ hv2
       have CS:=Lib.hid (frac_Sign w3 x2 (fracOf l) hx3.at_ (HF2.out.mono (by omega)))
       obtain ⟨s,hs⟩:∃ s,s=signI (fracOf l):=⟨_,rfl⟩
       rw[← hs]at CS
       have HSG:=Lib.hid hs
       have H3:=Lib.hid h3
       have HST:=Lib.hid hset
       have HX3:=Lib.hid hx3
       have HS3:=Lib.hid hset3
       have HG3:=Lib.hid hgr3
       have HSZ:=Lib.hid hsz3
       clear h3 hs hx3 hset3 hgr3 hcm hset hsz3
       go_wp2_with fail
       refine CS.out.mono ?_
       rintro e w4 ⟨rfl,hb4⟩
       have hv4:=cell_keep hv3 hb4
       clear hv2 hv3 hlk hup
       have hmid4:NewMid (w.heap.size+2) 73 75 w4 (w.heap.size+1) sv fs:=((hi.out.mid.keep hb02).map_ HST.out HG3.out (by omega) (by omega)).keep hb4
       have hset4:IntSet w4 w.heap.size ((cs.take (k+1)).map (·.1)):=by
        rw[take_next HX.out,List.map_append]
        exact HS3.out.keep (hb4.block _ HS3.out.lt)
       have hB4:Below w.heap.size w w4:=(hB2.grown HG3.out hB2.size (fun j hj=>by cases hj;exact Nat.le_refl _)).trans (hb4.mono (Nat.le_trans hB2.size (Nat.le_of_eq HSZ.out.symm)))
       have hgood4:GoodCoefs (cs.take (k+1)):=(good_next HX.out hi.out.good).2 ⟨⟨by omega,by omega,HGD.out⟩,H3.out⟩
       have hx4:=HX3.out.keep hb4
       by_cases hs0:s=0
       ·subst hs0
        have hz:fracOf l=0:=signI_zero.1 HSG.out.symm
        have hpn:=partsOf_next HX.out
        rw[if_pos hz,List.append_nil]at hpn
        have hnew:Hid (NewAt (w.heap.size+2) 73 75 cs w4 w.heap.size (w.heap.size+1) (k+1) sv fs):=⟨hset4,hmid4.vec,hmid4.own,hmid4.frac,by rw[hpn];exact hi.out.parts,hgood4,Nat.le_succ_of_le hi.out.len⟩
        clear hz hpn hset4 hmid4 hgood4
        go_wp2_with fail
        go_roundw
        case rel=>exact ⟨k+1,sv,fs,rfl,by omega,hnew,hB4⟩
        case measure=>simp[intOf];omega
       ·have hq0:fracOf l≠0:=fun e=>hs0 (by rw[HSG.out];exact signI_zero.2 e)
        have hsb:(s != 0)=true:=by rw[bne_iff_ne];exact hs0
        have HM4:=Lib.hid hmid4;have HST4:=Lib.hid hset4;have HB4:=Lib.hid hB4;have HGG4:=Lib.hid hgood4;have HX4:=Lib.hid hx4;have HQ0:=Lib.hid hq0
        obtain ⟨bq,qn,qd,rfl,_⟩:=hx4
        have hvec4:=hmid4.vec.cell 0
        simp at hvec4
        have hfr4:=hmid4.vec.free 0
        clear hmid4 hset4 hB4 hgood4 hs0 hq0
        go_upto_region 11 with fail
        obtain ⟨i1,hi1,hz1,hsz1,hby1⟩:=info_part
        obtain ⟨ob,hob⟩:∃ ob:Obj,ob=.cells #[.int .i64 col,.pointer (some ⟨bq,0,none⟩)] 75:=⟨_,rfl⟩
        have B0:Below w4.heap.size w4 w4.drew:=⟨rfl,rfl,rfl,Nat.le_refl _,fun _ _=>rfl⟩
        have B1:Below w4.heap.size w4 (w4.drew.alloc ob):=B0.alloc (Nat.le_refl _) _
        have O1:=HM4.out.own.keep B1
        have hcl:∀ (j:Nat) u,([.int .i64 col,.pointer (some ⟨bq,0,none⟩)]:List Value)[j]?=some u→(w4.drew.alloc ob).cell? ((⟨w4.heap.size,0,none⟩:Addr).add j)=some u:=fun j u hj=>by
         rw[hob]
         have hrow:=Row.new w4.drew 75 #[.int .i64 col,.pointer (some ⟨bq,0,none⟩)]
         match j,hj with
         | 0,hj=>exact (hrow.cell 0).trans (by simpa using hj)
         | 1,hj=>exact (hrow.cell 1).trans (by simpa using hj)
         | j+2,hj=>simp at hj
        have hfl:fs.length≤12:=Nat.le_trans hi.out.len (by omega)
        have HO1:=Lib.hid O1;have HCL:=Lib.hid hcl;have HB1':=Lib.hid B1
        have hwsz:w4.drew.heap.size=w4.heap.size:=rfl
        have hnb:∀ j,sv.ownBlock=some j→w.heap.size+2≤j:=fun j hj=>(HM4.out.own.lt hj).1
        have HR6:Hid (∀ w6,(w4.drew.alloc ob).grownBy w6 sv.ownBlock→Row w6 (w.heap.size+1) 73 #[sv]):=fun w6 h6=>by
         have hr:=HM4.out.vec.keep HB1'.out
         exact (h6.block _ hr.lt (fun e=>by have:=hnb _ e.symm;omega)).trans hr
        have HHB:Hid (w.heap.size+2≤(w4.drew.alloc ob).heap.size):=Nat.le_trans HM4.out.vec.lt HB1'.out.size
        have BA:Below w4.heap.size w4 (w4.alloc ob):=(Below.refl _ _).alloc (Nat.le_refl _) _
        have hvA:=cell_keep hvec4 BA
        have hvB:=cell_keep hvec4 B1
        have hcA:=cell_keep hv4 BA
        have hcB:=cell_keep hv4 B1
        clear O1 hcl B1 BA
        subst hob
        go_region_law (first
         | (refine step_append_ownK (Kd:=partKind) rfl (.tmp 53) (.tmp 58) 71 rfl (w.heap.size+2) 75 i1 _ 2 Tryz.underlying71 hi1 hz1 hsz1 rfl (by omega) sv fs.length (fs.flatMap encPart) rfl HO1.out ⟨w4.heap.size,0,none⟩ 1 1 [.int .i64 col,.pointer (some ⟨bq,0,none⟩)] rfl rfl HCL.out (by simp[Value.oneCell']) (by simp[partKind]) (by simp[partKind,Value.cells]) (by omega) (by unfold maxLen;omega) (by rw[hby1];omega) HHB.out ?_;intro v6 w6 hown6 hgr6 hloc6;obtain ⟨g6,cap6,rfl⟩:=hown6.shape (Nat.succ_pos _);have hr6:=HR6.out w6 hgr6;have hc6:w6.cell? ⟨w.heap.size+1,0,none⟩=some sv:=hr6.cell 0;have hf6:=hr6.free 0))
        all_goals
         go_wp2_with fail
         go_roundw
         case rel=>
          obtain ⟨hmid6,hset6,hb6⟩:=NewMid.append (x:=(col,some ⟨bq,0,none⟩,fracOf l)) HM4.out HST4.out (Nat.lt_succ_self _) (Nat.lt_succ_self _) HB1'.out hgr6 hown6 hloc6 ⟨HX4.out,HQ0.out,HF2.out⟩
          refine ⟨k+1,_,fs ++ [(col,some ⟨bq,0,none⟩,fracOf l)],rfl,by omega,⟨hset6,hmid6.vec,hmid6.own,hmid6.frac,?_,HGG4.out,?_⟩,HB4.out.trans (hb6 w.heap.size (Nat.le_succ _))⟩
          ·rw[partsOf_next HX.out,if_neg HQ0.out,← hi.out.parts]
           simp[unpart]
          ·have:=hi.out.len
           simp;omega
         case measure=>simp[intOf];omega
  ·obtain rfl:k=cs.length:=by omega
   have hgood:Hid (GoodCoefs cs):=by have:=hi.out.good;rwa [List.take_length]at this
   have hparts:Hid (unpart fs=partsOf cs):=by have:=hi.out.parts;rwa [List.take_length]at this
   have hvc:wr.cell? ⟨w.heap.size+1,0,none⟩=some sv:=hi.out.vec.cell 0
   have hfl:fs.length≤12:=Nat.le_trans hi.out.len hl
   have HFR:=Lib.hid hi.out.frac
   have HOW:=Lib.hid hi.out.own
   have HVV:=Lib.hid hi.out.vec
   have hend:∀ (w':World) (sv:Value) (fs':List VPart),fs'.Perm fs→fs'.Pairwise (fun x y=>¬ y.1<x.1)→PartsIn w' sv fs'→w'.cell? ⟨w.heap.size+1,0,none⟩=some sv→Below w.heap.size w w' →
    VecGot cs w (.returned (.tuple #[.pointer (some ⟨w.heap.size+1,0,none⟩),.bool true])) w':=fun w' sv fs' hp hs hpi hc hb=>by
    refine .inr ⟨hgood.out,_,unpart fs',rfl,⟨_,sv,fs',rfl,hc,hpi,rfl⟩,?_,?_,?_,hb⟩
    ·rw[← hparts.out];exact hp.map _
    ·have hnd:((unpart fs').map (·.1)).Nodup:=by
      have h1:((unpart fs').map (·.1)).Perm ((partsOf cs).map (·.1)):=by rw[← hparts.out];exact (hp.map _).map _
      refine h1.nodup_iff.2 ?_
      have h2:((partsOf cs).map (·.1)).Sublist (cs.map (·.1)):=by
       unfold partsOf
       have h3:((cs.map fun x=>(x.1,fracOf x.2)).filter fun p=>p.2 != 0).Sublist (cs.map fun x=>(x.1,fracOf x.2)):=List.filter_sublist
       have h4:=h3.map (fun x:Int × Rat=>x.1)
       rwa [List.map_map]at h4
      exact hgood.out.2.sublist h2
     have hs2:(unpart fs').Pairwise (fun x y=>¬ y.1<x.1):=by
      unfold unpart
      rw[List.pairwise_map]
      exact hs
     rw[List.Nodup,List.pairwise_map]at hnd
     exact (hs2.and hnd).imp fun h=>by have:=h.1;have:=h.2;omega
    ·intro p hp2
     obtain ⟨x,hx,rfl⟩:=List.mem_map.1 hp2
     exact (HFR.out x (hp.mem_iff.1 hx)).2.2
   have HEND:=Lib.hid hend
   have HBR:=Lib.hid hbr
   clear hend hbr hi
   rcases Nat.eq_zero_or_pos fs.length with h0|h0
   ·obtain rfl:fs = []:=List.eq_nil_of_length_eq_zero h0
    obtain ⟨A0,c0,rfl⟩:∃ A0 c0,sv=.slice A0 0 c0:=by
     obtain ⟨_,⟨h1,_⟩|⟨g,cap,cur,h1,_⟩⟩:=HOW.out
     ·exact ⟨_,_,h1⟩
     ·exact ⟨_,_,h1⟩
    have CS:Hid (Calls Tryz.prog 37 #[.slice A0 0 c0,.func (.func 38) #[] #[]] wr fun e w'=>e=.returned (.tuple #[])∧w'=wr):=sort_nil A0 c0 _ wr
    clear hfl h0
    go_wp2_with fail
    refine CS.out.mono ?_
    rintro e w' ⟨rfl,rfl⟩
    go_wp2_with fail
    go_ret2
    exact HEND.out _ _ [] (List.Perm.refl _) List.Pairwise.nil ⟨A0,c0,rfl,Nat.zero_le _,fun i x hx=>by simp at hx⟩ hvc HBR.out
   ·obtain ⟨g,cap,rfl⟩:=HOW.out.shape h0
    have CS:=Lib.hid (vec_sorted wr _ g cap fs HOW.out (fun x hx=>⟨(HFR.out x hx).1,(HFR.out x hx).2.1⟩) hfl)
    have hgb:=(HOW.out.lt (g:=g) rfl).1
    clear hfl h0
    go_wp2_with fail
    refine CS.out.mono ?_
    rintro e w5 ⟨rfl,fs',hp,hs,hpi,htn⟩
    go_wp2_with fail
    go_ret2
    refine HEND.out w5 _ fs' hp hs hpi ?_ (HBR.out.trans (htn.below HBR.out.size (fun j hj=>by subst hj;omega)))
    rw[cell_same (htn.same _ HVV.out.lt (by omega))]
    exact hvc
end Go.Proofs.YtehbhghbagaliaaGreatDoor
