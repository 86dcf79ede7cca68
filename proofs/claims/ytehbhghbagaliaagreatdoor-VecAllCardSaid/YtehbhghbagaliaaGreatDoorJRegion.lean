/- A stretch of digits in a block; a call that writes to one block alone. No program in sight. -/
import Derived.Test.YtehbhghbagaliaaGreatDoorJMemA
import Derived.Deep.Draws
set_option linter.unusedVariables false
set_option linter.unusedSimpArgs false
namespace Vic
open Go Go.RowKit
def upd (cur:Array Value) (oa:Nat) (l:List Nat):Array Value:=
 cur.mapIdx fun j v=>if oa≤j∧j<oa+l.length then .int .u32 ((l.getD (j - oa) 0:Nat):Int)else v
theorem upd_size (cur:Array Value) (oa:Nat) (l:List Nat):(upd cur oa l).size=cur.size:=by simp[upd]
theorem upd_get (cur:Array Value) (oa:Nat) (l:List Nat) (i:Nat) (h:i<l.length) (hs:oa+l.length≤cur.size) :
 (upd cur oa l)[oa+i]?=some (.int .u32 ((l.getD i 0:Nat):Int)):=by
 simp only[upd,Array.getElem?_mapIdx]
 rw[Array.getElem?_eq_getElem (show oa+i<cur.size by omega)]
 simp only[Option.map_some]
 rw[if_pos (by omega),Nat.add_sub_cancel_left]
theorem upd_other (cur:Array Value) (oa:Nat) (l:List Nat) (j:Nat) (h:j<oa∨oa+l.length≤j):(upd cur oa l)[j]?=cur[j]?:=by
 simp only[upd,Array.getElem?_mapIdx]
 cases cur[j]? with
 | none=>rfl
 | some v=>simp only[Option.map_some];rw[if_neg (by omega)]
theorem upd_set (cur:Array Value) (oa:Nat) (l:List Nat) (i d:Nat) (h:i<l.length) :
 (upd cur oa l).setIfInBounds (oa+i) (.int .u32 (d:Int))=upd cur oa (l.set i d):=by
 apply Array.ext_getElem?
 intro j
 rw[Array.getElem?_setIfInBounds]
 simp only[upd,Array.getElem?_mapIdx,Array.size_mapIdx,List.length_set]
 by_cases hj:oa+i=j
 ·subst hj
  rw[if_pos rfl]
  by_cases hs:oa+i<cur.size
  ·rw[if_pos hs,Array.getElem?_eq_getElem hs]
   simp only[Option.map_some]
   rw[if_pos (by omega),Nat.add_sub_cancel_left]
   simp[List.getD_eq_getElem?_getD,h]
  ·rw[if_neg hs,Array.getElem?_eq_none (by omega)];rfl
 ·rw[if_neg hj]
  cases cur[j]? with
  | none=>rfl
  | some v=>
    simp only[Option.map_some]
    by_cases hin:oa≤j∧j<oa+l.length
    ·rw[if_pos hin,if_pos hin]
     have:j - oa≠i:=by omega
     simp[List.getD_eq_getElem?_getD,List.getElem?_set_ne (Ne.symm this)]
    ·rw[if_neg hin,if_neg hin]
theorem upd_upd (cur:Array Value) (oa:Nat) (l l':List Nat) (h:l.length=l'.length):upd (upd cur oa l) oa l'=upd cur oa l':=by
 apply Array.ext_getElem?
 intro j
 simp only[upd,Array.getElem?_mapIdx]
 cases cur[j]? with
 | none=>rfl
 | some v=>simp only[Option.map_some];rw[h];split<;>rfl
theorem upd_self (cur:Array Value) (oa:Nat) (l:List Nat) (h:∀ i,i<l.length→cur[oa+i]?=some (.int .u32 ((l.getD i 0:Nat):Int))):upd cur oa l=cur:=by
 apply Array.ext_getElem?
 intro j
 simp only[upd,Array.getElem?_mapIdx]
 cases hc:cur[j]? with
 | none=>rfl
 | some v=>
   simp only[Option.map_some]
   split
   ·rename_i hj
    have:=h (j - oa) (by omega)
    rw[show oa+(j - oa)=j by omega,hc]at this
    exact this.symm
   ·rfl
structure Only (b:Nat) (w w':World):Prop where
 os:w'.os=w.os
 tape:w'.tape=w.tape
 output:w'.output=w.output
 size:w'.heap.size=w.heap.size
 block:∀ k,k≠b→w'.heap[k]?=w.heap[k]?
theorem Only.refl (b:Nat) (w:World):Only b w w:=⟨rfl,rfl,rfl,rfl,fun _ _=>rfl⟩
theorem Only.trans {b:Nat}{u v w:World}(h:Only b u v) (k:Only b v w):Only b u w:=
 ⟨k.os.trans h.os,k.tape.trans h.tape,k.output.trans h.output,k.size.trans h.size,fun i hi=>(k.block i hi).trans (h.block i hi)⟩
theorem Only.drewN {b:Nat}{u w:World}(h:Only b u w) (n:Nat):Only b u (w.drewN n):=⟨h.os,h.tape,h.output,h.size,h.block⟩
theorem Only.setCell {b:Nat}{u w:World}(h:Only b u w) (i:Nat) (x:Value):Only b u (w.setCell ⟨b,i,none⟩ x):=
 h.trans ⟨rfl,rfl,rfl,by simp[World.setCell],fun k hk=>Below.heap_setCell _ _ _ _ hk⟩
theorem Only.cell {b:Nat}{u w:World}(h:Only b u w) {c o:Nat}(hc:c≠b):w.cell? ⟨c,o,none⟩=u.cell? ⟨c,o,none⟩:=World.cell?_of_block (w:=u) (h.block c hc)
theorem Only.below {b B:Nat}{u w:World}(h:Only b u w) (hB:B≤b):Below B u w:=
 ⟨h.os,h.tape,h.output,by rw[h.size];exact Nat.le_refl _,fun k hk=>h.block k (by omega)⟩
theorem Row.drewN {w:World}{b:Nat}{t:TypeId}{cs:Array Value}(h:Row w b t cs) (n:Nat):Row (w.drewN n) b t cs:=h
theorem Below.drewN_ {B:Nat}{u w:World}(h:Below B u w) (n:Nat):Below B u (w.drewN n):=⟨h.os,h.tape,h.output,h.size,h.block⟩
end Vic
