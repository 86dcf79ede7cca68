/- append onto nil: a copy of a slice of numbers. No program in sight. -/
import Derived.Test.YtehbhghbagaliaaGreatDoorJRoom
import Derived.Maps.AppendAt
set_option linter.unusedVariables false
set_option linter.unusedSimpArgs false
namespace Vic
open Go Go.RowKit
theorem below_grown {w w':World}(h:w.grownBy w' none):Below w.heap.size w w':=
 ⟨h.os,h.tape,h.output,h.size,fun k hk=>h.block k hk (by simp)⟩
theorem copy_nil {P:Program}{t ty e:TypeId}{i:TypeInfo}{z:Value}(ht:P.underlying t=some (.slice e)) (hi:P.info? e=some i) (hz:i.zero=some z) (hsz:i.size=1) (hzs:z.cells.size=1)
 (k:IntKind) (w:World) (l:List Nat) (A:Option Addr) (c:Nat) (hl:Ints k w (.slice A l.length c) l) (hb:l.length*i.bytes≤140737488355328) (h63:l.length≤maxLen) :
 ∃ v' w',(Builtin.append_ #[t,t] ty #[.slice none 0 0,.slice A l.length c]).run P w=.ok v' w'∧Ints k w' v' l∧Below w.heap.size w w':=by
 obtain ⟨A',c',hv,hlc,hcell⟩:=hl
 injection hv with h1 h2 h3
 subst h1;subst h3
 by_cases h0:l = []
 ·subst h0
  refine ⟨.slice none 0 0,w,?_,Ints.nil_ _ _,Below.refl _ _⟩
  rcases A with _|A<;>simp[Builtin.append_,run_underlying ht,Go.sizeOf,typeInfo,hi,Builtin.lenOf,Builtin.firstCells,loadCells,loadCellsFrom]
 ·have hne:0<l.length:=by
   rcases l with _|⟨x,r⟩
   ·exact absurd rfl h0
   ·simp
  obtain ⟨b,o,rfl,_⟩:=hcell 0 hne
  have hcs:∀ i,i<l.length→w.cell? ⟨b,o+i,none⟩=some (.int k ((l.getD i 0:Nat):Int)):=fun i hi=>by
   obtain ⟨b',o',hb,hc⟩:=hcell i hi
   injection hb with hb
   injection hb with hb1 hb2
   subst hb1;subst hb2
   exact hc
  obtain ⟨v',w',hr,hown,hgr,_,_⟩:=run_append_own_at (P:=P) w w.heap.size t ty e i z 1 i.bytes ht hi hz hsz rfl hzs (by omega) (.slice none 0 0) 0 [] (World.ownsRow_nil w w.heap.size e 1)
   ⟨b,o,none⟩ l.length c (l.map fun (d:Nat)=>Value.int k (d:Int)) (by simp) (fun j u hj=>by
    have hjl:j<l.length:=by
     have:=(List.getElem?_eq_some_iff.1 hj).1
     simpa using this
    rw[show (⟨b,o,none⟩:Addr).add j=⟨b,o+j,none⟩ by simp[Addr.add],hcs j hjl,← hj]
    simp[List.getD_eq_getElem?_getD,hjl]) (fun u hu=>by
    obtain ⟨d,_,rfl⟩:=List.mem_map.1 hu
    rfl) (by omega) (by simpa using hb) (Nat.le_refl _)
  refine ⟨v',w',hr,?_,below_grown hgr⟩
  simp only[Nat.zero_add,List.nil_append]at hown
  rcases hown.2 with ⟨_,h5⟩|⟨g,cap,cur,rfl,hbg,hg,hnc,hcm,hcs2,htake⟩
  ·omega
  ·refine ⟨_,cap,rfl,hnc,fun j hj=>⟨g,0,rfl,?_⟩⟩
   rw[Nat.mul_one]at htake hcs2
   have e1:cur.toList[j]?=(cur.toList.take l.length)[j]?:=by rw[List.getElem?_take,if_pos hj]
   rw[htake]at e1
   simp only[World.cell?,hg,Nat.zero_add]
   rw[← Array.getElem?_toList,e1]
   simp[List.getD_eq_getElem?_getD,hj]
theorem wpList_append_copy {P:Program}{ops:Array Oper}{rest:List Oper}{o:Oper}{a:Act}{w:World}{Q:Exit→Act→World→Prop}(hgd:o.guard=none) (s x:Operand) (t:TypeId)
 (ho:o.op=.call { callee:=.builtin .append,args:=#[s,x],argTypes:=#[t,t] }) (e:TypeId) (i:TypeInfo) (z:Value) (ht:P.underlying t=some (.slice e)) (hi:P.info? e=some i) (hz:i.zero=some z) (hsz:i.size=1) (hzs:z.cells.size=1)
 (k:IntKind) (l:List Nat) (A:Option Addr) (m c:Nat) (hs:a.eval s=.slice none 0 0) (hx:a.eval x=.slice A m c) (hm:m=l.length) (hl:Ints k w (.slice A l.length c) l) (hb:l.length*i.bytes≤140737488355328) (h63:l.length≤maxLen)
 (h:∀ v' w',Ints k w' v' l→Below w.heap.size w w'→wpList P ops Q rest (a.put o.dst v') w'):wpList P ops Q (o :: rest) a w:=by
 subst hm
 refine wpList_plain hgd fun K hK=>?_
 obtain ⟨v',w',hrun,h2,h3⟩:=copy_nil (P:=P) (ty:=o.type) ht hi hz hsz hzs k w l A c hl hb h63
 unfold Oper.wp execOp
 simp only[ho,resolve,invoke,builtin,Sem.run_bind,Sem.run_pure,Result.andThen_ok,List.map_toArray,List.map_cons,List.map_nil,hs,hx,hrun]
 exact hK _ _ (h v' w' h2 h3)
end Vic
