/- append onto an own row with room: the digits stand behind. A stretch of a row. No program in sight. -/
import Derived.Test.YtehbhghbagaliaaGreatDoorJRegion
import Derived.Test.YtehbhghbagaliaaGreatDoorJPlainA
import Derived.Laws.AppendOwn
import Derived.Deep.RegionLaw
set_option linter.unusedVariables false
set_option linter.unusedSimpArgs false
namespace Vic
open Go Go.RowKit
theorem setRow_only (w:World) (g:Nat) (cs:Array Value):Only g w (w.setRow g cs):=
 ⟨rfl,rfl,rfl,by simp[World.setRow],fun k hk=>setRow_other w g k cs hk⟩
theorem vals_append (k:IntKind) (z l:List Nat) (n:Nat) :
 ((vals k z).toList.take n ++ l.map (fun (d:Nat)=>Value.int k (d:Int)) ++ (vals k z).toList.drop (n+l.length)).toArray=vals k (z.take n ++ l ++ z.drop (n+l.length)):=by
 simp[vals]
theorem Row.append {P:Program}{t ty e:TypeId}{i:TypeInfo}(ht:P.underlying t=some (.slice e)) (hi:P.info? e=some i) (hsz:i.size=1) {k:IntKind}{w:World}{g:Nat}{z l:List Nat}{A:Option Addr}{n c cx:Nat}
 (hr:Row w g e (vals k z)) (hl:Ints k w (.slice A l.length cx) l) (hne:0<l.length) (hn:n+l.length≤z.length) (hc:n+l.length≤c) :
 ∃ w',(Builtin.append_ #[t,t] ty #[.slice (some ⟨g,0,none⟩) n c,.slice A l.length cx]).run P w=.ok (.slice (some ⟨g,0,none⟩) (n+l.length) c) w' ∧
   Row w' g e (vals k (z.take n ++ l ++ z.drop (n+l.length)))∧Only g w w':=by
 obtain ⟨A',c',hv,hlc,hcell⟩:=hl
 injection hv with h1 h2 h3
 subst h1;subst h3
 obtain ⟨b,o,rfl,_⟩:=hcell 0 hne
 have hcs:∀ i,i<l.length→w.cell? ⟨b,o+i,none⟩=some (.int k ((l.getD i 0:Nat):Int)):=fun i hi=>by
  obtain ⟨b',o',hb,hc⟩:=hcell i hi
  injection hb with hb
  injection hb with hb1 hb2
  subst hb1;subst hb2
  exact hc
 have hrun:=run_append_room (P:=P) w t ty e i ht hi g n c (vals k z) hr ⟨b,o,none⟩ l.length cx (l.map fun (d:Nat)=>Value.int k (d:Int)) (by simp[hsz]) (fun j u hj=>by
  have hjl:j<l.length:=by
   have:=(List.getElem?_eq_some_iff.1 hj).1
   simpa using this
  rw[show (⟨b,o,none⟩:Addr).add j=⟨b,o+j,none⟩ by simp[Addr.add],hcs j hjl,← hj]
  simp[List.getD_eq_getElem?_getD,hjl]) (fun u hu=>by
  obtain ⟨d,_,rfl⟩:=List.mem_map.1 hu
  rfl) hc (by simp[hsz,vals_size];omega)
 refine ⟨_,hrun,?_,setRow_only _ _ _⟩
 have:=setRow_heap w g (vals k z) (((vals k z).toList.take (n*i.size) ++ l.map (fun (d:Nat)=>Value.int k (d:Int)) ++ (vals k z).toList.drop (n*i.size+(l.map (fun (d:Nat)=>Value.int k (d:Int))).length)).toArray) e (0,0) hr
 rw[hsz,Nat.mul_one,List.length_map,vals_append]at this
 rw[hsz,Nat.mul_one,List.length_map,vals_append]
 exact this
theorem wpList_append_row {P:Program}{ops:Array Oper}{rest:List Oper}{o:Oper}{a:Act}{w:World}{Q:Exit→Act→World→Prop}(hgd:o.guard=none) (s x:Operand) (t:TypeId)
 (ho:o.op=.call { callee:=.builtin .append,args:=#[s,x],argTypes:=#[t,t] }) (e:TypeId) (i:TypeInfo) (ht:P.underlying t=some (.slice e)) (hi:P.info? e=some i) (hsz:i.size=1)
 (k:IntKind) (g n c cx:Nat) (z l:List Nat) (A:Option Addr) (m:Nat) (hs:a.eval s=.slice (some ⟨g,0,none⟩) n c) (hx:a.eval x=.slice A m cx) (hm:m=l.length)
 (hr:Row w g e (vals k z)) (hl:Ints k w (.slice A l.length cx) l) (hne:0<l.length) (hn:n+l.length≤z.length) (hc:n+l.length≤c)
 (h:∀ w',Row w' g e (vals k (z.take n ++ l ++ z.drop (n+l.length)))→Only g w w'→wpList P ops Q rest (a.put o.dst (.slice (some ⟨g,0,none⟩) (n+m) c)) w'):wpList P ops Q (o :: rest) a w:=by
 subst hm
 refine wpList_plain hgd fun K hK=>?_
 obtain ⟨w',hrun,h2,h3⟩:=Row.append (P:=P) (ty:=o.type) ht hi hsz hr hl hne hn hc
 unfold Oper.wp execOp
 simp only[ho,resolve,invoke,builtin,Sem.run_bind,Sem.run_pure,Result.andThen_ok,List.map_toArray,List.map_cons,List.map_nil,hs,hx,hrun]
 exact hK _ _ (h w' h2 h3)
theorem step_append_row {P:Program}{ops:Array Oper}{o:Oper}{a:Act}{w:World}{K:Act→World→Prop}{Q:Exit→Act→World→Prop}{E:Prop}(hgd:o.guard=none) (s x:Operand) (t:TypeId)
 (ho:o.op=.call { callee:=.builtin .append,args:=#[s,x],argTypes:=#[t,t] }) (e:TypeId) (i:TypeInfo) (ht:P.underlying t=some (.slice e)) (hi:P.info? e=some i) (hsz:i.size=1)
 (k:IntKind) (g n c cx:Nat) (z l:List Nat) (A:Option Addr) (m:Nat) (hs:a.eval s=.slice (some ⟨g,0,none⟩) n c) (hx:a.eval x=.slice A m cx) (hm:m=l.length)
 (hr:Row w g e (vals k z)) (hl:Ints k w (.slice A l.length cx) l) (hne:0<l.length) (hn:n+l.length≤z.length) (hc:n+l.length≤c)
 (h:∀ w',Row w' g e (vals k (z.take n ++ l ++ z.drop (n+l.length)))→Only g w w'→K (a.put o.dst (.slice (some ⟨g,0,none⟩) (n+m) c)) w') :
 if Region.wanted o (yielded ops a.tmps)=true then Oper.wp P o a w K Q else E:=by
 subst hm
 have hw:Region.wanted o (yielded ops a.tmps)=true:=by simp[Region.wanted,hgd]
 rw[if_pos hw]
 obtain ⟨w',hrun,h2,h3⟩:=Row.append (P:=P) (ty:=o.type) ht hi hsz hr hl hne hn hc
 unfold Oper.wp execOp
 simp only[ho,resolve,invoke,builtin,Sem.run_bind,Sem.run_pure,Result.andThen_ok,List.map_toArray,List.map_cons,List.map_nil,hs,hx,hrun]
 exact h w' h2 h3
theorem Row.front {k:IntKind}{w:World}{b:Nat}{t:TypeId}{z:List Nat}(h:Row w b t (vals k z)) (n c:Nat) (hn:n≤z.length) (hc:n≤c):Ints k w (.slice (some ⟨b,0,none⟩) n c) (z.take n):=by
 have hlen:(z.take n).length=n:=by simp;omega
 refine ⟨_,c,by rw[hlen],by rw[hlen];exact hc,fun i hi=>⟨b,0,rfl,?_⟩⟩
 rw[hlen]at hi
 rw[Nat.zero_add,h.cell,vals_get k z i (by omega),getD_take z n i hi]
theorem upd_window (z:List Nat) (i n:Nat) (h:i+n≤z.length):upd (vals .u32 z) i ((z.drop i).take n)=vals .u32 z:=by
 refine upd_self _ _ _ fun j hj=>?_
 have hlen:((z.drop i).take n).length=n:=by simp;omega
 rw[hlen]at hj
 rw[vals_get .u32 z (i+j) (by omega),getD_take _ n j hj,getD_drop]
theorem upd_vals (z l:List Nat) (i:Nat) (h:i+l.length≤z.length):upd (vals .u32 z) i l=vals .u32 (z.take i ++ l ++ z.drop (i+l.length)):=by
 apply Array.ext_getElem?
 intro j
 have hti:(z.take i).length=i:=by simp;omega
 by_cases hj:i≤j∧j<i+l.length
 ·have e:=upd_get (vals .u32 z) i l (j - i) (by omega) (by rw[vals_size];omega)
  rw[show i+(j - i)=j by omega]at e
  rw[e,vals_get _ _ _ (by simp;omega),List.append_assoc,getD_app_right _ _ _ (by omega),hti,getD_app_left _ _ _ (by omega)]
 ·rw[upd_other _ _ _ _ (by omega)]
  by_cases hz:j<z.length
  ·rw[vals_get _ _ _ hz,vals_get _ _ _ (by simp;omega),List.append_assoc]
   congr 3
   rcases Nat.lt_or_ge j i with h1|h1
   ·rw[getD_app_left _ _ _ (by omega),getD_take _ _ _ h1]
   ·rw[getD_app_right _ _ _ (by omega),hti,getD_app_right _ _ _ (by omega),getD_drop]
    congr 1
    omega
  ·rw[Array.getElem?_eq_none (by rw[vals_size];omega),Array.getElem?_eq_none (by rw[vals_size];simp;omega)]
end Vic
