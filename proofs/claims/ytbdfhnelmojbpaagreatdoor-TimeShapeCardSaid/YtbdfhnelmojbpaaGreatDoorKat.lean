/- A row of one's own of which every cell is known to be of a kind: appending to it; what lies elsewhere stays. No program in sight. -/
import Derived.Test.YtbdfhnelmojbpaaGreatDoorKap
import Derived.Maps.AppendAt
import Derived.Deep.RegionLaw
import Derived.MapKept
import Derived.Test.YtbdfhnelmojbpaaGreatDoorKar
set_option linter.unusedVariables false
set_option linter.unusedSimpArgs false
section
namespace Vic
open Go Go.RowKit
def OwnK (Kd:Value→Prop) (w:World) (base:Nat) (e:TypeId) (size:Nat) (v:Value) (n:Nat) (xs:List Value):Prop:=
 xs.length=n*size ∧
 ((v=.slice none 0 0∧n=0) ∨
  ∃ g cap cur,v=.slice (some ⟨g,0,none⟩) n cap∧base≤g∧w.heap[g]?=some (.cells cur e (0,0))∧n≤cap∧cap≤maxLen∧cur.size=cap*size∧cur.toList.take (n*size)=xs∧∀ u∈cur,Kd u)
theorem OwnK.own {Kd:Value→Prop}{w:World}{base:Nat}{e:TypeId}{size:Nat}{v:Value}{n:Nat}{xs:List Value}(h:OwnK Kd w base e size v n xs):w.ownsRow base e size v n xs:=by
 obtain ⟨h1,h2|⟨g,cap,cur,a1,a2,a3,a4,a5,a6,a7,_⟩⟩:=h
 ·exact ⟨h1,.inl h2⟩
 ·exact ⟨h1,.inr ⟨g,cap,cur,a1,a2,a3,a4,a5,a6,a7⟩⟩
theorem OwnK.nil_ (Kd:Value→Prop) (w:World) (base:Nat) (e:TypeId) (size:Nat):OwnK Kd w base e size (.slice none 0 0) 0 []:=⟨by simp,.inl ⟨rfl,rfl⟩⟩
theorem OwnK.stay {Kd:Value→Prop}{w w':World}{base:Nat}{e:TypeId}{size:Nat}{v:Value}{n:Nat}{xs:List Value}(h:OwnK Kd w base e size v n xs) (hs:∀ g,v.ownBlock=some g→w'.heap[g]?=w.heap[g]?):OwnK Kd w' base e size v n xs:=by
 obtain ⟨h1,h2|⟨g,cap,cur,rfl,a2,a3,a4⟩⟩:=h
 ·exact ⟨h1,.inl h2⟩
 ·exact ⟨h1,.inr ⟨g,cap,cur,rfl,a2,by rw[hs g rfl];exact a3,a4⟩⟩
theorem OwnK.lt {Kd:Value→Prop}{w:World}{base:Nat}{e:TypeId}{size:Nat}{v:Value}{n:Nat}{xs:List Value}(h:OwnK Kd w base e size v n xs) {g:Nat}(hg:v.ownBlock=some g):base≤g∧g<w.heap.size:=by
 obtain ⟨h1,⟨rfl,_⟩|⟨g',cap,cur,rfl,a2,a3,a4⟩⟩:=h
 ·cases hg
 ·injection hg with hg
  subst hg
  refine ⟨a2,?_⟩
  rcases Nat.lt_or_ge g' w.heap.size with h|h
  ·exact h
  ·rw[Array.getElem?_eq_none h]at a3;cases a3
theorem OwnK.keep {Kd:Value→Prop}{w w':World}{base:Nat}{e:TypeId}{size:Nat}{v:Value}{n:Nat}{xs:List Value}(h:OwnK Kd w base e size v n xs) (hb:Below w.heap.size w w'):OwnK Kd w' base e size v n xs:=
 h.stay fun g hg=>hb.block g (h.lt hg).2
theorem OwnK.kind {Kd:Value→Prop}{w:World}{base:Nat}{e:TypeId}{size:Nat}{v:Value}{n:Nat}{xs:List Value}(h:OwnK Kd w base e size v n xs) {g:Nat}(hg:v.ownBlock=some g) {o:Nat}{u:Value}(hc:w.cell? ⟨g,o,none⟩=some u):Kd u:=by
 obtain ⟨h1,⟨rfl,_⟩|⟨g',cap,cur,rfl,a2,a3,a4,a5,a6,a7,a8⟩⟩:=h
 ·cases hg
 ·cases hg
  simp only[World.cell?,a3]at hc
  exact a8 u (Array.mem_of_getElem? hc)
theorem OwnK.shape {Kd:Value→Prop}{w:World}{base:Nat}{e:TypeId}{size:Nat}{v:Value}{n:Nat}{xs:List Value}(h:OwnK Kd w base e size v n xs) (h0:0<n):∃ g cap,v=.slice (some ⟨g,0,none⟩) n cap:=by
 obtain ⟨_,⟨_,h1⟩|⟨g,cap,cur,rfl,_⟩⟩:=h
 ·omega
 ·exact ⟨g,cap,rfl⟩
theorem mem_zeroCells {z:Array Value}{n:Nat}{u:Value}(h:u∈Builtin.zeroCells z n):u∈z:=by
 unfold Builtin.zeroCells at h
 obtain ⟨i,hi,rfl⟩:=Array.mem_map.1 h
 have hz:0<z.size:=by
  rcases Nat.eq_zero_or_pos z.size with h0|h0
  ·rw[h0]at hi;simp at hi
  ·exact h0
 have hlt:i % z.size<z.size:=Nat.mod_lt _ hz
 rw[getElem!_pos z (i % z.size) hlt]
 exact Array.getElem_mem hlt
theorem OwnK.append {P:Program}{Kd:Value→Prop}{w:World}{base:Nat}{t ty e:TypeId}{i:TypeInfo}{z:Value}{size:Nat}(ht:P.underlying t=some (.slice e)) (hi:P.info? e=some i) (hz:i.zero=some z)
 (hsize:i.size=size) (hzs:z.cells.size=size) (hsz:0<size)
 {v:Value}{n:Nat}{xs:List Value}(hown:OwnK Kd w base e size v n xs)
 (a:Addr) (m c:Nat) (news:List Value) (hl:news.length=m*size) (hnews:∀ j u,news[j]?=some u→w.cell? (a.add j)=some u) (h1:∀ u∈news,u.oneCell'=true)
 (hk:∀ u∈news,Kd u) (hkz:∀ u∈z.cells,Kd u) (h0:0<m)
 (h63:n+m≤maxLen) (hbytes:(n+m)*i.bytes≤140737488355328) (hbase:base≤w.heap.size) :
 ∃ v' w',(Builtin.append_ #[t,t] ty #[v,.slice (some a) m c]).run P w=.ok v' w'∧OwnK Kd w' base e size v' (n+m) (xs ++ news)∧w.grownBy w' v.ownBlock∧(v'.ownBlock=v.ownBlock∨v'.ownBlock=some w.heap.size):=by
 subst hsize
 have hsmall:n+m≤9223372036854775807:=by simp only[maxLen]at h63;omega
 have hlen:(xs ++ news).length=(n+m)*i.size:=by rw[List.length_append,hown.1,hl,Nat.add_mul]
 have grown:∀ (old:Nat),(∀ u∈xs,Kd u)→∀ (row:Option Nat),
  OwnK Kd (w.drew.alloc (.cells (xs.toArray ++ news.toArray ++ Builtin.zeroCells z.cells (grownCap w (n+m) old e - (n+m))) e)) base e i.size
   (.slice (some ⟨w.heap.size,0,none⟩) (n+m) (grownCap w (n+m) old e)) (n+m) (xs ++ news) ∧
  w.grownBy (w.drew.alloc (.cells (xs.toArray ++ news.toArray ++ Builtin.zeroCells z.cells (grownCap w (n+m) old e - (n+m))) e)) row:=by
  intro old hxs row
  have hge:=grownCap_ge w (n+m) old e
  have hcm:grownCap w (n+m) old e≤maxLen:=grownCap_le_maxLen w (n+m) old e h63
  refine ⟨⟨hlen,.inr ⟨w.heap.size,_,_,rfl,hbase,heap_alloc_new w.drew _,hge,hcm,?_,?_,?_⟩⟩,⟨rfl,rfl,rfl,by simp,fun k hk _=>Below.heap_alloc w.drew _ k hk⟩⟩
  ·simp only[Array.size_append,List.size_toArray,size_zeroCells,hzs,hown.1,hl,← Nat.add_mul]
   congr 1
   omega
  ·simp only[Array.toList_append,List.append_assoc]
   rw[← List.append_assoc,← hlen]
   exact List.take_left
  ·intro u hu
   rcases Array.mem_append.1 hu with hu|hu
   ·rcases Array.mem_append.1 hu with hu|hu
    ·exact hxs u (by simpa using hu)
    ·exact hk u (by simpa using hu)
   ·exact hkz u (mem_zeroCells hu)
 rcases hown.2 with ⟨rfl,rfl⟩|⟨g,cap,cur,rfl,hbg,hg,hnc,hcm,hcs,htake,hkd⟩
 ·have hx:xs = []:=List.eq_nil_of_length_eq_zero (by simpa using hown.1)
  subst hx
  have hr:=run_append_nil (P:=P) w t ty e i z ht hi hz a m c news hl hnews (by omega) (by omega) (by have hb:=hbytes;simp only[Nat.zero_add]at hb;omega)
  have hgr:=grown 0 (by simp) (Value.ownBlock (.slice none 0 0))
  simp only[Nat.zero_add,List.nil_append,Array.empty_append]at hgr ⊢
  exact ⟨_,_,hr,hgr.1,hgr.2,Or.inr rfl⟩
 ·have hxk:∀ u∈xs,Kd u:=fun u hu=>hkd u (by
   rw[← htake]at hu
   have:=List.mem_of_mem_take hu
   simpa using this)
  by_cases hroom:n+m≤cap
  ·have hfit:n*i.size+news.length≤cur.size:=by rw[hl,hcs,← Nat.add_mul];exact Nat.mul_le_mul_right _ hroom
   have hr:=run_append_room (P:=P) w t ty e i ht hi g n cap cur hg a m c news hl hnews h1 hroom hfit
   refine ⟨_,_,hr,⟨hlen,.inr ⟨g,cap,_,rfl,hbg,setRow_heap w g cur _ e _ hg,hroom,hcm,?_,?_,?_⟩⟩,⟨rfl,rfl,rfl,by simp,fun k _ hk=>setRow_other w g k _ (fun e=>hk (by simp[Value.ownBlock,e]))⟩,Or.inl rfl⟩
   ·simp only[List.size_toArray,List.length_append,List.length_take,List.length_drop,Array.length_toList]
    omega
   ·rw[htake,← hlen]
    show List.take (xs ++ news).length (xs ++ news ++ _)=_
    exact List.take_left
   ·intro u hu
    have hu':u∈cur.toList.take (n*i.size) ++ news ++ cur.toList.drop (n*i.size+news.length):=by simpa using hu
    rcases List.mem_append.1 hu' with hu|hu
    ·rcases List.mem_append.1 hu with hu|hu
     ·exact hkd u (by have:=List.mem_of_mem_take hu;simpa using this)
     ·exact hk u hu
    ·exact hkd u (by have:=List.mem_of_mem_drop hu;simpa using this)
  ·have holds:∀ j u,xs[j]?=some u→w.cell? ((⟨g,0,none⟩:Addr).add j)=some u:=hown.own.cells (g:=g) rfl
   have hr:=run_append_grow (P:=P) w t ty e i z ht hi hz ⟨g,0,none⟩ n cap xs hown.1 holds a m c news hl hnews (by omega) (by omega) (growslice_fits (by omega) hbytes)
   have hgr:=grown cap hxk (Value.ownBlock (.slice (some ⟨g,0,none⟩) n cap))
   exact ⟨_,_,hr,hgr.1,hgr.2,Or.inr rfl⟩
theorem wpList_append_ownK {P:Program}{Kd:Value→Prop}{ops:Array Oper}{rest:List Oper}{o:Oper}{a:Act}{w:World}{Q:Exit→Act→World→Prop}(hgd:o.guard=none) (s x:Operand) (t:TypeId)
 (ho:o.op=.call { callee:=.builtin .append,args:=#[s,x],argTypes:=#[t,t] }) (base:Nat) (e:TypeId) (i:TypeInfo) (z:Value) (size:Nat) (ht:P.underlying t=some (.slice e)) (hi:P.info? e=some i) (hz:i.zero=some z)
 (hsize:i.size=size) (hzs:z.cells.size=size) (hsz:0<size) (v:Value) (n:Nat) (xs:List Value) (hs:a.eval s=v) (hown:OwnK Kd w base e size v n xs)
 (ad:Addr) (m c:Nat) (news:List Value) (hx:a.eval x=.slice (some ad) m c) (hl:news.length=m*size) (hnews:∀ j u,news[j]?=some u→w.cell? (ad.add j)=some u) (h1:∀ u∈news,u.oneCell'=true)
 (hk:∀ u∈news,Kd u) (hkz:∀ u∈z.cells,Kd u) (h0:0<m) (h63:n+m≤maxLen) (hbytes:(n+m)*i.bytes≤140737488355328) (hbase:base≤w.heap.size)
 (h:∀ v' w',OwnK Kd w' base e size v' (n+m) (xs ++ news)→w.grownBy w' v.ownBlock→(v'.ownBlock=v.ownBlock∨v'.ownBlock=some w.heap.size)→wpList P ops Q rest (a.put o.dst v') w'):wpList P ops Q (o :: rest) a w:=by
 refine wpList_plain hgd fun K hK=>?_
 obtain ⟨v',w',hrun,h2,h3,h4⟩:=OwnK.append (P:=P) (ty:=o.type) ht hi hz hsize hzs hsz hown ad m c news hl hnews h1 hk hkz h0 h63 hbytes hbase
 unfold Oper.wp execOp
 simp only[ho,resolve,invoke,builtin,Sem.run_bind,Sem.run_pure,Result.andThen_ok,List.map_toArray,List.map_cons,List.map_nil,hs,hx,hrun]
 exact hK _ _ (h v' w' h2 h3 h4)
theorem step_append_ownK {P:Program}{Kd:Value→Prop}{ops:Array Oper}{o:Oper}{a:Act}{w:World}{K:Act→World→Prop}{Q:Exit→Act→World→Prop}{E:Prop}(hgd:o.guard=none) (s x:Operand) (t:TypeId)
 (ho:o.op=.call { callee:=.builtin .append,args:=#[s,x],argTypes:=#[t,t] }) (base:Nat) (e:TypeId) (i:TypeInfo) (z:Value) (size:Nat) (ht:P.underlying t=some (.slice e)) (hi:P.info? e=some i) (hz:i.zero=some z)
 (hsize:i.size=size) (hzs:z.cells.size=size) (hsz:0<size) (v:Value) (n:Nat) (xs:List Value) (hs:a.eval s=v) (hown:OwnK Kd w base e size v n xs)
 (ad:Addr) (m c:Nat) (news:List Value) (hx:a.eval x=.slice (some ad) m c) (hl:news.length=m*size) (hnews:∀ j u,news[j]?=some u→w.cell? (ad.add j)=some u) (h1:∀ u∈news,u.oneCell'=true)
 (hk:∀ u∈news,Kd u) (hkz:∀ u∈z.cells,Kd u) (h0:0<m) (h63:n+m≤maxLen) (hbytes:(n+m)*i.bytes≤140737488355328) (hbase:base≤w.heap.size)
 (h:∀ v' w',OwnK Kd w' base e size v' (n+m) (xs ++ news)→w.grownBy w' v.ownBlock→(v'.ownBlock=v.ownBlock∨v'.ownBlock=some w.heap.size)→K (a.put o.dst v') w') :
 if Region.wanted o (yielded ops a.tmps)=true then Oper.wp P o a w K Q else E:=by
 have hw:Region.wanted o (yielded ops a.tmps)=true:=by simp[Region.wanted,hgd]
 rw[if_pos hw]
 obtain ⟨v',w',hrun,h2,h3,h4⟩:=OwnK.append (P:=P) (ty:=o.type) ht hi hz hsize hzs hsz hown ad m c news hl hnews h1 hk hkz h0 h63 hbytes hbase
 unfold Oper.wp execOp
 simp only[ho,resolve,invoke,builtin,Sem.run_bind,Sem.run_pure,Result.andThen_ok,List.map_toArray,List.map_cons,List.map_nil,hs,hx,hrun]
 exact h v' w' h2 h3 h4
end Vic
end
section
namespace Vic
open Go Go.RowKit
abbrev Own (w:World) (B:Nat) (e:TypeId) (size:Nat) (v:Value) (n:Nat) (xs:List Value):Prop:=OwnK (fun _=>True) w B e size v n xs
theorem OwnK.typed {Kd:Value→Prop}{w:World}{B:Nat}{e:TypeId}{size:Nat}{v:Value}{n:Nat}{xs:List Value}(h:OwnK Kd w B e size v n xs) {g:Nat}(hg:v.ownBlock=some g):∃ cur,w.heap[g]?=some (.cells cur e (0,0)):=by
 obtain ⟨_,⟨rfl,_⟩|⟨g',cap,cur,rfl,a2,a3,_⟩⟩:=h
 ·cases hg
 ·cases hg;exact ⟨cur,a3⟩
theorem OwnK.sl {Kd:Value→Prop}{w:World}{B:Nat}{e:TypeId}{size:Nat}{v:Value}{n:Nat}{xs:List Value}(h:OwnK Kd w B e size v n xs):∃ A c,v=.slice A n c∧n≤c∧∀ j u,xs[j]?=some u→∃ g,A=some ⟨g,0,none⟩∧w.cell? ⟨g,j,none⟩=some u:=by
 obtain ⟨hl,⟨rfl,rfl⟩|⟨g,cap,cur,rfl,a2,a3,a4,a5,a6,a7,_⟩⟩:=h
 ·refine ⟨none,0,rfl,Nat.le_refl _,fun j u hj=>?_⟩
  have:xs = []:=List.eq_nil_of_length_eq_zero (by simpa using hl)
  subst this;simp at hj
 ·refine ⟨_,_,rfl,a4,fun j u hj=>⟨g,rfl,?_⟩⟩
  rw[← a7]at hj
  have hj':=(List.getElem?_eq_some_iff.1 hj).1
  rw[List.length_take]at hj'
  rw[List.getElem?_take]at hj
  split at hj
  ·simpa [World.cell?,a3]using hj
  ·cases hj
theorem OwnK.alloc {Kd:Value→Prop}{w:World}{B:Nat}{e:TypeId}{size:Nat}{v:Value}{n:Nat}{xs:List Value}(h:OwnK Kd w B e size v n xs) (o:Obj):OwnK Kd (w.alloc o) B e size v n xs:=
 h.keep ((Below.refl _ _).alloc (Nat.le_refl _) _)
theorem OwnK.store {Kd:Value→Prop}{w:World}{B:Nat}{e:TypeId}{size:Nat}{v:Value}{n:Nat}{xs:List Value}(h:OwnK Kd w B e size v n xs) {g:Nat}(hg:v.ownBlock=some g) (i:Nat) (u:Value) (hi:i<xs.length) (hk:Kd u) :
 OwnK Kd (w.setCell ⟨g,i,none⟩ u) B e size v n (xs.set i u):=by
 obtain ⟨hl,⟨rfl,rfl⟩|⟨g',cap,cur,rfl,a2,a3,a4,a5,a6,a7,a8⟩⟩:=h
 ·cases hg
 ·injection hg with hg
  subst hg
  refine ⟨by simpa using hl,.inr ⟨g',cap,cur.setIfInBounds i u,rfl,a2,?_,a4,a5,by simpa using a6,?_,fun x hx=>?_⟩⟩
  ·simp[World.setCell,Array.getElem?_modify,a3]
  ·rw[Array.toList_setIfInBounds,← a7,List.take_set]
  ·rcases Array.mem_or_eq_of_mem_setIfInBounds hx with h1|h1
   ·exact a8 x h1
   ·subst h1;exact hk
variable {ι:Type}
structure OwnF (w:World) (B:Nat) (e:TypeId) (size:Nat) (dom:ι→Prop) (v:ι→Value) (n:ι→Nat) (xs:ι→List Value):Prop where
 own:∀ i,dom i→Own w B e size (v i) (n i) (xs i)
 apart:∀ i j g,dom i→dom j→(v i).ownBlock=some g→(v j).ownBlock=some g→i=j
theorem OwnF.stay {w w':World}{B:Nat}{e:TypeId}{size:Nat}{dom:ι→Prop}{v:ι→Value}{n:ι→Nat}{xs:ι→List Value}(h:OwnF w B e size dom v n xs) (hs:∀ i g,dom i→(v i).ownBlock=some g→w'.heap[g]?=w.heap[g]?):OwnF w' B e size dom v n xs:=
 ⟨fun i hi=>(h.own i hi).stay fun g hg=>hs i g hi hg,h.apart⟩
theorem OwnF.keep {w w':World}{B:Nat}{e:TypeId}{size:Nat}{dom:ι→Prop}{v:ι→Value}{n:ι→Nat}{xs:ι→List Value}(h:OwnF w B e size dom v n xs) (hb:Below w.heap.size w w'):OwnF w' B e size dom v n xs:=
 h.stay fun i g hi hg=>hb.block g ((h.own i hi).lt hg).2
theorem OwnF.other {w w':World}{B:Nat}{e:TypeId}{size:Nat}{dom:ι→Prop}{v:ι→Value}{n:ι→Nat}{xs:ι→List Value}(h:OwnF w B e size dom v n xs) (hs:∀ (g:Nat) (cur:Array Value),w.heap[g]?=some (Obj.cells cur e (0,0))→w'.heap[g]?=w.heap[g]?):OwnF w' B e size dom v n xs:=
 h.stay fun i g hi hg=>by obtain ⟨cur,hc⟩:=(h.own i hi).typed hg;exact hs g cur hc
theorem OwnF.app [DecidableEq ι] {w w':World}{B:Nat}{e:TypeId}{size:Nat}{dom:ι→Prop}{v:ι→Value}{n:ι→Nat}{xs:ι→List Value}(h:OwnF w B e size dom v n xs) (i:ι) (hi:dom i) {v':Value}{n':Nat}{ys:List Value}
 (ho:Own w' B e size v' n' ys) (hg:w.grownBy w' (v i).ownBlock) (hl:v'.ownBlock=(v i).ownBlock∨v'.ownBlock=some w.heap.size) :
 OwnF w' B e size dom (fun j=>if j=i then v' else v j) (fun j=>if j=i then n' else n j) (fun j=>if j=i then ys else xs j):=by
 constructor
 ·intro j hj
  by_cases e:j=i
  ·simp only[e,if_true];exact ho
  ·simp only[e,if_false]
   refine (h.own j hj).stay fun g hgj=>hg.block g ((h.own j hj).lt hgj).2 (fun e2=>e ?_)
   exact h.apart j i g hj hi hgj e2.symm
 ·intro a b g ha hb h1 h2
  by_cases ea:a=i
  ·by_cases eb:b=i
   ·rw[ea,eb]
   ·simp only[ea,eb,if_true,if_false]at h1 h2
    rcases hl with hl|hl
    ·exact absurd (h.apart b i g hb hi h2 (hl▸h1)) eb
    ·have:=((h.own b hb).lt h2).2
     rw[hl]at h1;injection h1;omega
  ·by_cases eb:b=i
   ·simp only[ea,eb,if_true,if_false]at h1 h2
    rcases hl with hl|hl
    ·exact absurd (h.apart a i g ha hi h1 (hl▸h2)) ea
    ·have:=((h.own a ha).lt h1).2
     rw[hl]at h2;injection h2;omega
   ·simp only[ea,eb,if_false]at h1 h2
    exact h.apart a b g ha hb h1 h2
theorem OwnF.sub {w:World}{B:Nat}{e:TypeId}{size:Nat}{dom dom':ι→Prop}{v v':ι→Value}{n n':ι→Nat}{xs xs':ι→List Value}(h:OwnF w B e size dom v n xs) (hd:∀ i,dom' i→dom i∧v' i=v i∧n' i=n i∧xs' i=xs i):OwnF w B e size dom' v' n' xs':=
 ⟨fun i hi=>by obtain ⟨a,b,c,d⟩:=hd i hi;rw[b,c,d];exact h.own i a,fun i j g hi hj h1 h2=>h.apart i j g (hd i hi).1 (hd j hj).1 ((hd i hi).2.1▸h1) ((hd j hj).2.1▸h2)⟩
end Vic
end
section
namespace Vic
open Go Go.RowKit
def SlIn {α:Type}(R:World→Nat→Nat→α→Prop) (size:Nat) (w:World) (v:Value) (l:List α):Prop:=
 ∃ A c,v=.slice A l.length c∧l.length≤c∧∀ (i:Nat) (x:α),l[i]?=some x→∃ g o,A=some ⟨g,o,none⟩∧R w g (o+i*size) x
def Firm {α:Type}(R:World→Nat→Nat→α→Prop):Prop:=∀ w w' g o x,R w g o x→Below w.heap.size w w'→R w' g o x
theorem SlIn.keep {α:Type}{R:World→Nat→Nat→α→Prop}(hR:Firm R) {size:Nat}{w w':World}{v:Value}{l:List α}(h:SlIn R size w v l) (hb:Below w.heap.size w w'):SlIn R size w' v l:=by
 obtain ⟨A,c,h1,h2,h3⟩:=h
 refine ⟨A,c,h1,h2,fun i x hx=>?_⟩
 obtain ⟨g,o,h4,h5⟩:=h3 i x hx
 exact ⟨g,o,h4,hR _ _ _ _ _ h5 hb⟩
theorem SlIn.nil_ {α:Type}(R:World→Nat→Nat→α→Prop) (size:Nat) (w:World):SlIn R size w (.slice none 0 0) []:=⟨none,0,rfl,Nat.le_refl _,fun i x hx=>by simp at hx⟩
theorem SlIn.imp {α:Type}{R S:World→Nat→Nat→α→Prop}{size:Nat}{w w':World}{v:Value}{l:List α}(h:SlIn R size w v l) (k:∀ g o x,x∈l→R w g o x→S w' g o x):SlIn S size w' v l:=by
 obtain ⟨A,c,h1,h2,h3⟩:=h
 refine ⟨A,c,h1,h2,fun i x hx=>?_⟩
 obtain ⟨g,o,h4,h5⟩:=h3 i x hx
 exact ⟨g,o,h4,k _ _ _ (List.mem_of_getElem? hx) h5⟩
def StrR (w:World) (g o:Nat) (s:Txt):Prop:=w.cell? ⟨g,o,none⟩=some (.string ⟨s.toArray⟩)
theorem StrR.firm:Firm StrR:=fun _ _ _ _ _ h hb=>cell_keep h hb
theorem fl_get {α:Type}{enc:α→List Value}{size:Nat}(he:∀ x,(enc x).length=size):∀ {l:List α}{i:Nat}{x:α}{k:Nat},l[i]?=some x→k<size→(l.flatMap enc)[i*size+k]?=(enc x)[k]?
 | [],i,x,k,h,_=>by simp at h
 | y :: l,0,x,k,h,hk=>by
   simp only[List.getElem?_cons_zero,Option.some.injEq]at h
   subst h
   rw[List.flatMap_cons,Nat.zero_mul,Nat.zero_add,List.getElem?_append_left (by rw[he];exact hk)]
 | y :: l,i+1,x,k,h,hk=>by
   have ih:=fl_get he (l:=l) (i:=i) (x:=x) (k:=k) (by simpa using h) hk
   rw[List.flatMap_cons,List.getElem?_append_right (by rw[he,Nat.add_mul];omega),he,← ih]
   congr 1
   rw[Nat.add_mul];omega
theorem fl_len {α:Type}{enc:α→List Value}{size:Nat}(he:∀ x,(enc x).length=size):∀ (l:List α),(l.flatMap enc).length=l.length*size
 | []=>by simp
 | y :: l=>by rw[List.flatMap_cons,List.length_append,he,fl_len he l,List.length_cons,Nat.add_mul];omega
theorem OwnK.slIn {α:Type}{Kd:Value→Prop}{enc:α→List Value}{size:Nat}(he:∀ x,(enc x).length=size) {R:World→Nat→Nat→α→Prop}{w:World}{B:Nat}{e:TypeId}{v:Value}{l:List α}(h:OwnK Kd w B e size v l.length (l.flatMap enc))
 (hR:∀ g i x,l[i]?=some x→(∀ k u,(enc x)[k]?=some u→w.cell? ⟨g,i*size+k,none⟩=some u)→R w g (i*size) x):SlIn R size w v l:=by
 obtain ⟨A,c,h1,h2,h3⟩:=h.sl
 refine ⟨A,c,h1,h2,fun i x hx=>?_⟩
 have hcell:∀ k u,(enc x)[k]?=some u→∃ g,A=some ⟨g,0,none⟩∧w.cell? ⟨g,i*size+k,none⟩=some u:=fun k u hu=>by
  have hk:k<size:=by rw[← he x];exact (List.getElem?_eq_some_iff.1 hu).1
  exact h3 _ u (by rw[fl_get he hx hk];exact hu)
 obtain ⟨_,⟨hv,h0⟩|⟨g,cap,cur,hv,_⟩⟩:=h
 ·have:l = []:=List.eq_nil_of_length_eq_zero h0
  subst this;simp at hx
 ·rw[h1]at hv
  injection hv with hA _ _
  refine ⟨g,0,hA,?_⟩
  rw[Nat.zero_add]
  refine hR g i x hx fun k u hu=>?_
  obtain ⟨g',hg',hc⟩:=hcell k u hu
  rw[hA]at hg'
  injection hg' with hg'
  injection hg' with hg'
  rw[hg'];exact hc
end Vic
end
section
namespace Vic
open Go Go.RowKit
def mget (kv:List (List UInt8 × Value)) (s:List UInt8):Option Value:=(kv.find? fun p=>p.1 == s).map (·.2)
theorem mget_cons (p:List UInt8 × Value) (kv:List (List UInt8 × Value)) (s:List UInt8):mget (p :: kv) s=if p.1=s then some p.2 else mget kv s:=by
 unfold mget
 by_cases h:p.1=s
 ·simp[h]
 ·have h':(p.1 == s)=false:=beq_eq_false_iff_ne.2 h
  rw[List.find?_cons,h',if_neg h]
theorem mget_set {c:List UInt8}{v u:Value}:∀ {kv:List (List UInt8 × Value)}{j:Nat},kv[j]?=some (c,u)→(∀ (i:Nat) (p:List UInt8 × Value),i<j→kv[i]?=some p→p.1≠c)→∀ s,mget (kv.set j (c,v)) s=if s=c then some v else mget kv s
 | [],j,h,_,s=>by simp at h
 | p :: kv,0,h,_,s=>by
   simp only[List.getElem?_cons_zero,Option.some.injEq]at h
   subst h
   rw[List.set_cons_zero,mget_cons,mget_cons]
   by_cases hs:c=s
   ·subst hs;simp
   ·rw[if_neg hs,if_neg (fun e=>hs e.symm)];simp[hs]
 | p :: kv,j+1,h,hn,s=>by
   have hp:=hn 0 p (by omega) (by simp)
   rw[List.set_cons_succ,mget_cons,mget_cons,mget_set (kv:=kv) (j:=j) (by simpa using h) (fun i q hi hq=>hn (i+1) q (by omega) (by simpa using hq)) s]
   by_cases hs:p.1=s
   ·subst hs;simp[hp]
   ·simp[hs]
theorem mget_push {c:List UInt8}{v:Value}:∀ {kv:List (List UInt8 × Value)},mget kv c=none→∀ s,mget (kv ++ [(c,v)]) s=if s=c then some v else mget kv s
 | [],h,s=>by
   rw[List.nil_append,mget_cons]
   by_cases hs:c=s
   ·subst hs;simp
   ·rw[if_neg hs,if_neg (fun e=>hs e.symm)]
 | p :: kv,h,s=>by
   rw[mget_cons]at h
   have hp:p.1≠c:=fun e=>by rw[if_pos e]at h;cases h
   rw[if_neg hp]at h
   rw[List.cons_append,mget_cons,mget_cons,mget_push h s]
   by_cases hs:p.1=s
   ·subst hs;simp[hp]
   ·simp[hs]
def Stp (es:Array MapEntry) (clock:Nat):Prop:=(∀ x∈es.toList,x.born<clock)∧(es.toList.map (·.born)).Nodup
theorem Stp.push {es:Array MapEntry}{clock:Nat}(h:Stp es clock) (k v:Value):Stp (es.push { key:=k,val:=v,born:=clock }) (clock+1):=by
 refine ⟨fun x hx=>?_,?_⟩
 ·rw[Array.toList_push]at hx
  rcases List.mem_append.1 hx with hx|hx
  ·have:=h.1 x hx;omega
  ·simp at hx;subst hx;simp
 ·rw[Array.toList_push,List.map_append,List.nodup_append]
  refine ⟨h.2,by simp,fun a ha b hb=>?_⟩
  simp at hb;subst hb
  obtain ⟨x,hx,rfl⟩:=List.mem_map.1 ha
  have:=h.1 x hx;omega
theorem born_modify (es:Array MapEntry) (j:Nat) (f:MapEntry→MapEntry) (hf:∀ e,(f e).born=e.born):(es.modify j f).toList.map (·.born)=es.toList.map (·.born):=by
 apply List.ext_getElem?
 intro i
 rw[Array.toList_modify]
 simp only[List.getElem?_map,List.getElem?_modify]
 cases es.toList[i]? with
 | none=>simp
 | some e=>
   split
   ·simp[hf e]
   ·simp
theorem Stp.modify {es:Array MapEntry}{clock:Nat}(h:Stp es clock) (j:Nat) (f:MapEntry→MapEntry) (hf:∀ e,(f e).born=e.born):Stp (es.modify j f) clock:=by
 refine ⟨fun x hx=>?_,by rw[born_modify es j f hf];exact h.2⟩
 have hm:x.born∈es.toList.map (·.born):=by rw[← born_modify es j f hf];exact List.mem_map_of_mem hx
 obtain ⟨y,hy,e⟩:=List.mem_map.1 hm
 rw[← e];exact h.1 y hy
def StrMap (w:World) (m:Nat) (f:List UInt8→Option Value):Prop:=
 ∃ es clock kv,w.heap[m]?=some (.map es clock)∧es.toList.map (fun e:MapEntry=>(e.key,e.val))=kv.map (fun p:List UInt8 × Value=>(Value.string ⟨p.1.toArray⟩,p.2))∧(∀ s,mget kv s=f s)∧Stp es clock
theorem StrMap.lt {w:World}{m:Nat}{f:List UInt8→Option Value}(h:StrMap w m f):m<w.heap.size:=by
 obtain ⟨es,c,kv,h1,_⟩:=h
 rcases Nat.lt_or_ge m w.heap.size with h2|h2
 ·exact h2
 ·rw[Array.getElem?_eq_none h2]at h1;cases h1
theorem StrMap.stay {w w':World}{m:Nat}{f:List UInt8→Option Value}(h:StrMap w m f) (hb:w'.heap[m]?=w.heap[m]?):StrMap w' m f:=by
 obtain ⟨es,c,kv,h1,h2⟩:=h
 exact ⟨es,c,kv,hb.trans h1,h2⟩
theorem StrMap.keep {w w':World}{m:Nat}{f:List UInt8→Option Value}(h:StrMap w m f) (hb:Below w.heap.size w w'):StrMap w' m f:=h.stay (hb.block _ h.lt)
theorem StrMap.congr {w:World}{m:Nat}{f g:List UInt8→Option Value}(h:StrMap w m f) (e:∀ s,f s=g s):StrMap w m g:=by
 obtain ⟨es,c,kv,h1,h2,h3,h4⟩:=h
 exact ⟨es,c,kv,h1,h2,fun s=>(h3 s).trans (e s),h4⟩
theorem StrMap.made (w:World):StrMap (w.alloc (.map #[] 0)) w.heap.size (fun _=>none):=⟨#[],0,[],by show (w.heap.push _)[w.heap.size]?=_;simp,rfl,fun s=>rfl,by simp[Stp]⟩
theorem StrMap.cell {w:World}{m:Nat}{f:List UInt8→Option Value}(h:StrMap w m f) (o:Nat):w.cell? ⟨m,o,none⟩=none:=by
 obtain ⟨es,c,kv,h1,_⟩:=h
 simp[World.cell?,h1]
theorem StrMap.ne {w:World}{m b:Nat}{f:List UInt8→Option Value}(h:StrMap w m f) {cs:Array Value}{t:TypeId}{fr:Nat × Nat}(hb:w.heap[b]?=some (.cells cs t fr)):b≠m:=by
 rintro rfl
 obtain ⟨es,c,kv,h1,_⟩:=h
 rw[h1]at hb;cases hb
theorem bytes_ne {a b:List UInt8}:((⟨a.toArray⟩:ByteArray) == ⟨b.toArray⟩)=(a == b):=by
 rw[Bool.eq_iff_iff,MapKept.bytes_beq,beq_iff_eq]
 constructor
 ·intro h;injection h with h;simpa using h
 ·rintro rfl;rfl
theorem findNow_txt (c:List UInt8):∀ (es:List MapEntry) (kv:List (List UInt8 × Value)) (i:Nat),es.map (fun e:MapEntry=>(e.key,e.val))=kv.map (fun p:List UInt8 × Value=>(Value.string ⟨p.1.toArray⟩,p.2)) →
 (mget kv c=none∧Instr.findNow .string (.string ⟨c.toArray⟩) es i=some none) ∨
 ∃ j v,mget kv c=some v∧Instr.findNow .string (.string ⟨c.toArray⟩) es i=some (some (i+j,v))∧kv[j]?=some (c,v)∧∀ (k:Nat) (p:List UInt8 × Value),k<j→kv[k]?=some p→p.1≠c
 | [],kv,i,h=>by
   have h0:kv = []:=by cases kv with|nil=>rfl|cons a r=>simp at h
   subst h0
   exact .inl ⟨rfl,rfl⟩
 | e :: es,[],i,h=>by simp at h
 | e :: es,p :: kv,i,h=>by
   simp only[List.map_cons,List.cons.injEq,Prod.mk.injEq]at h
   obtain ⟨⟨h1,h2⟩,h3⟩:=h
   have hs:Instr.sameNow .string (.string ⟨c.toArray⟩) e.key=some (c == p.1):=by
    rw[h1]
    show some ((⟨c.toArray⟩:ByteArray) == ⟨p.1.toArray⟩)=_
    rw[bytes_ne]
   unfold Instr.findNow
   rw[hs,mget_cons]
   by_cases hc:c=p.1
   ·subst hc
    rw[if_pos rfl,beq_self_eq_true]
    exact .inr ⟨0,p.2,rfl,by simp[h2],rfl,fun k q hk=>by omega⟩
   ·rw[if_neg (fun e=>hc e.symm),beq_eq_false_iff_ne.2 hc]
    rcases findNow_txt c es kv (i+1) h3 with ⟨a,b⟩|⟨j,v,a,b,d,n⟩
    ·exact .inl ⟨a,b⟩
    ·refine .inr ⟨j+1,v,a,by rw[show i+(j+1)=i+1+j by omega];exact b,by simpa using d,fun k q hk hq=>?_⟩
     rcases k with _|k
     ·simp only[List.getElem?_cons_zero,Option.some.injEq]at hq
      subst hq;exact fun e=>hc e.symm
     ·exact n k q (by omega) (by simpa using hq)
variable {P:Program}
theorem checkKey_txt {kt:TypeId}(hk:P.underlying kt=some .string) (b:Bool) (v:ByteArray) (w:World):(Instr.checkKey b 10000 kt (.string v)).run P w=.ok () w:=by
 unfold Instr.checkKey
 simp[run_underlying hk]
theorem StrMap.lookup {t kt et:TypeId}{z:Value}(ht:P.underlying t=some (.map kt et)) (hk:P.underlying kt=some .string) (hz:∀ w,(zeroValue et).run P w=.ok z w) {w:World}{m:Nat}{f:List UInt8→Option Value}(h:StrMap w m f) (c:List UInt8) :
 (Instr.lookup t (.map (some m)) (.string ⟨c.toArray⟩) false).run P w=.ok ((f c).getD z) w∧(Instr.lookup t (.map (some m)) (.string ⟨c.toArray⟩) true).run P w=.ok (.tuple #[(f c).getD z,.bool (f c).isSome]) w:=by
 obtain ⟨es,cl,kv,h1,h2,h3,h9⟩:=h
 rw[← h3 c]
 rcases findNow_txt c es.toList kv 0 h2 with ⟨a,b⟩|⟨j,v,a,b,_⟩
 ·rw[a]
  constructor<;>simp[Instr.lookup,run_underlying ht,MapKept.run_getObj_map h1,checkKey_txt hk,Instr.findKey,run_underlying hk,b,hz]
 ·rw[a]
  constructor<;>simp[Instr.lookup,run_underlying ht,MapKept.run_getObj_map h1,checkKey_txt hk,Instr.findKey,run_underlying hk,b]
theorem StrMap.update {t kt et:TypeId}(ht:P.underlying t=some (.map kt et)) (hk:P.underlying kt=some .string) {w:World}{m:Nat}{f:List UInt8→Option Value}(h:StrMap w m f) (c:List UInt8) (v:Value) :
 ∃ w',(Instr.mapUpdate t (.map (some m)) (.string ⟨c.toArray⟩) v).run P w=.ok () w'∧StrMap w' m (fun s=>if s=c then some v else f s)∧w.grownBy w' (some m)∧w'.heap.size=w.heap.size:=by
 have hlt:=h.lt
 obtain ⟨es,cl,kv,h1,h2,h3,h9⟩:=h
 have hgr:∀ o:Obj,w.grownBy { w with heap:=w.heap.setIfInBounds m o } (some m):=fun o=>by
  refine ⟨rfl,rfl,rfl,by simp,fun j hj hne=>?_⟩
  show (w.heap.setIfInBounds m _)[j]?=_
  rw[Array.getElem?_setIfInBounds_ne]
  intro e;exact hne (by rw[e])
 rcases findNow_txt c es.toList kv 0 h2 with ⟨a,b⟩|⟨j,u,a,b,d,n⟩
 ·refine ⟨{ w with heap:=w.heap.setIfInBounds m (.map (es.push { key:=.string ⟨c.toArray⟩,val:=v,born:=cl }) (cl+1)) },?_,?_,hgr _,by simp⟩
  ·simp[Instr.mapUpdate,run_underlying ht,MapKept.run_getObj_map h1,checkKey_txt hk,Instr.findKey,run_underlying hk,b,MapKept.run_setObj_map _ h1]
  ·refine ⟨_,_,kv ++ [(c,v)],by show (w.heap.setIfInBounds m _)[m]?=_;rw[Array.getElem?_setIfInBounds_self];rw[if_pos hlt],by simp[h2],fun s=>by rw[mget_push a s,h3 s],h9.push _ _⟩
 ·have hkey:(((es[0+j]?).map (·.key)).getD (.string ⟨c.toArray⟩))=.string ⟨c.toArray⟩:=by
   have h4:=congrArg (fun l=>l[j]?) h2
   simp only[List.getElem?_map,Array.getElem?_toList,d,Option.map_some]at h4
   rw[Nat.zero_add]
   cases he:es[j]? with
   | none=>rfl
   | some e=>
     rw[he]at h4
     simp only[Option.map_some,Option.some.injEq,Prod.mk.injEq]at h4
     exact h4.1
  refine ⟨{ w with heap:=w.heap.setIfInBounds m (.map (es.modify (0+j) fun e=>{ e with key:=.string ⟨c.toArray⟩,val:=v }) cl) },?_,?_,hgr _,by simp⟩
  ·rw[Nat.zero_add]at hkey
   have hst:(Instr.keyThatStays (.string ⟨c.toArray⟩) (.string ⟨c.toArray⟩)).run P w=.ok (.string ⟨c.toArray⟩) w:=MapKept.run_keyThatStays (d:=.string) (by trivial)
   simp[Instr.mapUpdate,run_underlying ht,MapKept.run_getObj_map h1,checkKey_txt hk,Instr.findKey,run_underlying hk,b,-Array.getElem?_toList,-Option.getD_map,hkey,hst,MapKept.run_setObj_map _ h1]
  ·refine ⟨_,_,kv.set j (c,v),by show (w.heap.setIfInBounds m _)[m]?=_;rw[Array.getElem?_setIfInBounds_self];rw[if_pos hlt],?_,fun s=>by rw[mget_set d n s,h3 s],h9.modify (0+j) (fun e=>{ e with key:=.string ⟨c.toArray⟩,val:=v }) fun _=>rfl⟩
   rw[Nat.zero_add,Array.toList_modify,List.map_set,← h2]
   apply List.ext_getElem?
   intro i
   by_cases hij:i=j
   ·subst hij
    simp only[List.getElem?_map,List.getElem?_modify,List.getElem?_set]
    have h4:=congrArg (fun l=>l[i]?) h2
    simp only[List.getElem?_map,d,Option.map_some]at h4
    cases he:es.toList[i]? with
    | none=>rw[he]at h4;simp at h4
    | some e=>
      have hl:i<es.size:=by
       have:=(List.getElem?_eq_some_iff.1 he).1
       simpa using this
      simp[hl]
   ·simp only[List.getElem?_map,List.getElem?_modify,List.getElem?_set]
    have hji:¬ j=i:=fun e=>hij e.symm
    simp[hji]
theorem StrMap.clear {t kt et ty:TypeId}(ht:P.underlying t=some (.map kt et)) {w:World}{m:Nat}{f:List UInt8→Option Value}(h:StrMap w m f) :
 ∃ w',(Builtin.clear_ #[t] ty #[.map (some m)]).run P w=.ok (.tuple #[]) w'∧StrMap w' m (fun _=>none)∧w.grownBy w' (some m)∧w'.heap.size=w.heap.size:=by
 have hlt:=h.lt
 obtain ⟨es,cl,kv,h1,h2,h3,h9⟩:=h
 refine ⟨{ w with heap:=w.heap.setIfInBounds m (.map #[] cl) },?_,?_,?_,by simp⟩
 ·simp[Builtin.clear_,run_underlying ht,MapKept.run_getObj_map h1,MapKept.run_setObj_map _ h1,Result.andThen]
 ·exact ⟨#[],cl,[],by show (w.heap.setIfInBounds m _)[m]?=_;rw[Array.getElem?_setIfInBounds_self];rw[if_pos hlt],rfl,fun s=>rfl,by simp[Stp]⟩
 ·refine ⟨rfl,rfl,rfl,by simp,fun j hj hne=>?_⟩
  show (w.heap.setIfInBounds m _)[j]?=_
  rw[Array.getElem?_setIfInBounds_ne]
  intro e;exact hne (by rw[e])
def inSet (ks:List (List UInt8)) (s:List UInt8):Option Value:=if s∈ks then some (.bool true)else none
theorem inSet_nil (s:List UInt8):none=inSet [] s:=by simp[inSet]
theorem inSet_add (ks:List (List UInt8)) (c s:List UInt8):(if s=c then some (Value.bool true)else inSet ks s)=inSet (c :: ks) s:=by
 unfold inSet
 by_cases h:s=c
 ·simp[h]
 ·simp[h]
theorem inSet_get (ks:List (List UInt8)) (s:List UInt8):(inSet ks s).getD (.bool false)=.bool (decide (s∈ks)):=by
 unfold inSet
 by_cases h:s∈ks<;>simp[h]
end Vic
end
section
namespace Vic
open Go
theorem rval_set (B:Nat) (o:List Nat) (k d:Nat) (h:k<o.length):val B (o.set k d)+B ^ k*o.getD k 0=val B o+B ^ k*d:=by
 induction o generalizing k with
 | nil=>simp at h
 | cons x o ih=>
   cases k with
   | zero=>simp[val];omega
   | succ k=>
     have h1:=ih k (by simpa using h)
     have e:=congrArg (B * ·) h1
     simp only[Nat.mul_add]at e
     simp only[List.set_cons_succ,val_cons,List.getD_cons_succ,Nat.pow_succ]
     have e1:∀ y,B ^ k*B*y=B*(B ^ k*y):=fun y=>by rw[Nat.mul_comm (B ^ k) B,Nat.mul_assoc]
     rw[e1,e1]
     omega
theorem set_self (o:List Nat) (k:Nat) (h:k<o.length):o.set k (o.getD k 0)=o:=by
 apply List.ext_getElem?
 intro j
 rw[List.getElem?_set]
 by_cases e:k=j
 ·subst e;rw[if_pos rfl,if_pos h,List.getD_eq_getElem?_getD,List.getElem?_eq_getElem h];rfl
 ·rw[if_neg e]
theorem rgetD_zeros (n j:Nat):(List.replicate n 0).getD j 0=0:=by
 rw[List.getD_eq_getElem?_getD,List.getElem?_replicate];split<;>rfl
theorem rval_zeros (B n:Nat):val B (List.replicate n 0)=0:=by
 induction n with
 | zero=>rfl
 | succ n ih=>rw[List.replicate_succ,val_cons,ih];simp
theorem take_snoc_getD (l:List Nat) (k:Nat) (h:k<l.length):l.take (k+1)=l.take k ++ [l.getD k 0]:=by
 rw[List.take_add_one,List.getD_eq_getElem?_getD,List.getElem?_eq_getElem h];rfl
theorem dig_of_getD {B:Nat}{l:List Nat}(h:∀ j,j<l.length→l.getD j 0<B):dig B l:=fun d hd=>by
 obtain ⟨j,hj,rfl⟩:=List.getElem_of_mem hd
 have:=h j hj
 rwa [List.getD_eq_getElem?_getD,List.getElem?_eq_getElem hj]at this
structure RMul (B:Nat) (a b o:List Nat) (i k:Nat):Prop where
 len:o.length=a.length+b.length+1
 here:k<b.length→o.getD (i+k) 0≤2*B
 rest:∀ j,(k<b.length→j≠i+k)→o.getD j 0≤B
 zero:k<b.length→∀ j,i+b.length≤j→o.getD j 0=0
 zero2:∀ j,i+b.length<j→o.getD j 0=0
 all:k=0→∀ j,o.getD j 0≤B
 v:val B o=val B (a.take i)*val B b+B ^ i*a.getD i 0*val B (b.take k)
theorem RMul.start (B:Nat) (a b:List Nat):RMul B a b (List.replicate (a.length+b.length+1) 0) 0 0:=
 ⟨by simp,fun _=>by rw[rgetD_zeros];omega,fun j _=>by rw[rgetD_zeros];omega,fun _ j _=>rgetD_zeros _ j,fun j _=>rgetD_zeros _ j,fun _ j=>by rw[rgetD_zeros];omega,by rw[rval_zeros];simp[val]⟩
theorem mul_carry {B x p q:Nat}(hB:1<B) (hx:x≤2*B) (hp:p<B) (hq:q<B):(x+p*q) / B≤B:=by
 have h1:p*q≤(B - 1)*(B - 1):=Nat.mul_le_mul (by omega) (by omega)
 have h2:(B - 1)*(B - 1)+2*B=B*B+1:=by
  obtain ⟨c,rfl⟩:∃ c,B=c+1:=⟨B - 1,by omega⟩
  simp only[Nat.add_sub_cancel,Nat.mul_add,Nat.add_mul];omega
 have h3:x+p*q<(B+1)*B:=by rw[Nat.add_mul];omega
 have:=(Nat.div_lt_iff_lt_mul (by omega:0<B)).2 h3
 omega
theorem RMul.step {B:Nat}{a b o:List Nat}{i k:Nat}(h:RMul B a b o i k) (hB:1<B) (ha:dig B a) (hb:dig B b) (hi:i<a.length) (hk:k<b.length) :
 RMul B a b ((o.set (i+k) ((o.getD (i+k) 0+a.getD i 0*b.getD k 0) % B)).set (i+k+1) (o.getD (i+k+1) 0+(o.getD (i+k) 0+a.getD i 0*b.getD k 0) / B)) i (k+1):=by
 have hl:=h.len
 have b1:=dig_getD ha (by omega) i
 have b2:=dig_getD hb (by omega) k
 have hc:=mul_carry hB (h.here hk) b1 b2
 have hr:=h.rest (i+k+1) (fun _=>by omega)
 have hm:(o.getD (i+k) 0+a.getD i 0*b.getD k 0) % B<B:=Nat.mod_lt _ (by omega)
 have hdm:=Nat.div_add_mod (o.getD (i+k) 0+a.getD i 0*b.getD k 0) B
 have hv:=h.v
 generalize hC:(o.getD (i+k) 0+a.getD i 0*b.getD k 0) / B=C at *
 generalize hM:(o.getD (i+k) 0+a.getD i 0*b.getD k 0) % B=Mo at *
 have g1:∀ j,j≠i+k→j≠i+k+1→((o.set (i+k) Mo).set (i+k+1) (o.getD (i+k+1) 0+C)).getD j 0=o.getD j 0:=fun j e1 e2=>by
  rw[set_getD_other _ _ _ _ e2,set_getD_other _ _ _ _ e1]
 have g2:((o.set (i+k) Mo).set (i+k+1) (o.getD (i+k+1) 0+C)).getD (i+k+1) 0=o.getD (i+k+1) 0+C:=set_getD_same _ _ _ (by simp;omega)
 have g3:((o.set (i+k) Mo).set (i+k+1) (o.getD (i+k+1) 0+C)).getD (i+k) 0=Mo:=by
  rw[set_getD_other _ _ _ _ (by omega),set_getD_same _ _ _ (by omega)]
 refine ⟨by simp[hl],fun hk1=>?_,fun j hj=>?_,fun hk1 j hj=>?_,fun j hj=>?_,?_,?_⟩
 ·rw[show i+(k+1)=i+k+1 by omega,g2];omega
 ·by_cases e1:j=i+k
  ·subst e1;rw[g3];omega
  ·by_cases e2:j=i+k+1
   ·subst e2
    rw[g2]
    have hkb:k+1=b.length:=by
     rcases Nat.lt_or_ge (k+1) b.length with h5|h5
     ·exact absurd (by omega) (hj h5)
     ·omega
    rw[h.zero hk (i+k+1) (by omega)];omega
   ·rw[g1 j e1 e2];exact h.rest j (fun _=>e1)
 ·rw[g1 j (by omega) (by omega)];exact h.zero hk j hj
 ·rw[g1 j (by omega) (by omega)];exact h.zero2 j hj
 ·intro e;omega
 ·have h3:=rval_set B (o.set (i+k) Mo) (i+k+1) (o.getD (i+k+1) 0+C) (by simp;omega)
  rw[set_getD_other _ _ _ _ (by omega)]at h3
  have h4:=rval_set B o (i+k) Mo (by omega)
  have h5:B ^ (i+k+1)*(o.getD (i+k+1) 0+C)+B ^ (i+k)*Mo=B ^ (i+k+1)*o.getD (i+k+1) 0+B ^ (i+k)*o.getD (i+k) 0+B ^ i*a.getD i 0*(B ^ k*b.getD k 0):=by
   have e1:B ^ (i+k+1)*C=B ^ (i+k)*(B*C):=by rw[Nat.pow_succ,Nat.mul_assoc]
   have e2:B ^ i*a.getD i 0*(B ^ k*b.getD k 0)=B ^ (i+k)*(a.getD i 0*b.getD k 0):=by
    rw[Nat.pow_add];simp only[Nat.mul_assoc,Nat.mul_left_comm]
   rw[Nat.mul_add,e1,e2,Nat.add_assoc,← Nat.mul_add,hdm,Nat.mul_add,← Nat.add_assoc]
  rw[val_take_step,Nat.mul_add]
  omega
theorem RMul.next {B:Nat}{a b o:List Nat}{i:Nat}(h:RMul B a b o i b.length) (hi:i<a.length):RMul B a b o (i+1) 0:=
 ⟨h.len,fun hk=>Nat.le_trans (h.rest _ (fun hk=>by omega)) (by omega),fun j _=>h.rest j (fun hk=>by omega),fun _ j hj=>h.zero2 j (by omega),fun j hj=>h.zero2 j (by omega),fun _ j=>h.rest j (fun hk=>by omega),by
  rw[h.v,val_take_step,val_take_all B b _ (Nat.le_refl _),Nat.add_mul]
  simp[val]⟩
structure RNorm (B n:Nat) (o:List Nat) (m k:Nat):Prop where
 len:o.length=n
 low:∀ j,j<k→o.getD j 0<B
 here:o.getD k 0≤2*B
 high:∀ j,k<j→o.getD j 0≤B
 v:val B o=m
theorem RNorm.step {B n:Nat}{o:List Nat}{m k:Nat}(h:RNorm B n o m k) (hB:2<B) (hk:k+1<n) :
 RNorm B n ((o.set (k+1) (o.getD (k+1) 0+o.getD k 0 / B)).set k (o.getD k 0 % B)) m (k+1):=by
 have hl:=h.len
 have hh:=h.here
 have h1:=h.high (k+1) (by omega)
 have hm:o.getD k 0 % B<B:=Nat.mod_lt _ (by omega)
 have hdm:=Nat.div_add_mod (o.getD k 0) B
 have hc:o.getD k 0 / B≤2:=by
  have:=(Nat.div_lt_iff_lt_mul (by omega:0<B)).2 (show o.getD k 0<3*B by omega)
  omega
 generalize hC:o.getD k 0 / B=C at *
 generalize hM:o.getD k 0 % B=Mo at *
 refine ⟨by simp[hl],fun j hj=>?_,?_,fun j hj=>?_,?_⟩
 ·by_cases e:j=k
  ·subst e;rw[set_getD_same _ _ _ (by simp;omega)];exact hm
  ·rw[set_getD_other _ _ _ _ e,set_getD_other _ _ _ _ (by omega)];exact h.low j (by omega)
 ·rw[set_getD_other _ _ _ _ (by omega),set_getD_same _ _ _ (by omega)];omega
 ·rw[set_getD_other _ _ _ _ (by omega),set_getD_other _ _ _ _ (by omega)];exact h.high j (by omega)
 ·have h3:=rval_set B (o.set (k+1) (o.getD (k+1) 0+C)) k Mo (by simp;omega)
  rw[set_getD_other _ _ _ _ (by omega)]at h3
  have h4:=rval_set B o (k+1) (o.getD (k+1) 0+C) (by omega)
  have e1:B ^ (k+1)*C=B ^ k*(B*C):=by rw[Nat.pow_succ,Nat.mul_assoc]
  have e2:B ^ k*(B*C)+B ^ k*Mo=B ^ k*o.getD k 0:=by rw[← Nat.mul_add,hdm]
  have h2:=h.v
  rw[Nat.mul_add]at h4
  omega
theorem RNorm.done {B n:Nat}{o:List Nat}{m k:Nat}(h:RNorm B n o m k) (hB:1<B) (hk:k+1=n) (hm:m<B ^ k):dig B o∧val B o=m:=by
 refine ⟨dig_of_getD fun j hj=>?_,h.v⟩
 have hl:=h.len
 by_cases e:j=k
 ·subst e
  have h1:=val_split B o j
  rw[h.v]at h1
  have h2:=val_drop_step B o j
  rw[show o.drop (j+1) = []from List.drop_of_length_le (by omega)]at h2
  simp only[val_nil,Nat.mul_zero,Nat.add_zero]at h2
  rw[h2]at h1
  have h3:B ^ j*o.getD j 0<B ^ j:=by omega
  rcases Nat.eq_zero_or_pos (o.getD j 0)with h4|h4
  ·omega
  ·have:=Nat.le_mul_of_pos_right (B ^ j) h4
   omega
 ·exact h.low j (by omega)
theorem RMul.norm {B:Nat}{a b o:List Nat}(h:RMul B a b o a.length 0):RNorm B (a.length+b.length+1) o (val B a*val B b) 0:=
 ⟨h.len,fun j hj=>by omega,Nat.le_trans (h.all rfl 0) (by omega),fun j _=>h.all rfl j,by
  rw[h.v,val_take_all B a _ (Nat.le_refl _)];simp[val]⟩
theorem RMul.top {B:Nat}{a b:List Nat}(hB:0<B) (ha:dig B a) (hb:dig B b):val B a*val B b<B ^ (a.length+b.length):=by
 rw[Nat.pow_add]
 exact Nat.mul_lt_mul'' (val_lt hB ha) (val_lt hB hb)
def valI (B:Nat):List Int→Int
 | []=>0
 | d :: ds=>d+B*valI B ds
theorem valI_set (B:Nat) (o:List Int) (k:Nat) (d:Int) (h:k<o.length):valI B (o.set k d)+(B ^ k:Nat)*o.getD k 0=valI B o+(B ^ k:Nat)*d:=by
 induction o generalizing k with
 | nil=>simp at h
 | cons x o ih=>
   cases k with
   | zero=>simp[valI];omega
   | succ k=>
     have h1:=ih k (by simpa using h)
     have e:=congrArg ((B:Int) * ·) h1
     simp only[Int.mul_add]at e
     simp only[List.set_cons_succ,valI,List.getD_cons_succ,Nat.pow_succ,Int.natCast_mul]
     have e1:∀ y:Int,((B ^ k:Nat):Int)*B*y=B*((B ^ k:Nat)*y):=fun y=>by rw[Int.mul_comm ((B ^ k:Nat):Int) B,Int.mul_assoc]
     rw[e1,e1]
     omega
theorem valI_nat (B:Nat) (l:List Nat):valI B (l.map fun (d:Nat)=>(d:Int))=val B l:=by
 induction l with
 | nil=>rfl
 | cons d l ih=>simp only[List.map_cons,valI,val_cons,ih];simp
theorem isetD_same (o:List Int) (k:Nat) (d:Int) (h:k<o.length):(o.set k d).getD k 0=d:=by
 simp[List.getD_eq_getElem?_getD,h]
theorem isetD_other (o:List Int) (k j:Nat) (d:Int) (h:j≠k):(o.set k d).getD j 0=o.getD j 0:=by
 simp[List.getD_eq_getElem?_getD,List.getElem?_set_ne (Ne.symm h)]
structure RSub (B:Nat) (a b:List Nat) (o:List Int) (k:Nat):Prop where
 len:o.length=a.length
 low:∀ j,j<k→0≤o.getD j 0∧o.getD j 0<B
 here:o.getD k 0=a.getD k 0∨o.getD k 0=(a.getD k 0:Int) - 1
 high:∀ j,k<j→o.getD j 0=a.getD j 0
 v:valI B o=(val B a:Int) - (val B (b.take k):Nat)
theorem map_getD_int (a:List Nat) (j:Nat):(a.map fun (d:Nat)=>(d:Int)).getD j 0=(a.getD j 0:Nat):=by
 simp only[List.getD_eq_getElem?_getD,List.getElem?_map]
 cases a[j]?<;>rfl
theorem RSub.start (B:Nat) (a b:List Nat):RSub B a b (a.map fun (d:Nat)=>(d:Int)) 0:=
 ⟨by simp,fun j h=>by omega,.inl (map_getD_int a 0),fun j _=>map_getD_int a j,by rw[valI_nat];simp[val]⟩
theorem RSub.plain {B:Nat}{a b:List Nat}{o:List Int}{k:Nat}(h:RSub B a b o k) (ha:dig B a) (hB:0<B) (hk:k<a.length) (ht:0≤o.getD k 0 - (b.getD k 0:Nat)) :
 RSub B a b (o.set k (o.getD k 0 - (b.getD k 0:Nat))) (k+1):=by
 have hl:=h.len
 have b1:=dig_getD ha hB k
 refine ⟨by simp[hl],fun j hj=>?_,?_,fun j hj=>?_,?_⟩
 ·by_cases e:j=k
  ·subst e;rw[isetD_same _ _ _ (by omega)]
   refine ⟨ht,?_⟩
   rcases h.here with h1|h1<;>omega
  ·rw[isetD_other _ _ _ _ e];exact h.low j (by omega)
 ·rw[isetD_other _ _ _ _ (by omega)];exact .inl (h.high _ (by omega))
 ·rw[isetD_other _ _ _ _ (by omega)];exact h.high j (by omega)
 ·have h1:=valI_set B o k (o.getD k 0 - (b.getD k 0:Nat)) (by omega)
  have h2:=h.v
  rw[val_take_step,Int.natCast_add,Int.natCast_mul]
  rw[Int.mul_sub]at h1
  omega
theorem valI_low {B:Nat}(hB:0<B):∀ (o:List Int),(∀ j,j<o.length→0≤o.getD j 0∧o.getD j 0<B)→0≤valI B o∧valI B o<(B ^ o.length:Nat):=by
 intro o
 induction o with
 | nil=>intro _;simp[valI]
 | cons x o ih=>
   intro h
   obtain ⟨h1,h2⟩:=ih fun j hj=>by have:=h (j+1) (by simpa using hj);simpa using this
   have h0:=h 0 (by simp)
   simp only[List.getD_cons_zero]at h0
   simp only[valI,List.length_cons,Nat.pow_succ,Int.natCast_mul]
   have h3:(0:Int)≤B*valI B o:=Int.mul_nonneg (by omega) h1
   have h4:(B:Int)*(valI B o+1)≤B*(B ^ o.length:Nat):=Int.mul_le_mul_of_nonneg_left (by omega) (by omega)
   rw[Int.mul_add]at h4
   rw[Int.mul_comm _ (B:Int)]
   omega
theorem valI_snoc (B:Nat) (o:List Int) (d:Int):valI B (o ++ [d])=valI B o+(B ^ o.length:Nat)*d:=by
 induction o with
 | nil=>simp[valI]
 | cons x o ih=>
   simp only[List.cons_append,valI,ih,List.length_cons,Nat.pow_succ,Int.natCast_mul]
   rw[Int.mul_add,← Int.mul_assoc,Int.mul_comm (B:Int) ((B ^ o.length:Nat):Int)]
   omega
theorem RSub.back {B:Nat}{a b:List Nat}{o:List Int}{k:Nat}(h:RSub B a b o k) (hB:1<B) (ha:dig B a) (hb:dig B b) (hle:val B b≤val B a) (hbl:b.length≤a.length) (hk:k<a.length) (ht:o.getD k 0 - (b.getD k 0:Nat)<0) :
 k+1<a.length∧o.getD (k+1) 0=a.getD (k+1) 0∧RSub B a b ((o.set k (o.getD k 0 - (b.getD k 0:Nat)+B)).set (k+1) (a.getD (k+1) 0 - 1)) (k+1):=by
 have hl:=h.len
 have b1:=dig_getD ha (by omega) k
 have b2:=dig_getD hb (by omega) k
 have h1:=valI_set B o k (o.getD k 0 - (b.getD k 0:Nat)) (by omega)
 have h2:=h.v
 rw[Int.mul_sub]at h1
 have h6:valI B (o.set k (o.getD k 0 - (b.getD k 0:Nat)))=(val B a:Int) - (val B (b.take (k+1)):Nat):=by
  rw[val_take_step,Int.natCast_add,Int.natCast_mul]
  omega
 have hk1:k+1<a.length:=by
  rcases Nat.lt_or_ge (k+1) a.length with h5|h5
  ·exact h5
  ·exfalso
   have hke:k+1=a.length:=by omega
   rw[val_take_all B b (k+1) (by omega)]at h6
   have hsp:o.set k (o.getD k 0 - (b.getD k 0:Nat))=o.take k ++ [o.getD k 0 - (b.getD k 0:Nat)]:=by
    rw[List.set_eq_take_append_cons_drop,if_pos (by omega),List.drop_of_length_le (by omega)]
   have hlow:=valI_low (B:=B) (by omega) (o.take k) (fun j hj=>by
    have hj':j<k:=by rw[List.length_take]at hj;omega
    have:=h.low j hj'
    rwa [List.getD_eq_getElem?_getD,List.getElem?_take,if_pos hj',← List.getD_eq_getElem?_getD])
   rw[hsp,valI_snoc]at h6
   have hlt:(o.take k).length=k:=by rw[List.length_take];omega
   rw[hlt]at h6 hlow
   have h7:((B ^ k:Nat):Int)*(o.getD k 0 - (b.getD k 0:Nat))≤((B ^ k:Nat):Int)*(-1):=Int.mul_le_mul_of_nonneg_left (by omega) (by omega)
   omega
 refine ⟨hk1,h.high _ (by omega),by simp[hl],fun j hj=>?_,?_,fun j hj=>?_,?_⟩
 ·rw[isetD_other _ _ _ _ (by omega)]
  by_cases e:j=k
  ·subst e;rw[isetD_same _ _ _ (by omega)]
   rcases h.here with h5|h5<;>omega
  ·rw[isetD_other _ _ _ _ e];exact h.low j (by omega)
 ·rw[isetD_same _ _ _ (by simp;omega)];exact .inr rfl
 ·rw[isetD_other _ _ _ _ (by omega),isetD_other _ _ _ _ (by omega)];exact h.high j (by omega)
 ·have h3:=valI_set B (o.set k (o.getD k 0 - (b.getD k 0:Nat)+B)) (k+1) (a.getD (k+1) 0 - 1) (by simp;omega)
  rw[isetD_other _ _ _ _ (by omega),h.high (k+1) (by omega)]at h3
  have h4:=valI_set B o k (o.getD k 0 - (b.getD k 0:Nat)+B) (by omega)
  rw[val_take_step,Int.natCast_add,Int.natCast_mul]
  rw[Nat.pow_succ,Int.natCast_mul]at h3
  simp only[Int.mul_add,Int.mul_sub,Int.mul_one]at h3 h4
  omega
theorem RSub.done {B:Nat}{a b:List Nat}{o:List Int}(h:RSub B a b o a.length) (hle:val B b≤val B a) (hbl:b.length≤a.length) :
 ∃ l:List Nat,o=l.map (fun (d:Nat)=>(d:Int))∧dig B l∧val B l=val B a - val B b:=by
 have hl:=h.len
 have hg:∀ j,j<o.length→∃ d:Nat,o[j]?=some (d:Int)∧d<B:=fun j hj=>by
  have:=h.low j (by omega)
  rw[List.getD_eq_getElem?_getD,List.getElem?_eq_getElem hj,Option.getD_some]at this
  exact ⟨(o[j]).toNat,by rw[List.getElem?_eq_getElem hj];congr 1;omega,by omega⟩
 refine ⟨o.map Int.toNat,?_,?_,?_⟩
 ·apply List.ext_getElem?
  intro j
  simp only[List.map_map,List.getElem?_map]
  rcases Nat.lt_or_ge j o.length with hj|hj
  ·obtain ⟨d,h1,_⟩:=hg j hj
   rw[h1];simp
  ·rw[List.getElem?_eq_none hj];rfl
 ·intro d hd
  obtain ⟨x,hx,rfl⟩:=List.mem_map.1 hd
  obtain ⟨j,hj⟩:=List.getElem?_of_mem hx
  have hj':=(List.getElem?_eq_some_iff.1 hj).1
  obtain ⟨e,h1,h2⟩:=hg j hj'
  rw[hj]at h1
  injection h1 with h1
  subst h1
  simpa using h2
 ·have e:(o.map Int.toNat).map (fun (d:Nat)=>(d:Int))=o:=by
   apply List.ext_getElem?
   intro j
   simp only[List.map_map,List.getElem?_map]
   rcases Nat.lt_or_ge j o.length with hj|hj
   ·obtain ⟨d,h1,_⟩:=hg j hj
    rw[h1];simp
   ·rw[List.getElem?_eq_none hj];rfl
  have h1:=valI_nat B (o.map Int.toNat)
  rw[e,h.v,val_take_all B b _ hbl]at h1
  omega
structure RDiv (B b:Nat) (a q:List Nat) (i r:Nat):Prop where
 len:q.length=a.length
 dg:dig B q
 low:∀ j,j<i→q.getD j 0=0
 lt:r<b
 v:val B (a.drop i)=b*val B (q.drop i)+r
theorem RDiv.start {B b:Nat}(hB:0<B) (hb:0<b) (a:List Nat):RDiv B b a (List.replicate a.length 0) a.length 0:=
 ⟨by simp,dig_replicate hB _,fun j _=>rgetD_zeros _ j,hb,by
  rw[List.drop_of_length_le (Nat.le_refl _),List.drop_of_length_le (by simp)];simp[val]⟩
theorem RDiv.step {B b:Nat}{a q:List Nat}{i r:Nat}(h:RDiv B b a q (i+1) r) (hB:0<B) (ha:dig B a) (hi:i<a.length) :
 (a.getD i 0+B*r) / b<B∧RDiv B b a (q.set i ((a.getD i 0+B*r) / b)) i ((a.getD i 0+B*r) % b):=by
 have hl:=h.len
 have hb:0<b:=Nat.lt_of_le_of_lt (Nat.zero_le _) h.lt
 have b1:=dig_getD ha hB i
 have hr:=h.lt
 have hlt:(a.getD i 0+B*r) / b<B:=by
  rw[Nat.div_lt_iff_lt_mul hb]
  have:B*(r+1)≤B*b:=Nat.mul_le_mul_left _ hr
  rw[Nat.mul_add]at this
  omega
 refine ⟨hlt,by simp[hl],dig_set h.dg hlt _,fun j hj=>?_,Nat.mod_lt _ hb,?_⟩
 ·rw[set_getD_other _ _ _ _ (by omega)];exact h.low j (by omega)
 ·rw[val_drop_step B a i,h.v,val_drop_step B (q.set i _) i,set_getD_same _ _ _ (by omega)]
  have e:(q.set i ((a.getD i 0+B*r) / b)).drop (i+1)=q.drop (i+1):=by
   rw[List.drop_set];simp
  rw[e]
  have:=Nat.div_add_mod (a.getD i 0+B*r) b
  rw[Nat.mul_add,Nat.mul_add,Nat.mul_left_comm b B]
  omega
theorem RDiv.done {B b:Nat}{a q:List Nat}{r:Nat}(h:RDiv B b a q 0 r):val B q=val B a / b∧r=val B a % b:=by
 have hv:=h.v
 simp only[List.drop_zero]at hv
 have hb:0<b:=Nat.lt_of_le_of_lt (Nat.zero_le _) h.lt
 rw[hv]
 constructor
 ·rw[Nat.mul_add_div hb,Nat.div_eq_of_lt h.lt];rfl
 ·rw[Nat.mul_add_mod,Nat.mod_eq_of_lt h.lt]
def Half (b r low high:Nat):Prop:=low*b≤r∧r<high*b∧1≤low∧high≤10000
theorem Half.done {b r low high:Nat}(h:Half b r low high) (hb:0<b) (h1:¬ 1<high - low):low=r / b:=by
 obtain ⟨h2,h3,_,_⟩:=h
 have h4:=(Nat.le_div_iff_mul_le hb).2 h2
 have h5:=(Nat.div_lt_iff_lt_mul hb).2 h3
 omega
structure RGet (l:List UInt8) (m:Nat) (n:List Nat) (w d:Nat):Prop where
 le:m≤l.length
 ok:∀ c∈l.drop m,isDig c=true
 dg:dig 10000 n
 wd:w=1∨w=10∨w=100∨w=1000
 dw:d<w
 nl:n.length+m≤l.length
 v:val 10000 n+10000 ^ n.length*d=numOf 0 (l.drop m)
 p:m≠0→10000 ^ n.length*w=10 ^ (l.length - m)
theorem RGet.value {l:List UInt8}{m:Nat}{n:List Nat}{w d:Nat}(h:RGet l (m+1) n w d) {c:UInt8}(hc:l[m]?=some c) :
 l.drop m=c :: l.drop (m+1)∧numOf 0 (l.drop m)=val 10000 n+10000 ^ n.length*(d+(c.toNat - 48)*w):=by
 have hm:=(List.getElem?_eq_some_iff.1 hc).1
 have e:l.drop m=c :: l.drop (m+1):=by
  rw[List.drop_eq_getElem_cons hm]
  congr 1
  rw[List.getElem?_eq_getElem hm]at hc
  injection hc
 refine ⟨e,?_⟩
 rw[e,numOf_cons,numOf_acc,← h.v,List.length_drop,← h.p (by omega)]
 rw[Nat.zero_mul,Nat.zero_add,Nat.mul_add,Nat.mul_left_comm (10000 ^ n.length)]
 omega
theorem RGet.bound {l:List UInt8}{m:Nat}{n:List Nat}{w d:Nat}(h:RGet l (m+1) n w d) {c:UInt8}(hd:isDig c=true):d+(c.toNat - 48)*w<10*w:=by
 have h1:=isDig_iff.1 hd
 have h2:=h.dw
 have h3:(c.toNat - 48)*w≤9*w:=Nat.mul_le_mul_right _ (by omega)
 omega
theorem RGet.put {l:List UInt8}{m:Nat}{n:List Nat}{w d:Nat}(h:RGet l (m+1) n w d) {c:UInt8}(hc:l[m]?=some c) (hd:isDig c=true) (hw:w*10=10000∨m=0) :
 RGet l m (n ++ [d+(c.toNat - 48)*w]) 1 0:=by
 obtain ⟨e,hv⟩:=h.value hc
 have hb:=h.bound hd
 have hl:=h.le
 refine ⟨by omega,fun x hx=>?_,dig_append.2 ⟨h.dg,dig_cons.2 ⟨?_,dig_nil _⟩⟩,.inl rfl,by omega,by have:=h.nl;simp;omega,?_,fun hm=>?_⟩
 ·rw[e]at hx
  rcases List.mem_cons.1 hx with rfl|hx
  ·exact hd
  ·exact h.ok x hx
 ·rcases h.wd with h1|h1|h1|h1<;>omega
 ·rw[val_snoc,hv,Nat.mul_zero,Nat.add_zero]
 ·rw[List.length_append,show ([d+(c.toNat - 48)*w]:List Nat).length=1 from rfl,Nat.pow_add,Nat.pow_one,Nat.mul_one]
  have h1:=h.p (by omega)
  have h2:w*10=10000:=by rcases hw with h2|h2<;>omega
  rw[show l.length - m=l.length - (m+1)+1 by omega,Nat.pow_succ,← h1,Nat.mul_assoc,h2]
theorem pad_front (k r:Nat):pad (k+1) r=UInt8.ofNat (48+r / 10 ^ k % 10) :: pad k r:=by
 induction k generalizing r with
 | zero=>simp[pad]
 | succ k ih=>
   have e:pad (k+1+1) r=pad (k+1) (r / 10) ++ [UInt8.ofNat (48+r % 10)]:=rfl
   rw[e,ih (r / 10),Nat.div_div_eq_div_mul,Nat.pow_succ,Nat.mul_comm (10 ^ k) 10]
   rfl
def txt (l:List Nat):List UInt8:=l.foldl (fun s x=>pad 4 x ++ s) []
theorem txt_nil:txt [] = []:=rfl
theorem txt_snoc (l:List Nat) (x:Nat):txt (l ++ [x])=pad 4 x ++ txt l:=by unfold txt;rw[List.foldl_append];rfl
theorem txt_take (l:List Nat) (k:Nat) (h:k<l.length):txt (l.take (k+1))=pad 4 (l.getD k 0) ++ txt (l.take k):=by
 rw[take_snoc_getD l k h,txt_snoc]
theorem txt_length (l:List Nat):(txt l).length=4*l.length:=by
 rcases List.eq_nil_or_concat l with rfl|⟨m,d,rfl⟩
 ·rfl
 ·rw[List.concat_eq_append,txt_snoc,List.length_append,pad_length,txt_length m,List.length_append]
  simp;omega
termination_by l.length
decreasing_by all_goals simp_all
theorem dec_txt (m:List Nat) (hm:dig 10000 m) (D:Nat) (hD:0<D):Lib.decDigits (val 10000 m+10000 ^ m.length*D)=Lib.decDigits D ++ txt m:=by
 rcases List.eq_nil_or_concat m with rfl|⟨m,x,rfl⟩
 ·simp[val,txt_nil]
 ·rw[List.concat_eq_append]at hm ⊢
  obtain ⟨h1,h2⟩:=dig_append.1 hm
  have hx:=(dig_cons.1 h2).1
  rw[val_snoc,List.length_append,show ([x]:List Nat).length=1 from rfl,Nat.pow_add,Nat.pow_one,Nat.mul_assoc,Nat.add_assoc,← Nat.mul_add,dec_txt m h1 (x+10000*D) (by omega),txt_snoc]
  have:=dec_pad D 4 x hD (by omega)
  rw[show D*10 ^ 4+x=x+10000*D by omega]at this
  rw[this,List.append_assoc]
termination_by m.length
decreasing_by all_goals simp_all
theorem pad_top (k D:Nat) (hk:0<D / 10 ^ k) (h:D / 10 ^ (k+1)=0):pad (k+1) D=Lib.decDigits D:=by
 have hp:0<10 ^ (k+1):=Nat.pow_pos (by omega)
 have hlt:D<10 ^ (k+1):=by
  rcases Nat.lt_or_ge D (10 ^ (k+1))with h1|h1
  ·exact h1
  ·have:=Nat.div_pos h1 hp;omega
 have hge:10 ^ k≤D:=by
  rcases Nat.lt_or_ge D (10 ^ k)with h1|h1
  ·rw[Nat.div_eq_of_lt h1]at hk;omega
  ·exact h1
 have hl:k+1≤(Lib.decDigits D).length:=by
  have h1:=numOf_lt (Lib.decDigits D) (dec_isDig D)
  rw[numOf_dec]at h1
  have h2:=(Nat.pow_lt_pow_iff_right (by omega:1<10)).1 (Nat.lt_of_le_of_lt hge h1)
  omega
 rw[pad_dec k D hlt,show k+1 - (Lib.decDigits D).length=0 by omega]
 rfl
end Vic
end
